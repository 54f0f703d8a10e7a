/- A record that may be is got as it was, and what stands behind it is left; without its last byte it is none. No condition: for every input. -/
import Derived.Test.YtabidcdfmkkegaaRows
import Derived.WalkKit
import Derived.ProofKit
import Derived.OpenShut
import Derived.Test.YtabidcdfmkkegaaAvAD
import Derived.Test.YtabidcdfmkkegaaRcI
set_option linter.unusedVariables false
namespace Go.Proofs.Ytabidcdfmkkegaa.recordBack
open Go.ChangeShapes Go.WideShapes Go.ChangeAt Go.RowKit Go.Av

theorem own : ownKnob Try.prog.godebug = none := by kernel_rfl
theorem shapes : shapesOf Try.prog 9 Try.f12.params.toList = some [.st [.int .i64, .int .i64, .bool, .str, .bool, .str], .sl (.int .u8)] := by kernel_rfl

theorem all (svs : List SV) (h : hasVs [.st [.int .i64, .int .i64, .bool, .str, .bool, .str], .sl (.int .u8)] svs) : Pure Try.prog 12 svs (.sv (.bool true)) := by
  obtain ⟨_, _, rfl, h1, _, _, rfl, h2, rfl⟩ := h
  obtain ⟨r, rfl, _⟩ := has_rec h1
  simp only [Sh.hasV, Sh.has, Sh.size, List.cons.injEq, and_true] at h2
  rcases h2 with rfl | ⟨xs, rfl, hl, hx⟩
  · exact pure_of_nils2 (law_back r [] (fun c h => by simp at h))
  · obtain ⟨l, rfl, hb⟩ := has_bytes (xs := xs) hx
    exact law_back r l hb

set_option maxRecDepth 100000 in
theorem lifted (os : Os) (started : os.Started) (H : Type) (enc : TypeId × Value → H) :
    ReturnsInHanded {} Try.checked os 12 .any (Rows.recordBackSpec.pre6 enc Try.prog Try.f12 Rows.recordBackRow.domain false) (Rows.recordBackSpec.post enc Try.prog Try.f12 false true false false) := by
  refine returnsInHanded_of_change (C := Try.checked) own started (by kernel_rfl) Try.func12
    (ChangeSpec.witness6 (enc := enc) (C := Try.checked) false ⟨#[], #[.agg #[.int .i64 0, .int .i64 0, .bool false, .string ByteArray.empty, .bool false, .string ByteArray.empty], .slice none 0 0], []⟩ 8 (by kernel_rfl) (by kernel_rfl) (by kernel_rfl) (by kernel_rfl)) ?_
  intro W base args ds gs before hval hW hcnd _
  exact law_contract shapes all rfl (by kernel_rfl) (by kernel_rfl) (of_decide_eq_true (by kernel_rfl)) (fun ds h => by match ds, h with | [_, _], _ => rfl) rfl base args ds gs before hval hW

theorem over : Rows.recordBackRow.holds Try.pinned (OpenSpec.ofChange Rows.recordBackSpec) :=
  OpenClaim.holds_of_wide 12 Try.f12 rfl rfl rfl rfl rfl rfl rfl ⟨rfl, rfl, rfl, rfl, rfl⟩ rfl rfl rfl rfl rfl (by kernel_rfl) Try.func12 (by kernel_rfl)
    (of_decide_eq_true (by kernel_rfl)) (by unfold Func.isWrapper; first | (rw [if_pos (by decide +kernel)]; kernel_rfl) | (rw [if_neg (by decide +kernel)]; exact ⟨rfl, rfl⟩))
    (fun os started H enc _ => lifted os started H enc)

theorem proved : Rows.RecordBackSaid := over
#print axioms proved
end Go.Proofs.Ytabidcdfmkkegaa.recordBack
