/- Any bytes begin with the record that the document says, and as many are left, or it is told why not. No condition: for every input. -/
import Derived.Test.YtabidcdfmkkegaaRows
import Derived.WalkKit
import Derived.ProofKit
import Derived.OpenShut
import Derived.Test.YtabidcdfmkkegaaAvAD
import Derived.Test.YtabidcdfmkkegaaRgD

set_option linter.unusedVariables false
namespace Go.Proofs.Ytabidcdfmkkegaa.recordGets
open Go.ChangeShapes Go.WideShapes Go.ChangeAt Go.RowKit Go.Av

theorem own : ownKnob Try.prog.godebug = none := by kernel_rfl
theorem shapes : shapesOf Try.prog 9 Try.f11.params.toList = some [.sl (.int .u8)] := by kernel_rfl

theorem all (svs : List SV) (h : hasVs [.sl (.int .u8)] svs) : Pure Try.prog 11 svs (.sv (.bool true)) := by
  obtain ⟨_, _, rfl, h1, rfl⟩ := h
  simp only [Sh.hasV, Sh.has, Sh.size, List.cons.injEq, and_true] at h1
  rcases h1 with rfl | ⟨xs, rfl, hl, hx⟩
  · exact pure_of_nils (law_gets [] (fun c h => by simp at h))
  · obtain ⟨l, rfl, hb⟩ := has_bytes (xs := xs) hx
    exact law_gets l hb

set_option maxRecDepth 100000 in
theorem lifted (os : Os) (started : os.Started) (H : Type) (enc : TypeId × Value → H) :
    ReturnsInHanded {} Try.checked os 11 .any (Rows.recordGetsSpec.pre6 enc Try.prog Try.f11 Rows.recordGetsRow.domain false) (Rows.recordGetsSpec.post enc Try.prog Try.f11 false true false false) := by
  refine returnsInHanded_of_change (C := Try.checked) own started (by kernel_rfl) Try.func11
    (ChangeSpec.witness6 (enc := enc) (C := Try.checked) false ⟨#[], #[.slice none 0 0], []⟩ 8 (by kernel_rfl) (by kernel_rfl) (by kernel_rfl) (by kernel_rfl)) ?_
  intro W base args ds gs before hval hW hcnd _
  exact law_contract shapes all rfl (by kernel_rfl) (by kernel_rfl) (of_decide_eq_true (by kernel_rfl)) (fun ds h => by match ds, h with | [_], _ => rfl) rfl base args ds gs before hval hW

theorem over : Rows.recordGetsRow.holds Try.pinned (OpenSpec.ofChange Rows.recordGetsSpec) :=
  OpenClaim.holds_of_wide 11 Try.f11 rfl rfl rfl rfl rfl rfl rfl ⟨rfl, rfl, rfl, rfl, rfl⟩ rfl rfl rfl rfl rfl (by kernel_rfl) Try.func11 (by kernel_rfl)
    (of_decide_eq_true (by kernel_rfl)) (by unfold Func.isWrapper; first | (rw [if_pos (by decide +kernel)]; kernel_rfl) | (rw [if_neg (by decide +kernel)]; exact ⟨rfl, rfl⟩))
    (fun os started H enc _ => lifted os started H enc)

theorem proved : Rows.RecordGetsSaid := over
#print axioms proved
end Go.Proofs.Ytabidcdfmkkegaa.recordGets
