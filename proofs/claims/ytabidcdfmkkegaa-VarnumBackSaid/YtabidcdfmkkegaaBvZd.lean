/- A number that is put is got as it was, whatever stands behind; one byte fewer is too few; its sign comes off and on again. No condition: for every input. -/
import Derived.Test.YtabidcdfmkkegaaRows
import Derived.WalkKit
import Derived.ProofKit
import Derived.OpenShut
import Derived.Test.YtabidcdfmkkegaaAvAD
import Derived.Test.YtabidcdfmkkegaaBvZr
set_option linter.unusedVariables false
namespace Go.Proofs.Ytabidcdfmkkegaa.varnumBack
open Go.ChangeShapes Go.WideShapes Go.ChangeAt Go.RowKit Go.Av

theorem own : ownKnob Try.prog.godebug = none := by kernel_rfl
theorem shapes : shapesOf Try.prog 9 Try.f6.params.toList = some [.int .i64, .sl (.int .u8)] := by kernel_rfl

theorem all (svs : List SV) (h : hasVs [.int .i64, .sl (.int .u8)] svs) : Pure Try.prog 6 svs (.sv (.bool true)) := by
  simp [hasVs, Sh.hasV, Sh.has, Sh.size] at h
  obtain ⟨_, _, rfl, ⟨n, rfl, hn⟩, _, rfl, rfl | ⟨xs, rfl, hl, hx⟩⟩ := h
  · exact pure_of_nils2 (back_pure n [] (wf64 hn) (fun c h => by simp at h))
  · obtain ⟨l, rfl, hb⟩ := has_bytes (xs := xs) (fun x hx' => by simpa [Sh.has, SV.cells] using hx x hx')
    exact back_pure n l (wf64 hn) hb

set_option maxRecDepth 100000 in
theorem lifted (os : Os) (started : os.Started) (H : Type) (enc : TypeId × Value → H) :
    ReturnsInHanded {} Try.checked os 6 .any (Rows.varnumBackSpec.pre6 enc Try.prog Try.f6 Rows.varnumBackRow.domain false) (Rows.varnumBackSpec.post enc Try.prog Try.f6 false true false false) := by
  refine returnsInHanded_of_change (C := Try.checked) own started (by kernel_rfl) Try.func6
    (ChangeSpec.witness6 (enc := enc) (C := Try.checked) false ⟨#[], #[.int .i64 0, .slice none 0 0], []⟩ 8 (by kernel_rfl) (by kernel_rfl) (by kernel_rfl) (by kernel_rfl)) ?_
  intro W base args ds gs before hval hW hcnd _
  exact law_contract shapes all rfl (by kernel_rfl) (by kernel_rfl) (of_decide_eq_true (by kernel_rfl)) (fun ds h => by match ds, h with | [_, _], _ => rfl) rfl base args ds gs before hval hW

theorem over : Rows.varnumBackRow.holds Try.pinned (OpenSpec.ofChange Rows.varnumBackSpec) :=
  OpenClaim.holds_of_wide 6 Try.f6 rfl rfl rfl rfl rfl rfl rfl ⟨rfl, rfl, rfl, rfl, rfl⟩ rfl rfl rfl rfl rfl (by kernel_rfl) Try.func6 (by kernel_rfl)
    (of_decide_eq_true (by kernel_rfl)) (by unfold Func.isWrapper; first | (rw [if_pos (by decide +kernel)]; kernel_rfl) | (rw [if_neg (by decide +kernel)]; exact ⟨rfl, rfl⟩))
    (fun os started H enc _ => lifted os started H enc)

theorem proved : Rows.VarnumBackSaid := over
#print axioms proved
end Go.Proofs.Ytabidcdfmkkegaa.varnumBack
