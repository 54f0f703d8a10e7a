/- Any bytes begin with the number that the document says, or with none; what all of them tell is told as it says. No condition: for every input. -/
import Derived.Test.YtabidcdfmkkegaaRows
import Derived.WalkKit
import Derived.ProofKit
import Derived.OpenShut
import Derived.Test.YtabidcdfmkkegaaAvAD
import Derived.Test.YtabidcdfmkkegaaBvZq
set_option linter.unusedVariables false
namespace Go.Proofs.Ytabidcdfmkkegaa.varnumGets
open Go.ChangeShapes Go.WideShapes Go.ChangeAt Go.RowKit Go.Av

theorem own : ownKnob Try.prog.godebug = none := by kernel_rfl
theorem shapes : shapesOf Try.prog 9 Try.f5.params.toList = some [.sl (.int .u8)] := by kernel_rfl

theorem all (svs : List SV) (h : hasVs [.sl (.int .u8)] svs) : Pure Try.prog 5 svs (.sv (.bool true)) := by
  simp [hasVs, Sh.hasV, Sh.has, Sh.size] at h
  obtain ⟨_, rfl, rfl | ⟨xs, rfl, hl, hx⟩⟩ := h
  · exact pure_of_nils (gets_pure [] (fun c h => by simp at h))
  · obtain ⟨l, rfl, hb⟩ := has_bytes (xs := xs) (fun x hx' => by simpa [Sh.has, SV.cells] using hx x hx')
    exact gets_pure l hb

set_option maxRecDepth 100000 in
theorem lifted (os : Os) (started : os.Started) (H : Type) (enc : TypeId × Value → H) :
    ReturnsInHanded {} Try.checked os 5 .any (Rows.varnumGetsSpec.pre6 enc Try.prog Try.f5 Rows.varnumGetsRow.domain false) (Rows.varnumGetsSpec.post enc Try.prog Try.f5 false true false false) := by
  refine returnsInHanded_of_change (C := Try.checked) own started (by kernel_rfl) Try.func5
    (ChangeSpec.witness6 (enc := enc) (C := Try.checked) false ⟨#[], #[.slice none 0 0], []⟩ 8 (by kernel_rfl) (by kernel_rfl) (by kernel_rfl) (by kernel_rfl)) ?_
  intro W base args ds gs before hval hW hcnd _
  exact law_contract shapes all rfl (by kernel_rfl) (by kernel_rfl) (of_decide_eq_true (by kernel_rfl)) (fun ds h => by match ds, h with | [_], _ => rfl) rfl base args ds gs before hval hW

theorem over : Rows.varnumGetsRow.holds Try.pinned (OpenSpec.ofChange Rows.varnumGetsSpec) :=
  OpenClaim.holds_of_wide 5 Try.f5 rfl rfl rfl rfl rfl rfl rfl ⟨rfl, rfl, rfl, rfl, rfl⟩ rfl rfl rfl rfl rfl (by kernel_rfl) Try.func5 (by kernel_rfl)
    (of_decide_eq_true (by kernel_rfl)) (by unfold Func.isWrapper; first | (rw [if_pos (by decide +kernel)]; kernel_rfl) | (rw [if_neg (by decide +kernel)]; exact ⟨rfl, rfl⟩))
    (fun os started H enc _ => lifted os started H enc)

theorem proved : Rows.VarnumGetsSaid := over
#print axioms proved
end Go.Proofs.Ytabidcdfmkkegaa.varnumGets
