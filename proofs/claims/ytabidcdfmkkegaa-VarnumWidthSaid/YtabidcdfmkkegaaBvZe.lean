/- A number is read from its bytes of a width that has room for it, and is its lowest bytes in a lesser one. No condition: for every input. -/
import Derived.Test.YtabidcdfmkkegaaRows
import Derived.WalkKit
import Derived.ProofKit
import Derived.OpenShut
import Derived.Test.YtabidcdfmkkegaaAvAD
import Derived.Test.YtabidcdfmkkegaaBvZr
set_option linter.unusedVariables false
namespace Go.Proofs.Ytabidcdfmkkegaa.varnumWidth
open Go.ChangeShapes Go.WideShapes Go.ChangeAt Go.RowKit Go.Av

theorem own : ownKnob Try.prog.godebug = none := by kernel_rfl
theorem shapes : shapesOf Try.prog 9 Try.f7.params.toList = some [.int .u64, .int .u8] := by kernel_rfl

theorem all (svs : List SV) (h : hasVs [.int .u64, .int .u8] svs) : Pure Try.prog 7 svs (.sv (.bool true)) := by
  simp [hasVs, Sh.hasV, Sh.has] at h
  obtain ⟨_, _, rfl, ⟨u, rfl, hu⟩, _, rfl, w, rfl, hw⟩ := h
  exact width_pure u w (wfu64 hu) (wfu8 hw)

set_option maxRecDepth 100000 in
theorem lifted (os : Os) (started : os.Started) (H : Type) (enc : TypeId × Value → H) :
    ReturnsInHanded {} Try.checked os 7 .any (Rows.varnumWidthSpec.pre6 enc Try.prog Try.f7 Rows.varnumWidthRow.domain false) (Rows.varnumWidthSpec.post enc Try.prog Try.f7 false true false false) := by
  refine returnsInHanded_of_change (C := Try.checked) own started (by kernel_rfl) Try.func7
    (ChangeSpec.witness6 (enc := enc) (C := Try.checked) false ⟨#[], #[.int .u64 0, .int .u8 0], []⟩ 8 (by kernel_rfl) (by kernel_rfl) (by kernel_rfl) (by kernel_rfl)) ?_
  intro W base args ds gs before hval hW hcnd _
  exact law_contract shapes all rfl (by kernel_rfl) (by kernel_rfl) (of_decide_eq_true (by kernel_rfl)) (fun ds h => by match ds, h with | [_, _], _ => rfl) rfl base args ds gs before hval hW

theorem over : Rows.varnumWidthRow.holds Try.pinned (OpenSpec.ofChange Rows.varnumWidthSpec) :=
  OpenClaim.holds_of_wide 7 Try.f7 rfl rfl rfl rfl rfl rfl rfl ⟨rfl, rfl, rfl, rfl, rfl⟩ rfl rfl rfl rfl rfl (by kernel_rfl) Try.func7 (by kernel_rfl)
    (of_decide_eq_true (by kernel_rfl)) (by unfold Func.isWrapper; first | (rw [if_pos (by decide +kernel)]; kernel_rfl) | (rw [if_neg (by decide +kernel)]; exact ⟨rfl, rfl⟩))
    (fun os started H enc _ => lifted os started H enc)

theorem proved : Rows.VarnumWidthSaid := over
#print axioms proved
end Go.Proofs.Ytabidcdfmkkegaa.varnumWidth
