/- Whatever is called of a group that may be, it may be; its generation never falls, and rises with each that comes or goes; who is synced is so in this generation alone. No condition: for every input. -/
import Derived.Test.YtmfkliabjfngmaaRows
import Derived.WalkKit
import Derived.ProofKit
import Derived.OpenShut
import Derived.Test.YtmfkliabjfngmaaAvAD
import Derived.Test.YtmfkliabjfngmaaMHgL
import Derived.Test.YtmfkliabjfngmaaHgS

set_option linter.unusedSimpArgs false
set_option linter.unusedVariables false
namespace Go.Proofs.Ytmfkliabjfngmaa.groupMay
open Go.ChangeShapes Go.WideShapes Go.ChangeAt Go.RowKit Go.Av

theorem own : ownKnob Try.prog.godebug = none := by kernel_rfl
theorem shapes : shapesOf Try.prog 9 Try.f7.params.toList = some [.sl (.st [.int .u8, .str, .int .i64, .int .i64, .int .i64])] := by kernel_rfl

theorem all (svs : List SV) (h : hasVs [.sl (.st [.int .u8, .str, .int .i64, .int .i64, .int .i64])] svs) : Pure Try.prog 7 svs (.sv (.bool true)) := by
  obtain ⟨v1, _, rfl, h1, rfl⟩ := h
  obtain ⟨l, hk, w1⟩ := has_acsV h1
  refine pure_wkM (m := [.sl 5 (AL l)]) rfl (fun j hj => ?_) (law_may l hk)
  match j, hj with
  | 0, _ => exact w1

set_option maxRecDepth 100000 in
theorem lifted (os : Os) (started : os.Started) (H : Type) (enc : TypeId × Value → H) :
    ReturnsInHanded {} Try.checked os 7 .any (Rows.groupMaySpec.pre6 enc Try.prog Try.f7 Rows.groupMayRow.domain false) (Rows.groupMaySpec.post enc Try.prog Try.f7 false true false false) := by
  refine returnsInHanded_of_change (C := Try.checked) own started (by kernel_rfl) Try.func7
    (ChangeSpec.witness6 (enc := enc) (C := Try.checked) false ⟨#[], #[.slice none 0 0], []⟩ 8 (by kernel_rfl) (by kernel_rfl) (by kernel_rfl) (by kernel_rfl)) ?_
  intro W base args ds gs before hval hW hcnd _
  exact law_contract shapes all rfl (by kernel_rfl) (by kernel_rfl) (of_decide_eq_true (by kernel_rfl)) (fun ds h => by match ds, h with | [_], _ => rfl) rfl base args ds gs before hval hW

theorem over : Rows.groupMayRow.holds Try.pinned (OpenSpec.ofChange Rows.groupMaySpec) :=
  OpenClaim.holds_of_wide 7 Try.f7 rfl rfl rfl rfl rfl rfl rfl ⟨rfl, rfl, rfl, rfl, rfl⟩ rfl rfl rfl rfl rfl (by kernel_rfl) Try.func7 (by kernel_rfl)
    (of_decide_eq_true (by kernel_rfl)) (by unfold Func.isWrapper; first | (rw [if_pos (by decide +kernel)]; kernel_rfl) | (rw [if_neg (by decide +kernel)]; exact ⟨rfl, rfl⟩))
    (fun os started H enc _ => lifted os started H enc)

theorem proved : Rows.GroupMaySaid := over
#print axioms proved
end Go.Proofs.Ytmfkliabjfngmaa.groupMay
