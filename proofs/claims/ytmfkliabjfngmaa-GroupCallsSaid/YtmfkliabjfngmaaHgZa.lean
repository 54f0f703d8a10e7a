/- Any call of any group makes what the answer says, or it is told why not; the group stays as it is. No condition: for every input. -/
import Derived.Test.YtmfkliabjfngmaaRows
import Derived.WalkKit
import Derived.ProofKit
import Derived.OpenShut
import Derived.Test.YtmfkliabjfngmaaAvAD
import Derived.Test.YtmfkliabjfngmaaMHgL
import Derived.Test.YtmfkliabjfngmaaMGgT

set_option linter.unusedSimpArgs false
set_option linter.unusedVariables false
namespace Go.Proofs.Ytmfkliabjfngmaa.groupCalls
open Go.ChangeShapes Go.WideShapes Go.ChangeAt Go.RowKit Go.Av

theorem own : ownKnob Try.prog.godebug = none := by kernel_rfl
theorem shapes : shapesOf Try.prog 9 Try.f6.params.toList = some [.st [.int .i64, .int .u8, .sl (.st [.str, .int .i64, .bool])], .st [.int .u8, .str, .int .i64, .int .i64, .int .i64]] := by kernel_rfl

theorem all (svs : List SV) (h : hasVs [.st [.int .i64, .int .u8, .sl (.st [.str, .int .i64, .bool])], .st [.int .u8, .str, .int .i64, .int .i64, .int .i64]] svs) : Pure Try.prog 6 svs (.sv (.bool true)) := by
  obtain ⟨v1, _, rfl, h1, v2, _, rfl, h2, rfl⟩ := h
  obtain ⟨g, hg, hph, w1⟩ := has_grp h1
  obtain ⟨a, hk, rfl⟩ := has_ac h2
  have w2 := WkM.refl a.sv
  refine pure_wkM (m := [g.sv, a.sv]) rfl (fun j hj => ?_) (law_calls g a hph hk)
  match j, hj with
  | 0, _ => exact w1
  | 1, _ => exact w2

set_option maxRecDepth 100000 in
theorem lifted (os : Os) (started : os.Started) (H : Type) (enc : TypeId × Value → H) :
    ReturnsInHanded {} Try.checked os 6 .any (Rows.groupCallsSpec.pre6 enc Try.prog Try.f6 Rows.groupCallsRow.domain false) (Rows.groupCallsSpec.post enc Try.prog Try.f6 false true false false) := by
  refine returnsInHanded_of_change (C := Try.checked) own started (by kernel_rfl) Try.func6
    (ChangeSpec.witness6 (enc := enc) (C := Try.checked) false ⟨#[], #[.agg #[.int .i64 0, .int .u8 0, .slice none 0 0], .agg #[.int .u8 0, .string ByteArray.empty, .int .i64 0, .int .i64 0, .int .i64 0]], []⟩ 8 (by kernel_rfl) (by kernel_rfl) (by kernel_rfl) (by kernel_rfl)) ?_
  intro W base args ds gs before hval hW hcnd _
  exact law_contract shapes all rfl (by kernel_rfl) (by kernel_rfl) (of_decide_eq_true (by kernel_rfl)) (fun ds h => by match ds, h with | [_, _], _ => rfl) rfl base args ds gs before hval hW

theorem over : Rows.groupCallsRow.holds Try.pinned (OpenSpec.ofChange Rows.groupCallsSpec) :=
  OpenClaim.holds_of_wide 6 Try.f6 rfl rfl rfl rfl rfl rfl rfl ⟨rfl, rfl, rfl, rfl, rfl⟩ rfl rfl rfl rfl rfl (by kernel_rfl) Try.func6 (by kernel_rfl)
    (of_decide_eq_true (by kernel_rfl)) (by unfold Func.isWrapper; first | (rw [if_pos (by decide +kernel)]; kernel_rfl) | (rw [if_neg (by decide +kernel)]; exact ⟨rfl, rfl⟩))
    (fun os started H enc _ => lifted os started H enc)

theorem proved : Rows.GroupCallsSaid := over
#print axioms proved
end Go.Proofs.Ytmfkliabjfngmaa.groupCalls
