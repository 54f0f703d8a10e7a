/- Fetched one after the other, all records of a segment that may be come, each once, in order. No condition: for every input. -/
import Derived.Test.YtflcdbfcipkhkaaRows
import Derived.WalkKit
import Derived.ProofKit
import Derived.OpenShut
import Derived.Test.YtflcdbfcipkhkaaAvAD
import Derived.Test.YtflcdbfcipkhkaaMDbL
import Derived.Test.YtflcdbfcipkhkaaMDkH

set_option linter.unusedVariables false
namespace Go.Proofs.Ytflcdbfcipkhkaa.segmentAll
open Go.ChangeShapes Go.WideShapes Go.ChangeAt Go.RowKit Go.Av

theorem own : ownKnob Try.prog.godebug = none := by kernel_rfl
theorem shapes : shapesOf Try.prog 9 Try.f12.params.toList = some [.st [.int .i64, .sl (.st [.int .i64, .int .i64, .int .i64, .int .i64, .int .i64, .sl (.st [.int .i64, .int .i64, .bool, .str, .bool, .str])])]] := by kernel_rfl

theorem all (svs : List SV) (h : hasVs [.st [.int .i64, .sl (.st [.int .i64, .int .i64, .int .i64, .int .i64, .int .i64, .sl (.st [.int .i64, .int .i64, .bool, .str, .bool, .str])])]] svs) : Pure Try.prog 12 svs (.sv (.bool true)) := by
  obtain ⟨v1, _, rfl, h1, rfl⟩ := h
  obtain ⟨s, _, hs, w1⟩ := has_seg h1
  refine pure_wkM (m := [s.sv]) rfl (fun j hj => ?_) (law_sall s hs)
  match j, hj with
  | 0, _ => exact w1

set_option maxRecDepth 100000 in
theorem lifted (os : Os) (started : os.Started) (H : Type) (enc : TypeId × Value → H) :
    ReturnsInHanded {} Try.checked os 12 .any (Rows.segmentAllSpec.pre6 enc Try.prog Try.f12 Rows.segmentAllRow.domain false) (Rows.segmentAllSpec.post enc Try.prog Try.f12 false true false false) := by
  refine returnsInHanded_of_change (C := Try.checked) own started (by kernel_rfl) Try.func12
    (ChangeSpec.witness6 (enc := enc) (C := Try.checked) false ⟨#[], #[.agg #[.int .i64 0, .slice none 0 0]], []⟩ 8 (by kernel_rfl) (by kernel_rfl) (by kernel_rfl) (by kernel_rfl)) ?_
  intro W base args ds gs before hval hW hcnd _
  exact law_contract shapes all rfl (by kernel_rfl) (by kernel_rfl) (of_decide_eq_true (by kernel_rfl)) (fun ds h => by match ds, h with | [_], _ => rfl) rfl base args ds gs before hval hW

theorem over : Rows.segmentAllRow.holds Try.pinned (OpenSpec.ofChange Rows.segmentAllSpec) :=
  OpenClaim.holds_of_wide 12 Try.f12 rfl rfl rfl rfl rfl rfl rfl ⟨rfl, rfl, rfl, rfl, rfl⟩ rfl rfl rfl rfl rfl (by kernel_rfl) Try.func12 (by kernel_rfl)
    (of_decide_eq_true (by kernel_rfl)) (by unfold Func.isWrapper; first | (rw [if_pos (by decide +kernel)]; kernel_rfl) | (rw [if_neg (by decide +kernel)]; exact ⟨rfl, rfl⟩))
    (fun os started H enc _ => lifted os started H enc)

theorem proved : Rows.SegmentAllSaid := over
#print axioms proved
end Go.Proofs.Ytflcdbfcipkhkaa.segmentAll
