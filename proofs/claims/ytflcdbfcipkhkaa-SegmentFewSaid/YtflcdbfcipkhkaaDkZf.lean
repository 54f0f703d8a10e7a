/- What is fetched with fewer batches is the beginning of what is with more. No condition: for every input. -/
import Derived.Test.YtflcdbfcipkhkaaRows
import Derived.WalkKit
import Derived.ProofKit
import Derived.OpenShut
import Derived.Test.YtflcdbfcipkhkaaAvAD
import Derived.Test.YtflcdbfcipkhkaaMDbL
import Derived.Test.YtflcdbfcipkhkaaMDkH

set_option linter.unusedVariables false
namespace Go.Proofs.Ytflcdbfcipkhkaa.segmentFew
open Go.ChangeShapes Go.WideShapes Go.ChangeAt Go.RowKit Go.Av

theorem own : ownKnob Try.prog.godebug = none := by kernel_rfl
theorem shapes : shapesOf Try.prog 9 Try.f14.params.toList = some [.st [.int .i64, .sl (.st [.int .i64, .int .i64, .int .i64, .int .i64, .int .i64, .sl (.st [.int .i64, .int .i64, .bool, .str, .bool, .str])])], .int .i64, .int .u8] := by kernel_rfl

theorem all (svs : List SV) (h : hasVs [.st [.int .i64, .sl (.st [.int .i64, .int .i64, .int .i64, .int .i64, .int .i64, .sl (.st [.int .i64, .int .i64, .bool, .str, .bool, .str])])], .int .i64, .int .u8] svs) : Pure Try.prog 14 svs (.sv (.bool true)) := by
  obtain ⟨v1, _, rfl, h1, v2, _, rfl, h2, v3, _, rfl, h3, rfl⟩ := h
  obtain ⟨s, _, hs, w1⟩ := has_seg h1
  obtain ⟨a, rfl, ha⟩ := has_i64 h2
  obtain ⟨n, rfl, hn0, hn1⟩ := has_u8 h3
  have w2 := WkM.refl (.int .i64 a)
  have w3 := WkM.refl (.int .u8 n)
  refine pure_wkM (m := [s.sv, .int .i64 a, .int .u8 n]) rfl (fun j hj => ?_) (law_sfew s a n hn0 hn1 hs)
  match j, hj with
  | 0, _ => exact w1
  | 1, _ => exact w2
  | 2, _ => exact w3

set_option maxRecDepth 100000 in
theorem lifted (os : Os) (started : os.Started) (H : Type) (enc : TypeId × Value → H) :
    ReturnsInHanded {} Try.checked os 14 .any (Rows.segmentFewSpec.pre6 enc Try.prog Try.f14 Rows.segmentFewRow.domain false) (Rows.segmentFewSpec.post enc Try.prog Try.f14 false true false false) := by
  refine returnsInHanded_of_change (C := Try.checked) own started (by kernel_rfl) Try.func14
    (ChangeSpec.witness6 (enc := enc) (C := Try.checked) false ⟨#[], #[.agg #[.int .i64 0, .slice none 0 0], .int .i64 0, .int .u8 0], []⟩ 8 (by kernel_rfl) (by kernel_rfl) (by kernel_rfl) (by kernel_rfl)) ?_
  intro W base args ds gs before hval hW hcnd _
  exact law_contract shapes all rfl (by kernel_rfl) (by kernel_rfl) (of_decide_eq_true (by kernel_rfl)) (fun ds h => by match ds, h with | [_, _, _], _ => rfl) rfl base args ds gs before hval hW

theorem over : Rows.segmentFewRow.holds Try.pinned (OpenSpec.ofChange Rows.segmentFewSpec) :=
  OpenClaim.holds_of_wide 14 Try.f14 rfl rfl rfl rfl rfl rfl rfl ⟨rfl, rfl, rfl, rfl, rfl⟩ rfl rfl rfl rfl rfl (by kernel_rfl) Try.func14 (by kernel_rfl)
    (of_decide_eq_true (by kernel_rfl)) (by unfold Func.isWrapper; first | (rw [if_pos (by decide +kernel)]; kernel_rfl) | (rw [if_neg (by decide +kernel)]; exact ⟨rfl, rfl⟩))
    (fun os started H enc _ => lifted os started H enc)

theorem proved : Rows.SegmentFewSaid := over
#print axioms proved
end Go.Proofs.Ytflcdbfcipkhkaa.segmentFew
