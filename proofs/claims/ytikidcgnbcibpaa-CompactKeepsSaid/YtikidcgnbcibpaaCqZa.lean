/- Whether any record of any batches stays, and where any key stands last, is told as the document says. No condition: for every input. -/
import Derived.Test.YtikidcgnbcibpaaRows
import Derived.WalkKit
import Derived.ProofKit
import Derived.OpenShut
import Derived.Test.YtikidcgnbcibpaaAvAD
import Derived.Test.YtikidcgnbcibpaaMCpY

set_option linter.unusedSimpArgs false
set_option linter.unusedVariables false
namespace Go.Proofs.Ytikidcgnbcibpaa.compactKeeps
open Go.ChangeShapes Go.WideShapes Go.ChangeAt Go.RowKit Go.Av Go.Cp

theorem own : ownKnob Try.prog.godebug = none := by kernel_rfl
theorem shapes : shapesOf Try.prog 9 Try.f3.params.toList = some [.sl (.st [.int .i64, .int .i64, .int .i64, .int .i64, .int .i64, .sl (.st [.int .i64, .int .i64, .bool, .str, .bool, .str])]), .st [.int .i64, .int .i64], .st [.int .i64, .int .i64]] := by kernel_rfl

theorem all (svs : List SV) (h : hasVs [.sl (.st [.int .i64, .int .i64, .int .i64, .int .i64, .int .i64, .sl (.st [.int .i64, .int .i64, .bool, .str, .bool, .str])]), .st [.int .i64, .int .i64], .st [.int .i64, .int .i64]] svs) : Pure Try.prog 3 svs (.sv (.bool true)) := by
  obtain ⟨v1, _, rfl, h1, v2, _, rfl, h2, v3, _, rfl, h3, rfl⟩ := h
  obtain ⟨l, w1⟩ := has_batsV h1
  obtain ⟨a0, a1, rfl⟩ := has_two h2
  obtain ⟨n0, g0, rfl⟩ := has_two h3
  have w2 := WkM.refl (.agg [.int .i64 a0, .int .i64 a1])
  have w3 := WkM.refl (.agg [.int .i64 n0, .int .i64 g0])
  refine pure_wkM (m := [.sl 6 (BtL l), .agg [.int .i64 a0, .int .i64 a1], .agg [.int .i64 n0, .int .i64 g0]]) rfl (fun j hj => ?_) (law_keeps awake_raw l a0 a1 n0 g0)
  match j, hj with
  | 0, _ => exact w1
  | 1, _ => exact w2
  | 2, _ => exact w3

set_option maxRecDepth 100000 in
theorem lifted (os : Os) (started : os.Started) (H : Type) (enc : TypeId × Value → H) :
    ReturnsInHanded {} Try.checked os 3 .any (Rows.compactKeepsSpec.pre6 enc Try.prog Try.f3 Rows.compactKeepsRow.domain false) (Rows.compactKeepsSpec.post enc Try.prog Try.f3 false true false false) := by
  refine returnsInHanded_of_change (C := Try.checked) own started (by kernel_rfl) Try.func3
    (ChangeSpec.witness6 (enc := enc) (C := Try.checked) false ⟨#[], #[.slice none 0 0, .agg #[.int .i64 0, .int .i64 0], .agg #[.int .i64 0, .int .i64 0]], []⟩ 8 (by kernel_rfl) (by kernel_rfl) (by kernel_rfl) (by kernel_rfl)) ?_
  intro W base args ds gs before hval hW hcnd _
  exact law_contract shapes all rfl (by kernel_rfl) (by kernel_rfl) (of_decide_eq_true (by kernel_rfl)) (fun ds h => by match ds, h with | [_, _, _], _ => rfl) rfl base args ds gs before hval hW

theorem over : Rows.compactKeepsRow.holds Try.pinned (OpenSpec.ofChange Rows.compactKeepsSpec) :=
  OpenClaim.holds_of_wide 3 Try.f3 rfl rfl rfl rfl rfl rfl rfl ⟨rfl, rfl, rfl, rfl, rfl⟩ rfl rfl rfl rfl rfl (by kernel_rfl) Try.func3 (by kernel_rfl)
    (of_decide_eq_true (by kernel_rfl)) (by unfold Func.isWrapper; first | (rw [if_pos (by decide +kernel)]; kernel_rfl) | (rw [if_neg (by decide +kernel)]; exact ⟨rfl, rfl⟩))
    (fun os started H enc _ => lifted os started H enc)

theorem proved : Rows.CompactKeepsSaid := over
#print axioms proved
end Go.Proofs.Ytikidcgnbcibpaa.compactKeeps
