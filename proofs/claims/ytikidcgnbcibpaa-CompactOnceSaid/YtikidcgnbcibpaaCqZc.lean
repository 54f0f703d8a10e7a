/- Of batches that rise no key stands twice in what stays; each key whose last record is not dead stands; cleaned again at the same time nothing changes, where nothing is dead. No condition: for every input. -/
import Derived.Test.YtikidcgnbcibpaaRows
import Derived.WalkKit
import Derived.ProofKit
import Derived.OpenShut
import Derived.Test.YtikidcgnbcibpaaAvAD
import Derived.Test.YtikidcgnbcibpaaMCpY
import Derived.Test.YtikidcgnbcibpaaMCqM

set_option linter.unusedSimpArgs false
set_option linter.unusedVariables false
namespace Go.Proofs.Ytikidcgnbcibpaa.compactOnce
open Go.ChangeShapes Go.WideShapes Go.ChangeAt Go.RowKit Go.Av Go.Cp

theorem own : ownKnob Try.prog.godebug = none := by kernel_rfl
theorem shapes : shapesOf Try.prog 9 Try.f5.params.toList = some [.sl (.st [.int .i64, .int .i64, .int .i64, .int .i64, .int .i64, .sl (.st [.int .i64, .int .i64, .bool, .str, .bool, .str])]), .int .i64, .int .i64] := by kernel_rfl

theorem all (svs : List SV) (h : hasVs [.sl (.st [.int .i64, .int .i64, .int .i64, .int .i64, .int .i64, .sl (.st [.int .i64, .int .i64, .bool, .str, .bool, .str])]), .int .i64, .int .i64] svs) : Pure Try.prog 5 svs (.sv (.bool true)) := by
  obtain ⟨v1, _, rfl, h1, v2, _, rfl, h2, v3, _, rfl, h3, rfl⟩ := h
  obtain ⟨l, hok, w1⟩ := has_batsV2 h1
  obtain ⟨now, rfl⟩ := has_int h2
  obtain ⟨grace, rfl⟩ := has_int h3
  have w2 := WkM.refl (.int .i64 now)
  have w3 := WkM.refl (.int .i64 grace)
  refine pure_wkM (m := [.sl 6 (BtL l), .int .i64 now, .int .i64 grace]) rfl (fun j hj => ?_) (law_once l hok now grace)
  match j, hj with
  | 0, _ => exact w1
  | 1, _ => exact w2
  | 2, _ => exact w3

set_option maxRecDepth 100000 in
theorem lifted (os : Os) (started : os.Started) (H : Type) (enc : TypeId × Value → H) :
    ReturnsInHanded {} Try.checked os 5 .any (Rows.compactOnceSpec.pre6 enc Try.prog Try.f5 Rows.compactOnceRow.domain false) (Rows.compactOnceSpec.post enc Try.prog Try.f5 false true false false) := by
  refine returnsInHanded_of_change (C := Try.checked) own started (by kernel_rfl) Try.func5
    (ChangeSpec.witness6 (enc := enc) (C := Try.checked) false ⟨#[], #[.slice none 0 0, .int .i64 0, .int .i64 0], []⟩ 8 (by kernel_rfl) (by kernel_rfl) (by kernel_rfl) (by kernel_rfl)) ?_
  intro W base args ds gs before hval hW hcnd _
  exact law_contract shapes all rfl (by kernel_rfl) (by kernel_rfl) (of_decide_eq_true (by kernel_rfl)) (fun ds h => by match ds, h with | [_, _, _], _ => rfl) rfl base args ds gs before hval hW

theorem over : Rows.compactOnceRow.holds Try.pinned (OpenSpec.ofChange Rows.compactOnceSpec) :=
  OpenClaim.holds_of_wide 5 Try.f5 rfl rfl rfl rfl rfl rfl rfl ⟨rfl, rfl, rfl, rfl, rfl⟩ rfl rfl rfl rfl rfl (by kernel_rfl) Try.func5 (by kernel_rfl)
    (of_decide_eq_true (by kernel_rfl)) (by unfold Func.isWrapper; first | (rw [if_pos (by decide +kernel)]; kernel_rfl) | (rw [if_neg (by decide +kernel)]; exact ⟨rfl, rfl⟩))
    (fun os started H enc _ => lifted os started H enc)

theorem proved : Rows.CompactOnceSaid := over
#print axioms proved
end Go.Proofs.Ytikidcgnbcibpaa.compactOnce
