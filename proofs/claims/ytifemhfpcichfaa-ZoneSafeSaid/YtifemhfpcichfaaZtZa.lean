/- What was flushed stays behind any crash; of what was written since, a beginning does, whose last block may be torn. No condition: for every input. -/
import Derived.Test.YtifemhfpcichfaaRows
import Derived.WalkKit
import Derived.ProofKit
import Derived.OpenShut
import Derived.Test.YtifemhfpcichfaaAvAD
import Derived.Test.YtifemhfpcichfaaMZsF
import Derived.Test.YtifemhfpcichfaaMZtC

set_option linter.unusedSimpArgs false
set_option linter.unusedVariables false
namespace Go.Proofs.Ytifemhfpcichfaa.zoneSafe
open Go.ChangeShapes Go.WideShapes Go.ChangeAt Go.RowKit Go.Av

theorem own : ownKnob Try.prog.godebug = none := by kernel_rfl
theorem shapes : shapesOf Try.prog 9 Try.f3.params.toList = some [.sl (.st [.int .u8, .int .i64, .int .i64, .int .u8, .int .u8, .bool, .sl (.int .u8)]), .st [.int .u8, .int .u8], .sl (.int .u8)] := by kernel_rfl

theorem all (svs : List SV) (h : hasVs [.sl (.st [.int .u8, .int .i64, .int .i64, .int .u8, .int .u8, .bool, .sl (.int .u8)]), .st [.int .u8, .int .u8], .sl (.int .u8)] svs) : Pure Try.prog 3 svs (.sv (.bool true)) := by
  obtain ⟨v1, _, rfl, h1, v2, _, rfl, h2, v3, _, rfl, h3, rfl⟩ := h
  obtain ⟨l, w1⟩ := has_actsV h1
  obtain ⟨m, n, rfl⟩ := has_two h2
  obtain ⟨f, w3⟩ := has_fateV h3
  have w2 := WkM.refl (.agg [.int .u8 m.toNat, .int .u8 n.toNat])
  refine pure_wkM (m := [.sl 7 (AcL l), .agg [.int .u8 m.toNat, .int .u8 n.toNat], .sl 1 (FL f)]) rfl (fun j hj => ?_) (law_safe l m n f)
  match j, hj with
  | 0, _ => exact w1
  | 1, _ => exact w2
  | 2, _ => exact w3

set_option maxRecDepth 100000 in
theorem lifted (os : Os) (started : os.Started) (H : Type) (enc : TypeId × Value → H) :
    ReturnsInHanded {} Try.checked os 3 .any (Rows.zoneSafeSpec.pre6 enc Try.prog Try.f3 Rows.zoneSafeRow.domain false) (Rows.zoneSafeSpec.post enc Try.prog Try.f3 false true false false) := by
  refine returnsInHanded_of_change (C := Try.checked) own started (by kernel_rfl) Try.func3
    (ChangeSpec.witness6 (enc := enc) (C := Try.checked) false ⟨#[], #[.slice none 0 0, .agg #[.int .u8 0, .int .u8 0], .slice none 0 0], []⟩ 8 (by kernel_rfl) (by kernel_rfl) (by kernel_rfl) (by kernel_rfl)) ?_
  intro W base args ds gs before hval hW hcnd _
  exact law_contract shapes all rfl (by kernel_rfl) (by kernel_rfl) (of_decide_eq_true (by kernel_rfl)) (fun ds h => by match ds, h with | [_, _, _], _ => rfl) rfl base args ds gs before hval hW

theorem over : Rows.zoneSafeRow.holds Try.pinned (OpenSpec.ofChange Rows.zoneSafeSpec) :=
  OpenClaim.holds_of_wide 3 Try.f3 rfl rfl rfl rfl rfl rfl rfl ⟨rfl, rfl, rfl, rfl, rfl⟩ rfl rfl rfl rfl rfl (by kernel_rfl) Try.func3 (by kernel_rfl)
    (of_decide_eq_true (by kernel_rfl)) (by unfold Func.isWrapper; first | (rw [if_pos (by decide +kernel)]; kernel_rfl) | (rw [if_neg (by decide +kernel)]; exact ⟨rfl, rfl⟩))
    (fun os started H enc _ => lifted os started H enc)

theorem proved : Rows.ZoneSafeSaid := over
#print axioms proved
end Go.Proofs.Ytifemhfpcichfaa.zoneSafe
