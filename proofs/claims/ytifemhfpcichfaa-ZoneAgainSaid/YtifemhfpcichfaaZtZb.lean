/- A crash behind a crash changes nothing, whatever its fate; nor does one behind a flush. No condition: for every input. -/
import Derived.Test.YtifemhfpcichfaaRows
import Derived.WalkKit
import Derived.ProofKit
import Derived.OpenShut
import Derived.Test.YtifemhfpcichfaaAvAD
import Derived.Test.YtifemhfpcichfaaMZsF
import Derived.Test.YtifemhfpcichfaaZtC

set_option linter.unusedSimpArgs false
set_option linter.unusedVariables false
namespace Go.Proofs.Ytifemhfpcichfaa.zoneAgain
open Go.ChangeShapes Go.WideShapes Go.ChangeAt Go.RowKit Go.Av

theorem own : ownKnob Try.prog.godebug = none := by kernel_rfl
theorem shapes : shapesOf Try.prog 9 Try.f4.params.toList = some [.sl (.st [.int .u8, .int .i64, .int .i64, .int .u8, .int .u8, .bool, .sl (.int .u8)]), .sl (.int .u8), .sl (.int .u8)] := by kernel_rfl

theorem all (svs : List SV) (h : hasVs [.sl (.st [.int .u8, .int .i64, .int .i64, .int .u8, .int .u8, .bool, .sl (.int .u8)]), .sl (.int .u8), .sl (.int .u8)] svs) : Pure Try.prog 4 svs (.sv (.bool true)) := by
  obtain ⟨v1, _, rfl, h1, v2, _, rfl, h2, v3, _, rfl, h3, rfl⟩ := h
  obtain ⟨l, w1⟩ := has_actsV h1
  obtain ⟨f, w2⟩ := has_fateV h2
  obtain ⟨s, w3⟩ := has_fateV h3
  refine pure_wkM (m := [.sl 7 (AcL l), .sl 1 (FL f), .sl 1 (FL s)]) rfl (fun j hj => ?_) (law_again l f s)
  match j, hj with
  | 0, _ => exact w1
  | 1, _ => exact w2
  | 2, _ => exact w3

set_option maxRecDepth 100000 in
theorem lifted (os : Os) (started : os.Started) (H : Type) (enc : TypeId × Value → H) :
    ReturnsInHanded {} Try.checked os 4 .any (Rows.zoneAgainSpec.pre6 enc Try.prog Try.f4 Rows.zoneAgainRow.domain false) (Rows.zoneAgainSpec.post enc Try.prog Try.f4 false true false false) := by
  refine returnsInHanded_of_change (C := Try.checked) own started (by kernel_rfl) Try.func4
    (ChangeSpec.witness6 (enc := enc) (C := Try.checked) false ⟨#[], #[.slice none 0 0, .slice none 0 0, .slice none 0 0], []⟩ 8 (by kernel_rfl) (by kernel_rfl) (by kernel_rfl) (by kernel_rfl)) ?_
  intro W base args ds gs before hval hW hcnd _
  exact law_contract shapes all rfl (by kernel_rfl) (by kernel_rfl) (of_decide_eq_true (by kernel_rfl)) (fun ds h => by match ds, h with | [_, _, _], _ => rfl) rfl base args ds gs before hval hW

theorem over : Rows.zoneAgainRow.holds Try.pinned (OpenSpec.ofChange Rows.zoneAgainSpec) :=
  OpenClaim.holds_of_wide 4 Try.f4 rfl rfl rfl rfl rfl rfl rfl ⟨rfl, rfl, rfl, rfl, rfl⟩ rfl rfl rfl rfl rfl (by kernel_rfl) Try.func4 (by kernel_rfl)
    (of_decide_eq_true (by kernel_rfl)) (by unfold Func.isWrapper; first | (rw [if_pos (by decide +kernel)]; kernel_rfl) | (rw [if_neg (by decide +kernel)]; exact ⟨rfl, rfl⟩))
    (fun os started H enc _ => lifted os started H enc)

theorem proved : Rows.ZoneAgainSaid := over
#print axioms proved
end Go.Proofs.Ytifemhfpcichfaa.zoneAgain
