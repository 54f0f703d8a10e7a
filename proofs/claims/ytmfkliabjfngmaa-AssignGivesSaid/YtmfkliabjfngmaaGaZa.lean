/- Which parts any members have, one behind the other and in turns, and which each one has, is what the answer tells. No condition: for every input. -/
import Derived.Test.YtmfkliabjfngmaaRows
import Derived.WalkKit
import Derived.ProofKit
import Derived.OpenShut
import Derived.Test.YtmfkliabjfngmaaAvAD
import Derived.Test.YtmfkliabjfngmaaMGaB
import Derived.Test.YtmfkliabjfngmaaGaK

set_option linter.unusedSimpArgs false
set_option linter.unusedVariables false
namespace Go.Proofs.Ytmfkliabjfngmaa.assignGives
open Go.ChangeShapes Go.WideShapes Go.ChangeAt Go.RowKit Go.Av

theorem own : ownKnob Try.prog.godebug = none := by kernel_rfl
theorem shapes : shapesOf Try.prog 9 Try.f3.params.toList = some [.sl .str, .int .i64, .str] := by kernel_rfl

theorem all (svs : List SV) (h : hasVs [.sl .str, .int .i64, .str] svs) : Pure Try.prog 3 svs (.sv (.bool true)) := by
  obtain ⟨v1, _, rfl, h1, v2, _, rfl, h2, v3, _, rfl, h3, rfl⟩ := h
  obtain ⟨l, w1⟩ := has_txtV h1
  obtain ⟨a, rfl, ha⟩ := has_i64 h2
  obtain ⟨s, rfl⟩ := has_str h3
  have w2 := WkM.refl (.int .i64 a)
  have w3 := WkM.refl (.str s)
  refine pure_wkM (m := [.sl 1 (TL l), .int .i64 a, .str s]) rfl (fun j hj => ?_) (law_gives l a s)
  match j, hj with
  | 0, _ => exact w1
  | 1, _ => exact w2
  | 2, _ => exact w3

set_option maxRecDepth 100000 in
theorem lifted (os : Os) (started : os.Started) (H : Type) (enc : TypeId × Value → H) :
    ReturnsInHanded {} Try.checked os 3 .any (Rows.assignGivesSpec.pre6 enc Try.prog Try.f3 Rows.assignGivesRow.domain false) (Rows.assignGivesSpec.post enc Try.prog Try.f3 false true false false) := by
  refine returnsInHanded_of_change (C := Try.checked) own started (by kernel_rfl) Try.func3
    (ChangeSpec.witness6 (enc := enc) (C := Try.checked) false ⟨#[], #[.slice none 0 0, .int .i64 0, .string ByteArray.empty], []⟩ 8 (by kernel_rfl) (by kernel_rfl) (by kernel_rfl) (by kernel_rfl)) ?_
  intro W base args ds gs before hval hW hcnd _
  exact law_contract shapes all rfl (by kernel_rfl) (by kernel_rfl) (of_decide_eq_true (by kernel_rfl)) (fun ds h => by match ds, h with | [_, _, _], _ => rfl) rfl base args ds gs before hval hW

theorem over : Rows.assignGivesRow.holds Try.pinned (OpenSpec.ofChange Rows.assignGivesSpec) :=
  OpenClaim.holds_of_wide 3 Try.f3 rfl rfl rfl rfl rfl rfl rfl ⟨rfl, rfl, rfl, rfl, rfl⟩ rfl rfl rfl rfl rfl (by kernel_rfl) Try.func3 (by kernel_rfl)
    (of_decide_eq_true (by kernel_rfl)) (by unfold Func.isWrapper; first | (rw [if_pos (by decide +kernel)]; kernel_rfl) | (rw [if_neg (by decide +kernel)]; exact ⟨rfl, rfl⟩))
    (fun os started H enc _ => lifted os started H enc)

theorem proved : Rows.AssignGivesSaid := over
#print axioms proved
end Go.Proofs.Ytmfkliabjfngmaa.assignGives
