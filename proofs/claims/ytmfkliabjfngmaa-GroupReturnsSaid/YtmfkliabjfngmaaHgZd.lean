/- A member that comes and goes leaves the others as they were, but for their syncing, and the generation two higher; one that is there already comes again without a turn. No condition: for every input. -/
import Derived.Test.YtmfkliabjfngmaaRows
import Derived.WalkKit
import Derived.ProofKit
import Derived.OpenShut
import Derived.Test.YtmfkliabjfngmaaAvAD
import Derived.Test.YtmfkliabjfngmaaMHgL
import Derived.Test.YtmfkliabjfngmaaMGgT

set_option linter.unusedSimpArgs false
set_option linter.unusedVariables false
namespace Go.Proofs.Ytmfkliabjfngmaa.groupReturns
open Go.ChangeShapes Go.WideShapes Go.ChangeAt Go.RowKit Go.Av

theorem own : ownKnob Try.prog.godebug = none := by kernel_rfl
theorem shapes : shapesOf Try.prog 9 Try.f9.params.toList = some [.sl (.st [.int .u8, .str, .int .i64, .int .i64, .int .i64]), .str, .int .i64] := by kernel_rfl

theorem all (svs : List SV) (h : hasVs [.sl (.st [.int .u8, .str, .int .i64, .int .i64, .int .i64]), .str, .int .i64] svs) : Pure Try.prog 9 svs (.sv (.bool true)) := by
  obtain ⟨v1, _, rfl, h1, v2, _, rfl, h2, v3, _, rfl, h3, rfl⟩ := h
  obtain ⟨l, hk, w1⟩ := has_acsV h1
  obtain ⟨s, rfl⟩ := has_str h2
  obtain ⟨n, rfl, hn⟩ := has_i64 h3
  have w2 := WkM.refl (.str s)
  have w3 := WkM.refl (.int .i64 n)
  refine pure_wkM (m := [.sl 5 (AL l), .str s, .int .i64 n]) rfl (fun j hj => ?_) (law_returns l s n)
  match j, hj with
  | 0, _ => exact w1
  | 1, _ => exact w2
  | 2, _ => exact w3

set_option maxRecDepth 100000 in
theorem lifted (os : Os) (started : os.Started) (H : Type) (enc : TypeId × Value → H) :
    ReturnsInHanded {} Try.checked os 9 .any (Rows.groupReturnsSpec.pre6 enc Try.prog Try.f9 Rows.groupReturnsRow.domain false) (Rows.groupReturnsSpec.post enc Try.prog Try.f9 false true false false) := by
  refine returnsInHanded_of_change (C := Try.checked) own started (by kernel_rfl) Try.func9
    (ChangeSpec.witness6 (enc := enc) (C := Try.checked) false ⟨#[], #[.slice none 0 0, .string ByteArray.empty, .int .i64 0], []⟩ 8 (by kernel_rfl) (by kernel_rfl) (by kernel_rfl) (by kernel_rfl)) ?_
  intro W base args ds gs before hval hW hcnd _
  exact law_contract shapes all rfl (by kernel_rfl) (by kernel_rfl) (of_decide_eq_true (by kernel_rfl)) (fun ds h => by match ds, h with | [_, _, _], _ => rfl) rfl base args ds gs before hval hW

theorem over : Rows.groupReturnsRow.holds Try.pinned (OpenSpec.ofChange Rows.groupReturnsSpec) :=
  OpenClaim.holds_of_wide 9 Try.f9 rfl rfl rfl rfl rfl rfl rfl ⟨rfl, rfl, rfl, rfl, rfl⟩ rfl rfl rfl rfl rfl (by kernel_rfl) Try.func9 (by kernel_rfl)
    (of_decide_eq_true (by kernel_rfl)) (by unfold Func.isWrapper; first | (rw [if_pos (by decide +kernel)]; kernel_rfl) | (rw [if_neg (by decide +kernel)]; exact ⟨rfl, rfl⟩))
    (fun os started H enc _ => lifted os started H enc)

theorem proved : Rows.GroupReturnsSaid := over
#print axioms proved
end Go.Proofs.Ytmfkliabjfngmaa.groupReturns
