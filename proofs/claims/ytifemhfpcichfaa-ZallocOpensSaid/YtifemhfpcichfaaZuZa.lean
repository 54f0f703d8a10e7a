/- As many zones are told one after the other, each written to, as may be open; then none, until one of them is full. No condition: for every input. -/
import Derived.Test.YtifemhfpcichfaaRows
import Derived.WalkKit
import Derived.ProofKit
import Derived.OpenShut
import Derived.Test.YtifemhfpcichfaaAvAD
import Derived.Test.YtifemhfpcichfaaMZsF
import Derived.Test.YtifemhfpcichfaaMZuJ

set_option linter.unusedSimpArgs false
set_option linter.unusedVariables false
namespace Go.Proofs.Ytifemhfpcichfaa.zallocOpens
open Go.ChangeShapes Go.WideShapes Go.ChangeAt Go.RowKit Go.Av

theorem own : ownKnob Try.prog.godebug = none := by kernel_rfl
theorem shapes : shapesOf Try.prog 9 Try.f6.params.toList = some [.int .u8] := by kernel_rfl

theorem all (svs : List SV) (h : hasVs [.int .u8] svs) : Pure Try.prog 6 svs (.sv (.bool true)) := by
  obtain ⟨v1, _, rfl, h1, rfl⟩ := h
  obtain ⟨z, rfl⟩ := has_byte h1
  have w1 := WkM.refl (.int .u8 z.toNat)
  refine pure_wkM (m := [.int .u8 z.toNat]) rfl (fun j hj => ?_) (law_opens z)
  match j, hj with
  | 0, _ => exact w1

set_option maxRecDepth 100000 in
theorem lifted (os : Os) (started : os.Started) (H : Type) (enc : TypeId × Value → H) :
    ReturnsInHanded {} Try.checked os 6 .any (Rows.zallocOpensSpec.pre6 enc Try.prog Try.f6 Rows.zallocOpensRow.domain false) (Rows.zallocOpensSpec.post enc Try.prog Try.f6 false true false false) := by
  refine returnsInHanded_of_change (C := Try.checked) own started (by kernel_rfl) Try.func6
    (ChangeSpec.witness6 (enc := enc) (C := Try.checked) false ⟨#[], #[.int .u8 0], []⟩ 8 (by kernel_rfl) (by kernel_rfl) (by kernel_rfl) (by kernel_rfl)) ?_
  intro W base args ds gs before hval hW hcnd _
  exact law_contract shapes all rfl (by kernel_rfl) (by kernel_rfl) (of_decide_eq_true (by kernel_rfl)) (fun ds h => by match ds, h with | [_], _ => rfl) rfl base args ds gs before hval hW

theorem over : Rows.zallocOpensRow.holds Try.pinned (OpenSpec.ofChange Rows.zallocOpensSpec) :=
  OpenClaim.holds_of_wide 6 Try.f6 rfl rfl rfl rfl rfl rfl rfl ⟨rfl, rfl, rfl, rfl, rfl⟩ rfl rfl rfl rfl rfl (by kernel_rfl) Try.func6 (by kernel_rfl)
    (of_decide_eq_true (by kernel_rfl)) (by unfold Func.isWrapper; first | (rw [if_pos (by decide +kernel)]; kernel_rfl) | (rw [if_neg (by decide +kernel)]; exact ⟨rfl, rfl⟩))
    (fun os started H enc _ => lifted os started H enc)

theorem proved : Rows.ZallocOpensSaid := over
#print axioms proved
end Go.Proofs.Ytifemhfpcichfaa.zallocOpens
