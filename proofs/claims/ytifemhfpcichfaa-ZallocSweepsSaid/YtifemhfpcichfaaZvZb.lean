/- After as many sweeps as there are zones none waits, and no zone that is owned has changed; without a device there is nothing. No condition: for every input. -/
import Derived.Test.YtifemhfpcichfaaRows
import Derived.WalkKit
import Derived.ProofKit
import Derived.OpenShut
import Derived.Test.YtifemhfpcichfaaAvAD
import Derived.Test.YtifemhfpcichfaaMZsF
import Derived.Test.YtifemhfpcichfaaZvM

set_option linter.unusedSimpArgs false
set_option linter.unusedVariables false
namespace Go.Proofs.Ytifemhfpcichfaa.zallocSweeps
open Go.ChangeShapes Go.WideShapes Go.ChangeAt Go.RowKit Go.Av

theorem own : ownKnob Try.prog.godebug = none := by kernel_rfl
theorem shapes : shapesOf Try.prog 9 Try.f8.params.toList = some [.int .u8, .sl (.st [.int .u8, .int .i64, .int .i64, .int .u8, .int .u8, .bool, .sl (.int .u8)]), .st [.int .i64, .sl (.st [.int .i64, .str, .int .i64, .bool]), .sl (.st [.st [.int .i64, .int .i64], .int .i64, .sl (.st [.int .i64, .int .i64])])]] := by kernel_rfl

theorem all (svs : List SV) (h : hasVs [.int .u8, .sl (.st [.int .u8, .int .i64, .int .i64, .int .u8, .int .u8, .bool, .sl (.int .u8)]), .st [.int .i64, .sl (.st [.int .i64, .str, .int .i64, .bool]), .sl (.st [.st [.int .i64, .int .i64], .int .i64, .sl (.st [.int .i64, .int .i64])])]] svs) : Pure Try.prog 8 svs (.sv (.bool true)) := by
  obtain ⟨v1, _, rfl, h1, v2, _, rfl, h2, v3, _, rfl, h3, rfl⟩ := h
  obtain ⟨z, rfl⟩ := has_byte h1
  have w1 := WkM.refl (.int .u8 z.toNat)
  obtain ⟨l, w2⟩ := has_actsV h2
  obtain ⟨s, hI, w3⟩ := has_st h3
  refine pure_wkM (m := [.int .u8 z.toNat, .sl 7 (AcL l), s.sv]) rfl (fun j hj => ?_) (law_sweeps z l s hI)
  match j, hj with
  | 0, _ => exact w1
  | 1, _ => exact w2
  | 2, _ => exact w3

set_option maxRecDepth 100000 in
theorem lifted (os : Os) (started : os.Started) (H : Type) (enc : TypeId × Value → H) :
    ReturnsInHanded {} Try.checked os 8 .any (Rows.zallocSweepsSpec.pre6 enc Try.prog Try.f8 Rows.zallocSweepsRow.domain false) (Rows.zallocSweepsSpec.post enc Try.prog Try.f8 false true false false) := by
  refine returnsInHanded_of_change (C := Try.checked) own started (by kernel_rfl) Try.func8
    (ChangeSpec.witness6 (enc := enc) (C := Try.checked) false ⟨#[], #[.int .u8 0, .slice none 0 0, .agg #[.int .i64 0, .slice none 0 0, .slice none 0 0]], []⟩ 8 (by kernel_rfl) (by kernel_rfl) (by kernel_rfl) (by kernel_rfl)) ?_
  intro W base args ds gs before hval hW hcnd _
  exact law_contract shapes all rfl (by kernel_rfl) (by kernel_rfl) (of_decide_eq_true (by kernel_rfl)) (fun ds h => by match ds, h with | [_, _, _], _ => rfl) rfl base args ds gs before hval hW

theorem over : Rows.zallocSweepsRow.holds Try.pinned (OpenSpec.ofChange Rows.zallocSweepsSpec) :=
  OpenClaim.holds_of_wide 8 Try.f8 rfl rfl rfl rfl rfl rfl rfl ⟨rfl, rfl, rfl, rfl, rfl⟩ rfl rfl rfl rfl rfl (by kernel_rfl) Try.func8 (by kernel_rfl)
    (of_decide_eq_true (by kernel_rfl)) (by unfold Func.isWrapper; first | (rw [if_pos (by decide +kernel)]; kernel_rfl) | (rw [if_neg (by decide +kernel)]; exact ⟨rfl, rfl⟩))
    (fun os started H enc _ => lifted os started H enc)

theorem proved : Rows.ZallocSweepsSaid := over
#print axioms proved
end Go.Proofs.Ytifemhfpcichfaa.zallocSweeps
