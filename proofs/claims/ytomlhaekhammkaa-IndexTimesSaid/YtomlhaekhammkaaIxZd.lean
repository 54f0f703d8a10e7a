/- Ahead of the entry that is found of a time, and at it, no entry of the list has that time, or a greater one, whose place is a multiple of Every; the times of an index rise. No condition: for every input. -/
import Derived.Test.YtomlhaekhammkaaRows
import Derived.WalkKit
import Derived.ProofKit
import Derived.OpenShut
import Derived.Test.YtomlhaekhammkaaAvAD
import Derived.Test.YtomlhaekhammkaaIxZq

set_option linter.unusedVariables false
namespace Go.Proofs.Ytomlhaekhammkaa.indexTimes
open Go.ChangeShapes Go.WideShapes Go.ChangeAt Go.RowKit Go.Av

theorem own : ownKnob Try.prog.godebug = none := by kernel_rfl
theorem shapes : shapesOf Try.prog 9 Try.f10.params.toList = some [.sl (.st [.int .i64, .int .i64, .int .i64]), .int .u8, .int .i64] := by kernel_rfl

theorem all (svs : List SV) (h : hasVs [.sl (.st [.int .i64, .int .i64, .int .i64]), .int .u8, .int .i64] svs) : Pure Try.prog 10 svs (.sv (.bool true)) := by
  obtain ⟨v1, _, rfl, h1, v2, _, rfl, h2, v3, _, rfl, h3, rfl⟩ := h
  obtain ⟨l, hl⟩ := has_list h1
  obtain ⟨e, rfl, he⟩ := has_u8 h2
  obtain ⟨n, rfl, _⟩ := has_int h3
  exact pure_wk3 (WkA.list hl) (WkA.refl _) (WkA.refl _) (times_pure l e n he)

set_option maxRecDepth 100000 in
theorem lifted (os : Os) (started : os.Started) (H : Type) (enc : TypeId × Value → H) :
    ReturnsInHanded {} Try.checked os 10 .any (Rows.indexTimesSpec.pre6 enc Try.prog Try.f10 Rows.indexTimesRow.domain false) (Rows.indexTimesSpec.post enc Try.prog Try.f10 false true false false) := by
  refine returnsInHanded_of_change (C := Try.checked) own started (by kernel_rfl) Try.func10
    (ChangeSpec.witness6 (enc := enc) (C := Try.checked) false ⟨#[], #[.slice none 0 0, .int .u8 0, .int .i64 0], []⟩ 8 (by kernel_rfl) (by kernel_rfl) (by kernel_rfl) (by kernel_rfl)) ?_
  intro W base args ds gs before hval hW hcnd _
  exact law_contract shapes all rfl (by kernel_rfl) (by kernel_rfl) (of_decide_eq_true (by kernel_rfl)) (fun ds h => by match ds, h with | [_, _, _], _ => rfl) rfl base args ds gs before hval hW

theorem over : Rows.indexTimesRow.holds Try.pinned (OpenSpec.ofChange Rows.indexTimesSpec) :=
  OpenClaim.holds_of_wide 10 Try.f10 rfl rfl rfl rfl rfl rfl rfl ⟨rfl, rfl, rfl, rfl, rfl⟩ rfl rfl rfl rfl rfl (by kernel_rfl) Try.func10 (by kernel_rfl)
    (of_decide_eq_true (by kernel_rfl)) (by unfold Func.isWrapper; first | (rw [if_pos (by decide +kernel)]; kernel_rfl) | (rw [if_neg (by decide +kernel)]; exact ⟨rfl, rfl⟩))
    (fun os started H enc _ => lifted os started H enc)

theorem proved : Rows.IndexTimesSaid := over
#print axioms proved
end Go.Proofs.Ytomlhaekhammkaa.indexTimes
