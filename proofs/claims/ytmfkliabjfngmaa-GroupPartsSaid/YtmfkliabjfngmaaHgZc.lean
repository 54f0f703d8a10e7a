/- When all members of a generation have synced each part is had by just one of them, and the group is stable; an elder generation is refused. No condition: for every input. -/
import Derived.Test.YtmfkliabjfngmaaRows
import Derived.WalkKit
import Derived.ProofKit
import Derived.OpenShut
import Derived.Test.YtmfkliabjfngmaaAvAD
import Derived.Test.YtmfkliabjfngmaaMHgL
import Derived.Test.YtmfkliabjfngmaaMHgO

set_option linter.unusedSimpArgs false
set_option linter.unusedVariables false
namespace Go.Proofs.Ytmfkliabjfngmaa.groupParts
open Go.ChangeShapes Go.WideShapes Go.ChangeAt Go.RowKit Go.Av

theorem own : ownKnob Try.prog.godebug = none := by kernel_rfl
theorem shapes : shapesOf Try.prog 9 Try.f8.params.toList = some [.int .u8, .int .u8] := by kernel_rfl

theorem all (svs : List SV) (h : hasVs [.int .u8, .int .u8] svs) : Pure Try.prog 8 svs (.sv (.bool true)) := by
  obtain ⟨v1, _, rfl, h1, v2, _, rfl, h2, rfl⟩ := h
  obtain ⟨n, rfl, hn0, hn1⟩ := has_u8 h1
  obtain ⟨p, rfl, hp0, hp1⟩ := has_u8 h2
  have w1 := WkM.refl (.int .u8 n)
  have w2 := WkM.refl (.int .u8 p)
  refine pure_wkM (m := [.int .u8 n, .int .u8 p]) rfl (fun j hj => ?_) (law_parts n p hn0 hn1 hp0 hp1)
  match j, hj with
  | 0, _ => exact w1
  | 1, _ => exact w2

set_option maxRecDepth 100000 in
theorem lifted (os : Os) (started : os.Started) (H : Type) (enc : TypeId × Value → H) :
    ReturnsInHanded {} Try.checked os 8 .any (Rows.groupPartsSpec.pre6 enc Try.prog Try.f8 Rows.groupPartsRow.domain false) (Rows.groupPartsSpec.post enc Try.prog Try.f8 false true false false) := by
  refine returnsInHanded_of_change (C := Try.checked) own started (by kernel_rfl) Try.func8
    (ChangeSpec.witness6 (enc := enc) (C := Try.checked) false ⟨#[], #[.int .u8 0, .int .u8 0], []⟩ 8 (by kernel_rfl) (by kernel_rfl) (by kernel_rfl) (by kernel_rfl)) ?_
  intro W base args ds gs before hval hW hcnd _
  exact law_contract shapes all rfl (by kernel_rfl) (by kernel_rfl) (of_decide_eq_true (by kernel_rfl)) (fun ds h => by match ds, h with | [_, _], _ => rfl) rfl base args ds gs before hval hW

theorem over : Rows.groupPartsRow.holds Try.pinned (OpenSpec.ofChange Rows.groupPartsSpec) :=
  OpenClaim.holds_of_wide 8 Try.f8 rfl rfl rfl rfl rfl rfl rfl ⟨rfl, rfl, rfl, rfl, rfl⟩ rfl rfl rfl rfl rfl (by kernel_rfl) Try.func8 (by kernel_rfl)
    (of_decide_eq_true (by kernel_rfl)) (by unfold Func.isWrapper; first | (rw [if_pos (by decide +kernel)]; kernel_rfl) | (rw [if_neg (by decide +kernel)]; exact ⟨rfl, rfl⟩))
    (fun os started H enc _ => lifted os started H enc)

theorem proved : Rows.GroupPartsSaid := over
#print axioms proved
end Go.Proofs.Ytmfkliabjfngmaa.groupParts
