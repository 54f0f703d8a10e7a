/- Bytes are read as the meta, and as the metas, that the answer reads. No condition: for every input. -/
import Derived.Test.YtkiimlmlfhmkiaaRows
import Derived.WalkKit
import Derived.ProofKit
import Derived.OpenShut
import Derived.Test.YtkiimlmlfhmkiaaAvAD
import Derived.Test.YtkiimlmlfhmkiaaMCbU

set_option linter.unusedVariables false
namespace Go.Proofs.Ytkiimlmlfhmkiaa.metaGets
open Go.ChangeShapes Go.WideShapes Go.ChangeAt Go.RowKit Go.Av

theorem own : ownKnob Try.prog.godebug = none := by kernel_rfl
theorem shapes : shapesOf Try.prog 9 Try.f4.params.toList = some [.sl (.int .u8), .sl (.int .u8)] := by kernel_rfl

theorem all (svs : List SV) (h : hasVs [.sl (.int .u8), .sl (.int .u8)] svs) : Pure Try.prog 4 svs (.sv (.bool true)) := by
  obtain ⟨v1, _, rfl, h1, v2, _, rfl, h2, rfl⟩ := h
  obtain ⟨a, ha, k1⟩ := has_bysV h1
  obtain ⟨b, hb, k2⟩ := has_bysV h2
  exact pure_wk2 k1 k2 (law_mgets a b ha hb)

set_option maxRecDepth 100000 in
theorem lifted (os : Os) (started : os.Started) (H : Type) (enc : TypeId × Value → H) :
    ReturnsInHanded {} Try.checked os 4 .any (Rows.metaGetsSpec.pre6 enc Try.prog Try.f4 Rows.metaGetsRow.domain false) (Rows.metaGetsSpec.post enc Try.prog Try.f4 false true false false) := by
  refine returnsInHanded_of_change (C := Try.checked) own started (by kernel_rfl) Try.func4
    (ChangeSpec.witness6 (enc := enc) (C := Try.checked) false ⟨#[], #[.slice none 0 0, .slice none 0 0], []⟩ 8 (by kernel_rfl) (by kernel_rfl) (by kernel_rfl) (by kernel_rfl)) ?_
  intro W base args ds gs before hval hW hcnd _
  exact law_contract shapes all rfl (by kernel_rfl) (by kernel_rfl) (of_decide_eq_true (by kernel_rfl)) (fun ds h => by match ds, h with | [_, _], _ => rfl) rfl base args ds gs before hval hW

theorem over : Rows.metaGetsRow.holds Try.pinned (OpenSpec.ofChange Rows.metaGetsSpec) :=
  OpenClaim.holds_of_wide 4 Try.f4 rfl rfl rfl rfl rfl rfl rfl ⟨rfl, rfl, rfl, rfl, rfl⟩ rfl rfl rfl rfl rfl (by kernel_rfl) Try.func4 (by kernel_rfl)
    (of_decide_eq_true (by kernel_rfl)) (by unfold Func.isWrapper; first | (rw [if_pos (by decide +kernel)]; kernel_rfl) | (rw [if_neg (by decide +kernel)]; exact ⟨rfl, rfl⟩))
    (fun os started H enc _ => lifted os started H enc)

theorem proved : Rows.MetaGetsSaid := over
#print axioms proved
end Go.Proofs.Ytkiimlmlfhmkiaa.metaGets
