/- Bytes are read as the answer reads them. No condition: for every input. -/
import Derived.Test.YtkiimlmlfhmkiaaRows
import Derived.WalkKit
import Derived.ProofKit
import Derived.OpenShut
import Derived.Test.YtkiimlmlfhmkiaaAvAD
import Derived.Test.YtkiimlmlfhmkiaaCbZp

set_option linter.unusedVariables false
namespace Go.Proofs.Ytkiimlmlfhmkiaa.batchGets
open Go.ChangeShapes Go.WideShapes Go.ChangeAt Go.RowKit Go.Av

theorem own : ownKnob Try.prog.godebug = none := by kernel_rfl
theorem shapes : shapesOf Try.prog 9 Try.f9.params.toList = some [.sl (.int .u8)] := by kernel_rfl

theorem all (svs : List SV) (h : hasVs [.sl (.int .u8)] svs) : Pure Try.prog 9 svs (.sv (.bool true)) := by
  obtain ⟨v1, _, rfl, h1, rfl⟩ := h
  have h1' : (Sh.sl (.int .u8)).has [v1] := h1
  simp only [Sh.has] at h1'
  rcases h1' with h1' | ⟨xs, h1', _, hx⟩
  · cases h1'
    exact pure_wk1 (a' := .sl 1 (bs [])) rfl (law_gets [] (fun _ h => by cases h))
  · cases h1'
    obtain ⟨l, rfl, hl⟩ := has_bytes (xs := xs) (fun x hm => by have := hx x hm; simp only [Sh.has]; exact this)
    exact law_gets l hl

set_option maxRecDepth 100000 in
theorem lifted (os : Os) (started : os.Started) (H : Type) (enc : TypeId × Value → H) :
    ReturnsInHanded {} Try.checked os 9 .any (Rows.batchGetsSpec.pre6 enc Try.prog Try.f9 Rows.batchGetsRow.domain false) (Rows.batchGetsSpec.post enc Try.prog Try.f9 false true false false) := by
  refine returnsInHanded_of_change (C := Try.checked) own started (by kernel_rfl) Try.func9
    (ChangeSpec.witness6 (enc := enc) (C := Try.checked) false ⟨#[], #[.slice none 0 0], []⟩ 8 (by kernel_rfl) (by kernel_rfl) (by kernel_rfl) (by kernel_rfl)) ?_
  intro W base args ds gs before hval hW hcnd _
  exact law_contract shapes all rfl (by kernel_rfl) (by kernel_rfl) (of_decide_eq_true (by kernel_rfl)) (fun ds h => by match ds, h with | [_], _ => rfl) rfl base args ds gs before hval hW

theorem over : Rows.batchGetsRow.holds Try.pinned (OpenSpec.ofChange Rows.batchGetsSpec) :=
  OpenClaim.holds_of_wide 9 Try.f9 rfl rfl rfl rfl rfl rfl rfl ⟨rfl, rfl, rfl, rfl, rfl⟩ rfl rfl rfl rfl rfl (by kernel_rfl) Try.func9 (by kernel_rfl)
    (of_decide_eq_true (by kernel_rfl)) (by unfold Func.isWrapper; first | (rw [if_pos (by decide +kernel)]; kernel_rfl) | (rw [if_neg (by decide +kernel)]; exact ⟨rfl, rfl⟩))
    (fun os started H enc _ => lifted os started H enc)

theorem proved : Rows.BatchGetsSaid := over
#print axioms proved
end Go.Proofs.Ytkiimlmlfhmkiaa.batchGets
