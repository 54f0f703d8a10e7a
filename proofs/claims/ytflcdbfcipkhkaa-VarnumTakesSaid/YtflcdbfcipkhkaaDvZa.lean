/- Any calls of a reader of any bytes tell what the document says; any text has the bytes that it says; one that is not there has nothing. No condition: for every input. -/
import Derived.Test.YtflcdbfcipkhkaaRows
import Derived.WalkKit
import Derived.ProofKit
import Derived.OpenShut
import Derived.Test.YtflcdbfcipkhkaaAvAD
import Derived.Test.YtflcdbfcipkhkaaDvP

set_option linter.unusedSimpArgs false
set_option linter.unusedVariables false
namespace Go.Proofs.Ytflcdbfcipkhkaa.varnumTakes
open Go.ChangeShapes Go.WideShapes Go.ChangeAt Go.RowKit Go.Av

theorem own : ownKnob Try.prog.godebug = none := by kernel_rfl
theorem shapes : shapesOf Try.prog 9 Try.f3.params.toList = some [.sl (.int .u8), .sl (.int .i64), .str] := by kernel_rfl

theorem all (svs : List SV) (h : hasVs [.sl (.int .u8), .sl (.int .i64), .str] svs) : Pure Try.prog 3 svs (.sv (.bool true)) := by
  obtain ⟨v1, _, rfl, h1, v2, _, rfl, h2, v3, _, rfl, h3, rfl⟩ := h
  obtain ⟨l, hl, w1⟩ := has_bv h1
  obtain ⟨ks, w2⟩ := has_iv h2
  obtain ⟨s, rfl⟩ := has_sv h3
  have w3 := WkV.refl (.str s)
  refine pure_wkV (m := [.sl 1 (bs l), .sl 1 (ks.map fun x => SV.int .i64 x), .str s]) rfl (fun j hj => ?_) (law_takes l hl ks s)
  match j, hj with
  | 0, _ => exact w1
  | 1, _ => exact w2
  | 2, _ => exact w3

set_option maxRecDepth 100000 in
theorem lifted (os : Os) (started : os.Started) (H : Type) (enc : TypeId × Value → H) :
    ReturnsInHanded {} Try.checked os 3 .any (Rows.varnumTakesSpec.pre6 enc Try.prog Try.f3 Rows.varnumTakesRow.domain false) (Rows.varnumTakesSpec.post enc Try.prog Try.f3 false true false false) := by
  refine returnsInHanded_of_change (C := Try.checked) own started (by kernel_rfl) Try.func3
    (ChangeSpec.witness6 (enc := enc) (C := Try.checked) false ⟨#[], #[.slice none 0 0, .slice none 0 0, .string ByteArray.empty], []⟩ 8 (by kernel_rfl) (by kernel_rfl) (by kernel_rfl) (by kernel_rfl)) ?_
  intro W base args ds gs before hval hW hcnd _
  exact law_contract shapes all rfl (by kernel_rfl) (by kernel_rfl) (of_decide_eq_true (by kernel_rfl)) (fun ds h => by match ds, h with | [_, _, _], _ => rfl) rfl base args ds gs before hval hW

theorem over : Rows.varnumTakesRow.holds Try.pinned (OpenSpec.ofChange Rows.varnumTakesSpec) :=
  OpenClaim.holds_of_wide 3 Try.f3 rfl rfl rfl rfl rfl rfl rfl ⟨rfl, rfl, rfl, rfl, rfl⟩ rfl rfl rfl rfl rfl (by kernel_rfl) Try.func3 (by kernel_rfl)
    (of_decide_eq_true (by kernel_rfl)) (by unfold Func.isWrapper; first | (rw [if_pos (by decide +kernel)]; kernel_rfl) | (rw [if_neg (by decide +kernel)]; exact ⟨rfl, rfl⟩))
    (fun os started H enc _ => lifted os started H enc)

theorem proved : Rows.VarnumTakesSaid := over
#print axioms proved
end Go.Proofs.Ytflcdbfcipkhkaa.varnumTakes
