/- Unlike requests and unlike responses have unlike bytes. No condition: for every input. -/
import Derived.Test.YtflcdbfcipkhkaaRows
import Derived.WalkKit
import Derived.ProofKit
import Derived.OpenShut
import Derived.Test.YtflcdbfcipkhkaaAvAD
import Derived.Test.YtflcdbfcipkhkaaMDwS
import Derived.Test.YtflcdbfcipkhkaaMDwT

set_option linter.unusedVariables false
namespace Go.Proofs.Ytflcdbfcipkhkaa.wireApart
open Go.ChangeShapes Go.WideShapes Go.ChangeAt Go.RowKit Go.Av

theorem own : ownKnob Try.prog.godebug = none := by kernel_rfl
theorem shapes : shapesOf Try.prog 9 Try.f8.params.toList = some [.st [.int .u8, .str, .int .i64, .int .i64, .bool, .bool, .int .i64, .int .i64, .int .i64, .str, .str, .int .i64, .st [.int .i64, .int .i64, .int .i64, .int .i64, .int .i64, .sl (.st [.int .i64, .int .i64, .bool, .str, .bool, .str])]], .st [.int .u8, .str, .int .i64, .int .i64, .bool, .bool, .int .i64, .int .i64, .int .i64, .str, .str, .int .i64, .st [.int .i64, .int .i64, .int .i64, .int .i64, .int .i64, .sl (.st [.int .i64, .int .i64, .bool, .str, .bool, .str])]], .st [.st [.int .u8, .int .i64, .int .i64, .int .i64, .bool, .int .i64, .sl (.st [.int .i64, .int .i64, .int .i64, .int .i64, .int .i64, .sl (.st [.int .i64, .int .i64, .bool, .str, .bool, .str])]), .sl (.int .i64), .sl .str], .st [.int .u8, .int .i64, .int .i64, .int .i64, .bool, .int .i64, .sl (.st [.int .i64, .int .i64, .int .i64, .int .i64, .int .i64, .sl (.st [.int .i64, .int .i64, .bool, .str, .bool, .str])]), .sl (.int .i64), .sl .str]]] := by kernel_rfl

theorem all (svs : List SV) (h : hasVs [.st [.int .u8, .str, .int .i64, .int .i64, .bool, .bool, .int .i64, .int .i64, .int .i64, .str, .str, .int .i64, .st [.int .i64, .int .i64, .int .i64, .int .i64, .int .i64, .sl (.st [.int .i64, .int .i64, .bool, .str, .bool, .str])]], .st [.int .u8, .str, .int .i64, .int .i64, .bool, .bool, .int .i64, .int .i64, .int .i64, .str, .str, .int .i64, .st [.int .i64, .int .i64, .int .i64, .int .i64, .int .i64, .sl (.st [.int .i64, .int .i64, .bool, .str, .bool, .str])]], .st [.st [.int .u8, .int .i64, .int .i64, .int .i64, .bool, .int .i64, .sl (.st [.int .i64, .int .i64, .int .i64, .int .i64, .int .i64, .sl (.st [.int .i64, .int .i64, .bool, .str, .bool, .str])]), .sl (.int .i64), .sl .str], .st [.int .u8, .int .i64, .int .i64, .int .i64, .bool, .int .i64, .sl (.st [.int .i64, .int .i64, .int .i64, .int .i64, .int .i64, .sl (.st [.int .i64, .int .i64, .bool, .str, .bool, .str])]), .sl (.int .i64), .sl .str]]] svs) : Pure Try.prog 8 svs (.sv (.bool true)) := by
  obtain ⟨v1, _, rfl, h1, v2, _, rfl, h2, v3, _, rfl, h3, rfl⟩ := h
  obtain ⟨p, hp, w1⟩ := has_req h1
  obtain ⟨q, hq, w2⟩ := has_req h2
  obtain ⟨a, b, ha, hb, w3⟩ := has_rsps h3
  refine pure_wkM (m := [p.sv, q.sv, .agg (a.cells ++ b.cells)]) rfl (fun j hj => ?_) (law_wapart p q a b hp hq ha hb)
  match j, hj with
  | 0, _ => exact w1
  | 1, _ => exact w2
  | 2, _ => exact w3

set_option maxRecDepth 100000 in
theorem lifted (os : Os) (started : os.Started) (H : Type) (enc : TypeId × Value → H) :
    ReturnsInHanded {} Try.checked os 8 .any (Rows.wireApartSpec.pre6 enc Try.prog Try.f8 Rows.wireApartRow.domain false) (Rows.wireApartSpec.post enc Try.prog Try.f8 false true false false) := by
  refine returnsInHanded_of_change (C := Try.checked) own started (by kernel_rfl) Try.func8
    (ChangeSpec.witness6 (enc := enc) (C := Try.checked) false ⟨#[], #[.agg #[.int .u8 0, .string ByteArray.empty, .int .i64 0, .int .i64 0, .bool false, .bool false, .int .i64 0, .int .i64 0, .int .i64 0, .string ByteArray.empty, .string ByteArray.empty, .int .i64 0, .int .i64 0, .int .i64 0, .int .i64 0, .int .i64 0, .int .i64 0, .slice none 0 0], .agg #[.int .u8 0, .string ByteArray.empty, .int .i64 0, .int .i64 0, .bool false, .bool false, .int .i64 0, .int .i64 0, .int .i64 0, .string ByteArray.empty, .string ByteArray.empty, .int .i64 0, .int .i64 0, .int .i64 0, .int .i64 0, .int .i64 0, .int .i64 0, .slice none 0 0], .agg #[.int .u8 0, .int .i64 0, .int .i64 0, .int .i64 0, .bool false, .int .i64 0, .slice none 0 0, .slice none 0 0, .slice none 0 0, .int .u8 0, .int .i64 0, .int .i64 0, .int .i64 0, .bool false, .int .i64 0, .slice none 0 0, .slice none 0 0, .slice none 0 0]], []⟩ 8 (by kernel_rfl) (by kernel_rfl) (by kernel_rfl) (by kernel_rfl)) ?_
  intro W base args ds gs before hval hW hcnd _
  exact law_contract shapes all rfl (by kernel_rfl) (by kernel_rfl) (of_decide_eq_true (by kernel_rfl)) (fun ds h => by match ds, h with | [_, _, _], _ => rfl) rfl base args ds gs before hval hW

theorem over : Rows.wireApartRow.holds Try.pinned (OpenSpec.ofChange Rows.wireApartSpec) :=
  OpenClaim.holds_of_wide 8 Try.f8 rfl rfl rfl rfl rfl rfl rfl ⟨rfl, rfl, rfl, rfl, rfl⟩ rfl rfl rfl rfl rfl (by kernel_rfl) Try.func8 (by kernel_rfl)
    (of_decide_eq_true (by kernel_rfl)) (by unfold Func.isWrapper; first | (rw [if_pos (by decide +kernel)]; kernel_rfl) | (rw [if_neg (by decide +kernel)]; exact ⟨rfl, rfl⟩))
    (fun os started H enc _ => lifted os started H enc)

theorem proved : Rows.WireApartSaid := over
#print axioms proved
end Go.Proofs.Ytflcdbfcipkhkaa.wireApart
