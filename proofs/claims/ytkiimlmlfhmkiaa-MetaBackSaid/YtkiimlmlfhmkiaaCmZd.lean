/- What was laid out is read back; with a byte more or less it is none. No condition: for every input. -/
import Derived.Test.YtkiimlmlfhmkiaaRows
import Derived.WalkKit
import Derived.ProofKit
import Derived.OpenShut
import Derived.Test.YtkiimlmlfhmkiaaAvAD
import Derived.Test.YtkiimlmlfhmkiaaMCbU

set_option linter.unusedVariables false
namespace Go.Proofs.Ytkiimlmlfhmkiaa.metaBack
open Go.ChangeShapes Go.WideShapes Go.ChangeAt Go.RowKit Go.Av

theorem own : ownKnob Try.prog.godebug = none := by kernel_rfl
theorem shapes : shapesOf Try.prog 9 Try.f6.params.toList = some [.int .i64, .sl (.st [.int .u8, .int .i64, .int .i64, .str, .int .i64, .bool, .int .i64, .int .i64, .int .i64])] := by kernel_rfl

theorem all (svs : List SV) (h : hasVs [.int .i64, .sl (.st [.int .u8, .int .i64, .int .i64, .str, .int .i64, .bool, .int .i64, .int .i64, .int .i64])] svs) : Pure Try.prog 6 svs (.sv (.bool true)) := by
  obtain ⟨v1, _, rfl, h1, v2, _, rfl, h2, rfl⟩ := h
  obtain ⟨n, rfl, hn⟩ := has_int h1
  obtain ⟨l, hl, k2⟩ := has_metsV h2
  exact pure_wk2 (a' := .int .i64 n) (show SV.int .i64 n = .int .i64 n from rfl) k2 (law_mback n l hn hl)

set_option maxRecDepth 100000 in
theorem lifted (os : Os) (started : os.Started) (H : Type) (enc : TypeId × Value → H) :
    ReturnsInHanded {} Try.checked os 6 .any (Rows.metaBackSpec.pre6 enc Try.prog Try.f6 Rows.metaBackRow.domain false) (Rows.metaBackSpec.post enc Try.prog Try.f6 false true false false) := by
  refine returnsInHanded_of_change (C := Try.checked) own started (by kernel_rfl) Try.func6
    (ChangeSpec.witness6 (enc := enc) (C := Try.checked) false ⟨#[], #[.int .i64 0, .slice none 0 0], []⟩ 8 (by kernel_rfl) (by kernel_rfl) (by kernel_rfl) (by kernel_rfl)) ?_
  intro W base args ds gs before hval hW hcnd _
  exact law_contract shapes all rfl (by kernel_rfl) (by kernel_rfl) (of_decide_eq_true (by kernel_rfl)) (fun ds h => by match ds, h with | [_, _], _ => rfl) rfl base args ds gs before hval hW

theorem over : Rows.metaBackRow.holds Try.pinned (OpenSpec.ofChange Rows.metaBackSpec) :=
  OpenClaim.holds_of_wide 6 Try.f6 rfl rfl rfl rfl rfl rfl rfl ⟨rfl, rfl, rfl, rfl, rfl⟩ rfl rfl rfl rfl rfl (by kernel_rfl) Try.func6 (by kernel_rfl)
    (of_decide_eq_true (by kernel_rfl)) (by unfold Func.isWrapper; first | (rw [if_pos (by decide +kernel)]; kernel_rfl) | (rw [if_neg (by decide +kernel)]; exact ⟨rfl, rfl⟩))
    (fun os started H enc _ => lifted os started H enc)

theorem proved : Rows.MetaBackSaid := over
#print axioms proved
end Go.Proofs.Ytkiimlmlfhmkiaa.metaBack
