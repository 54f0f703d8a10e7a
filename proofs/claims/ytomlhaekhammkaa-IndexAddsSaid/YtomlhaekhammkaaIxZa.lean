/- Any entry put into any index, and any entries put into a new one, make what the document says; the index stays as it is; whether any two are one is told as it says. No condition: for every input. -/
import Derived.Test.YtomlhaekhammkaaRows
import Derived.WalkKit
import Derived.ProofKit
import Derived.OpenShut
import Derived.Test.YtomlhaekhammkaaAvAD
import Derived.Test.YtomlhaekhammkaaIxZp

set_option linter.unusedVariables false
namespace Go.Proofs.Ytomlhaekhammkaa.indexAdds
open Go.ChangeShapes Go.WideShapes Go.ChangeAt Go.RowKit Go.Av

theorem own : ownKnob Try.prog.godebug = none := by kernel_rfl
theorem shapes : shapesOf Try.prog 9 Try.f7.params.toList = some [.st [.int .i64, .int .i64, .sl (.st [.int .i64, .int .i64, .int .i64])], .st [.int .i64, .int .i64, .sl (.st [.int .i64, .int .i64, .int .i64])], .st [.int .i64, .int .i64, .int .i64]] := by kernel_rfl

theorem all (svs : List SV) (h : hasVs [.st [.int .i64, .int .i64, .sl (.st [.int .i64, .int .i64, .int .i64])], .st [.int .i64, .int .i64, .sl (.st [.int .i64, .int .i64, .int .i64])], .st [.int .i64, .int .i64, .int .i64]] svs) : Pure Try.prog 7 svs (.sv (.bool true)) := by
  obtain ⟨v1, _, rfl, h1, v2, _, rfl, h2, v3, _, rfl, h3, rfl⟩ := h
  obtain ⟨a, b, l, u, rfl, hl⟩ := has_idx h1
  obtain ⟨c, d, m, v, rfl, hm⟩ := has_idx h2
  obtain ⟨e, rfl⟩ := has_ent h3
  exact pure_wk3 (WkA.idx hl) (WkA.idx hm) (WkA.refl _) (adds_pure (a, b, l) (c, d, m) e)

set_option maxRecDepth 100000 in
theorem lifted (os : Os) (started : os.Started) (H : Type) (enc : TypeId × Value → H) :
    ReturnsInHanded {} Try.checked os 7 .any (Rows.indexAddsSpec.pre6 enc Try.prog Try.f7 Rows.indexAddsRow.domain false) (Rows.indexAddsSpec.post enc Try.prog Try.f7 false true false false) := by
  refine returnsInHanded_of_change (C := Try.checked) own started (by kernel_rfl) Try.func7
    (ChangeSpec.witness6 (enc := enc) (C := Try.checked) false ⟨#[], #[.agg #[.int .i64 0, .int .i64 0, .slice none 0 0], .agg #[.int .i64 0, .int .i64 0, .slice none 0 0], .agg #[.int .i64 0, .int .i64 0, .int .i64 0]], []⟩ 8 (by kernel_rfl) (by kernel_rfl) (by kernel_rfl) (by kernel_rfl)) ?_
  intro W base args ds gs before hval hW hcnd _
  exact law_contract shapes all rfl (by kernel_rfl) (by kernel_rfl) (of_decide_eq_true (by kernel_rfl)) (fun ds h => by match ds, h with | [_, _, _], _ => rfl) rfl base args ds gs before hval hW

theorem over : Rows.indexAddsRow.holds Try.pinned (OpenSpec.ofChange Rows.indexAddsSpec) :=
  OpenClaim.holds_of_wide 7 Try.f7 rfl rfl rfl rfl rfl rfl rfl ⟨rfl, rfl, rfl, rfl, rfl⟩ rfl rfl rfl rfl rfl (by kernel_rfl) Try.func7 (by kernel_rfl)
    (of_decide_eq_true (by kernel_rfl)) (by unfold Func.isWrapper; first | (rw [if_pos (by decide +kernel)]; kernel_rfl) | (rw [if_neg (by decide +kernel)]; exact ⟨rfl, rfl⟩))
    (fun os started H enc _ => lifted os started H enc)

theorem proved : Rows.IndexAddsSaid := over
#print axioms proved
end Go.Proofs.Ytomlhaekhammkaa.indexAdds
