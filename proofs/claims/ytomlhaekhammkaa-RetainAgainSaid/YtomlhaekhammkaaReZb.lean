/- What stays stays, if it is asked again; later, or by lesser limits, no fewer go. No condition: for every input. -/
import Derived.Test.YtomlhaekhammkaaRows
import Derived.WalkKit
import Derived.ProofKit
import Derived.OpenShut
import Derived.Test.YtomlhaekhammkaaAvAD
import Derived.Test.YtomlhaekhammkaaReZp

set_option linter.unusedVariables false
namespace Go.Proofs.Ytomlhaekhammkaa.retainAgain
open Go.ChangeShapes Go.WideShapes Go.ChangeAt Go.RowKit Go.Av

theorem own : ownKnob Try.prog.godebug = none := by kernel_rfl
theorem shapes : shapesOf Try.prog 9 Try.f4.params.toList = some [.sl (.st [.int .i64, .int .i64, .int .i64, .int .i64]), .st [.int .i64, .int .i64], .st [.int .i64, .int .i64]] := by kernel_rfl

theorem all (svs : List SV) (h : hasVs [.sl (.st [.int .i64, .int .i64, .int .i64, .int .i64]), .st [.int .i64, .int .i64], .st [.int .i64, .int .i64]] svs) : Pure Try.prog 4 svs (.sv (.bool true)) := by
  obtain ⟨v1, _, rfl, h1, v2, _, rfl, h2, v3, _, rfl, h3, rfl⟩ := h
  obtain ⟨r, rfl, hr1, hr2⟩ := has_rule h2
  obtain ⟨a, b, rfl, ha, hb⟩ := has_pair h3
  rcases has_seglist h1 with rfl | ⟨l, rfl, hl⟩
  · exact pure_nils (sz := 4) 0 rfl (again_pure [] r a b ha hb hr1 hr2)
  · exact again_pure l r a b ha hb hr1 hr2

set_option maxRecDepth 100000 in
theorem lifted (os : Os) (started : os.Started) (H : Type) (enc : TypeId × Value → H) :
    ReturnsInHanded {} Try.checked os 4 .any (Rows.retainAgainSpec.pre6 enc Try.prog Try.f4 Rows.retainAgainRow.domain false) (Rows.retainAgainSpec.post enc Try.prog Try.f4 false true false false) := by
  refine returnsInHanded_of_change (C := Try.checked) own started (by kernel_rfl) Try.func4
    (ChangeSpec.witness6 (enc := enc) (C := Try.checked) false ⟨#[], #[.slice none 0 0, .agg #[.int .i64 0, .int .i64 0], .agg #[.int .i64 0, .int .i64 0]], []⟩ 8 (by kernel_rfl) (by kernel_rfl) (by kernel_rfl) (by kernel_rfl)) ?_
  intro W base args ds gs before hval hW hcnd _
  exact law_contract shapes all rfl (by kernel_rfl) (by kernel_rfl) (of_decide_eq_true (by kernel_rfl)) (fun ds h => by match ds, h with | [_, _, _], _ => rfl) rfl base args ds gs before hval hW

theorem over : Rows.retainAgainRow.holds Try.pinned (OpenSpec.ofChange Rows.retainAgainSpec) :=
  OpenClaim.holds_of_wide 4 Try.f4 rfl rfl rfl rfl rfl rfl rfl ⟨rfl, rfl, rfl, rfl, rfl⟩ rfl rfl rfl rfl rfl (by kernel_rfl) Try.func4 (by kernel_rfl)
    (of_decide_eq_true (by kernel_rfl)) (by unfold Func.isWrapper; first | (rw [if_pos (by decide +kernel)]; kernel_rfl) | (rw [if_neg (by decide +kernel)]; exact ⟨rfl, rfl⟩))
    (fun os started H enc _ => lifted os started H enc)

theorem proved : Rows.RetainAgainSaid := over
#print axioms proved
end Go.Proofs.Ytomlhaekhammkaa.retainAgain
