/- Any number has the bytes that the document says, of few, and of any width. No condition: for every input. -/
import Derived.Test.YtabidcdfmkkegaaRows
import Derived.WalkKit
import Derived.ProofKit
import Derived.OpenShut
import Derived.Test.YtabidcdfmkkegaaAvAD
import Derived.Test.YtabidcdfmkkegaaBvZq
set_option linter.unusedVariables false
namespace Go.Proofs.Ytabidcdfmkkegaa.varnumPuts
open Go.ChangeShapes Go.WideShapes Go.ChangeAt Go.RowKit Go.Av

theorem own : ownKnob Try.prog.godebug = none := by kernel_rfl
theorem shapes : shapesOf Try.prog 9 Try.f4.params.toList = some [.int .i64, .int .u64, .int .i64] := by kernel_rfl

theorem all (svs : List SV) (h : hasVs [.int .i64, .int .u64, .int .i64] svs) : Pure Try.prog 4 svs (.sv (.bool true)) := by
  simp [hasVs, Sh.hasV, Sh.has] at h
  obtain ⟨_, _, rfl, ⟨n, rfl, hn⟩, _, _, rfl, ⟨u, rfl, hu⟩, _, rfl, w, rfl, hw⟩ := h
  exact puts_pure n u w (wf64 hn) (wfu64 hu)

set_option maxRecDepth 100000 in
theorem lifted (os : Os) (started : os.Started) (H : Type) (enc : TypeId × Value → H) :
    ReturnsInHanded {} Try.checked os 4 .any (Rows.varnumPutsSpec.pre6 enc Try.prog Try.f4 Rows.varnumPutsRow.domain false) (Rows.varnumPutsSpec.post enc Try.prog Try.f4 false true false false) := by
  refine returnsInHanded_of_change (C := Try.checked) own started (by kernel_rfl) Try.func4
    (ChangeSpec.witness6 (enc := enc) (C := Try.checked) false ⟨#[], #[.int .i64 0, .int .u64 0, .int .i64 0], []⟩ 8 (by kernel_rfl) (by kernel_rfl) (by kernel_rfl) (by kernel_rfl)) ?_
  intro W base args ds gs before hval hW hcnd _
  exact law_contract shapes all rfl (by kernel_rfl) (by kernel_rfl) (of_decide_eq_true (by kernel_rfl)) (fun ds h => by match ds, h with | [_, _, _], _ => rfl) rfl base args ds gs before hval hW

theorem over : Rows.varnumPutsRow.holds Try.pinned (OpenSpec.ofChange Rows.varnumPutsSpec) :=
  OpenClaim.holds_of_wide 4 Try.f4 rfl rfl rfl rfl rfl rfl rfl ⟨rfl, rfl, rfl, rfl, rfl⟩ rfl rfl rfl rfl rfl (by kernel_rfl) Try.func4 (by kernel_rfl)
    (of_decide_eq_true (by kernel_rfl)) (by unfold Func.isWrapper; first | (rw [if_pos (by decide +kernel)]; kernel_rfl) | (rw [if_neg (by decide +kernel)]; exact ⟨rfl, rfl⟩))
    (fun os started H enc _ => lifted os started H enc)

theorem proved : Rows.VarnumPutsSaid := over
#print axioms proved
end Go.Proofs.Ytabidcdfmkkegaa.varnumPuts
