import Derived.Test.YtkiimlmlfhmkiaaCvC

set_option linter.unusedSimpArgs false
set_option linter.unusedVariables false
set_option maxHeartbeats 1000000
namespace Go.Proofs.Ytkiimlmlfhmkiaa
open Go.Av

theorem tmod256 (v : Nat) : (v : Int).tmod 256 = ((v % 256 : Nat) : Int) := tmod_nat v 256

theorem unfixed_pure (l : List Nat) (hl : Bytes l) (hn : l.length < 4611686018427387904) : Pure Try.prog 92 [.sl 1 (bs l)] (.sv (.int .u64 (unF l))) := by
  refine pure_go R0_ok Try.func92 Try.ntmps92 comp92 cres92 (by decide) (by simp) ?_
  simp [ac92, ar92]
  refine awpR_loop (α := Nat) (fun i => i ≤ l.length) (fun i => { n := 19, sl := [(3, .sv (.int .u64 (unF (l.take i)))), (6, .sv (.sl 1 (bs l))), (7, .sv (.int .i64 l.length)), (8, .sv (.int .i64 i))], bx := [], hp := fun _ => none })
    (fun i => l.length - i) 0 (by simp) ?_ ?_
  · simp [unF, unL]
  intro i hi
  by_cases hlt : i < l.length
  · have e4 : IntKind.i64.wrap ((i : Int) + 1) = ((i + 1 : Nat) : Int) := by rw [wrap_i64_in (by omega) (by omega)]; omega
    simp [hlt, e4, -Int.natCast_add]
    refine ⟨i + 1, by omega, by omega, ?_, rfl⟩
    rw [shl8_or _ _ (unF_lt _) (hl.get hlt), unF_step l i hlt]
  · have : i = l.length := by omega
    subst this
    simp

theorem runfixed_pure (l : List Nat) (hl : Bytes l) (hn : l.length < 4611686018427387904) : Pure Try.prog 104 [.sl 1 (bs l)] (.sv (.int .u64 (unF l))) := by
  refine pure_go R0_ok Try.func104 Try.ntmps104 comp104 cres104 (by decide) (by simp) ?_
  have e0 : (if IntKind.i64.wrap ((l.length : Int) - 8) > 0 then IntKind.i64.wrap ((l.length : Int) - 8) else 0) = ((l.length - 8 : Nat) : Int) := by
    rw [wrap_i64_in (by omega) (by omega)]; split <;> omega
  simp only [gt_iff_lt] at e0
  simp [ac104, ar104, e0]
  refine awpR_loop (α := Nat) (fun i => l.length - 8 ≤ i ∧ i ≤ l.length) (fun i => { n := 24, sl := [(0, .sv (.sl 1 (bs l))), (3, .sv (.int .u64 (unF ((l.drop (l.length - 8)).take (i - (l.length - 8)))))), (4, .sv (.int .i64 i))], bx := [], hp := fun _ => none })
    (fun i => l.length - i) (l.length - 8) (by omega) ?_ ?_
  · simp [unF, unL]
  rintro i ⟨hi0, hi⟩
  by_cases hlt : i < l.length
  · have e4 : IntKind.i64.wrap ((i : Int) + 1) = ((i + 1 : Nat) : Int) := by rw [wrap_i64_in (by omega) (by omega)]; omega
    simp [hlt, e4, -Int.natCast_add]
    refine ⟨i + 1, by omega, by omega, ?_, rfl⟩
    have hx := unF_step (l.drop (l.length - 8)) (i - (l.length - 8)) (by simp; omega)
    rw [show i + 1 - (l.length - 8) = i - (l.length - 8) + 1 by omega, hx]
    have hy := unF_lt ((l.drop (l.length - 8)).take (i - (l.length - 8)))
    generalize unF ((l.drop (l.length - 8)).take (i - (l.length - 8))) = q at hy ⊢
    have hc := hl.get hlt
    have hz : (l.drop (l.length - 8))[i - (l.length - 8)]'(by simp; omega) = l[i] := by
      rw [List.getElem_drop]; congr 1; omega
    rw [hz, IntKind.wrap_u64, IntKind.wrap_u64, IntKind.wrap_u64]
    omega
  · have : i = l.length := by omega
    subst this
    simp
    rw [List.take_of_length_le (by simp), unF_last8]
end Go.Proofs.Ytkiimlmlfhmkiaa
