import Derived.Test.YtabidcdfmkkegaaBvC

set_option linter.unusedSimpArgs false
set_option linter.unusedVariables false
set_option maxHeartbeats 1000000
namespace Go.Proofs.Ytabidcdfmkkegaa
open Go.Av

theorem tmod256 (v : Nat) : (v : Int).tmod 256 = ((v % 256 : Nat) : Int) := tmod_nat v 256

theorem rfixed_pure (u : Nat) (w : Int) (hu : u < 18446744073709551616) : Pure Try.prog 21 [.int .u64 u, .int .i64 w] (.own 1 (bs (fixL (wid w) u))) := by
  refine pure_go R0_ok Try.func21 Try.ntmps21 comp21 cres21 (by decide) (by simp) ?_
  have hw := wid_le w
  have hwd : ∀ i : Nat, (i < wid w ↔ ((i : Int) < w ∧ (i : Int) < 8)) := fun i => by unfold wid; split <;> (try split) <;> omega
  generalize hW : wid w = W at hw hwd
  simp [ac21, ar21]
  refine awpR_loop (α := Nat) (fun i => i ≤ W) (fun i => { n := 25, sl := [(0, .sv (.int .u64 (u / 256 ^ i : Nat))), (1, .sv (.int .i64 w)), (5, .own 1 (bs (fixL i u))), (6, .sv (.int .i64 i))], bx := [], hp := fun _ => none })
    (fun i => W - i) 0 (by simp) ?_ ?_
  · simp [fixL]
  intro i hi
  by_cases hlt : i < W
  · obtain ⟨h1, h2⟩ := (hwd i).1 hlt
    have e4 : IntKind.i64.wrap ((i : Int) + 1) = ((i + 1 : Nat) : Int) := by rw [wrap_i64_in (by omega) (by omega)]; omega
    simp [h1, h2, e4, -Int.natCast_add, -Int.natCast_ediv, -Int.natCast_pow]
    have hd : u / 256 ^ (i + 1) = u / 256 ^ i / 256 := by rw [Nat.pow_succ, Nat.div_div_eq_div_mul]
    have hlt2 : u / 256 ^ i < 18446744073709551616 := Nat.lt_of_le_of_lt (Nat.div_le_self _ _) hu
    refine ⟨by omega, i + 1, by omega, by omega, by rw [hd]; generalize u / 256 ^ i = q at hlt2 ⊢; rw [IntKind.wrap_u64]; omega, ?_, rfl⟩
    rw [tmod256, w8_nat, fixL_cons, bs_cons]
    simp
  · have hni : ¬ ((i : Int) < w ∧ (i : Int) < 8) := fun q => hlt ((hwd i).2 q)
    have : i = W := by omega
    subst this
    by_cases h1 : (i : Int) < w
    · have h2 : ¬ (i : Int) < 8 := fun q => hni ⟨h1, q⟩
      simp [h1, h2]
    · simp [h1]

theorem unfixed_pure (l : List Nat) (hl : Bytes l) (hn : l.length < 4611686018427387904) : Pure Try.prog 24 [.sl 1 (bs l)] (.sv (.int .u64 (unF l))) := by
  refine pure_go R0_ok Try.func24 Try.ntmps24 comp24 cres24 (by decide) (by simp) ?_
  simp [ac24, ar24]
  refine awpR_loop (α := Nat) (fun i => i ≤ l.length) (fun i => { n := 19, sl := [(3, .sv (.int .u64 (unF (l.take i)))), (6, .sv (.sl 1 (bs l))), (7, .sv (.int .i64 l.length)), (8, .sv (.int .i64 i))], bx := [], hp := fun _ => none })
    (fun i => l.length - i) 0 (by simp) ?_ ?_
  · simp [unF, unL]
  intro i hi
  by_cases hlt : i < l.length
  · have e4 : IntKind.i64.wrap ((i : Int) + 1) = ((i + 1 : Nat) : Int) := by rw [wrap_i64_in (by omega) (by omega)]; omega
    simp [hlt, e4, -Int.natCast_add]
    refine ⟨i + 1, by omega, by omega, ?_, rfl⟩
    rw [shl8_or _ _ (unF_lt _) (hl.get hlt), unF_step l i hlt]
  · have : i = l.length := by omega
    subst this
    simp

theorem runfixed_pure (l : List Nat) (hl : Bytes l) (hn : l.length < 4611686018427387904) : Pure Try.prog 25 [.sl 1 (bs l)] (.sv (.int .u64 (unF l))) := by
  refine pure_go R0_ok Try.func25 Try.ntmps25 comp25 cres25 (by decide) (by simp) ?_
  have e0 : (if IntKind.i64.wrap ((l.length : Int) - 8) > 0 then IntKind.i64.wrap ((l.length : Int) - 8) else 0) = ((l.length - 8 : Nat) : Int) := by
    rw [wrap_i64_in (by omega) (by omega)]; split <;> omega
  simp only [gt_iff_lt] at e0
  simp [ac25, ar25, e0]
  refine awpR_loop (α := Nat) (fun i => l.length - 8 ≤ i ∧ i ≤ l.length) (fun i => { n := 24, sl := [(0, .sv (.sl 1 (bs l))), (3, .sv (.int .u64 (unF ((l.drop (l.length - 8)).take (i - (l.length - 8)))))), (4, .sv (.int .i64 i))], bx := [], hp := fun _ => none })
    (fun i => l.length - i) (l.length - 8) (by omega) ?_ ?_
  · simp [unF, unL]
  rintro i ⟨hi0, hi⟩
  by_cases hlt : i < l.length
  · have e4 : IntKind.i64.wrap ((i : Int) + 1) = ((i + 1 : Nat) : Int) := by rw [wrap_i64_in (by omega) (by omega)]; omega
    simp [hlt, e4, -Int.natCast_add]
    refine ⟨i + 1, by omega, by omega, ?_, rfl⟩
    have hx := unF_step (l.drop (l.length - 8)) (i - (l.length - 8)) (by simp; omega)
    rw [show i + 1 - (l.length - 8) = i - (l.length - 8) + 1 by omega, hx]
    have hy := unF_lt ((l.drop (l.length - 8)).take (i - (l.length - 8)))
    generalize unF ((l.drop (l.length - 8)).take (i - (l.length - 8))) = q at hy ⊢
    have hc := hl.get hlt
    have hz : (l.drop (l.length - 8))[i - (l.length - 8)]'(by simp; omega) = l[i] := by
      rw [List.getElem_drop]; congr 1; omega
    rw [hz, IntKind.wrap_u64, IntKind.wrap_u64, IntKind.wrap_u64]
    omega
  · have : i = l.length := by omega
    subst this
    simp
    rw [List.take_of_length_le (by simp), unF_last8]
end Go.Proofs.Ytabidcdfmkkegaa
