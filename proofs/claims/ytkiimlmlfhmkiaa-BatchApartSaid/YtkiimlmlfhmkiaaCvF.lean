import Derived.Test.YtkiimlmlfhmkiaaCvE

set_option linter.unusedSimpArgs false
set_option linter.unusedVariables false
set_option maxHeartbeats 1000000
namespace Go.Proofs.Ytkiimlmlfhmkiaa
open Go.Av

theorem rget_pure (l : List Nat) (hl : Bytes l) (hn : l.length < 4611686018427387904) : Pure Try.prog 97 [.sl 1 (bs l)] (.tup [.sv (.int .i64 (getN l).1), .sv (.int .i64 (getN l).2.1), .sv (.int .i64 (getN l).2.2)]) := by
  refine pure_go R2_ok Try.func97 Try.ntmps97 comp97 cres97 (by decide) (by simp) ?_
  simp [ac97, ar97]
  refine awpR_loop (α := Nat) (fun i => i ≤ l.length ∧ i ≤ 10 ∧ ∀ j (h : j < l.length), j < i → 128 ≤ l[j]) (fun i => { n := 60, sl := [(0, .sv (.sl 1 (bs l))), (5, .sv (.int .i64 i))], bx := [], hp := fun _ => none })
    (fun i => 10 - i) 0 (by simp) ?_ ?_
  · simp
  rintro i ⟨hi, hi10, hb⟩
  have e4 : IntKind.i64.wrap ((i : Int) + 1) = ((i + 1 : Nat) : Int) := by rw [wrap_i64_in (by omega) (by omega)]; omega
  by_cases h10 : i = 10
  · have hg := getN_none (l := l) (fun j h q => hb j h (by omega))
    rw [if_neg (by omega)] at hg
    have h1 : ¬ (i : Int) < 10 := by omega
    have h3 : (i : Int) = 10 := by omega
    by_cases hlt : i < l.length
    · simp [hlt, hg, h1]
      exact fun q => absurd h3 q
    · have : i = l.length := by omega
      subst this
      simp [hg, h1]
      exact h3
  by_cases hend : i = l.length
  · have hg := getN_none (l := l) (fun j h q => hb j h (by omega))
    rw [if_pos (by omega)] at hg
    have h10' : ¬ (i : Int) = 10 := by omega
    subst hend
    simp [hg, h10']
  have hlt : i < l.length := by omega
  have hc8 := hl.get hlt
  by_cases hc' : 128 ≤ l[i]
  · have h1 : (i : Int) < 10 := by omega
    have h2 : (128 : Int) ≤ l[i] := by omega
    simp [hlt, h1, h2, e4, -Int.natCast_add]
    refine ⟨i + 1, ⟨by omega, by omega, fun j h q => ?_⟩, by omega, rfl⟩
    by_cases e : j = i
    · subst e; omega
    · exact hb j h (by omega)
  have hc : l[i] < 128 := by omega
  have h1 : (i : Int) < 10 := by omega
  have h2 : ¬ (128 : Int) ≤ l[i] := by omega
  have h3 : ¬ (i : Int) = 10 := by omega
  have h4 : ¬ (i : Int) = l.length := by omega
  have hg := getN_found hlt (by omega) hb hc
  simp [hlt, h1, h2, h3, h4]
  refine awpR_loop (α := Nat) (fun k => k ≤ i + 1) (fun k => { n := 60, sl := [(0, .sv (.sl 1 (bs l))), (5, .sv (.int .i64 i)), (6, .sv (.int .u64 (valN ((l.take (i + 1)).drop k) % 18446744073709551616 : Nat))), (7, .sv (.int .i64 ((k : Int) - 1)))], bx := [], hp := fun _ => none })
    (fun k => k) (i + 1) (by omega) ?_ ?_
  · simp [valN]
  intro k hk
  by_cases hk0 : k = 0
  · subst hk0
    simp only [List.drop_zero]
    generalize hV : valN (l.take (i + 1)) % 18446744073709551616 = V at hg
    have hVlt : V < 18446744073709551616 := by rw [← hV]; exact Nat.mod_lt _ (by decide)
    have hso := sOf_eq (layN_bytes V) (hl.take (i + 1))
    simp [e4, bs_take, bs_str, hso, -Int.natCast_add]
    refine ⟨⟨⟨⟨⟨by omega, by omega⟩, bs_byte _⟩, by omega⟩, bs_byte _⟩, fun q => ?_, fun q => ?_⟩
    · rw [if_neg q] at hg; simp [hg]
    · rw [if_pos q] at hg; simp [hg]; exact ⟨by omega, by omega⟩
  · have hk1 : 0 ≤ (k : Int) - 1 := by omega
    have hk2 : ((k : Int) - 1).toNat = k - 1 := by omega
    have hk3 : k - 1 < l.length := by omega
    have hk4 : (k : Int) - 1 < l.length := by omega
    have hk5 : ¬ (k : Int) < 1 := by omega
    have hk6 : (1 : Int) ≤ k := by omega
    simp [hk1, hk2, hk3, hk4, hk5, hk6, -Int.natCast_emod]
    refine ⟨k - 1, by omega, by omega, ?_, by rw [wrap_i64_in (by omega) (by omega)]; omega⟩
    have e1 : (l.take (i + 1)).drop (k - 1) = l[k - 1] :: (l.take (i + 1)).drop k := by
      have := List.drop_eq_getElem_cons (l := l.take (i + 1)) (i := k - 1) (by simp; omega)
      rw [this, List.getElem_take, show k - 1 + 1 = k by omega]
    have hc := hl.get hk3
    have e2 : ((l[k - 1] : Nat) : Int).tmod 128 = ((l[k - 1] % 128 : Nat) : Int) := tmod_nat _ 128
    rw [e1, valN, e2, IntKind.wrap_u64, IntKind.wrap_u64, IntKind.wrap_u64]
    generalize valN ((l.take (i + 1)).drop k) = v
    omega
end Go.Proofs.Ytkiimlmlfhmkiaa
