/- Batch: what From and Back say, in plain words. -/
import Derived.Test.YtkiimlmlfhmkiaaCbN
import Derived.Test.YtkiimlmlfhmkiaaCbO

set_option linter.unusedSimpArgs false
set_option linter.unusedVariables false
set_option maxHeartbeats 1000000
namespace Go.Proofs.Ytkiimlmlfhmkiaa
open Go.Av

theorem filter_rise {α : Type} (p : α → Bool) (d : α) : ∀ l : List α, (∀ i j, i < j → j < l.length → p (l.getD i d) = true → p (l.getD j d) = true) → ∃ n, n ≤ l.length ∧ l.filter p = l.drop n ∧ ∀ i, i < l.length → (p (l.getD i d) = true ↔ n ≤ i)
  | [], _ => ⟨0, Nat.le_refl _, rfl, fun i hi => by simp at hi⟩
  | x :: l, h => by
    cases hx : p x with
    | true =>
      have hall : ∀ i, i < (x :: l).length → p ((x :: l).getD i d) = true := by
        intro i hi
        cases i with
        | zero => simpa using hx
        | succ i => exact h 0 (i + 1) (by omega) hi (by simpa using hx)
      refine ⟨0, Nat.zero_le _, ?_, fun i hi => ⟨fun _ => Nat.zero_le _, fun _ => hall i hi⟩⟩
      rw [List.drop_zero, List.filter_eq_self]
      intro a ha
      obtain ⟨i, hi, rfl⟩ := List.getElem_of_mem ha
      have := hall i hi
      rwa [List.getD_eq_getElem?_getD, List.getElem?_eq_getElem hi] at this
    | false =>
      obtain ⟨n, h1, h2, h3⟩ := filter_rise p d l (fun i j hij hj q => by
        have := h (i + 1) (j + 1) (by omega) (by simpa using hj) (by simpa using q)
        simpa using this)
      refine ⟨n + 1, by simpa using h1, by simp [hx, h2], fun i hi => ?_⟩
      cases i with
      | zero => simp [hx]
      | succ i => simpa using h3 i (by simpa using hi)
theorem atW_eq {b : Bat} (h : batE b = 0) {i : Nat} (hi : i < b.rs.length) : atW b (b.rs.getD i rec0) = b.ba + (b.rs.getD i rec0).dl ∧ 0 ≤ (b.rs.getD i rec0).dl ∧ (b.rs.getD i rec0).dl < b.ct := by
  obtain ⟨k1, k2, k3⟩ := chkL_spec (batE_chk h) i hi
  obtain ⟨a1, a2, a3, a4, a5, a6, a7, a8, a9, a10⟩ := batE_num h
  refine ⟨?_, by omega, k2⟩
  unfold atW
  rw [wrap_i64_in (by omega) (by omega)]
theorem atW_lt {b : Bat} (h : batE b = 0) {i j : Nat} (hij : i < j) (hj : j < b.rs.length) : atW b (b.rs.getD i rec0) < atW b (b.rs.getD j rec0) := by
  rw [(atW_eq h (Nat.lt_trans hij hj)).1, (atW_eq h hj).1]
  have := (chkL_spec (batE_chk h) j hj).2.2 i hij
  omega
/-- From drops those that stand ahead. -/
theorem from_spec {b : Bat} (h : batE b = 0) (off : Int) : ∃ n, n ≤ b.rs.length ∧ fromR b off = b.rs.drop n ∧ ∀ i, i < b.rs.length → (off ≤ atW b (b.rs.getD i rec0) ↔ n ≤ i) := by
  obtain ⟨n, h1, h2, h3⟩ := filter_rise (fun r => decide (off ≤ atW b r)) rec0 b.rs (fun i j hij hj q => by
    have q1 := of_decide_eq_true q
    have := atW_lt h hij hj
    exact decide_eq_true (by omega))
  exact ⟨n, h1, h2, fun i hi => by simpa using h3 i hi⟩
/-- At finds the first of those. -/
theorem at_spec {b : Bat} (h : batE b = 0) {off : Int} {n : Nat} (hn : n ≤ b.rs.length) (h3 : ∀ i, i < b.rs.length → (off ≤ atW b (b.rs.getD i rec0) ↔ n ≤ i)) :
    (n < b.rs.length ∧ atW b (b.rs.getD n rec0) = off ∧ atR b off = (b.rs.getD n rec0, true)) ∨ ((n < b.rs.length → atW b (b.rs.getD n rec0) ≠ off) ∧ atR b off = (rec0, false)) := by
  rcases idxP_spec (fun r => atW b r == off) b.rs 0 with ⟨e, q⟩ | ⟨k, hk, e, q1, q2⟩
  · refine .inr ⟨fun hlt z => ?_, ?_⟩
    · have hm : b.rs.getD n rec0 ∈ b.rs := by
        rw [List.getD_eq_getElem?_getD, List.getElem?_eq_getElem hlt]
        exact List.getElem_mem _
      have : (atW b (b.rs.getD n rec0) == off) = false := q _ hm
      rw [z] at this
      simp at this
    · unfold atR
      rw [e, if_pos (by decide)]
  · have hat : atW b (b.rs.getD k rec0) = off := by simpa using q1
    have hnk : n ≤ k := (h3 k hk).1 (by omega)
    have hkn : k = n := by
      rcases Nat.lt_or_ge n k with hlt | hge
      · have := (h3 n (by omega)).2 (Nat.le_refl _)
        have := atW_lt h hlt hk
        omega
      · omega
    subst hkn
    refine .inl ⟨hk, hat, ?_⟩
    unfold atR
    rw [e, if_neg (by omega), show ((0 + k : Nat) : Int).toNat = k by omega]
end Go.Proofs.Ytkiimlmlfhmkiaa
