import Derived.Test.YtomlhaekhammkaaIxG

set_option linter.unusedSimpArgs false
set_option linter.unusedVariables false
namespace Go.Proofs.Ytomlhaekhammkaa
open Go.Av

theorem getD_app_left {l m : List Ent} {i : Nat} (h : i < l.length) : (l ++ m).getD i (0, 0, 0) = l.getD i (0, 0, 0) := by
  simp only [List.getD_eq_getElem?_getD, List.getElem?_append_left h]
theorem getD_snoc (l : List Ent) (a : Ent) : (l ++ [a]).getD l.length (0, 0, 0) = a := by
  simp only [List.getD_eq_getElem?_getD, List.getElem?_append_right (Nat.le_refl _), Nat.sub_self, List.getElem?_cons_zero, Option.getD_some]

/-- What an index holds of a list: each N-th entry, its time not below those ahead. -/
structure Bs (N : Nat) (l B : List Ent) : Prop where
  len : ∀ k, k < B.length ↔ k * N < l.length
  off : ∀ k, k < B.length → (B.getD k (0, 0, 0)).1 = (l.getD (k * N) (0, 0, 0)).1
  pl : ∀ k, k < B.length → (B.getD k (0, 0, 0)).2.2 = (l.getD (k * N) (0, 0, 0)).2.2
  tge : ∀ k, k < B.length → (l.getD (k * N) (0, 0, 0)).2.1 ≤ (B.getD k (0, 0, 0)).2.1
  tex : ∀ k, k < B.length → ∃ j, j ≤ k ∧ (B.getD k (0, 0, 0)).2.1 = (l.getD (j * N) (0, 0, 0)).2.1
  rise : ∀ k k', k' ≤ k → k < B.length → (B.getD k' (0, 0, 0)).2.1 ≤ (B.getD k (0, 0, 0)).2.1

theorem tmodn (a b : Nat) : (a : Int).tmod b = ((a % b : Nat) : Int) := (Int.ofNat_tmod a b).symm

theorem bs_step {N : Nat} (hN : 1 ≤ N) {l B : List Ent} (h : Bs N l B) (a : Ent) : Bs N (l ++ [a]) (if l.length % N = 0 then B ++ [addT B a] else B) := by
  have hkl : ∀ k, k < B.length → k * N < l.length := fun k hk => (h.len k).1 hk
  split
  · rename_i hm
    have hBl : B.length * N = l.length := by
      obtain ⟨q, hq⟩ : ∃ q, l.length = q * N := ⟨l.length / N, by rw [Nat.mul_comm]; exact (Nat.mul_div_cancel' (Nat.dvd_of_mod_eq_zero hm)).symm⟩
      have h1 : B.length ≤ q := by
        apply Classical.byContradiction; intro hh
        have := hkl q (by omega)
        omega
      have h2 : q ≤ B.length := by
        apply Classical.byContradiction; intro hh
        have h3 := mt (h.len B.length).2 (Nat.lt_irrefl _)
        have h4 : B.length * N < q * N := Nat.mul_lt_mul_of_pos_right (by omega) (by omega)
        omega
      have : B.length = q := by omega
      rw [this]; exact hq.symm
    have hnew : (B ++ [addT B a]).getD B.length (0, 0, 0) = addT B a := getD_snoc B _
    have hlnew : (l ++ [a]).getD (B.length * N) (0, 0, 0) = a := by rw [hBl]; exact getD_snoc l a
    have hold : ∀ k, k < B.length → (B ++ [addT B a]).getD k (0, 0, 0) = B.getD k (0, 0, 0) := fun k hk => getD_app_left hk
    have hlold : ∀ k, k < B.length → (l ++ [a]).getD (k * N) (0, 0, 0) = l.getD (k * N) (0, 0, 0) := fun k hk => getD_app_left (hkl k hk)
    have split1 : ∀ k, k < (B ++ [addT B a]).length → k < B.length ∨ k = B.length := fun k hk => by simp at hk; omega
    have hT1 : (addT B a).1 = a.1 := by unfold addT; split <;> rfl
    have hT3 : (addT B a).2.2 = a.2.2 := by unfold addT; split <;> rfl
    have hT2 : a.2.1 ≤ (addT B a).2.1 := by
      unfold addT
      split
      · exact Int.le_refl _
      · simp only []; split <;> omega
    have hT4 : ∀ k, k < B.length → (B.getD k (0, 0, 0)).2.1 ≤ (addT B a).2.1 := fun k hk => by
      have := h.rise (B.length - 1) k (by omega) (by omega)
      unfold addT
      rw [if_neg (by omega)]
      simp only []
      split <;> omega
    have hT5 : (addT B a).2.1 = a.2.1 ∨ ((addT B a).2.1 = (B.getD (B.length - 1) (0, 0, 0)).2.1 ∧ 0 < B.length) := by
      unfold addT
      split
      · exact .inl rfl
      · simp only []
        split
        · exact .inr ⟨rfl, by omega⟩
        · exact .inl rfl
    constructor
    · intro k
      simp only [List.length_append, List.length_cons, List.length_nil]
      constructor
      · intro hk
        have : k * N ≤ B.length * N := Nat.mul_le_mul_right N (by omega)
        omega
      · intro hk
        apply Classical.byContradiction; intro hh
        have : (B.length + 1) * N ≤ k * N := Nat.mul_le_mul_right N (by omega)
        rw [Nat.succ_mul] at this
        omega
    · intro k hk
      rcases split1 k hk with q | rfl
      · rw [hold k q, hlold k q]; exact h.off k q
      · rw [hnew, hlnew]; exact hT1
    · intro k hk
      rcases split1 k hk with q | rfl
      · rw [hold k q, hlold k q]; exact h.pl k q
      · rw [hnew, hlnew]; exact hT3
    · intro k hk
      rcases split1 k hk with q | rfl
      · rw [hold k q, hlold k q]; exact h.tge k q
      · rw [hnew, hlnew]; exact hT2
    · intro k hk
      rcases split1 k hk with q | rfl
      · obtain ⟨j, h1, h2⟩ := h.tex k q
        exact ⟨j, h1, by rw [hold k q, hlold j (by omega)]; exact h2⟩
      · rw [hnew]
        rcases hT5 with e | ⟨e, h0⟩
        · exact ⟨B.length, Nat.le_refl _, by rw [hlnew]; exact e⟩
        · obtain ⟨j, h1, h2⟩ := h.tex (B.length - 1) (by omega)
          exact ⟨j, by omega, by rw [hlold j (by omega), e]; exact h2⟩
    · intro k k' hkk hk
      rcases split1 k hk with q | rfl
      · rw [hold k q, hold k' (by omega)]; exact h.rise k k' hkk q
      · rw [hnew]
        by_cases e : k' = B.length
        · subst e; rw [hnew]; exact Int.le_refl _
        · rw [hold k' (by omega)]; exact hT4 k' (by omega)
  · rename_i hm
    have hlold : ∀ k, k < B.length → (l ++ [a]).getD (k * N) (0, 0, 0) = l.getD (k * N) (0, 0, 0) := fun k hk => getD_app_left (hkl k hk)
    constructor
    · intro k
      rw [h.len k]
      simp only [List.length_append, List.length_cons, List.length_nil]
      constructor
      · intro hk; omega
      · intro hk
        by_cases e : k * N = l.length
        · exact absurd (by rw [← e]; exact Nat.mul_mod_left k N) hm
        · omega
    · intro k hk; rw [hlold k hk]; exact h.off k hk
    · intro k hk; rw [hlold k hk]; exact h.pl k hk
    · intro k hk; rw [hlold k hk]; exact h.tge k hk
    · intro k hk
      obtain ⟨j, h1, h2⟩ := h.tex k hk
      exact ⟨j, h1, by rw [hlold j (by omega)]; exact h2⟩
    · exact h.rise

theorem bs_take (N : Nat) (hN : 1 ≤ N) (l : List Ent) : ∀ i, i ≤ l.length → Bs N (l.take i) (buildX N (l.take i)).2.2
  | 0, _ => by
    have e : (buildX N (l.take 0)).2.2 = [] := rfl
    rw [e]
    exact ⟨fun k => by simp, fun k hk => by simp at hk, fun k hk => by simp at hk, fun k hk => by simp at hk, fun k hk => by simp at hk, fun k k' _ hk => by simp at hk⟩
  | i + 1, hi => by
    have ih := bs_take N hN l i (by omega)
    have hlt : i < l.length := by omega
    rw [List.take_succ_eq_append_getElem hlt, buildX_snoc]
    obtain ⟨hc, _⟩ := buildX_count N (l.take i)
    have h1 : (buildX N (l.take i)).1 = N := by
      have := (foldl_count (l.take i) (newX N)).2.2
      unfold buildX; rw [this]; simp only [newX]; rw [if_neg (by omega)]
    have ht : (takes (buildX N (l.take i)) = true) ↔ (l.take i).length % N = 0 := by
      simp only [takes, h1, hc, Bool.or_eq_true, decide_eq_true_eq]
      rw [tmodn]
      omega
    have := bs_step hN ih (l[i])
    simp only [addX]
    by_cases q : takes (buildX N (l.take i)) = true
    · rw [if_pos q]; rw [if_pos (ht.1 q)] at this; exact this
    · rw [if_neg q]; rw [if_neg (fun e => q (ht.2 e))] at this; exact this
theorem bs_build (N : Nat) (hN : 1 ≤ N) (l : List Ent) : Bs N l (buildX N l).2.2 := by
  have := bs_take N hN l l.length (Nat.le_refl _)
  rwa [List.take_length] at this
end Go.Proofs.Ytomlhaekhammkaa
