import Derived.Test.YtomlhaekhammkaaIxF

set_option linter.unusedSimpArgs false
set_option linter.unusedVariables false
set_option maxHeartbeats 4000000
namespace Go.Proofs.Ytomlhaekhammkaa
open Go.Av

theorem rising_le {l : List Ent} (h : rising l = true) {i j : Nat} (hij : i ≤ j) (hj : j < l.length) : (l.getD i (0, 0, 0)).1 ≤ (l.getD j (0, 0, 0)).1 := by
  simp only [rising, decide_eq_true_eq] at h
  induction j with
  | zero => have : i = 0 := by omega
            subst this; exact Int.le_refl _
  | succ j ih =>
    by_cases e : i = j + 1
    · subst e; exact Int.le_refl _
    · have h1 := ih (by omega) (by omega)
      have h2 := h j (by omega)
      omega
theorem searchB_turn (f : Nat → Bool) (N : Nat) (hf : ∀ i j, i ≤ j → j < N → f i = true → f j = true) : ∀ (fuel lo hi : Nat), hi ≤ N → hi - lo ≤ fuel → lo ≤ hi →
    (∀ i, lo ≤ i → i < searchG f fuel lo hi → f i = false) ∧ (searchG f fuel lo hi < hi → f (searchG f fuel lo hi) = true)
  | 0, lo, hi, hN, h, h2 => by
    simp only [searchG]
    exact ⟨fun i h3 h4 => by omega, fun h3 => by omega⟩
  | fuel + 1, lo, hi, hN, h, h2 => by
    simp only [searchG]
    split
    · rename_i hlt
      split
      · rename_i q
        obtain ⟨k1, k2⟩ := searchB_turn f N hf fuel lo ((lo + hi) / 2) (by omega) (by omega) (by omega)
        refine ⟨k1, fun h3 => ?_⟩
        have hle := searchG_le f fuel lo ((lo + hi) / 2) (by omega)
        by_cases e : searchG f fuel lo ((lo + hi) / 2) = (lo + hi) / 2
        · rw [e]; exact q
        · exact k2 (by omega)
      · rename_i q
        obtain ⟨k1, k2⟩ := searchB_turn f N hf fuel ((lo + hi) / 2 + 1) hi hN (by omega) (by omega)
        refine ⟨fun i h3 h4 => ?_, k2⟩
        by_cases e : (lo + hi) / 2 + 1 ≤ i
        · exact k1 i e h4
        · cases hi2 : f i with
          | false => rfl
          | true => exact absurd (hf i ((lo + hi) / 2) (by omega) (by omega) hi2) q
    · exact ⟨fun i h3 h4 => by omega, fun h3 => by omega⟩
theorem find_rising (a b : Int) (l : List Ent) (off : Int) (h : rising l = true) : findX (a, b, l) off = lastP (fun e => decide (e.1 ≤ off)) l := by
  obtain ⟨k1, k2⟩ := searchB_turn (gtAt l off) l.length (fun i j hij hj hi => by
    have := rising_le h hij hj
    simp only [gtAt, decide_eq_true_eq] at hi ⊢
    omega) l.length 0 l.length (Nat.le_refl _) (by omega) (by omega)
  have hle := (searchG_le (gtAt l off) l.length 0 l.length (by omega)).2
  unfold findX searchN
  simp only
  generalize searchG (gtAt l off) l.length 0 l.length = n at k1 k2 hle ⊢
  have hbig : ∀ j, n ≤ j → j < l.length → decide ((l.getD j (0, 0, 0)).1 ≤ off) = false := fun j h1 h2 => by
    have h3 := k2 (by omega)
    have h4 := rising_le h h1 h2
    simp only [gtAt, decide_eq_true_eq] at h3
    exact decide_eq_false (by omega)
  by_cases h0 : n = 0
  · rw [if_pos h0, lastP_none (fun j hj => hbig j (by omega) hj)]
  · have h3 := k1 (n - 1) (by omega) (by omega)
    rw [if_neg h0, lastP_some (k := n - 1) (by omega) (fun j h1 h2 => hbig j (by omega) h2) (by simp [gtAt] at h3 ⊢; omega)]
theorem find_mem (a b : Int) (l : List Ent) (off : Int) (h : (findX (a, b, l) off).2 = true) : (findX (a, b, l) off).1 ∈ l := by
  have hle := (searchG_le (gtAt l off) l.length 0 l.length (by omega)).2
  unfold findX searchN at h ⊢
  simp only at h ⊢
  generalize searchG (gtAt l off) l.length 0 l.length = n at hle h ⊢
  by_cases h0 : n = 0
  · rw [if_pos h0] at h; cases h
  · rw [if_neg h0]
    have hb : n - 1 < l.length := by omega
    simp only [List.getD_eq_getElem?_getD, List.getElem?_eq_getElem hb, Option.getD_some]
    exact List.getElem_mem hb

theorem finds_pure (x : Idx) (off time : Int) : Pure Try.prog 8 [ixV x, iV off, iV time] (.sv (.bool true)) := by
  obtain ⟨a, c, l⟩ := x
  refine pure_go RI_ok Try.func8 Try.ntmps8 comp8 cres8 (by decide) (by simp) ?_
  by_cases h1 : 60 < (l.length : Int)
  · simp [ac8, ar8, ixV, xV, iV, eV, h1, RI_26]
  have k1 : (l.length : Int) ≤ 60 := by omega
  have ol : OkL (EL l) := (OkL_EL l).2 (by omega)
  have hT := RI_37 a c l time
  have hT' := RI_38 a c l time
  have hF := RI_39 a c l off
  have hF' := RI_41 a c l off
  generalize byT time l = bt at hT hT'
  obtain ⟨⟨t1, t2, t3⟩, tb⟩ := bt
  have hR := RI_40 l
  cases hr : rising l with
  | true =>
    have hfr := find_rising a c l off hr
    rw [← hfr] at hF'
    rw [hr] at hR
    generalize findX (a, c, l) off = ft at hF hF'
    obtain ⟨⟨f1, f2, f3⟩, fb⟩ := ft
    simp [ac8, ar8, ixV, xV, iV, eV, h1, k1, RI_26, RI_27, hT, hT', hF, hF', hR, ol]
  | false =>
    have hmem := find_mem a c l off
    rw [hr] at hR
    generalize findX (a, c, l) off = ft at hF hmem
    obtain ⟨⟨f1, f2, f3⟩, fb⟩ := ft
    simp [ac8, ar8, ixV, xV, iV, eV, h1, k1, RI_26, RI_27, hT, hT', hF, hR, ol]
    refine awpR_loop (α := Nat) (fun i => i ≤ l.length) (fun i => { n := 94, sl := [(3, .lptr 3 0), (11, .lptr 11 0), (13, .sv (.bool (!fb || decide ((f1, f2, f3) ∈ l.take i)))), (14, .sv (.int .i64 i))], bx := [(3, [.sv (.int .i64 a), .sv (.int .i64 c), .sv (.sl 3 (EL l))]), (11, [.sv (.int .i64 f1), .sv (.int .i64 f2), .sv (.int .i64 f3)])], hp := fun _ => none })
      (fun i => l.length - i) 0 (by omega) (by simp) ?_
    intro i hi
    by_cases h : i < l.length
    · have h1 : (i : Int) < l.length := by omega
      have hg := EL_get l h
      have hm : (f1, f2, f3) ∈ l.take (i + 1) ↔ (f1, f2, f3) ∈ l.take i ∨ (f1, f2, f3) = l.getD i (0, 0, 0) := by
        rw [List.take_succ_eq_append_getElem h]
        simp only [List.mem_append, List.mem_singleton, List.getD_eq_getElem?_getD, List.getElem?_eq_getElem h, Option.getD_some]
      have hw : IntKind.i64.wrap ((i : Int) + 1) = ((i + 1 : Nat) : Int) := by rw [IntKind.wrap_i64]; omega
      generalize l.getD i (0, 0, 0) = s at hg hm
      obtain ⟨s1, s2, s3⟩ := s
      cases fb with
      | false =>
        simp [h1, hg, eV, iV, hw]
        exact ⟨i + 1, by omega, by omega, by omega⟩
      | true =>
        by_cases q : (f1, f2, f3) ∈ l.take i
        · simp [h1, hg, eV, iV, hw, q]
          exact ⟨i + 1, by omega, by omega, hm.2 (.inl q), by omega⟩
        · simp [h1, hg, eV, iV, hw, q]
          refine ⟨i + 1, by omega, by omega, ?_, by omega⟩
          rw [Bool.eq_iff_iff]
          simp [hm, q]
          constructor <;> (rintro ⟨rfl, rfl, rfl⟩; exact ⟨rfl, rfl, rfl⟩)
    · have h1 : ¬ (i : Int) < l.length := by omega
      obtain rfl : i = l.length := by omega
      simp [h1, RI_26]
      cases fb with
      | false => exact .inl rfl
      | true => exact .inr (hmem rfl)
end Go.Proofs.Ytomlhaekhammkaa
