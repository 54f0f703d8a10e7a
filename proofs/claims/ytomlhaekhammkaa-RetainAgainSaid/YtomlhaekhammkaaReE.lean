import Derived.Test.YtomlhaekhammkaaReD

set_option linter.unusedSimpArgs false
set_option linter.unusedVariables false
set_option maxHeartbeats 2000000
namespace Go.Proofs.Ytomlhaekhammkaa
open Go.Av

theorem R13_13 : R13.p 13 [] = some (True, .sv (.bool true)) := rfl
theorem R13_14 (l : List Seg) : R13.p 14 [.sl 4 (SgL l)] = some (SgL l = SgL l ∧ l.length ≤ 1000, .own 4 (SgL l)) := by
  show some (SgL l = SgL (unL (SgL l)) ∧ (SgL l).length ≤ 1000, LV.own 4 (SgL (unL (SgL l)))) = _
  rw [unL_SgL, SgL_length]
theorem R13_15 (l : List Seg) (t u n : Int) : R13.p 15 [.sl 4 (SgL l), .agg [.int .i64 t, .int .i64 u], .int .i64 n] = some (SgL l = SgL l ∧ l.length ≤ 1000 ∧ I64 n, .sv (.int .i64 (dropN (t, u) n l))) := by
  show some (SgL l = SgL (unL (SgL l)) ∧ (SgL l).length ≤ 1000 ∧ I64 n, LV.sv (.int .i64 (dropN (t, u) n (unL (SgL l))))) = _
  rw [unL_SgL, SgL_length]
theorem R13_16 (a b c d t u n : Int) : R13.p 16 [.agg [.int .i64 a, .int .i64 b, .int .i64 c, .int .i64 d], .agg [.int .i64 t, .int .i64 u], .int .i64 n] = some (I64 n, .sv (.bool (old (a, b, c, d) (t, u) n))) := rfl
theorem R13_17 (l : List Seg) : R13.p 17 [.sl 4 (SgL l)] = some (SgL l = SgL l ∧ l.length ≤ 1000, .sv (.int .i64 (tot l))) := by
  show some (SgL l = SgL (unL (SgL l)) ∧ (SgL l).length ≤ 1000, LV.sv (.int .i64 (tot (unL (SgL l))))) = _
  rw [unL_SgL, SgL_length]

/-! ### the plain law -/
def goesAt (r : Rule) (now : Int) (l : List Seg) (i : Nat) : Bool := goes r now (l.getD i (0, 0, 0, 0)) (tot (l.drop i))
theorem goesAt_succ (r : Rule) (now : Int) (s : Seg) (l : List Seg) (i : Nat) : goesAt r now (s :: l) (i + 1) = goesAt r now l i := rfl
theorem goesAt_zero (r : Rule) (now : Int) (s : Seg) (l : List Seg) : goesAt r now (s :: l) 0 = goes r now s (tot (s :: l)) := rfl
theorem dropN_lt (r : Rule) (now : Int) : ∀ {l : List Seg}, l ≠ [] → dropN r now l < l.length
  | s :: t, _ => by
    simp only [dropN, List.length_cons]
    split
    · omega
    · rename_i h
      split
      · have := dropN_lt r now h; omega
      · omega
theorem dropN_goes (r : Rule) (now : Int) : ∀ {l : List Seg} {i : Nat}, i < dropN r now l → goesAt r now l i = true
  | [], i, h => by simp [dropN] at h
  | s :: t, i, h => by
    simp only [dropN] at h
    split at h
    · omega
    · split at h
      · rename_i hg
        cases i with
        | zero => exact hg
        | succ i => exact dropN_goes r now (l := t) (i := i) (by omega)
      · omega
theorem dropN_stop (r : Rule) (now : Int) : ∀ {l : List Seg}, l ≠ [] → goesAt r now l (dropN r now l) = true → dropN r now l = l.length - 1
  | s :: t, _, h => by
    by_cases ht : t = []
    · subst ht; simp [dropN]
    · cases hg : goes r now s (tot (s :: t)) with
      | true =>
        have e : dropN r now (s :: t) = dropN r now t + 1 := by simp only [dropN, if_neg ht, hg, if_true]; omega
        rw [e] at h ⊢
        have := dropN_stop r now ht h
        have h0 : t.length ≠ 0 := by simpa using ht
        simp only [List.length_cons]; omega
      | false =>
        have e : dropN r now (s :: t) = 0 := by simp [dropN, ht, hg]
        rw [e, goesAt_zero, hg] at h
        cases h

theorem stays_pure (l : List Seg) (r : Rule) (now : Int) (hn : I64 now) (hl : (l.length : Int) ≤ 9223372036854775807) : Pure Try.prog 3 [.sl 4 (SgL l), ruV r, .int .i64 now] (.sv (.bool true)) := by
  refine pure_go R13_ok Try.func3 Try.ntmps3 comp3 cres3 (by decide) (by simp) ?_
  by_cases h60 : 60 < (l.length : Int)
  · simp [ac3, ar3, ruV, R13_13, h60]
  have h60' : (l.length : Int) ≤ 60 := by omega
  have h1000 : l.length ≤ 1000 := by omega
  by_cases h0 : l = []
  · subst h0
    simp [ac3, ar3, ruV, R13_13, R13_14, R13_15, hn, dropN]
  have hlen : l.length ≠ 0 := by simpa using h0
  have hd := dropN_lt r now h0
  have hd1 : ¬ ((dropN r now l : Int) < 0) := by omega
  have hd2 : ¬ ((l.length : Int) ≤ dropN r now l) := by omega
  simp [ac3, ar3, ruV, R13_13, R13_14, R13_15, hn, h60, h60', h1000, hlen, hd1, hd2]
  refine awpR_loop (α := Nat) (fun i => i ≤ dropN r now l + 1)
    (fun i => { n := 88, sl := [(0, .sv (.sl 4 (SgL l))), (2, .sv (.int .i64 now)), (4, .lptr 4 0), (7, .sv (.sl 4 (SgL l))), (8, .lptr 8 0), (9, .sv (.int .i64 (dropN r now l))), (10, .sv (.int .i64 i))], bx := [(4, [.sv (.int .i64 r.1), .sv (.int .i64 r.2)]), (8, [.sv (.int .i64 r.1), .sv (.int .i64 r.2)])], hp := fun _ => none })
    (fun i => dropN r now l + 1 - i) 0 (by omega) (by simp) ?_
  intro i hi
  by_cases h : i ≤ dropN r now l
  · have h1 : (i : Int) ≤ dropN r now l := by omega
    have h2 : i < l.length := by omega
    have h3 : (i : Int) < l.length := by omega
    have h4 : (i : Int) ≤ l.length := by omega
    have hg := SgL_get l h2
    have hsl : ((SgL l).drop i).take (l.length - i) = SgL (l.drop i) := by
      rw [SgL_drop, SgL_take, List.take_of_length_le (by simp)]
    have hw : IntKind.i64.wrap ((i : Int) + 1) = ((i + 1 : Nat) : Int) := by rw [IntKind.wrap_i64]; omega
    have hw2 : IntKind.i64.wrap ((l.length : Int) - 1) = ((l.length - 1 : Nat) : Int) := by rw [IntKind.wrap_i64]; omega
    have k1 : i < dropN r now l → goesAt r now l i = true := dropN_goes r now
    have k2 : i = dropN r now l → goesAt r now l i = true → dropN r now l = l.length - 1 := fun e => by rw [e]; exact dropN_stop r now h0
    unfold goesAt goes at k1 k2
    generalize l.getD i (0, 0, 0, 0) = s at hg k1 k2
    have hdl : (l.drop i).length ≤ 1000 := by simp; omega
    have h17 := R13_17 (l.drop i)
    generalize l.drop i = m at hsl h17 hdl k1 k2
    simp [h1, h3, h4, hg, sgV, R13_16, h17, hn, hw, hw2, hsl, hdl]
    have k1' : i < dropN r now l → (old (s.1, s.2.1, s.2.2.1, s.2.2.2) (r.1, r.2) now || (decide (0 ≤ r.2) && decide (r.2 < tot m))) = true := k1
    have k2' : i = dropN r now l → (old (s.1, s.2.1, s.2.2.1, s.2.2.2) (r.1, r.2) now || (decide (0 ≤ r.2) && decide (r.2 < tot m))) = true → dropN r now l = l.length - 1 := k2
    clear k1 k2
    generalize old (s.1, s.2.1, s.2.2.1, s.2.2.2) (r.1, r.2) now = o at k1' k2' ⊢
    generalize dropN r now l = N at *
    have fin : ∃ a', a' ≤ N + 1 ∧ N + 1 - a' < N + 1 - i ∧ (i : Int) + 1 = a' := ⟨i + 1, by omega, by omega, by omega⟩
    by_cases q : i = N
    · subst q
      have q1 : ¬ i < i := by omega
      have fin2 : ∃ a', a' ≤ i + 1 ∧ i + 1 - a' = 0 ∧ (i : Int) + 1 = a' := ⟨i + 1, by omega, by omega, by omega⟩
      cases o <;> by_cases hu : 0 ≤ r.2 <;> by_cases ht : r.2 < tot m <;> simp [hu, ht] at k1' k2' ⊢ <;> first | exact fin2 | exact ⟨by omega, fun _ => fin2⟩
    · have q1 : i < N := by omega
      have q2 : ¬ N ≤ i := by omega
      have q3 : ¬ (i : Int) = N := by omega
      cases o <;> by_cases hu : 0 ≤ r.2 <;> by_cases ht : r.2 < tot m <;> simp [hu, ht, q1, q2, q3, q] at k1' k2' ⊢ <;> exact fin
  · have h1 : ¬ (i : Int) ≤ dropN r now l := by omega
    have h2 : (dropN r now l : Int) < i := by omega
    simp [h1, h2, R13_13]

theorem dropN_drop (r : Rule) (now : Int) : ∀ l : List Seg, dropN r now (l.drop (dropN r now l)) = 0
  | [] => by simp [dropN]
  | s :: t => by
    by_cases ht : t = []
    · subst ht; simp [dropN]
    · cases hg : goes r now s (tot (s :: t)) with
      | true =>
        have e : dropN r now (s :: t) = dropN r now t + 1 := by simp only [dropN, if_neg ht, hg, if_true]; omega
        rw [e]
        exact dropN_drop r now t
      | false =>
        have e : dropN r now (s :: t) = 0 := by simp [dropN, ht, hg]
        rw [e]; exact e
theorem dropN_mono {r r' : Rule} {now now' : Int} (h : ∀ s t, goes r now s t = true → goes r' now' s t = true) : ∀ l : List Seg, dropN r now l ≤ dropN r' now' l
  | [] => by simp [dropN]
  | s :: t => by
    by_cases ht : t = []
    · subst ht; simp [dropN]
    · cases hg : goes r now s (tot (s :: t)) with
      | true =>
        simp only [dropN, if_neg ht, hg, h _ _ hg, if_true]
        have := dropN_mono h t
        omega
      | false => simp [dropN, ht, hg]
theorem goes_late {r : Rule} {a b : Int} (hab : a ≤ b) (s : Seg) (t : Int) (h : goes r a s t = true) : goes r b s t = true := by
  simp only [goes, old, Bool.or_eq_true, Bool.and_eq_true, decide_eq_true_eq] at h ⊢
  rcases h with ⟨h1, h2, h3, h4⟩ | h
  · exact .inl ⟨h1, h2, by omega, by omega⟩
  · exact .inr h
def lessR (r : Rule) : Rule := (if 0 < r.1 then r.1 - 1 else r.1, if 0 < r.2 then r.2 - 1 else r.2)
theorem goes_less {r : Rule} {a : Int} (s : Seg) (t : Int) (h : goes r a s t = true) : goes (lessR r) a s t = true := by
  have e1 : 0 ≤ r.1 → 0 ≤ (lessR r).1 ∧ (lessR r).1 ≤ r.1 := fun q => by
    simp only [lessR]
    split <;> omega
  have e2 : 0 ≤ r.2 → 0 ≤ (lessR r).2 ∧ (lessR r).2 ≤ r.2 := fun q => by
    simp only [lessR]
    split <;> omega
  simp only [goes, old, Bool.or_eq_true, Bool.and_eq_true, decide_eq_true_eq] at h ⊢
  rcases h with ⟨h1, h2, h3, h4⟩ | ⟨h1, h2⟩
  · have := e1 h1
    exact .inl ⟨this.1, h2, h3, by omega⟩
  · have := e2 h1
    exact .inr ⟨this.1, by omega⟩
theorem dropN_le (r : Rule) (now : Int) (l : List Seg) : dropN r now l ≤ l.length := by
  by_cases h : l = []
  · subst h; simp [dropN]
  · have := dropN_lt r now h; omega

theorem again_pure (l : List Seg) (r : Rule) (a b : Int) (ha : I64 a) (hb : I64 b) (hr1 : I64 r.1) (hr2 : I64 r.2) : Pure Try.prog 4 [.sl 4 (SgL l), ruV r, .agg [.int .i64 a, .int .i64 b]] (.sv (.bool true)) := by
  refine pure_go R13_ok Try.func4 Try.ntmps4 comp4 cres4 (by decide) (by simp) ?_
  by_cases h60 : 60 < (l.length : Int)
  · simp [ac4, ar4, ruV, R13_13, h60]
  have h60' : (l.length : Int) ≤ 60 := by omega
  have h1000 : l.length ≤ 1000 := by omega
  have hd := dropN_le r a l
  have hd1 : ¬ ((dropN r a l : Int) < 0) := by omega
  have hd2 : ¬ ((l.length : Int) < dropN r a l) := by omega
  have hd3 : (dropN r a l : Int) ≤ l.length := by omega
  have hsl : ((SgL l).drop (dropN r a l)).take (l.length - dropN r a l) = SgL (l.drop (dropN r a l)) := by
    rw [SgL_drop, SgL_take, List.take_of_length_le (by simp)]
  have hdl : (l.drop (dropN r a l)).length ≤ 1000 := by simp; omega
  have hd0 := dropN_drop r a l
  have hmn : I64 (if b < a then b else a) := by split <;> assumption
  have hmx : I64 (if a < b then b else a) := by split <;> assumption
  have hlate : dropN (r.1, r.2) (if b < a then b else a) l ≤ dropN (r.1, r.2) (if a < b then b else a) l := dropN_mono (goes_late (by split <;> split <;> omega)) l
  have hless : dropN (r.1, r.2) a l ≤ dropN (lessR r) a l := dropN_mono goes_less l
  have w1 : 0 < r.1 → IntKind.i64.wrap (r.1 - 1) = r.1 - 1 := fun q => by obtain ⟨h1, h2⟩ := hr1; rw [IntKind.wrap_i64]; omega
  have w2 : 0 < r.2 → IntKind.i64.wrap (r.2 - 1) = r.2 - 1 := fun q => by obtain ⟨h1, h2⟩ := hr2; rw [IntKind.wrap_i64]; omega
  by_cases q2 : 0 < r.2
  · by_cases q1 : 0 < r.1
    · simp only [lessR, if_pos q1, if_pos q2] at hless
      simp [ac4, ar4, ruV, R13_13, R13_14, R13_15, ha, hb, h60, h60', h1000, hd1, hd2, hd3, q1, q2, hsl, hdl, hd0, hmn, hmx, w1 q1, w2 q2]
      exact ⟨by omega, hlate, hless⟩
    · simp only [lessR, if_neg q1, if_pos q2] at hless
      simp [ac4, ar4, ruV, R13_13, R13_14, R13_15, ha, hb, h60, h60', h1000, hd1, hd2, hd3, q1, q2, hsl, hdl, hd0, hmn, hmx, w2 q2]
      exact ⟨by omega, hlate, hless⟩
  · by_cases q1 : 0 < r.1
    · simp only [lessR, if_pos q1, if_neg q2] at hless
      simp [ac4, ar4, ruV, R13_13, R13_14, R13_15, ha, hb, h60, h60', h1000, hd1, hd2, hd3, q1, q2, hsl, hdl, hd0, hmn, hmx, w1 q1]
      exact ⟨by omega, hlate, hless⟩
    · simp only [lessR, if_neg q1, if_neg q2] at hless
      simp [ac4, ar4, ruV, R13_13, R13_14, R13_15, ha, hb, h60, h60', h1000, hd1, hd2, hd3, q1, q2, hsl, hdl, hd0, hmn, hmx]
      exact ⟨by omega, hlate⟩
end Go.Proofs.Ytomlhaekhammkaa
