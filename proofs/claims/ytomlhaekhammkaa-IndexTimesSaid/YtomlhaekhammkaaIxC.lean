import Derived.Test.YtomlhaekhammkaaIxB

set_option linter.unusedSimpArgs false
set_option linter.unusedVariables false
set_option maxHeartbeats 2000000
namespace Go.Proofs.Ytomlhaekhammkaa
open Go.Av

def R33 : Orc := { p := fun f l => match f, l with
  | 33, [.int .i64 e] => some (True, .sv (ixV (newX e)))
  | 34, [.int .i64 e] => some (True, .sv (ixV (newX e)))
  | 28, [.agg [.int .i64 e, .int .i64 c, .sl 3 xs], .agg [.int .i64 a, .int .i64 b, .int .i64 d]] => some (xs = EL (unEL xs) ∧ xs.length < 1000000 ∧ I64 (c + 1), .sv (ixV (addX (e, c, unEL xs) (a, b, d))))
  | 31, [.agg [.int .i64 e, .int .i64 c, .sl 3 xs], .agg [.int .i64 a, .int .i64 b, .int .i64 d]] => some (xs = EL (unEL xs) ∧ xs.length < 1000000 ∧ I64 (c + 1), .sv (ixV (addX (e, c, unEL xs) (a, b, d))))
  | 57, [.sl 3 xs, .sl 3 ys] => some (xs = EL (unEL xs) ∧ ys = EL (unEL ys) ∧ xs.length ≤ 1000000, .sv (.bool (decide (unEL xs = unEL ys))))
  | _, _ => none }
theorem R33_ok : R33.ok Try.prog := by
  refine ⟨fun f l c rv h hc => ?_, fun _ _ _ _ _ _ h => (by cases h), fun _ _ _ _ h => (by cases h), fun _ h => (by cases h)⟩
  simp only [R33] at h
  split at h <;> cases h
  · exact new_pure _
  · exact rnew_pure _
  · rename_i e c xs a b d
    have := add_pure (e, c, unEL xs) (a, b, d) (by simpa [unEL] using hc.2.1) hc.2.2
    simp only [ixV, xV] at this
    rw [← hc.1] at this
    exact this
  · rename_i e c xs a b d
    have := radd_pure (e, c, unEL xs) (a, b, d) (by simpa [unEL] using hc.2.1) hc.2.2
    simp only [ixV, xV] at this
    rw [← hc.1] at this
    exact this
  · rename_i xs ys
    have := equal_pure (unEL xs) (unEL ys) (by simpa [unEL] using hc.2.2)
    rw [← hc.1, ← hc.2.1] at this
    exact this
theorem R33_33 (e : Int) : R33.p 33 [.int .i64 e] = some (True, .sv (ixV (newX e))) := rfl
theorem R33_34 (e : Int) : R33.p 34 [.int .i64 e] = some (True, .sv (ixV (newX e))) := rfl
theorem R33_28 (e c : Int) (l : List Ent) (a b d : Int) : R33.p 28 [.agg [.int .i64 e, .int .i64 c, .sl 3 (EL l)], .agg [.int .i64 a, .int .i64 b, .int .i64 d]] = some (EL l = EL l ∧ l.length < 1000000 ∧ I64 (c + 1), .sv (ixV (addX (e, c, l) (a, b, d)))) := by
  show some (EL l = EL (unEL (EL l)) ∧ (EL l).length < 1000000 ∧ I64 (c + 1), LV.sv (ixV (addX (e, c, unEL (EL l)) (a, b, d)))) = _
  rw [unEL_EL, EL_length]
theorem R33_31 (e c : Int) (l : List Ent) (a b d : Int) : R33.p 31 [.agg [.int .i64 e, .int .i64 c, .sl 3 (EL l)], .agg [.int .i64 a, .int .i64 b, .int .i64 d]] = some (EL l = EL l ∧ l.length < 1000000 ∧ I64 (c + 1), .sv (ixV (addX (e, c, l) (a, b, d)))) := by
  show some (EL l = EL (unEL (EL l)) ∧ (EL l).length < 1000000 ∧ I64 (c + 1), LV.sv (ixV (addX (e, c, unEL (EL l)) (a, b, d)))) = _
  rw [unEL_EL, EL_length]
theorem R33_57 (a b : List Ent) : R33.p 57 [.sl 3 (EL a), .sl 3 (EL b)] = some (EL a = EL a ∧ EL b = EL b ∧ a.length ≤ 1000000, .sv (.bool (decide (a = b)))) := by
  show some (EL a = EL (unEL (EL a)) ∧ EL b = EL (unEL (EL b)) ∧ (EL a).length ≤ 1000000, LV.sv (.bool (decide (unEL (EL a) = unEL (EL b))))) = _
  rw [unEL_EL, unEL_EL, EL_length]

def buildX (e : Int) (l : List Ent) : Idx := l.foldl addX (newX e)
theorem buildX_snoc (e : Int) (l : List Ent) (a : Ent) : buildX e (l ++ [a]) = addX (buildX e l) a := by simp [buildX]
theorem foldl_count : ∀ (l : List Ent) (x : Idx), (l.foldl addX x).2.1 = x.2.1 + l.length ∧ (l.foldl addX x).2.2.length ≤ x.2.2.length + l.length ∧ (l.foldl addX x).1 = x.1
  | [], x => by simp
  | a :: l, x => by
    obtain ⟨h1, h2, h3⟩ := foldl_count l (addX x a)
    have h4 : (addX x a).2.2.length ≤ x.2.2.length + 1 := by simp only [addX]; split <;> simp
    have h5 : (addX x a).2.1 = x.2.1 + 1 := rfl
    have h6 : (addX x a).1 = x.1 := rfl
    simp only [List.foldl_cons, List.length_cons]
    refine ⟨by rw [h1, h5]; omega, by omega, by rw [h3, h6]⟩
theorem buildX_count (e : Int) (l : List Ent) : (buildX e l).2.1 = l.length ∧ (buildX e l).2.2.length ≤ l.length := by
  obtain ⟨h1, h2, _⟩ := foldl_count l (newX e)
  refine ⟨by unfold buildX; rw [h1]; simp [newX], ?_⟩
  unfold buildX
  have : (newX e).2.2.length = 0 := rfl
  omega

theorem build_pure (e : Int) (l : List Ent) (hl : l.length ≤ 1000) : Pure Try.prog 35 [iV e, .sl 3 (EL l)] (.sv (ixV (buildX e l))) := by
  refine pure_go R33_ok Try.func35 Try.ntmps35 comp35 cres35 (by decide) (by simp) ?_
  simp [ac35, ar35, iV, R33_33, ixV, xV]
  refine awpR_loop (α := Nat) (fun i => i ≤ l.length) (fun i => { n := 21, sl := [(4, .lptr 4 0), (5, .lptr 5 0), (10, .sv (.sl 3 (EL l))), (11, .sv (.int .i64 l.length)), (12, .sv (.int .i64 i))], bx := [(4, [.sv (.int .i64 0), .sv (.int .i64 0), .sv .nils]), (5, [.sv (.int .i64 (buildX e (l.take i)).1), .sv (.int .i64 (buildX e (l.take i)).2.1), .sv (.sl 3 (EL (buildX e (l.take i)).2.2))])], hp := fun _ => none })
    (fun i => l.length - i) 0 (by omega) (by simp [buildX, iV]) ?_
  intro i hi
  by_cases h : i < l.length
  · have h1 : (i : Int) < l.length := by omega
    have hg := EL_get l h
    have hsn : buildX e (l.take (i + 1)) = addX (buildX e (l.take i)) (l.getD i (0, 0, 0)) := by
      rw [List.take_succ_eq_append_getElem h, buildX_snoc]
      simp [List.getD_eq_getElem?_getD, h]
    obtain ⟨hc1, hc2⟩ := buildX_count e (l.take i)
    have ht : (l.take i).length = i := by simp; omega
    rw [ht] at hc1 hc2
    have hw : IntKind.i64.wrap ((i : Int) + 1) = ((i + 1 : Nat) : Int) := by rw [IntKind.wrap_i64]; omega
    generalize l.getD i (0, 0, 0) = s at hg hsn
    generalize buildX e (l.take i) = x at hsn hc1 hc2 ⊢
    obtain ⟨x1, x2, x3⟩ := x
    obtain ⟨s1, s2, s3⟩ := s
    simp only at hc1 hc2
    simp [h1, hg, eV, iV, R33_28, hw, ixV, xV]
    refine ⟨⟨by omega, by unfold I64; omega⟩, i + 1, by omega, by omega, by omega, ?_⟩
    rw [hsn]
    exact ⟨rfl, rfl, rfl⟩
  · have h1 : ¬ (i : Int) < l.length := by omega
    obtain rfl : i = l.length := by omega
    simp [h1, iV]

theorem rbuild_pure (e : Int) (l : List Ent) (hl : l.length ≤ 1000) : Pure Try.prog 36 [iV e, .sl 3 (EL l)] (.sv (ixV (buildX e l))) := by
  refine pure_go R33_ok Try.func36 Try.ntmps36 comp36 cres36 (by decide) (by simp) ?_
  simp [ac36, ar36, iV, R33_34, ixV, xV]
  refine awpR_loop (α := Nat) (fun i => i ≤ l.length) (fun i => { n := 22, sl := [(1, .sv (.sl 3 (EL l))), (4, .lptr 4 0), (5, .lptr 5 0), (6, .sv (.int .i64 i))], bx := [(4, [.sv (.int .i64 0), .sv (.int .i64 0), .sv .nils]), (5, [.sv (.int .i64 (buildX e (l.take i)).1), .sv (.int .i64 (buildX e (l.take i)).2.1), .sv (.sl 3 (EL (buildX e (l.take i)).2.2))])], hp := fun _ => none })
    (fun i => l.length - i) 0 (by omega) (by simp [buildX, iV]) ?_
  intro i hi
  by_cases h : i < l.length
  · have h1 : (i : Int) < l.length := by omega
    have hg := EL_get l h
    have hsn : buildX e (l.take (i + 1)) = addX (buildX e (l.take i)) (l.getD i (0, 0, 0)) := by
      rw [List.take_succ_eq_append_getElem h, buildX_snoc]
      simp [List.getD_eq_getElem?_getD, h]
    obtain ⟨hc1, hc2⟩ := buildX_count e (l.take i)
    have ht : (l.take i).length = i := by simp; omega
    rw [ht] at hc1 hc2
    have hw : IntKind.i64.wrap ((i : Int) + 1) = ((i + 1 : Nat) : Int) := by rw [IntKind.wrap_i64]; omega
    generalize l.getD i (0, 0, 0) = s at hg hsn
    generalize buildX e (l.take i) = x at hsn hc1 hc2 ⊢
    obtain ⟨x1, x2, x3⟩ := x
    obtain ⟨s1, s2, s3⟩ := s
    simp only at hc1 hc2
    simp [h1, hg, eV, iV, R33_31, hw, ixV, xV]
    refine ⟨⟨by omega, by unfold I64; omega⟩, i + 1, by omega, by omega, ?_⟩
    rw [hsn]
    refine ⟨?_, rfl, rfl, rfl⟩
    omega
  · have h1 : ¬ (i : Int) < l.length := by omega
    obtain rfl : i = l.length := by omega
    simp [h1, iV]

def sameX (x y : Idx) : Bool := decide (x.1 = y.1) && (decide (x.2.1 = y.2.1) && decide (x.2.2 = y.2.2))
theorem sameX_iff (x y : Idx) : sameX x y = true ↔ x = y := by
  obtain ⟨a, b, c⟩ := x
  obtain ⟨d, e, f⟩ := y
  simp [sameX]
theorem same_pure (x y : Idx) (hl : x.2.2.length ≤ 1000000) : Pure Try.prog 32 [ixV x, ixV y] (.sv (.bool (sameX x y))) := by
  obtain ⟨a, b, c⟩ := x
  obtain ⟨d, e, f⟩ := y
  simp only at hl
  refine pure_go R33_ok Try.func32 Try.ntmps32 comp32 cres32 (by decide) (by simp) ?_
  simp [ac32, ar32, iV, R33_57, ixV, xV, sameX, Bool.and_assoc, hl]
  rfl

theorem rsame_pure (x y : Idx) (hl : x.2.2.length ≤ 1000000) : Pure Try.prog 29 [ixV x, ixV y] (.sv (.bool (sameX x y))) := by
  obtain ⟨a1, a2, a⟩ := x
  obtain ⟨b1, b2, b⟩ := y
  simp only at hl
  refine pure_go R0_ok Try.func29 Try.ntmps29 comp29 cres29 (by decide) (by simp) ?_
  by_cases h1 : a1 = b1
  · by_cases h2 : a2 = b2
    · by_cases hlen : a.length = b.length
      · have hlen' : (a.length : Int) = b.length := by omega
        simp [ac29, ar29, iV, ixV, xV, h1, h2, hlen', sameX]
        refine awpR_loop (α := Nat) (fun i => i ≤ b.length ∧ a.take i = b.take i) (fun i => { n := 45, sl := [(2, .lptr 2 0), (3, .lptr 3 0), (5, .sv (.int .i64 i))], bx := [(2, [.sv (.int .i64 b1), .sv (.int .i64 b2), .sv (.sl 3 (EL a))]), (3, [.sv (.int .i64 b1), .sv (.int .i64 b2), .sv (.sl 3 (EL b))])], hp := fun _ => none })
          (fun i => b.length - i) 0 (by simp) (by simp [h1, h2]) ?_
        rintro i ⟨hi, ht⟩
        by_cases h : i < b.length
        · have h1 : (i : Int) < b.length := by omega
          have h2 : i < a.length := by omega
          have h3 : (i : Int) < a.length := by omega
          have hg := EL_get b h
          have hg2 := EL_get a h2
          have hta : a.take (i + 1) = a.take i ++ [a.getD i (0, 0, 0)] := by rw [List.take_succ_eq_append_getElem h2]; simp [List.getD_eq_getElem?_getD, h2]
          have htb : b.take (i + 1) = b.take i ++ [b.getD i (0, 0, 0)] := by rw [List.take_succ_eq_append_getElem h]; simp [List.getD_eq_getElem?_getD, h]
          generalize a.getD i (0, 0, 0) = s at hg2 hta
          generalize b.getD i (0, 0, 0) = t at hg htb
          obtain ⟨s1, s2, s3⟩ := s
          obtain ⟨t1, t2, t3⟩ := t
          have hw : IntKind.i64.wrap ((i : Int) + 1) = ((i + 1 : Nat) : Int) := by rw [IntKind.wrap_i64]; omega
          simp [h1, h3, hg, hg2, eV, iV, hw]
          refine ⟨fun hne e => ?_, fun e1 e2 e3 => ⟨i + 1, ⟨by omega, ?_⟩, by omega, by omega⟩⟩
          · subst e
            have := List.append_cancel_left (hta.symm.trans htb)
            simp at this
            obtain ⟨q1, q2, q3⟩ := this
            rcases hne with q | q | q <;> contradiction
          · rw [hta, htb, ht, e1, e2, e3]
        · have h1 : ¬ (i : Int) < b.length := by omega
          have h3 : ¬ (i : Int) < a.length := by omega
          obtain rfl : i = b.length := by omega
          have : a = b := by rw [List.take_of_length_le (by omega), List.take_of_length_le (by omega)] at ht; exact ht
          simp [h1, h3, this]
      · have hlen' : ¬ (a.length : Int) = b.length := by omega
        have : a ≠ b := fun e => hlen (by rw [e])
        simp [ac29, ar29, iV, ixV, xV, h1, h2, hlen', sameX, this]
    · simp [ac29, ar29, iV, ixV, xV, h1, h2, sameX]
  · simp [ac29, ar29, iV, ixV, xV, h1, sameX]

/-- Do the offsets rise? -/
def rising (l : List Ent) : Bool := decide (∀ i, i < l.length - 1 → (l.getD i (0, 0, 0)).1 ≤ (l.getD (i + 1) (0, 0, 0)).1)
theorem rising_pure (l : List Ent) (hl : l.length ≤ 1000000) : Pure Try.prog 40 [.sl 3 (EL l)] (.sv (.bool (rising l))) := by
  refine pure_go R0_ok Try.func40 Try.ntmps40 comp40 cres40 (by decide) (by simp) ?_
  simp [ac40, ar40]
  refine awpR_loop (α := Nat) (fun i => 1 ≤ i ∧ (i ≤ l.length ∨ i = 1) ∧ ∀ j, j < i - 1 → (l.getD j (0, 0, 0)).1 ≤ (l.getD (j + 1) (0, 0, 0)).1) (fun i => { n := 22, sl := [(0, .sv (.sl 3 (EL l))), (3, .sv (.int .i64 i))], bx := [], hp := fun _ => none })
    (fun i => l.length - i) 1 ⟨by omega, .inr rfl, fun j hj => by omega⟩ (by simp) ?_
  rintro i ⟨hi1, hi2, hr⟩
  by_cases h : i < l.length
  · have h1 : (i : Int) < l.length := by omega
    have hb : i - 1 < l.length := by omega
    have hb1 : ((i - 1 : Nat) : Int) < l.length := by omega
    have hg := EL_get l h
    have hg2 := EL_get l hb
    have hw : IntKind.i64.wrap ((i : Int) + 1) = ((i + 1 : Nat) : Int) := by rw [IntKind.wrap_i64]; omega
    have hw2 : IntKind.i64.wrap ((i : Int) - 1) = ((i - 1 : Nat) : Int) := by rw [IntKind.wrap_i64]; omega
    have key : (l.getD i (0, 0, 0)).1 < (l.getD (i - 1) (0, 0, 0)).1 → rising l = false := by
      intro q
      simp only [rising, decide_eq_false_iff_not]
      intro hall
      have := hall (i - 1) (by omega)
      rw [show i - 1 + 1 = i by omega] at this
      omega
    have key2 : (l.getD (i - 1) (0, 0, 0)).1 ≤ (l.getD i (0, 0, 0)).1 → ∀ j, j < i + 1 - 1 → (l.getD j (0, 0, 0)).1 ≤ (l.getD (j + 1) (0, 0, 0)).1 := by
      intro q j hj
      by_cases e : j = i - 1
      · subst e; rw [show i - 1 + 1 = i by omega]; exact q
      · exact hr j (by omega)
    generalize l.getD i (0, 0, 0) = s at hg key key2
    generalize l.getD (i - 1) (0, 0, 0) = t at hg2 key key2
    obtain ⟨s1, s2, s3⟩ := s
    obtain ⟨t1, t2, t3⟩ := t
    simp [h1, hb1, hg, hg2, eV, iV, hw, hw2]
    exact ⟨fun q => key q, fun q => ⟨i + 1, ⟨by omega, .inl (by omega), key2 q⟩, by omega, by omega⟩⟩
  · have h1 : ¬ (i : Int) < l.length := by omega
    have : rising l = true := by
      simp only [rising, decide_eq_true_eq]
      intro j hj
      exact hr j (by omega)
    simp [h1, this]

/-- The last entry of which something holds. -/
def lastP (p : Ent → Bool) (l : List Ent) : Ent × Bool := match l.reverse.find? p with
  | some e => (e, true)
  | none => ((0, 0, 0), false)
theorem byT_last (time : Int) (l : List Ent) : byT time l = lastP (fun e => decide (e.2.1 < time)) l := rfl
theorem lastP_none {p : Ent → Bool} {l : List Ent} (h : ∀ j, j < l.length → p (l.getD j (0, 0, 0)) = false) : lastP p l = ((0, 0, 0), false) := by
  unfold lastP
  rw [List.find?_eq_none.2]
  intro x hx
  obtain ⟨i, hi, rfl⟩ := List.mem_iff_getElem.1 hx
  have hi' : i < l.length := by simpa using hi
  have := h (l.length - 1 - i) (by omega)
  simp only [List.getD_eq_getElem?_getD, List.getElem?_eq_getElem (show l.length - 1 - i < l.length by omega), Option.getD_some] at this
  simpa using this
theorem lastP_some {p : Ent → Bool} {l : List Ent} {k : Nat} (hk : k < l.length) (h : ∀ j, k < j → j < l.length → p (l.getD j (0, 0, 0)) = false) (h2 : p (l.getD k (0, 0, 0)) = true) : lastP p l = (l.getD k (0, 0, 0), true) := by
  have hf : l.reverse.find? p = some (l.getD k (0, 0, 0)) := by
    rw [List.find?_eq_some_iff_getElem]
    have e2 : l.getD k (0, 0, 0) = l[k] := by simp [List.getD_eq_getElem?_getD, hk]
    refine ⟨h2, l.length - 1 - k, by simp; omega, ?_, fun j hj => ?_⟩
    · rw [e2]; simp; congr 1; omega
    · have := h (l.length - 1 - j) (by omega) (by omega)
      simp only [List.getD_eq_getElem?_getD, List.getElem?_eq_getElem (show l.length - 1 - j < l.length by omega), Option.getD_some] at this
      simpa using this
  unfold lastP
  rw [hf]

theorem rbyT_pure (x : Idx) (time : Int) (hl : x.2.2.length ≤ 1000000) : Pure Try.prog 38 [ixV x, iV time] (.tup [.sv (eV (byT time x.2.2).1), .sv (.bool (byT time x.2.2).2)]) := by
  obtain ⟨a, b, l⟩ := x
  simp only at hl
  rw [byT_last]
  refine pure_go R0_ok Try.func38 Try.ntmps38 comp38 cres38 (by decide) (by simp) ?_
  have hw0 : IntKind.i64.wrap ((l.length : Int) - 1) = (l.length : Int) - 1 := by rw [IntKind.wrap_i64]; omega
  simp [ac38, ar38, iV, ixV, xV, hw0]
  refine awpR_loop (α := Nat) (fun k => k ≤ l.length ∧ ∀ j, k ≤ j → j < l.length → decide ((l.getD j (0, 0, 0)).2.1 < time) = false) (fun k => { n := 29, sl := [(1, .sv (.int .i64 time)), (2, .lptr 2 0), (4, .lptr 4 0), (6, .sv (.int .i64 ((k : Int) - 1)))], bx := [(2, [.sv (.int .i64 a), .sv (.int .i64 b), .sv (.sl 3 (EL l))]), (4, [.sv (.int .i64 0), .sv (.int .i64 0), .sv (.int .i64 0)])], hp := fun _ => none })
    (fun k => k) l.length ⟨by omega, fun j h1 h2 => by omega⟩ (by simp) ?_
  rintro k ⟨hk, hall⟩
  by_cases h : 0 < k
  · obtain ⟨m, rfl⟩ : ∃ m, k = m + 1 := ⟨k - 1, by omega⟩
    have e1 : ((m + 1 : Nat) : Int) - 1 = m := by omega
    have hm : m < l.length := by omega
    have hm1 : (m : Int) < l.length := by omega
    have hg := EL_get l hm
    have hw : IntKind.i64.wrap ((m : Int) - 1) = (m : Int) - 1 := by rw [IntKind.wrap_i64]; omega
    have key : decide ((l.getD m (0, 0, 0)).2.1 < time) = true → lastP (fun e => decide (e.2.1 < time)) l = (l.getD m (0, 0, 0), true) := fun q => lastP_some hm (fun j h1 h2 => hall j (by omega) h2) q
    have key2 : decide ((l.getD m (0, 0, 0)).2.1 < time) = false → ∀ j, m ≤ j → j < l.length → decide ((l.getD j (0, 0, 0)).2.1 < time) = false := by
      intro q j h1 h2
      by_cases e : j = m
      · subst e; exact q
      · exact hall j (by omega) h2
    generalize l.getD m (0, 0, 0) = s at hg key key2
    obtain ⟨s1, s2, s3⟩ := s
    rw [e1]
    by_cases q : s2 < time
    · have hk1 := key (by simpa using q)
      rw [hk1]
      have q' : ¬ time ≤ s2 := by omega
      simp [hm1, hg, eV, iV, hw, q, q']
    · have q' : time ≤ s2 := by omega
      have hk2 := key2 (by simpa using q)
      simp [hm1, hg, eV, iV, hw, q, q']
      exact ⟨m, ⟨by omega, by simpa using hk2⟩, by omega, rfl⟩
  · obtain rfl : k = 0 := by omega
    have := lastP_none (p := fun e => decide (e.2.1 < time)) (l := l) (fun j hj => hall j (by omega) hj)
    simp [this, eV, iV]
end Go.Proofs.Ytomlhaekhammkaa
