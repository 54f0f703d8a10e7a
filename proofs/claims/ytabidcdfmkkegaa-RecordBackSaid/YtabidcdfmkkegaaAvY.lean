import Derived.Test.YtabidcdfmkkegaaAvX
import Derived.Orders
set_option linter.unusedSimpArgs false
namespace Go.Av

theorem disj_spec {a b : List Nat} (h : disj a b = true) : ∀ x ∈ a, ∀ y ∈ b, x ≠ y := by
  intro x hx y hy e
  subst e
  have := List.all_eq_true.1 h x hx
  simp [hy] at this

theorem eff_fits {R : Orc} {x y : AOp} {st : St} {c : Prop} {W : List (Nat × LV)} {B : List (Nat × List RV)} (hx : eff R st x = some (c, W, B)) (hf : fresh x st)
    (hd : disj x.ws y.rs = true) (hb : y.bk ≠ 0 → B = [] ∨ x.bk = 2) : eff R (st.app W B) y = eff R st y := by
  obtain ⟨k1, k2, k3⟩ := eff_ws hx
  have hne := disj_spec hd
  refine eff_al ⟨rfl, rfl, fun t ht => ?_⟩ fun hy t ht s off e => ?_
  · simp only [St.app]
    exact lk_app _ _ _ fun p hp => hne _ (k1 p hp) _ ht
  · simp only [St.app]
    refine lkb_app _ _ _ fun p hp => ?_
    rcases hb hy with h | h
    · rw [h] at hp; simp at hp
    · rcases k3 h with ⟨q, _⟩ | ⟨d, cells, lv, e1, rfl, rfl, _⟩
      · rw [q] at hp; simp at hp
      simp at hp; subst hp
      have hn : noL d st.sl := by
        obtain ⟨dst, gu, k⟩ := x
        simp only at e1; subst e1
        cases k <;> first | exact hf | simp [AOp.bk] at h
      exact (noL_ptr hn e).symm

theorem fresh_iff {o : AOp} {st : St} : fresh o st ↔ (o.bk = 2 → ∀ d, o.dst = some d → noL d st.sl) := by
  obtain ⟨dst, gu, k⟩ := o
  cases dst with
  | none => cases k <;> simp [fresh, AOp.bk]
  | some d => cases k <;> simp [fresh, AOp.bk]

theorem bk_ws {o : AOp} {d : Nat} (h : o.dst = some d) : d ∈ o.ws := by simp [AOp.ws, h]

/-- Two operations that do not touch each other change places. -/
theorem eff_swap {R : Orc} {x y : AOp} {st : St} {c1 c2 : Prop} {W1 W2 : List (Nat × LV)} {B1 B2 : List (Nat × List RV)} (hi : indep x y = true)
    (h1 : eff R st x = some (c1, W1, B1)) (f1 : fresh x st) (h2 : eff R (st.app W1 B1) y = some (c2, W2, B2)) (f2 : fresh y (st.app W1 B1)) :
    eff R st y = some (c2, W2, B2) ∧ fresh y st ∧ eff R (st.app W2 B2) x = some (c1, W1, B1) ∧ fresh x (st.app W2 B2) ∧ Eqv ((st.app W1 B1).app W2 B2) ((st.app W2 B2).app W1 B1) := by
  simp only [indep, Bool.and_eq_true] at hi
  obtain ⟨⟨⟨i1, i2⟩, i3⟩, i4⟩ := hi
  obtain ⟨k1, k2, k3⟩ := eff_ws h1
  have e2 : eff R st y = some (c2, W2, B2) := by
    rw [← h2]; symm
    refine eff_fits h1 f1 i2 fun hy => ?_
    cases hb : x.bk with
    | zero => exact .inl (k2 (.inl hb))
    | succ n =>
      cases n with
      | zero => exact .inl (k2 (.inr hb))
      | succ n =>
        cases n with
        | zero => exact .inr rfl
        | succ n =>
          exfalso; rw [hb] at i4
          cases hy' : y.bk with
          | zero => exact hy hy'
          | succ m => rw [hy'] at i4; simp [bkOK] at i4
  have g2 : fresh y st := fresh_iff.2 fun hb d hd => (noL_append.1 (fresh_iff.1 f2 hb d hd)).2
  obtain ⟨l1, l2, l3⟩ := eff_ws e2
  have e1 : eff R (st.app W2 B2) x = some (c1, W1, B1) := by
    rw [← h1]
    have i1' : disj y.ws x.rs = true := by
      apply List.all_eq_true.2; intro t ht
      have := disj_spec i1
      simp; intro q; exact this _ q _ ht rfl
    refine eff_fits e2 g2 i1' fun hx => ?_
    cases hb : y.bk with
    | zero => exact .inl (l2 (.inl hb))
    | succ n =>
      cases n with
      | zero => exact .inl (l2 (.inr hb))
      | succ n =>
        cases n with
        | zero => exact .inr rfl
        | succ n =>
          exfalso; rw [hb] at i4
          cases hx' : x.bk with
          | zero => exact hx hx'
          | succ m =>
            rw [hx'] at i4
            cases m with
            | zero => simp [bkOK] at i4
            | succ m => cases m <;> simp [bkOK] at i4
  have i3' := disj_spec i3
  refine ⟨e2, g2, e1, fresh_iff.2 fun hb d hd => ?_, Eqv.swap (fun p hp q hq => i3' _ (k1 p hp) _ (l1 q hq)) fun p hp q hq => ?_⟩
  · simp only [St.app]
    exact noL_append.2 ⟨eff_noL e2 (fresh_iff.1 f1 hb d hd) (fun _ e => i3' _ (bk_ws hd) _ (bk_ws e) rfl), fresh_iff.1 f1 hb d hd⟩
  · cases hb : x.bk with
    | zero => rw [k2 (.inl hb)] at hp; simp at hp
    | succ n =>
      cases n with
      | zero => rw [k2 (.inr hb)] at hp; simp at hp
      | succ n =>
        cases hb2 : y.bk with
        | zero => rw [l2 (.inl hb2)] at hq; simp at hq
        | succ m =>
          cases m with
          | zero => rw [l2 (.inr hb2)] at hq; simp at hq
          | succ m =>
            rw [hb, hb2] at i4
            cases n with
            | succ n => cases m <;> simp [bkOK] at i4
            | zero =>
              cases m with
              | succ m => simp [bkOK] at i4
              | zero =>
                rcases k3 hb with ⟨q, _⟩ | ⟨d, cells, lv, q1, rfl, rfl, _⟩
                · rw [q] at hp; simp at hp
                rcases l3 hb2 with ⟨q, _⟩ | ⟨d', cells', lv', q2, rfl, rfl, _⟩
                · rw [q] at hq; simp at hq
                simp at hp hq; subst hp; subst hq
                exact i3' _ (bk_ws q1) _ (bk_ws q2)

/-! ### runs -/
def Runs (R : Orc) : List AOp → St → St → Prop
  | [], st, stf => st = stf
  | o :: r, st, stf => ∃ c W B, eff R st o = some (c, W, B) ∧ c ∧ fresh o st ∧ Runs R r (st.app W B) stf

theorem runs_of : ∀ {R : Orc} {l : List AOp} {st stf : St} {c0 c : Prop}, runR R l st c0 = some (c, stf) → c → c0 ∧ Runs R l st stf
  | R, [], st, stf, c0, c, h, hc => by cases h; exact ⟨hc, rfl⟩
  | R, o :: r, st, stf, c0, c, h, hc => by
    simp only [runR] at h
    split at h
    case h_2 => cases h
    rename_i c' W B e
    obtain ⟨⟨q1, q2, q3⟩, q4⟩ := runs_of h hc
    exact ⟨q1, c', W, B, e, q2, q3, q4⟩

theorem eff_eqv {R : Orc} {st st2 : St} (h : Eqv st st2) (o : AOp) : eff R st2 o = eff R st o :=
  eff_al ⟨h.n, h.hp, fun t _ => h.sl t⟩ fun _ _ _ s _ _ => h.bx s
theorem fresh_eqv {st st2 : St} (h : Eqv st st2) (o : AOp) : fresh o st → fresh o st2 := fun hf => fresh_iff.2 fun hb d hd => (h.nl d).2 (fresh_iff.1 hf hb d hd)

theorem Runs.eqv {R : Orc} : ∀ {l : List AOp} {st st2 stf : St}, Eqv st st2 → Runs R l st stf → ∃ stf2, Runs R l st2 stf2 ∧ Eqv stf stf2
  | [], st, st2, stf, h, hr => by cases hr; exact ⟨st2, rfl, h⟩
  | o :: r, st, st2, stf, h, hr => by
    obtain ⟨c, W, B, e, hc, hf, hr⟩ := hr
    obtain ⟨stf2, q1, q2⟩ := Runs.eqv (h.app W B) hr
    exact ⟨stf2, ⟨c, W, B, by rw [eff_eqv h]; exact e, hc, fresh_eqv h o hf, q1⟩, q2⟩

theorem Runs.bubble {R : Orc} {o : AOp} {post : List AOp} : ∀ {pre : List AOp} {st stf : St}, (∀ x ∈ pre, indep x o = true) → Runs R (pre ++ o :: post) st stf →
    ∃ c W B, eff R st o = some (c, W, B) ∧ c ∧ fresh o st ∧ ∃ stf', Runs R (pre ++ post) (st.app W B) stf' ∧ Eqv stf stf'
  | [], st, stf, _, hr => by
    obtain ⟨c, W, B, e, hc, hf, hr⟩ := hr
    exact ⟨c, W, B, e, hc, hf, stf, hr, Eqv.refl _⟩
  | x :: pre, st, stf, hi, hr => by
    obtain ⟨c1, W1, B1, e1, hc1, hf1, hr⟩ := hr
    obtain ⟨c, W, B, e, hc, hf, stf', q1, q2⟩ := Runs.bubble (fun y hy => hi y (by simp [hy])) hr
    obtain ⟨s1, s2, s3, s4, s5⟩ := eff_swap (hi x (by simp)) e1 hf1 e hf
    obtain ⟨stf2, r1, r2⟩ := q1.eqv s5
    exact ⟨c, W, B, s1, hc, s2, stf2, ⟨c1, W1, B1, s3, hc1, s4, r1⟩, q2.trans r2⟩

/-! ### a region whose order is drawn -/
def comesBefore (ops : Array Oper) : Nat → Nat → Nat → Bool
  | 0, _, _ => false
  | f + 1, j, i => match ops[i]? with
    | some o => o.after.toList.any fun e => Region.binds .any e && (e.on == j || comesBefore ops f j e.on)
    | none => false

def allNat (n : Nat) (p : Nat → Bool) : Bool := (List.range n).all p
theorem allNat_spec {n : Nat} {p : Nat → Bool} (h : allNat n p = true) : ∀ i, i < n → p i = true := fun i hi => List.all_eq_true.1 h i (List.mem_range.2 hi)

def edgesBack (ops : Array Oper) : Bool := allNat ops.size fun i => match ops[i]? with
  | some o => o.after.toList.all fun e => !Region.binds .any e || decide (e.on < i)
  | none => true

def drawOK (ops : Array Oper) (al : List AOp) : Bool := edgesBack ops &&
  allNat ops.size fun i => allNat i fun j => indep (al.getD j default) (al.getD i default) || comesBefore ops 3 j i

def Closed (ops : Array Oper) (listed : Array Bool) : Prop := ∀ i o, ops[i]? = some o → listed.getD i true = true → ∀ e ∈ o.after.toList, Region.binds .any e = true → listed.getD e.on false = true

def pend (ops : Array Oper) (listed : Array Bool) : List Nat := (List.range ops.size).filter fun i => !listed.getD i true

theorem ready_spec {ops : Array Oper} {listed : Array Bool} {i : Nat} (h : i ∈ Region.ready .any ops listed) : i ∈ pend ops listed ∧ ∃ o, ops[i]? = some o ∧ ∀ e ∈ o.after.toList, Region.binds .any e = true → listed.getD e.on false = true := by
  simp only [Region.ready, List.mem_filter, Bool.and_eq_true] at h
  obtain ⟨h1, h2, h3⟩ := h
  refine ⟨List.mem_filter.2 ⟨h1, h2⟩, ?_⟩
  cases ho : ops[i]? with
  | none => simp [ho] at h3
  | some o =>
    refine ⟨o, rfl, fun e he hb => ?_⟩
    simp [ho] at h3
    obtain ⟨k, hk, hk2⟩ := List.mem_iff_getElem.1 he
    have := h3 k (by simpa using hk)
    simp at hk2
    rw [hk2] at this
    rcases this with q | q
    · rw [hb] at q; cases q
    · simpa using q

theorem before_listed {ops : Array Oper} {listed : Array Bool} (hsz : listed.size = ops.size) (hc : Closed ops listed) : ∀ (f j i : Nat) (o : Oper), ops[i]? = some o → (∀ e ∈ o.after.toList, Region.binds .any e = true → listed.getD e.on false = true) → comesBefore ops f j i = true → listed.getD j false = true
  | 0, j, i, o, _, _, h => by simp [comesBefore] at h
  | f + 1, j, i, o, ho, hl, h => by
    simp only [comesBefore, ho, List.any_eq_true, Bool.and_eq_true, Bool.or_eq_true, beq_iff_eq] at h
    obtain ⟨e, he, hb, h⟩ := h
    have hle := hl e he hb
    rcases h with h | h
    · rw [← h]; exact hle
    · have hlt : e.on < ops.size := by
        rw [← hsz]
        apply Classical.byContradiction; intro q
        simp [Array.getD_eq_getD_getElem?, q] at hle
      have ho2 : ops[e.on]? = some ops[e.on] := by simp [hlt]
      have hlt' : e.on < listed.size := by omega
      exact before_listed hsz hc f j e.on _ ho2 (hc e.on _ ho2 (by simpa [Array.getD_eq_getD_getElem?, hlt'] using hle)) h

end Go.Av
