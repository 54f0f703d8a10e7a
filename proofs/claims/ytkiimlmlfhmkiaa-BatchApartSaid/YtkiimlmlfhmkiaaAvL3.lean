import Derived.Test.YtkiimlmlfhmkiaaAvL2
import Derived.Orders
import Derived.RegionTactic

set_option linter.unusedVariables false
set_option linter.unusedSimpArgs false

set_option linter.unusedSimpArgs false
namespace Go.Av

theorem rlk_mem : ∀ {rl : RL} {t r : Nat}, rlk rl t = some r → (t, r) ∈ rl
  | (u, v) :: l, t, r, h => by
    simp only [rlk] at h
    split at h
    · rename_i e; cases h; subst e; simp
    · exact List.mem_cons_of_mem _ (rlk_mem h)
theorem rootsOK.spec {rl : RL} {st : St} (h : rootsOK rl st) {t r t' r' s s' : Nat} (h1 : rlk rl t = some r) (h2 : rlk rl t' = some r') (h3 : ptrTo st t = some s) (h4 : ptrTo st t' = some s') : s = s' ↔ r = r' := by
  have := h _ (rlk_mem h1) _ (rlk_mem h2)
  simp only [h3, h4] at this
  exact this

def Roots (rl : RL) (st : St) : Prop := ∀ t r t' r' s s', rlk rl t = some r → rlk rl t' = some r' → ptrTo st t = some s → ptrTo st t' = some s' → (s = s' ↔ r = r')
theorem rootsOK.roots {rl : RL} {st : St} (h : rootsOK rl st) : Roots rl st := fun _ _ _ _ _ _ h1 h2 h3 h4 => h.spec h1 h2 h3 h4

theorem ptr_dg (lv : LV) (s o : Nat) : lv.dg.gv.2 = .lptr s o ↔ lv.gv.2 = .lptr s o := by
  induction lv with
  | gd c v ih => simpa [LV.dg, LV.gv] using ih
  | _ => simp [LV.dg, LV.gv]
theorem ptr_dgi (i : Nat) (lv : LV) (s o : Nat) : (lv.dgi i).gv.2 = .lptr s o ↔ lv.gv.2 = .lptr s o := by
  induction lv with
  | gd c v ih => simpa [LV.dgi, LV.gv] using ih
  | _ => simp [LV.dgi, LV.gv]
theorem ptrTo_iff {st : St} {t s : Nat} : ptrTo st t = some s ↔ ∃ o, (lk st.sl t).gv.2 = .lptr s o := by
  unfold ptrTo
  generalize (lk st.sl t).gv.2 = lv
  cases lv <;> simp

theorem eff_box {R : Orc} {st : St} {o : AOp} {c : Prop} {W : List (Nat × LV)} {B : List (Nat × List RV)} (h : eff R st o = some (c, W, B)) :
    ∀ p ∈ B, (o.bk = 2 ∧ o.dst = some p.1) ∨ ∃ q, o.ptr = some q ∧ ptrTo st q = some p.1 := by
  have hw := eff_ws h
  by_cases h2 : o.bk = 2
  · rcases hw.2.2 h2 with ⟨e, _⟩ | ⟨d, cells, lv, e1, e2, _⟩
    · intro p hp; rw [e] at hp; simp at hp
    · intro p hp; rw [e2] at hp; simp at hp; subst hp; exact .inl ⟨h2, e1⟩
  by_cases h0 : o.bk = 0 ∨ o.bk = 1
  · intro p hp; rw [hw.2.1 h0] at hp; simp at hp
  obtain ⟨dst, gu, k⟩ := o
  have hk : k.quiet = false ∧ (∃ n x v, k = .store n x v) ∨ (∃ f x l, k = .callE f x l) ∨ (∃ x, k = .takeLoad x) := by
    cases k <;> simp [AOp.bk, AK.quiet] at h2 h0 ⊢
  rcases hk with ⟨_, n, x, v, rfl⟩ | ⟨f, x, l, rfl⟩ | ⟨x, rfl⟩
  · simp only [eff, effStore] at h
    split at h
    case h_2 => cases h
    rename_i g1 s off g2 u e1 e2
    split at h
    case h_2 => cases h
    simp only [Option.some.injEq, Prod.mk.injEq] at h
    obtain ⟨-, -, rfl⟩ := h
    intro p hp
    simp at hp; subst hp
    right
    cases x with
    | t t => exact ⟨t, rfl, ptrTo_iff.2 ⟨off, by simp [rdl] at e1; rw [e1]⟩⟩
    | c v => simp [rdl] at e1
  · simp only [eff, effCallE] at h
    split at h
    case h_3 => cases h
    · rename_i d g gx s c' l' e0 e1 e2
      split at h
      case h_2 => cases h
      split at h
      case h_2 => cases h
      split at h
      case isFalse => cases h
      simp only [Option.some.injEq, Prod.mk.injEq] at h
      obtain ⟨-, -, rfl⟩ := h
      intro p hp
      simp at hp; subst hp
      right
      cases x with
      | t t => exact ⟨t, rfl, ptrTo_iff.2 ⟨0, by simp [rdl] at e1; rw [e1]⟩⟩
      | c v => simp [rdl] at e1
    · split at h
      case h_2 => cases h
      split at h
      case isFalse => cases h
      simp only [Option.some.injEq, Prod.mk.injEq] at h
      obtain ⟨-, -, rfl⟩ := h
      intro p hp; simp at hp
  · simp [eff] at h

/-- What is written. -/
theorem eff_W {R : Orc} {st : St} {o : AOp} {c : Prop} {W : List (Nat × LV)} {B : List (Nat × List RV)} (h : eff R st o = some (c, W, B)) :
    W = [] ∨ ∃ d v rest, o.dst = some d ∧ W = (d, v) :: rest ∧ (rest = [] ∨ rest = dgW st o.k) ∧ ∀ s off, v.gv.2 = .lptr s off → (∃ lv c', ev st o.k = some (c', lv) ∧ lv.gv.2 = .lptr s off) ∨ o.bk = 2 := by
  have quiet : effQ st o = some (c, W, B) → W = [] ∨ ∃ d v rest, o.dst = some d ∧ W = (d, v) :: rest ∧ (rest = [] ∨ rest = dgW st o.k) ∧ ∀ s off, v.gv.2 = .lptr s off → (∃ lv c', ev st o.k = some (c', lv) ∧ lv.gv.2 = .lptr s off) ∨ o.bk = 2 := by
    intro h
    unfold effQ at h
    split at h
    case h_3 => cases h
    case h_2 e1 e2 e3 =>
      split at h
      case isFalse => cases h
      simp only [Option.some.injEq, Prod.mk.injEq] at h
      obtain ⟨-, rfl, rfl⟩ := h
      exact .inr ⟨_, _, [], e1, rfl, .inl rfl, fun s off q => by simp [LV.gv] at q⟩
    rename_i d g c' lv e1 e2 e3
    split at h
    case isFalse => cases h
    simp only [Option.some.injEq, Prod.mk.injEq] at h
    obtain ⟨-, rfl, rfl⟩ := h
    refine .inr ⟨d, _, _, e1, rfl, .inr rfl, fun s off q => .inl ⟨lv, c', e3, ?_⟩⟩
    cases hgu : o.guard with
    | none => simpa [gdv, hgu] using q
    | some z => simpa [gdv, hgu, LV.gv] using q
  by_cases h2 : o.bk = 2
  · rcases (eff_ws h).2.2 h2 with ⟨_, hq⟩ | ⟨d, cells, lv, e1, _, e2, _⟩
    · exact quiet hq
    · exact .inr ⟨d, lv, [], e1, e2, .inl rfl, fun _ _ _ => .inr h2⟩
  have flat : ∀ {gu : Option (Nat × Bool)} {g : Bool} {rv : LV} {s off : Nat}, rv.flat = true → (gdv gu g rv).gv.2 ≠ .lptr s off := by
    intro gu g rv s off hf
    cases gu <;> cases rv <;> simp [LV.flat] at hf <;> simp [gdv, LV.gv]
  obtain ⟨dst, gu, k⟩ := o
  cases k
  case box n x => simp [AOp.bk] at h2
  case alloc z => simp [AOp.bk] at h2
  case mks a b z l => simp [AOp.bk] at h2
  case callN f l => simp [AOp.bk] at h2
  case store n x v =>
    simp only [eff, effStore] at h
    split at h
    case h_2 => cases h
    split at h
    case h_2 => cases h
    simp only [Option.some.injEq, Prod.mk.injEq] at h
    obtain ⟨-, rfl, rfl⟩ := h
    exact .inl rfl
  case callV x l =>
    simp only [eff, effCallV] at h
    split at h
    case h_2 => cases h
    rename_i d g gx f fs cs c' l e2 e3 e5
    split at h
    case h_2 => cases h
    rename_i c2 rv e4
    split at h
    case isFalse => cases h
    rename_i hd
    simp only [Option.some.injEq, Prod.mk.injEq] at h
    obtain ⟨-, rfl, rfl⟩ := h
    exact .inr ⟨d, _, [], rfl, rfl, .inl rfl, fun s off q => absurd q (flat hd.2.1)⟩
  case call f l =>
    simp only [eff, effCall] at h
    split at h
    case h_2 => cases h
    rename_i d g c' l e2 e3
    split at h
    case h_2 => cases h
    rename_i c2 rv e4
    split at h
    case isFalse => cases h
    rename_i hd
    simp only [Option.some.injEq, Prod.mk.injEq] at h
    obtain ⟨-, rfl, rfl⟩ := h
    exact .inr ⟨d, _, [], rfl, rfl, .inl rfl, fun s off q => absurd q (flat hd.2)⟩
  case callE f x l =>
    simp only [eff, effCallE] at h
    split at h
    case h_3 => cases h
    · split at h
      case h_2 => cases h
      split at h
      case h_2 => cases h
      split at h
      case isFalse => cases h
      rename_i hd
      simp only [Option.some.injEq, Prod.mk.injEq] at h
      obtain ⟨-, rfl, rfl⟩ := h
      exact .inr ⟨_, _, [], rfl, rfl, .inl rfl, fun s off q => absurd q (flat hd.2)⟩
    · split at h
      case h_2 => cases h
      split at h
      case isFalse => cases h
      rename_i hd
      simp only [Option.some.injEq, Prod.mk.injEq] at h
      obtain ⟨-, rfl, rfl⟩ := h
      exact .inr ⟨_, _, [], rfl, rfl, .inl rfl, fun s off q => absurd q (flat hd.2)⟩
  case takeLoad x => simp [eff] at h
  case storeO x s => simp [eff] at h
  all_goals exact quiet h

theorem ptr_dgW {st : St} {k : AK} {t s off : Nat} (h : (lk (dgW st k ++ st.sl) t).gv.2 = .lptr s off) : (lk st.sl t).gv.2 = .lptr s off := by
  cases k <;> simp only [dgW, List.cons_append, List.nil_append, lk] at h
  all_goals first | exact h | skip
  all_goals
    split at h
    · rename_i e
      subst e
      first | exact (ptr_dg _ _ _).1 h | exact (ptr_dgi _ _ _ _).1 h
    · exact h

theorem eff_ptr {R : Orc} {rl : RL} {st : St} {o : AOp} {c : Prop} {W : List (Nat × LV)} {B : List (Nat × List RV)} (h : eff R st o = some (c, W, B)) (hk : keepsPtr rl o = true) {t r s : Nat} (ht : rlk rl t = some r)
    (hp : ptrTo (st.app W B) t = some s) : ∃ q, rlk rl q = some r ∧ ptrTo st q = some s := by
  obtain ⟨off, hz⟩ := ptrTo_iff.1 hp
  simp only [St.app] at hz
  rcases eff_W h with rfl | ⟨d, v, rest, e1, rfl, e2, e3⟩
  · exact ⟨t, ht, ptrTo_iff.2 ⟨off, hz⟩⟩
  simp only [List.cons_append, lk] at hz
  split at hz
  · rename_i hdt
    subst hdt
    simp only [keepsPtr, e1, ht] at hk
    have key : ∀ q, rlk rl q = some r → ((lk st.sl q).gv.2 = .lptr s off ∨ ∃ z, (lk st.sl q).gv.2 = .lptr s z) → ∃ q, rlk rl q = some r ∧ ptrTo st q = some s := fun q hq hl => by
      rcases hl with hl | ⟨z, hl⟩
      · exact ⟨q, hq, ptrTo_iff.2 ⟨_, hl⟩⟩
      · exact ⟨q, hq, ptrTo_iff.2 ⟨_, hl⟩⟩
    rcases e3 s off hz with ⟨lv, c', q1, q2⟩ | q1
    · split at hk
      · rename_i q z hok
        have hq : rlk rl q = some r := by simpa using hk
        rw [hok] at q1
        simp only [ev] at q1
        split at q1
        case h_2 => cases q1
        rename_i c2 r2 hf
        simp only [Option.some.injEq, Prod.mk.injEq] at q1
        obtain ⟨-, rfl⟩ := q1
        unfold faddrV at hf
        split at hf <;> cases hf
        · rename_i s0 o0 hx
          simp only [LV.gv] at q2
          cases q2
          exact key q hq (.inr ⟨_, by simpa [rdl] using hx⟩)
        · simp [LV.gv] at q2
        · simp [LV.gv] at q2
      · rename_i q hok
        have hq : rlk rl q = some r := by simpa using hk
        rw [hok] at q1
        simp only [ev, rdl] at q1
        split at q1 <;> cases q1 <;> simp only [LV.gv] at q2 <;> cases q2
        rename_i hx
        exact key q hq (.inr ⟨_, by rw [hx]⟩)
      · rename_i q hok
        have hq : rlk rl q = some r := by simpa using hk
        rw [hok] at q1
        simp only [ev] at q1
        split at q1 <;> cases q1 <;> simp only [LV.gv] at q2 <;> cases q2
        rename_i hx
        exact key q hq (.inr ⟨_, by rw [hx]⟩)
      · rename_i q hok
        have hq : rlk rl q = some r := by simpa using hk
        rw [hok] at q1
        simp only [ev, rdl] at q1
        split at q1 <;> cases q1 <;> simp only [LV.gv] at q2 <;> cases q2
        rename_i hx
        exact key q hq (.inr ⟨_, by rw [hx]⟩)
      · cases hk
    · split at hk
      · rename_i hok; simp [AOp.bk, hok] at q1
      · rename_i hok; simp [AOp.bk, hok] at q1
      · rename_i hok; simp [AOp.bk, hok] at q1
      · rename_i hok; simp [AOp.bk, hok] at q1
      · cases hk
  · rcases e2 with rfl | rfl
    · exact ⟨t, ht, ptrTo_iff.2 ⟨off, by simpa using hz⟩⟩
    · exact ⟨t, ht, ptrTo_iff.2 ⟨off, ptr_dgW hz⟩⟩

theorem Roots.app {R : Orc} {rl : RL} {st : St} {o : AOp} {c : Prop} {W : List (Nat × LV)} {B : List (Nat × List RV)} (hr : Roots rl st) (h : eff R st o = some (c, W, B)) (hk : keepsPtr rl o = true) : Roots rl (st.app W B) := by
  intro t r t' r' s s' h1 h2 h3 h4
  obtain ⟨q, k1, k2⟩ := eff_ptr h hk h1 h3
  obtain ⟨q', k3, k4⟩ := eff_ptr h hk h2 h4
  exact hr q r q' r' s s' k1 k3 k2 k4
end Go.Av

set_option linter.unusedSimpArgs false
namespace Go.Av

theorem disj_spec {a b : List Nat} (h : disj a b = true) : ∀ x ∈ a, ∀ y ∈ b, x ≠ y := by
  intro x hx y hy e
  subst e
  have := List.all_eq_true.1 h x hx
  simp [hy] at this

theorem eff_fits {R : Orc} {x y : AOp} {st : St} {c : Prop} {W : List (Nat × LV)} {B : List (Nat × List RV)} (hx : eff R st x = some (c, W, B))
    (hd : disj x.ws y.rs = true) (hb : ∀ q, y.ptr = some q → ∀ s, ptrTo st q = some s → ∀ p ∈ B, p.1 ≠ s) : eff R (st.app W B) y = eff R st y := by
  obtain ⟨k1, k2, k3⟩ := eff_ws hx
  have hne := disj_spec hd
  refine eff_al ⟨rfl, rfl, fun t ht => ?_⟩ fun q hq s off e => ?_
  · simp only [St.app]
    exact lk_app _ _ _ fun p hp => hne _ (k1 p hp) _ ht
  · simp only [St.app]
    exact lkb_app _ _ _ fun p hp => hb q hq s (ptrTo_iff.2 ⟨off, e⟩) p hp

theorem fresh_iff {o : AOp} {st : St} : fresh o st ↔ (o.bk = 2 → ∀ d, o.dst = some d → noL d st.sl) := by
  obtain ⟨dst, gu, k⟩ := o
  cases dst with
  | none => cases k <;> simp [fresh, AOp.bk]
  | some d => cases k <;> simp [fresh, AOp.bk]

theorem bk_ws {o : AOp} {d : Nat} (h : o.dst = some d) : d ∈ o.ws := by simp [AOp.ws, h]

/-- Boxes that two operations touch are two. -/
theorem boxes_apart {R : Orc} {rl : RL} {x y : AOp} {st : St} {c1 : Prop} {W1 : List (Nat × LV)} {B1 : List (Nat × List RV)} (hr : Roots rl st) (hok : bkOK rl x y = true)
    (h1 : eff R st x = some (c1, W1, B1)) (f1 : fresh x st) : ∀ q, y.ptr = some q → ∀ s, ptrTo st q = some s → ∀ p ∈ B1, p.1 ≠ s := by
  intro q hq s hs p hp e
  subst e
  rcases eff_box h1 p hp with ⟨hb, hd⟩ | ⟨q', hq', hs'⟩
  · obtain ⟨off, h⟩ := ptrTo_iff.1 hs
    exact noL_ptr (fresh_iff.1 f1 hb _ hd) h rfl
  · simp only [bkOK, hq', hq, Bool.or_eq_true, Bool.and_eq_true, beq_iff_eq] at hok
    rcases hok with ⟨hx1, _⟩ | hne
    · rw [(eff_ws h1).2.1 (.inr hx1)] at hp; simp at hp
    · split at hne
      · rename_i r r' e1 e2
        have := (hr _ _ _ _ _ _ e1 e2 hs' hs).1 rfl
        simp [this] at hne
      · cases hne

theorem bkOK_symm {rl : RL} {x y : AOp} (h : bkOK rl x y = true) : bkOK rl y x = true := by
  unfold bkOK at h ⊢
  cases hx : x.ptr <;> cases hy : y.ptr <;> simp only [hx, hy] at h ⊢
  rename_i p q
  cases h1 : rlk rl p <;> cases h2 : rlk rl q <;> simp [h1, h2] at h ⊢
  · exact ⟨h.2, h.1⟩
  · exact ⟨h.2, h.1⟩
  · exact ⟨h.2, h.1⟩
  · rcases h with h | h
    · exact .inl ⟨h.2, h.1⟩
    · exact .inr (fun e => h e.symm)

/-- Two operations that do not touch each other change places. -/
theorem eff_swap {R : Orc} {rl : RL} {x y : AOp} {st : St} {c1 c2 : Prop} {W1 W2 : List (Nat × LV)} {B1 B2 : List (Nat × List RV)} (hr : Roots rl st) (hi : indep rl x y = true)
    (h1 : eff R st x = some (c1, W1, B1)) (f1 : fresh x st) (h2 : eff R (st.app W1 B1) y = some (c2, W2, B2)) (f2 : fresh y (st.app W1 B1)) :
    eff R st y = some (c2, W2, B2) ∧ fresh y st ∧ eff R (st.app W2 B2) x = some (c1, W1, B1) ∧ fresh x (st.app W2 B2) ∧ Eqv ((st.app W1 B1).app W2 B2) ((st.app W2 B2).app W1 B1) := by
  simp only [indep, Bool.and_eq_true] at hi
  obtain ⟨⟨⟨i1, i2⟩, i3⟩, i4⟩ := hi
  obtain ⟨k1, k2, k3⟩ := eff_ws h1
  have e2 : eff R st y = some (c2, W2, B2) := by
    rw [← h2]; symm
    exact eff_fits h1 i2 (boxes_apart hr i4 h1 f1)
  have g2 : fresh y st := fresh_iff.2 fun hb d hd => (noL_append.1 (fresh_iff.1 f2 hb d hd)).2
  obtain ⟨l1, l2, l3⟩ := eff_ws e2
  have hap := boxes_apart hr (bkOK_symm i4) e2 g2
  have e1 : eff R (st.app W2 B2) x = some (c1, W1, B1) := by
    rw [← h1]
    have i1' : disj y.ws x.rs = true := by
      apply List.all_eq_true.2; intro t ht
      have := disj_spec i1
      simp; intro q; exact this _ q _ ht rfl
    exact eff_fits e2 i1' hap
  have i3' := disj_spec i3
  refine ⟨e2, g2, e1, fresh_iff.2 fun hb d hd => ?_, Eqv.swap (fun p hp q hq => i3' _ (k1 p hp) _ (l1 q hq)) fun p hp q hq => ?_⟩
  · simp only [St.app]
    exact noL_append.2 ⟨eff_noL e2 (fresh_iff.1 f1 hb d hd) (fun _ e => i3' _ (bk_ws hd) _ (bk_ws e) rfl), fresh_iff.1 f1 hb d hd⟩
  · rcases eff_box h1 p hp with ⟨b1, d1⟩ | ⟨q1, n1, s1⟩
    · rcases eff_box e2 q hq with ⟨b2, d2⟩ | ⟨q2, n2, s2⟩
      · exact i3' _ (bk_ws d1) _ (bk_ws d2)
      · exact boxes_apart hr i4 h1 f1 q2 n2 _ s2 p hp
    · exact (hap q1 n1 _ s1 q hq).symm

/-! ### runs -/
def Runs (R : Orc) : List AOp → St → St → Prop
  | [], st, stf => st = stf
  | o :: r, st, stf => ∃ c W B, eff R st o = some (c, W, B) ∧ c ∧ fresh o st ∧ Runs R r (st.app W B) stf

theorem runs_of : ∀ {R : Orc} {l : List AOp} {st stf : St} {c0 c : Prop}, runR R l st c0 = some (c, stf) → c → c0 ∧ Runs R l st stf
  | R, [], st, stf, c0, c, h, hc => by cases h; exact ⟨hc, rfl⟩
  | R, o :: r, st, stf, c0, c, h, hc => by
    simp only [runR] at h
    split at h
    case h_2 => cases h
    rename_i c' W B e
    obtain ⟨⟨q1, q2, q3⟩, q4⟩ := runs_of h hc
    exact ⟨q1, c', W, B, e, q2, q3, q4⟩

theorem eff_eqv {R : Orc} {st st2 : St} (h : Eqv st st2) (o : AOp) : eff R st2 o = eff R st o :=
  eff_al ⟨h.n, h.hp, fun t _ => h.sl t⟩ fun _ _ s _ _ => h.bx s
theorem fresh_eqv {st st2 : St} (h : Eqv st st2) (o : AOp) : fresh o st → fresh o st2 := fun hf => fresh_iff.2 fun hb d hd => (h.nl d).2 (fresh_iff.1 hf hb d hd)

theorem Runs.eqv {R : Orc} : ∀ {l : List AOp} {st st2 stf : St}, Eqv st st2 → Runs R l st stf → ∃ stf2, Runs R l st2 stf2 ∧ Eqv stf stf2
  | [], st, st2, stf, h, hr => by cases hr; exact ⟨st2, rfl, h⟩
  | o :: r, st, st2, stf, h, hr => by
    obtain ⟨c, W, B, e, hc, hf, hr⟩ := hr
    obtain ⟨stf2, q1, q2⟩ := Runs.eqv (h.app W B) hr
    exact ⟨stf2, ⟨c, W, B, by rw [eff_eqv h]; exact e, hc, fresh_eqv h o hf, q1⟩, q2⟩

theorem Runs.bubble {R : Orc} {rl : RL} {o : AOp} {post : List AOp} : ∀ {pre : List AOp} {st stf : St}, Roots rl st → (∀ x ∈ pre, keepsPtr rl x = true) → (∀ x ∈ pre, indep rl x o = true) → Runs R (pre ++ o :: post) st stf →
    ∃ c W B, eff R st o = some (c, W, B) ∧ c ∧ fresh o st ∧ ∃ stf', Runs R (pre ++ post) (st.app W B) stf' ∧ Eqv stf stf'
  | [], st, stf, _, _, _, hr => by
    obtain ⟨c, W, B, e, hc, hf, hr⟩ := hr
    exact ⟨c, W, B, e, hc, hf, stf, hr, Eqv.refl _⟩
  | x :: pre, st, stf, hroot, hkp, hi, hr => by
    obtain ⟨c1, W1, B1, e1, hc1, hf1, hr⟩ := hr
    obtain ⟨c, W, B, e, hc, hf, stf', q1, q2⟩ := Runs.bubble (hroot.app e1 (hkp x (by simp))) (fun y hy => hkp y (by simp [hy])) (fun y hy => hi y (by simp [hy])) hr
    obtain ⟨s1, s2, s3, s4, s5⟩ := eff_swap hroot (hi x (by simp)) e1 hf1 e hf
    obtain ⟨stf2, r1, r2⟩ := q1.eqv s5
    exact ⟨c, W, B, s1, hc, s2, stf2, ⟨c1, W1, B1, s3, hc1, s4, r1⟩, q2.trans r2⟩

/-! ### a region whose order is drawn -/
def comesBefore (ops : Array Oper) : Nat → Nat → Nat → Bool
  | 0, _, _ => false
  | f + 1, j, i => match ops[i]? with
    | some o => o.after.toList.any fun e => Region.binds .any e && (e.on == j || comesBefore ops f j e.on)
    | none => false

def allNat (n : Nat) (p : Nat → Bool) : Bool := (List.range n).all p
theorem allNat_spec {n : Nat} {p : Nat → Bool} (h : allNat n p = true) : ∀ i, i < n → p i = true := fun i hi => List.all_eq_true.1 h i (List.mem_range.2 hi)

def edgesBack (ops : Array Oper) : Bool := allNat ops.size fun i => match ops[i]? with
  | some o => o.after.toList.all fun e => !Region.binds .any e || decide (e.on < i)
  | none => true

def Closed (ops : Array Oper) (listed : Array Bool) : Prop := ∀ i o, ops[i]? = some o → listed.getD i true = true → ∀ e ∈ o.after.toList, Region.binds .any e = true → listed.getD e.on false = true

/-- What must stand ahead, through others. -/
inductive Bef (ops : Array Oper) : Nat → Nat → Prop
  | one {i : Nat} {o : Oper} {e : Edge} : ops[i]? = some o → e ∈ o.after.toList → Region.binds .any e = true → Bef ops e.on i
  | more {i j : Nat} {o : Oper} {e : Edge} : ops[i]? = some o → e ∈ o.after.toList → Region.binds .any e = true → Bef ops j e.on → Bef ops j i
def addE (W n : Nat) : Nat → List Edge → Nat
  | M, [] => M
  | M, e :: r => addE W n (if Region.binds .any e && decide (e.on < W) then M ||| ((2 ^ e.on ||| ((M >>> (e.on * W)) % 2 ^ W)) <<< (n * W)) else M) r
def closeM (ops : Array Oper) (W : Nat) : Nat → Nat → Nat → Nat
  | 0, _, M => M
  | f + 1, n, M => closeM ops W f (n + 1) (match ops[n]? with | some o => addE W n M o.after.toList | none => M)
def MaskOK (ops : Array Oper) (W M : Nat) : Prop := ∀ i j, j < W → M.testBit (i * W + j) = true → Bef ops j i
theorem addE_ok {ops : Array Oper} {W n : Nat} {o : Oper} (ho : ops[n]? = some o) : ∀ (es : List Edge) (M : Nat), (∀ e ∈ es, e ∈ o.after.toList) → MaskOK ops W M → MaskOK ops W (addE W n M es)
  | [], M, _, h => h
  | e :: r, M, hes, h => by
    simp only [addE]
    refine addE_ok ho r _ (fun x hx => hes x (by simp [hx])) ?_
    split
    case isFalse => exact h
    rename_i hb
    simp only [Bool.and_eq_true, decide_eq_true_eq] at hb
    obtain ⟨hb, hlt⟩ := hb
    intro i j hj ht
    rw [Nat.testBit_or, Bool.or_eq_true] at ht
    rcases ht with ht | ht
    · exact h i j hj ht
    rw [Nat.testBit_shiftLeft, Bool.and_eq_true, decide_eq_true_eq] at ht
    obtain ⟨hge, ht⟩ := ht
    rw [Nat.testBit_or, Bool.or_eq_true] at ht
    have key : ∀ t, i * W + j - n * W = t → t < W → i = n ∧ j = t := by
      intro t e1 e2
      have e3 : i * W + j = n * W + t := by omega
      have hW : 0 < W := by omega
      have d1 : (i * W + j) / W = i := by rw [Nat.mul_comm, Nat.mul_add_div hW, Nat.div_eq_of_lt hj, Nat.add_zero]
      have d2 : (n * W + t) / W = n := by rw [Nat.mul_comm, Nat.mul_add_div hW, Nat.div_eq_of_lt e2, Nat.add_zero]
      have : i = n := by rw [← d1, ← d2, e3]
      subst this
      exact ⟨rfl, by omega⟩
    have hmem := hes e (by simp)
    rcases ht with ht | ht
    · rw [Nat.testBit_two_pow, decide_eq_true_eq] at ht
      have h1 : i * W + j - n * W = e.on := ht.symm
      obtain ⟨rfl, rfl⟩ := key _ h1 hlt
      exact .one ho hmem hb
    · rw [Nat.testBit_mod_two_pow, Bool.and_eq_true, decide_eq_true_eq, Nat.testBit_shiftRight] at ht
      obtain ⟨rfl, e2⟩ := key _ rfl ht.1
      rw [← e2] at ht
      exact .more ho hmem hb (h e.on j hj ht.2)
theorem closeM_ok {ops : Array Oper} {W : Nat} : ∀ (f n M : Nat), MaskOK ops W M → MaskOK ops W (closeM ops W f n M)
  | 0, n, M, h => h
  | f + 1, n, M, h => by
    simp only [closeM]
    refine closeM_ok f (n + 1) _ ?_
    split
    · rename_i o ho; exact addE_ok ho _ M (fun e he => he) h
    · exact h
theorem bef_listed {ops : Array Oper} {listed : Array Bool} (hsz : listed.size = ops.size) (hc : Closed ops listed) {j i : Nat} (hb : Bef ops j i) : ∀ o, ops[i]? = some o → (∀ e ∈ o.after.toList, Region.binds .any e = true → listed.getD e.on false = true) → listed.getD j false = true := by
  induction hb with
  | one ho hm hb => intro o' ho' hl; rw [ho] at ho'; cases ho'; exact hl _ hm hb
  | @more i j o e ho hm hb _ ih =>
    intro o' ho' hl
    rw [ho] at ho'; cases ho'
    have hle := hl e hm hb
    have hlt : e.on < ops.size := by
      rw [← hsz]
      apply Classical.byContradiction; intro q
      simp [Array.getD_eq_getD_getElem?, q] at hle
    have hlt' : e.on < listed.size := by omega
    have ho2 : ops[e.on]? = some ops[e.on] := by simp [hlt]
    exact ih _ ho2 (hc e.on _ ho2 (by simpa [Array.getD_eq_getD_getElem?, hlt'] using hle))
def inMask (ops : Array Oper) (j i : Nat) : Bool := decide (j < ops.size) && (closeM ops ops.size ops.size 0 0).testBit (i * ops.size + j)
theorem mask_listed {ops : Array Oper} {listed : Array Bool} (hsz : listed.size = ops.size) (hc : Closed ops listed) {j i : Nat} {o : Oper} (h : inMask ops j i = true) (ho : ops[i]? = some o) (hl : ∀ e ∈ o.after.toList, Region.binds .any e = true → listed.getD e.on false = true) : listed.getD j false = true := by
  simp only [inMask, Bool.and_eq_true, decide_eq_true_eq] at h
  exact bef_listed hsz hc (closeM_ok ops.size 0 0 (fun i j _ q => by simp at q) i j h.1 h.2) o ho hl

def drawOK (ops : Array Oper) (al : List AOp) (rl : RL) : Bool := edgesBack ops && al.all (keepsPtr rl) &&
  allNat ops.size fun i => allNat i fun j => indep rl (al.getD j default) (al.getD i default) || comesBefore ops 3 j i || inMask ops j i

/-- Slots that are pointed through, and where from. -/
def rootOf (al : List AOp) : Nat → Nat → Nat
  | 0, t => t
  | f + 1, t => match al.find? (fun o => o.dst == some t) with
    | some o => match o.k with
      | .faddr (.t q) _ => rootOf al f q
      | .mv (.t q) => rootOf al f q
      | .take q => rootOf al f q
      | .nilc (.t q) => rootOf al f q
      | _ => t
    | none => t
def chainOf (al : List AOp) : Nat → Nat → List Nat
  | 0, t => [t]
  | f + 1, t => match al.find? (fun o => o.dst == some t) with
    | some o => match o.k with
      | .faddr (.t q) _ => t :: chainOf al f q
      | .mv (.t q) => t :: chainOf al f q
      | .take q => t :: chainOf al f q
      | .nilc (.t q) => t :: chainOf al f q
      | _ => [t]
    | none => [t]
def rlOf (al : List AOp) : RL := ((al.filterMap AOp.ptr).flatMap (chainOf al 6)).eraseDups.map fun t => (t, rootOf al 6 t)


def pend (ops : Array Oper) (listed : Array Bool) : List Nat := (List.range ops.size).filter fun i => !listed.getD i true

theorem ready_spec {ops : Array Oper} {listed : Array Bool} {i : Nat} (h : i ∈ Region.ready .any ops listed) : i ∈ pend ops listed ∧ ∃ o, ops[i]? = some o ∧ ∀ e ∈ o.after.toList, Region.binds .any e = true → listed.getD e.on false = true := by
  simp only [Region.ready, List.mem_filter, Bool.and_eq_true] at h
  obtain ⟨h1, h2, h3⟩ := h
  refine ⟨List.mem_filter.2 ⟨h1, h2⟩, ?_⟩
  cases ho : ops[i]? with
  | none => simp [ho] at h3
  | some o =>
    refine ⟨o, rfl, fun e he hb => ?_⟩
    simp [ho] at h3
    obtain ⟨k, hk, hk2⟩ := List.mem_iff_getElem.1 he
    have := h3 k (by simpa using hk)
    simp at hk2
    rw [hk2] at this
    rcases this with q | q
    · rw [hb] at q; cases q
    · simpa using q

theorem before_listed {ops : Array Oper} {listed : Array Bool} (hsz : listed.size = ops.size) (hc : Closed ops listed) : ∀ (f j i : Nat) (o : Oper), ops[i]? = some o → (∀ e ∈ o.after.toList, Region.binds .any e = true → listed.getD e.on false = true) → comesBefore ops f j i = true → listed.getD j false = true
  | 0, j, i, o, _, _, h => by simp [comesBefore] at h
  | f + 1, j, i, o, ho, hl, h => by
    simp only [comesBefore, ho, List.any_eq_true, Bool.and_eq_true, Bool.or_eq_true, beq_iff_eq] at h
    obtain ⟨e, he, hb, h⟩ := h
    have hle := hl e he hb
    rcases h with h | h
    · rw [← h]; exact hle
    · have hlt : e.on < ops.size := by
        rw [← hsz]
        apply Classical.byContradiction; intro q
        simp [Array.getD_eq_getD_getElem?, q] at hle
      have ho2 : ops[e.on]? = some ops[e.on] := by simp [hlt]
      have hlt' : e.on < listed.size := by omega
      exact before_listed hsz hc f j e.on _ ho2 (hc e.on _ ho2 (by simpa [Array.getD_eq_getD_getElem?, hlt'] using hle)) h

end Go.Av

set_option linter.unusedSimpArgs false
namespace Go.Av
variable {P : Program} {w0 : World} {mu0 : Mem} {T : Tc} {g g' : Gh} {st st' : St} {a : Act} {w w' : World}

def gsOK (n : Nat) : Option (Nat × Bool) → Bool
  | none => true
  | some (s, _) => s < n
theorem gs_of {n : Nat} {gu : Option (Nat × Bool)} (h : gsOK n gu = true) : ∀ s b, gu = some (s, b) → s < n := by
  intro s b e; subst e; simpa [gsOK] using h

def compOpD (P : Program) (n : Nat) (ops : Array Oper) (o : Oper) : Option AOp :=
  match compK P false o, compG ops o.guard with
  | some k, some gu => if gsOK n gu then some { dst := o.dst, guard := gu, k := k } else none
  | _, _ => none
def compOpsD (P : Program) (n : Nat) (ops : Array Oper) : List Oper → Option (List AOp)
  | [] => some []
  | o :: r => match compOpD P n ops o, compOpsD P n ops r with
    | some a, some l => some (a :: l)
    | _, _ => none

theorem compOpsD_spec {n : Nat} {ops : Array Oper} : ∀ {l : List Oper} {al : List AOp}, compOpsD P n ops l = some al → ∀ (i : Nat) (o : Oper), l[i]? = some o →
    ∃ k gu, compK P false o = some k ∧ compG ops o.guard = some gu ∧ gsOK n gu = true ∧ al.getD i default = { dst := o.dst, guard := gu, k := k }
  | [], al, _, i, o, h => by simp at h
  | x :: l, al, hc, i, o, h => by
    simp only [compOpsD] at hc
    split at hc
    case h_2 => cases hc
    rename_i b al' hb hl
    cases hc
    cases i with
    | succ i => simpa using compOpsD_spec hl i o (by simpa using h)
    | zero =>
      simp at h; subst h
      simp only [compOpD] at hb
      split at hb
      case h_2 => cases hb
      rename_i k gu hk hg
      split at hb
      case isFalse => cases hb
      rename_i hgs
      cases hb
      exact ⟨k, gu, hk, hg, hgs, rfl⟩

theorem pend_set {ops : Array Oper} {listed : Array Bool} {i : Nat} (hi : i < listed.size) : pend ops (listed.setIfInBounds i true) = (pend ops listed).filter fun j => decide (j ≠ i) := by
  simp only [pend, List.filter_filter]
  congr 1
  funext j
  by_cases e : j = i
  · subst e; simp [Array.getD_eq_getD_getElem?, hi]
  · have : i ≠ j := fun q => e q.symm
    simp [Array.getD_eq_getD_getElem?, Array.getElem?_setIfInBounds, this, e]

theorem pend_sorted (ops : Array Oper) (listed : Array Bool) : (pend ops listed).Pairwise (· < ·) := List.Pairwise.filter _ List.pairwise_lt_range

theorem filter_ne_mid {l pre post : List Nat} {i : Nat} (hs : l.Pairwise (· < ·)) (h : l = pre ++ i :: post) : (l.filter fun j => decide (j ≠ i)) = pre ++ post ∧ (∀ x ∈ pre, x < i) := by
  subst h
  rw [List.pairwise_append] at hs
  obtain ⟨h1, h2, h3⟩ := hs
  rw [List.pairwise_cons] at h2
  have hp : ∀ x ∈ pre, x < i := fun x hx => h3 x hx i (by simp)
  refine ⟨?_, hp⟩
  rw [List.filter_append, List.filter_cons]
  have e1 : pre.filter (fun j => decide (j ≠ i)) = pre := List.filter_eq_self.2 fun x hx => by have := hp x hx; simp; omega
  have e2 : post.filter (fun j => decide (j ≠ i)) = post := List.filter_eq_self.2 fun x hx => by have := h2.1 x hx; simp; omega
  rw [e1, e2]; simp

theorem Closed.set {ops : Array Oper} {listed : Array Bool} (hc : Closed ops listed) (hsz : listed.size = ops.size) {i : Nat} {o : Oper} (ho : ops[i]? = some o) (hl : ∀ e ∈ o.after.toList, Region.binds .any e = true → listed.getD e.on false = true) :
    Closed ops (listed.setIfInBounds i true) := by
  have up : ∀ k, listed.getD k false = true → (listed.setIfInBounds i true).getD k false = true := by
    intro k hk
    by_cases q : i = k
    · subst q
      have : i < listed.size := by
        apply Classical.byContradiction; intro q; simp [Array.getD_eq_getD_getElem?, q] at hk
      simp [Array.getD_eq_getD_getElem?, this]
    · simpa [Array.getD_eq_getD_getElem?, Array.getElem?_setIfInBounds, q] using hk
  intro k o' ho' hk e he hb
  by_cases q : i = k
  · subst q; rw [ho] at ho'; cases ho'; exact up _ (hl e he hb)
  · refine up _ (hc k o' ho' ?_ e he hb)
    simpa [Array.getD_eq_getD_getElem?, Array.getElem?_setIfInBounds, q] using hk

theorem any_ok {R : Orc} (hR : R.ok P) {n : Nat} {ops : Array Oper} {al : List AOp} {rl : RL} (hal : compOpsD P n ops ops.toList = some al) (hd : drawOK ops al rl = true) {stf : St} {Q' : Exit → Act → World → Prop}
    (hQ : ∀ g st a w, Sim w0 mu0 T g st a w → st.n = n → Eqv stf st → Q' .normal a w) : ∀ (fuel : Nat) (listed : Array Bool) (g : Gh) (st stx : St) (a : Act) (w : World),
    listed.size = ops.size → Roots rl st → Closed ops listed → (pend ops listed).length = fuel → Sim w0 mu0 T g st a w → st.n = n → Runs R ((pend ops listed).map fun i => al.getD i default) st stx → Eqv stf stx → wpAny P .any ops Q' fuel listed a w
  | 0, listed, g, st, stx, a, w, hsz, hroot, hc, hlen, hs, hn, hr, he => by
    have hp : pend ops listed = [] := List.length_eq_zero_iff.1 hlen
    rw [hp] at hr
    cases hr
    refine ⟨?_, hQ g st a w hs hn he⟩
    cases hrd : Region.ready .any ops listed with
    | nil => rfl
    | cons i r =>
      have := (ready_spec (i := i) (by rw [hrd]; simp)).1
      rw [hp] at this; simp at this
  | fuel + 1, listed, g, st, stx, a, w, hsz, hroot, hc, hlen, hs, hn, hr, he => by
    have hd0 := hd
    simp only [drawOK, Bool.and_eq_true] at hd
    obtain ⟨⟨hd1, hkp⟩, hd2⟩ := hd
    refine ⟨fun hnil => ?_, fun i hi => ?_⟩
    · exfalso
      cases hp : pend ops listed with
      | nil => rw [hp] at hlen; simp at hlen
      | cons i r =>
        have hmem : i ∈ pend ops listed := by rw [hp]; simp
        obtain ⟨hir, hnl⟩ := List.mem_filter.1 hmem
        have hlt : i < ops.size := List.mem_range.1 hir
        have hsort := pend_sorted ops listed
        rw [hp, List.pairwise_cons] at hsort
        have hready : i ∈ Region.ready .any ops listed := by
          simp only [Region.ready, List.mem_filter, Bool.and_eq_true]
          refine ⟨hir, hnl, ?_⟩
          have ho : ops[i]? = some ops[i] := by simp [hlt]
          rw [ho]
          simp only [Option.map_some, Option.getD_some]
          rw [Array.all_eq_true]
          intro k hk
          have hb := allNat_spec hd1 i hlt
          rw [ho] at hb
          have hon := List.all_eq_true.1 hb (ops[i].after[k]) (by simp)
          cases hbd : Region.binds .any ops[i].after[k] with
          | false => rfl
          | true =>
          simp only [hbd, Bool.not_true, Bool.false_or, decide_eq_true_eq] at hon
          have hlsz : ops[i].after[k].on < listed.size := by omega
          have : listed.getD ops[i].after[k].on false = true := by
            apply Classical.byContradiction; intro q
            have hin : ops[i].after[k].on ∈ pend ops listed := List.mem_filter.2 ⟨List.mem_range.2 (by omega), by
              simp [Array.getD_eq_getD_getElem?, hlsz] at q ⊢; exact q⟩
            rw [hp] at hin
            rcases List.mem_cons.1 hin with q' | q'
            · omega
            · have := hsort.1 _ q'; omega
          rw [this]; simp
        rw [hnil] at hready; simp at hready
    · obtain ⟨hp, o, ho, hl⟩ := ready_spec hi
      obtain ⟨pre, post, hsplit⟩ := List.append_of_mem hp
      obtain ⟨hf1, hf2⟩ := filter_ne_mid (pend_sorted ops listed) hsplit
      have hlt : i < ops.size := List.mem_range.1 (List.mem_filter.1 hp).1
      obtain ⟨k, gu, c1, c2, c3, c4⟩ := compOpsD_spec hal i o (by simpa using ho)
      rw [hsplit, List.map_append, List.map_cons] at hr
      have hkp' : ∀ j, keepsPtr rl (al.getD j default) = true := by
        intro j
        by_cases q : j < al.length
        · rw [List.getD_eq_getElem?_getD, List.getElem?_eq_getElem q]
          exact List.all_eq_true.1 hkp _ (List.getElem_mem q)
        · rw [List.getD_eq_getElem?_getD, List.getElem?_eq_none (by omega)]
          rfl
      have hind : ∀ x ∈ pre.map (fun i => al.getD i default), indep rl x (al.getD i default) = true := by
        intro x hx
        obtain ⟨j, hj, rfl⟩ := List.mem_map.1 hx
        have hji := hf2 j hj
        have := allNat_spec (allNat_spec hd2 i hlt) j hji
        rw [Bool.or_eq_true, Bool.or_eq_true] at this
        rcases this with (q | q) | q
        · exact q
        all_goals
          exfalso
          have h1 : listed.getD j false = true := by first | exact before_listed hsz hc 3 j i o ho hl q | exact mask_listed hsz hc q ho hl
          have h2 : j ∈ pend ops listed := by rw [hsplit]; simp [hj]
          have h3 := (List.mem_filter.1 h2).2
          have hjl : j < listed.size := by omega
          simp [Array.getD_eq_getD_getElem?, hjl] at h1 h3
          rw [h1] at h3; cases h3
      obtain ⟨c, W, B, e1, e2, e3, stf', q1, q2⟩ := Runs.bubble hroot (fun x hx => by obtain ⟨j, _, rfl⟩ := List.mem_map.1 hx; exact hkp' j) hind hr
      have hstep : AStep P st (al.getD i default) fun st' => Roots rl st' ∧ ∃ s2, Runs R ((pre ++ post).map fun i => al.getD i default) st' s2 ∧ Eqv stf s2 :=
        eff_step hR e1 e2 e3 ⟨hroot.app e1 (hkp' i), stf', by rw [List.map_append]; exact q1, he.trans q2⟩
      rw [c4] at hstep
      have hmain := step_ok (ops := ops) (o := o) (tk := false) (ao := { dst := o.dst, guard := gu, k := k }) (K' := wpAny P .any ops Q' fuel (listed.setIfInBounds i true)) (Q := Q') c1 rfl c2 (by rw [hn]; exact gs_of c3) hs hstep
        (fun g' st' a' w' hs' hn' hK => by
          obtain ⟨hroot', s2, r1, r2⟩ := hK
          have hps : pend ops (listed.setIfInBounds i true) = pre ++ post := by rw [pend_set (by omega), hf1]
          refine any_ok hR hal hd0 hQ fuel _ g' st' s2 a' w' (by simpa using hsz) hroot' (hc.set hsz ho hl) ?_ hs' (hn'.trans hn) (by rw [hps]; exact r1) r2
          rw [hps]
          rw [hsplit] at hlen
          simp at hlen ⊢; omega)
      unfold wpOp
      rw [ho]
      show if Region.wanted o (yielded ops a.tmps) = true then _ else _
      split
      · rename_i hw; rw [if_pos hw] at hmain; exact .inl hmain
      · rename_i hw; rw [if_neg hw] at hmain; exact hmain

theorem Sim.eqv (h : Sim w0 mu0 T g st a w) (e : Eqv st' st) : Sim w0 mu0 T g st' a w := h.congr e.n.symm (fun t => (e.sl t).symm) (fun t => (e.bx t).symm) e.hp.symm

theorem draw_ok {R : Orc} (hR : R.ok P) (hm : P.follows .mixedOrders = true) {n id : Nat} {ops : Array Oper} {al : List AOp} {rl : RL} (hal : compOpsD P n ops ops.toList = some al) (hd : drawOK ops al rl = true) {stf : St} {c : Prop}
    {Q' : Exit → Act → World → Prop} (hQ : ∀ g a w, Sim w0 mu0 T g stf a w → stf.n = n → Q' .normal a w) (hs : Sim w0 mu0 T g st a w) (hn : st.n = n) (hroot : rootsOK rl st) (hr : runR R al st True = some (c, stf)) (hc : c) :
    (Code.region id ops true).wp P Q' a w := by
  refine wp_region_any hm ?_
  have hlist : (pend ops (Array.replicate ops.size false)) = List.range ops.size := by
    apply List.filter_eq_self.2
    intro i hi
    have := List.mem_range.1 hi
    simp [Array.getD_eq_getD_getElem?, this]
  have hlen : al.length = ops.size := by
    have : ∀ {l : List Oper} {al : List AOp}, compOpsD P n ops l = some al → al.length = l.length := by
      intro l
      induction l with
      | nil => intro al h; cases h; rfl
      | cons o l ih =>
        intro al h
        simp only [compOpsD] at h
        split at h
        case h_2 => cases h
        rename_i h2
        cases h
        simp [ih h2]
    simpa using this hal
  have hmap : (List.range ops.size).map (fun i => al.getD i default) = al := by
    apply List.ext_getElem
    · simp [hlen]
    · intro i h1 h2; simp [List.getD_eq_getElem?_getD, h2]
  refine any_ok hR hal hd (stf := stf) (fun g st a w h1 h2 h3 => hQ g a w (h1.eqv h3) (h3.n.symm.trans h2)) ops.size _ g st stf a _ (by simp) hroot.roots ?_ (by rw [hlist]; simp) hs.drew hn ?_ (Eqv.refl _)
  · intro i o ho hl
    have : i < ops.size := by
      apply Classical.byContradiction; intro q; simp [q] at ho
    simp [Array.getD_eq_getD_getElem?, this] at hl
  · rw [hlist, hmap]; exact (runs_of hr hc).2
end Go.Av

set_option linter.unusedSimpArgs false
namespace Go.Av
variable {P : Program} {w0 : World} {mu0 : Mem} {T : Tc} {g g' : Gh} {st st' : St} {a : Act} {w w' : World}

inductive AC where
  | skip
  | seq (a b : AC)
  | reg (l : List AOp)
  | dreg (rl : RL) (l : List AOp)
  | frz (l : List Nat)
  | cond (x : AO) (a b : AC)
  | block (id : Nat) (b : AC)
  | loop (b : AC)
  | rfunc (x : AO) (ps : List Nat) (a b : AC)
  | exit (id : Nat)
  | ret
  deriving Inhabited

inductive AEx where
  | normal
  | exit (id : Nat)
  | ret

def AOps (P : Program) : List AOp → St → (St → Prop) → Prop
  | [], st, K => K st
  | o :: r, st, K => AStep P st o fun st' => AOps P r st' K

/-- Less is known of a cell. -/
def WkC : SV → SV → Prop
  | _, .undef => True
  | .nils, .sl _ xs => xs = []
  | a, b => a = b
def WkCs : List SV → List SV → Prop
  | [], [] => True
  | a :: r, b :: s => WkC a b ∧ WkCs r s
  | _, _ => False
@[simp] theorem WkC_refl (a : SV) : WkC a a := by cases a <;> first | exact trivial | exact rfl
@[simp] theorem WkCs_refl : ∀ l : List SV, WkCs l l
  | [] => trivial
  | a :: l => ⟨WkC_refl a, WkCs_refl l⟩
theorem WkC.rep {mu : Mem} {x y : SV} {val : Value} (h : WkC x y) (hr : Rep mu x val) : Rep mu y val := by
  unfold WkC at h
  split at h
  · exact .undef _
  · subst h; rw [Rep.inv_nils hr]; exact .slnil _
  · subst h; exact hr
theorem WkCs.spec : ∀ {l m : List SV}, WkCs l m → l.length = m.length ∧ ∀ j, j < m.length → WkC (l.getD j .undef) (m.getD j .undef)
  | [], [], _ => ⟨rfl, fun j hj => by simp at hj⟩
  | a :: l, b :: m, h => by
    obtain ⟨h1, h2⟩ := h
    obtain ⟨e1, e2⟩ := WkCs.spec h2
    refine ⟨by simp [e1], fun j hj => ?_⟩
    cases j with
    | zero => simpa using h1
    | succ j => simpa using e2 j (by simpa using hj)
  | [], _ :: _, h => h.elim
  | _ :: _, [], h => h.elim
theorem WkCs.rep {mu : Mem} {l m : List SV} {val : Value} (h : WkCs l m) (hr : Rep mu (.agg l) val) : Rep mu (.agg m) val := by
  obtain ⟨e1, e2⟩ := h.spec
  cases hr with
  | agg _ vs h1 h2 => exact .agg m vs (h1.trans e1) (fun j hj => (e2 j hj).rep (h2 j (by omega)))

/-- Less is known. -/
def WkL : LV → LV → Prop
  | _, .sv .undef => True
  | .own sz xs, .sv (.sl sz' xs') => sz = sz' ∧ xs = xs'
  | .own sz xs, .own sz' xs' => sz = sz' ∧ xs = xs'
  | .sv .nils, .own _ xs => xs = []
  | .sv .nils, .sv (.sl _ xs) => xs = []
  | .sv (.agg l), .sv (.agg m) => WkCs l m
  | a, b => a = b
def WkR : RV → RV → Prop
  | _, .sv .undef => True
  | .own sz xs, .sv (.sl sz' xs') => sz = sz' ∧ xs = xs'
  | .sv .nils, .own _ xs => xs = []
  | .sv .nils, .sv (.sl _ xs) => xs = []
  | .sv (.agg l), .sv (.agg m) => WkCs l m
  | a, b => a = b
def WkRs : List RV → List RV → Prop
  | [], [] => True
  | a :: r, b :: s => WkR a b ∧ WkRs r s
  | _, _ => False
def WkS (st : St) : List (Nat × LV) → Prop
  | [] => True
  | (s, v) :: r => WkL (lk st.sl s) v ∧ WkS st r
def WkB (st : St) : List (Nat × List RV) → Prop
  | [] => True
  | (s, c) :: r => (∃ c', lkb st.bx s = some c' ∧ WkRs c' c) ∧ WkB st r
def Wk (st st' : St) : Prop := st'.n = st.n ∧ st'.hp = st.hp ∧ WkS st st'.sl ∧ WkB st st'.bx

/-- A box that may be there is written to no more. -/
def FrzP (st : St) (s : Nat) : Prop := match lkb st.bx s with
  | some c => s ≠ 0 ∧ s < st.n ∧ (shareB c).all SV.isCell = true
  | none => True
theorem Sim.frzP (h : Sim w0 mu0 T g st a w) {s : Nat} (hf : FrzP st s) : ∃ g', Sim w0 mu0 T g' (st.frz s) a w := by
  unfold FrzP at hf
  cases hc : lkb st.bx s with
  | none => exact ⟨g, by simpa [St.frz, hc] using h⟩
  | some c =>
    rw [hc] at hf
    exact h.freeze ⟨hf.1, hf.2.1, by rw [hc]; exact hf.2.2⟩
/-- The boxes that these slots point to are written to no more. -/
def frzAll : List Nat → St → (St → Prop) → Prop
  | [], st, K => K st
  | s :: r, st, K => match ptrTo st s with
    | some b => FrzP st b ∧ frzAll r (st.frz b) K
    | none => frzAll r st K
theorem frzAll.mono {K K' : St → Prop} (hk : ∀ st, K st → K' st) : ∀ {l : List Nat} {st : St}, frzAll l st K → frzAll l st K'
  | [], st, h => hk _ h
  | s :: r, st, h => by
    simp only [frzAll] at h ⊢
    split at h
    · exact ⟨h.1, frzAll.mono hk h.2⟩
    · exact frzAll.mono hk h
theorem frz_n (st : St) (s : Nat) : (st.frz s).n = st.n := by unfold St.frz; split <;> rfl
theorem Sim.frzAll : ∀ {l : List Nat} {g : Gh} {st : St} {K : St → Prop}, Sim w0 mu0 T g st a w → Av.frzAll l st K → ∃ g' st', Sim w0 mu0 T g' st' a w ∧ st'.n = st.n ∧ K st'
  | [], g, st, K, h, hk => ⟨g, st, h, rfl, hk⟩
  | s :: r, g, st, K, h, hk => by
    simp only [Av.frzAll] at hk
    split at hk
    · obtain ⟨g1, h1⟩ := h.frzP hk.1
      obtain ⟨g', st', q1, q2, q3⟩ := h1.frzAll hk.2
      exact ⟨g', st', q1, q2.trans (frz_n _ _), q3⟩
    · exact h.frzAll hk

def awp (P : Program) : AC → (AEx → St → Prop) → St → Prop
  | .skip, Q, st => Q .normal st
  | .seq x y, Q, st => awp P x (fun e st' => match e with | .normal => awp P y Q st' | e => Q e st') st
  | .reg l, Q, st => AOps P l st (Q .normal)
  | .dreg rl l, Q, st => rootsOK rl st ∧ ∃ R c st', Orc.ok P R ∧ runR R l st True = some (c, st') ∧ c ∧ Q .normal st'
  | .frz l, Q, st => Q .normal st ∨ frzAll l st (Q .normal)
  | .cond x y z, Q, st => match rd st x with
    | some (c, .bool b) => c = true ∧ (b = true → awp P y Q st) ∧ (b = false → awp P z Q st)
    | some (c, .anyb) => c = true ∧ awp P y Q st ∧ awp P z Q st
    | _ => False
  | .block id x, Q, st => awp P x (fun e st' => match e with | .exit id' => if id' = id then Q .normal st' else Q (.exit id') st' | e => Q e st') st
  | .loop x, Q, st => ∃ I : Nat → St → Prop, (∃ n st', Wk st st' ∧ I n st') ∧ ∀ n st, I n st → awp P x (fun e st' => match e with | .normal => ∃ m st'', m < n ∧ Wk st' st'' ∧ I m st'' | e => Q e st') st
  | .rfunc _ _ _ _, _, _ => False
  | .exit id, Q, st => Q (.exit id) st
  | .ret, Q, st => Q .ret st

/-! ### the translation -/
def consumes (d : Nat) (o : Oper) : Bool :=
  match o.op with
  | .assign (.tmp t) => t == d
  | .call { callee := .builtin .append, args := xs, .. } => match xs.toList with
    | .tmp t :: _ => t == d
    | _ => false
  | _ => false

def isApp (o : Oper) : Bool :=
  match o.op with
  | .call { callee := .builtin .append, .. } => true
  | _ => false
/-- Is what is moved here taken from where it was? -/
def tkOf (ops : Array Oper) (o : Oper) : Bool :=
  match o.op with
  | .load _ _ => o.guard.isNone && (match o.dst with | some d => ops.toList.any (fun q => isApp q && consumes d q) | none => false)
  | .store _ _ (.tmp t) => o.guard.isNone && ops.toList.any (fun q => q.dst == some t && isApp q)
  | .move (.tmp t) => (match o.dst with | some d => ops.toList.any (consumes d) | none => false) || ops.toList.any (fun q => q.dst == some t)
  | _ => (match o.dst with | some d => ops.toList.any (consumes d) | none => false)
def compOp (P : Program) (n : Nat) (ops : Array Oper) (o : Oper) : Option AOp :=
  let tk := tkOf ops o
  match compK P tk o, compG ops o.guard with
  | some k, some gu => if gsOK n gu then some { dst := o.dst, guard := gu, k := k } else none
  | _, _ => none

def compOps (P : Program) (n : Nat) (ops : Array Oper) : List Oper → Option (List AOp)
  | [] => some []
  | o :: r => match compOp P n ops o, compOps P n ops r with
    | some a, some l => some (a :: l)
    | _, _ => none

def capsOf : List AOp → List Nat
  | [] => []
  | o :: r => (match o.k with | .mkfn _ _ l => (l.map AO.rs).flatten | _ => []) ++ capsOf r
def wrapF (al : List AOp) (c : AC) : AC := match capsOf al with
  | [] => c
  | l => .seq (.frz l) c
theorem wrapF_ok {al : List AOp} {c : AC} {Q : AEx → St → Prop} (h : Sim w0 mu0 T g st a w) (hs : awp P (wrapF al c) Q st) : ∃ g' st', Sim w0 mu0 T g' st' a w ∧ st'.n = st.n ∧ awp P c Q st' := by
  unfold wrapF at hs
  split at hs
  · exact ⟨g, st, h, rfl, hs⟩
  · simp only [awp] at hs
    rcases hs with hs | hs
    · exact ⟨g, st, h, rfl, hs⟩
    · exact h.frzAll hs

def comp (P : Program) (n : Nat) : Code → Option AC
  | .skip => some .skip
  | .region _ ops false => (compOps P n ops ops.toList).map fun al => wrapF al (.reg al)
  | .region _ ops true => match compOpsD P n ops ops.toList with
    | some al => if P.follows .mixedOrders = true ∧ drawOK ops al [] = true then some (wrapF al (.dreg [] al)) else if P.follows .mixedOrders = true ∧ drawOK ops al (rlOf al) = true then some (wrapF al (.dreg (rlOf al) al)) else none
    | none => none
  | .seq x y => match comp P n x, comp P n y with
    | some a, some b => some (.seq a b)
    | _, _ => none
  | .cond x y z => match compO x, comp P n y, comp P n z with
    | some o, some a, some b => some (.cond o a b)
    | _, _, _ => none
  | .block id x => (comp P n x).map (.block id)
  | .loop x => (comp P n x).map .loop
  | .rangeFunc gx ps x y => match compO gx, comp P n x, comp P n y with
    | some o, some a, some b => some (.rfunc o ps.toList a b)
    | _, _, _ => none
  | .exit id => some (.exit id)
  | .ret => some .ret
  | _ => none

/-- What is behind a piece of code: one of the abstract ends. -/
def Post (w0 : World) (mu0 : Mem) (T : Tc) (n : Nat) (Q : AEx → St → Prop) : Exit → Act → World → Prop
  | .normal, a, w => ∃ g st, Sim w0 mu0 T g st a w ∧ st.n = n ∧ Q .normal st
  | .exit id, a, w => ∃ g st, Sim w0 mu0 T g st a w ∧ st.n = n ∧ Q (.exit id) st
  | .ret, a, w => ∃ g st, Sim w0 mu0 T g st a w ∧ st.n = n ∧ Q .ret st
  | _, _, _ => False

theorem ops_ok {n : Nat} {ops : Array Oper} {Q : AEx → St → Prop} {Q' : Exit → Act → World → Prop} (hQ : ∀ g st a w, Sim w0 mu0 T g st a w → st.n = n → Q .normal st → Q' .normal a w) : ∀ (l : List Oper) (al : List AOp) (g : Gh) (st : St) (a : Act) (w : World),
    compOps P n ops l = some al → Sim w0 mu0 T g st a w → st.n = n → AOps P al st (Q .normal) → wpList P ops Q' l a w
  | [], al, g, st, a, w, hc, h, hn, hs => by cases hc; exact hQ g st a w h hn hs
  | o :: l, al, g, st, a, w, hc, h, hn, hs => by
    simp only [compOps] at hc
    split at hc
    case h_2 => cases hc
    rename_i ao al' ho hl
    cases hc
    simp only [compOp] at ho
    split at ho
    case h_2 => cases ho
    rename_i k gu hk hg
    split at ho
    case isFalse => cases ho
    rename_i hgs
    cases ho
    refine wpList_step fun K hK => ?_
    refine step_ok (ao := { dst := o.dst, guard := gu, k := k }) hk rfl hg (by rw [hn]; exact gs_of hgs) h hs (fun g' st' a' w' hsim hn' hK' => hK _ _ ?_)
    exact ops_ok hQ l al' g' st' a' w' hl hsim (hn'.trans hn) hK'

theorem WkL.rep {s : Nat} {x y : LV} {val : Value} (h : WkL x y) (hr : RepL g w s x val) : RepL g w s y val := by
  unfold WkL at h
  split at h
  · exact .undef _
  · obtain ⟨rfl, rfl⟩ := h; exact OwnAt.share (g := g) hr
  · obtain ⟨rfl, rfl⟩ := h; exact hr
  · subst h; rw [Rep.inv_nils hr]; exact .inl ⟨.slnil _, rfl⟩
  · subst h; rw [Rep.inv_nils hr]; exact Rep.slnil _
  · exact WkCs.rep h hr
  · subst h; exact hr
theorem WkR.rep {p : Place} {x y : RV} {val : Value} (h : WkR x y) (hr : RepR g w p x val) : RepR g w p y val := by
  unfold WkR at h
  split at h
  · exact .undef _
  · obtain ⟨rfl, rfl⟩ := h; exact OwnAt.share (g := g) hr
  · subst h; rw [Rep.inv_nils hr]; exact .inl ⟨.slnil _, rfl⟩
  · subst h; rw [Rep.inv_nils hr]; exact Rep.slnil _
  · exact WkCs.rep h hr
  · subst h; exact hr
theorem WkRs.spec : ∀ {l m : List RV}, WkRs l m → l.length = m.length ∧ ∀ j, j < m.length → WkR (l.getD j (.sv .undef)) (m.getD j (.sv .undef))
  | [], [], _ => ⟨rfl, fun j hj => by simp at hj⟩
  | a :: l, b :: m, h => by
    obtain ⟨h1, h2⟩ := h
    obtain ⟨e1, e2⟩ := WkRs.spec h2
    refine ⟨by simp [e1], fun j hj => ?_⟩
    cases j with
    | zero => simpa using h1
    | succ j => simpa using e2 j (by simpa using hj)
  | [], _ :: _, h => h.elim
  | _ :: _, [], h => h.elim

theorem WkS.spec {st : St} : ∀ {l : List (Nat × LV)}, WkS st l → ∀ s, WkL (lk st.sl s) (lk l s)
  | [], _, s => by simp [lk, WkL]
  | (t, v) :: l, h, s => by
    simp only [lk]
    split
    · rename_i e; subst e; exact h.1
    · exact WkS.spec h.2 s
theorem WkB.spec {st : St} : ∀ {l : List (Nat × List RV)}, WkB st l → ∀ s c, lkb l s = some c → ∃ c', lkb st.bx s = some c' ∧ WkRs c' c
  | [], _, s, c, e => by simp [lkb] at e
  | (t, v) :: l, h, s, c, e => by
    simp only [lkb] at e
    split at e
    · rename_i q; subst q; cases e; exact h.1
    · exact WkB.spec h.2 s c e

theorem Sim.wk (h : Sim w0 mu0 T g st a w) (hw : Wk st st') : Sim w0 mu0 T g st' a w := by
  obtain ⟨h1, h2, h3, h4⟩ := hw
  constructor
  · rw [h1]; exact h.size
  · exact h.defers
  · intro s; exact (h3.spec s).rep (h.slots s)
  · intro s c hc
    obtain ⟨c', e1, e2⟩ := h4.spec s c hc
    obtain ⟨b, hb, k1, k2, k3, cc, e, fr, k4, k5, k6, k7⟩ := h.boxes s c' e1
    obtain ⟨f1, f2⟩ := e2.spec
    exact ⟨b, hb, k1, k2, k3, cc, e, fr, k4, k5, by rw [← f1]; exact k6, fun j hj => (f2 j hj).rep (k7 j (by rw [f1]; exact hj))⟩
  · exact h.bxinj
  · rw [h2]; exact h.heap
  · exact h.mem
  · exact h.mem0
  · exact h.mule
  · exact h.ext
  · exact h.okx
  · exact h.xlt
  · exact h.blt
  · exact h.bxx
  · exact h.okb
  · intro s b hb; rw [h1]; exact h.pin s b hb

theorem awp_ok {n : Nat} : ∀ (c : Code) (ac : AC) (Q : AEx → St → Prop) (g : Gh) (st : St) (a : Act) (w : World), comp P n c = some ac → Sim w0 mu0 T g st a w → st.n = n → awp P ac Q st → c.wp P (Post w0 mu0 T n Q) a w
  | .skip, ac, Q, g, st, a, w, hc, h, hn, hs => by cases hc; exact wp_skip ⟨g, st, h, hn, hs⟩
  | .ret, ac, Q, g, st, a, w, hc, h, hn, hs => by cases hc; exact wp_ret ⟨g, st, h, hn, hs⟩
  | .exit id, ac, Q, g, st, a, w, hc, h, hn, hs => by cases hc; exact wp_exit ⟨g, st, h, hn, hs⟩
  | .region id ops draw, ac, Q, g, st, a, w, hc, h, hn, hs => by
    cases draw with
    | true =>
      simp only [comp] at hc
      split at hc
      case h_2 => cases hc
      rename_i al hal
      have fin : ∀ rl : RL, P.follows .mixedOrders = true ∧ drawOK ops al rl = true → ac = wrapF al (.dreg rl al) → (Code.region id ops true).wp P (Post w0 mu0 T n Q) a w := by
        intro rl hcond e
        subst e
        obtain ⟨g1, st1, h1, hn1, hs⟩ := wrapF_ok h hs
        obtain ⟨hroot, R, cc, stf, hR, hr, hcc, hq⟩ := hs
        exact draw_ok hR hcond.1 hal hcond.2 (stf := stf) (fun g' a' w' h1 h2 => ⟨g', stf, h1, h2, hq⟩) h1 (hn1.trans hn) hroot hr hcc
      split at hc
      · rename_i hcond
        cases hc
        exact fin _ hcond rfl
      · split at hc
        case isFalse => cases hc
        rename_i hcond
        cases hc
        exact fin _ hcond rfl
    | false =>
      simp only [comp] at hc
      obtain ⟨al, hal, rfl⟩ := opt_map_some hc
      obtain ⟨g1, st1, h1, hn1, hs⟩ := wrapF_ok h hs
      exact wp_region_list (ops_ok (Q := Q) (fun g st a w h hn hq => ⟨g, st, h, hn, hq⟩) ops.toList al g1 st1 a w hal h1 (hn1.trans hn) hs)
  | .seq x y, ac, Q, g, st, a, w, hc, h, hn, hs => by
    simp only [comp] at hc
    split at hc
    case h_2 => cases hc
    rename_i a1 a2 h1 h2
    cases hc
    refine wp_seq (wp_mono (awp_ok x a1 _ g st a w h1 h hn hs) fun e a' w' hp => ?_)
    cases e with
    | normal => obtain ⟨g', st', q1, q2, q3⟩ := hp; exact awp_ok y a2 Q g' st' a' w' h2 q1 q2 q3
    | exit id => exact hp
    | ret => exact hp
    | _ => exact hp
  | .cond x y z, ac, Q, g, st, a, w, hc, h, hn, hs => by
    simp only [comp] at hc
    split at hc
    case h_2 => cases hc
    rename_i o a1 a2 h1 h2 h3
    cases hc
    simp only [awp] at hs
    split at hs
    case h_3 => exact hs.elim
    · rename_i c b hb
      obtain ⟨rfl, hy, hz⟩ := hs
      have := (rd_rep h h1 hb).inv_bool
      exact wp_cond_split this (fun e => awp_ok y a1 Q g st a w h2 h hn (hy e)) (fun e => awp_ok z a2 Q g st a w h3 h hn (hz e))
    · rename_i c hb
      obtain ⟨rfl, hy, hz⟩ := hs
      obtain ⟨b, this⟩ := (rd_rep h h1 hb).inv_anyb
      exact wp_cond_split this (fun _ => awp_ok y a1 Q g st a w h2 h hn hy) (fun _ => awp_ok z a2 Q g st a w h3 h hn hz)
  | .block id x, ac, Q, g, st, a, w, hc, h, hn, hs => by
    simp only [comp] at hc
    obtain ⟨a1, h1, rfl⟩ := opt_map_some hc
    refine wp_block (wp_mono (awp_ok x a1 _ g st a w h1 h hn hs) fun e a' w' hp => ?_)
    cases e with
    | normal => exact hp
    | exit id' =>
      simp only [Exit.inBlock]
      obtain ⟨g', st', q1, q2, q3⟩ := hp
      simp only [] at q3
      split
      · rename_i e; rw [if_pos e] at q3; exact ⟨g', st', q1, q2, q3⟩
      · rename_i e; rw [if_neg e] at q3; exact ⟨g', st', q1, q2, q3⟩
    | ret => exact hp
    | _ => exact hp
  | .loop x, ac, Q, g, st, a, w, hc, h, hn, hs => by
    simp only [comp] at hc
    obtain ⟨a1, h1, rfl⟩ := opt_map_some hc
    obtain ⟨I, ⟨m0, st0, hw0, hI0⟩, hround⟩ := hs
    intro b k cs
    have key : ∀ (m : Nat) (g : Gh) (st : St) (a : Act) (w : World), Sim w0 mu0 T g st a w → st.n = n → I m st →
        ∃ e a' w', Post w0 mu0 T n Q e a' w' ∧ Arrives P (lone (b.at a (.code x :: .inLoop x :: k)) cs w) b k cs e a' w' := by
      intro m
      induction m using Nat.strongRecOn with
      | _ m ih =>
        intro g st a w h hn hI
        obtain ⟨e, a', w', hp, harr⟩ := awp_ok x a1 _ g st a w h1 h hn (hround m st hI) b (.inLoop x :: k) cs
        cases e with
        | normal =>
          obtain ⟨g', st', q1, q2, m', st'', hlt, hwk, hI'⟩ := hp
          obtain ⟨e2, a2, w2, r1, r2⟩ := ih m' hlt g' st'' a' w' (q1.wk hwk) (hwk.1.trans q2) hI'
          exact ⟨e2, a2, w2, r1, .of_steps (Steps.trans harr (.one step_inLoop)) r2⟩
        | exit id => obtain ⟨g', st', q1, q2, q3⟩ := hp; exact ⟨.exit id, a', w', ⟨g', st', q1, q2, q3⟩, .pass (x := .inLoop x) rfl (fun _ _ => .inl (by simp)) harr⟩
        | ret => obtain ⟨g', st', q1, q2, q3⟩ := hp; exact ⟨.ret, a', w', ⟨g', st', q1, q2, q3⟩, .pass (x := .inLoop x) rfl (fun _ _ => .inl (by simp)) harr⟩
        | goto l => exact hp.elim
        | panic ch => exact hp.elim
        | outgrown => exact hp.elim
    obtain ⟨e, a', w', r1, r2⟩ := key m0 g st0 a w (h.wk hw0) (hw0.1.trans hn) hI0
    exact ⟨e, a', w', r1, .of_steps (.one step_loop) r2⟩
  | .rangeFunc _ _ _ _, ac, Q, g, st, a, w, hc, h, hn, hs => by
    simp only [comp] at hc
    split at hc
    case h_2 => cases hc
    cases hc
    exact hs.elim
  | .scope _, ac, Q, g, st, a, w, hc, h, hn, hs => by simp [comp] at hc
  | .label _, ac, Q, g, st, a, w, hc, h, hn, hs => by simp [comp] at hc
  | .goto _, ac, Q, g, st, a, w, hc, h, hn, hs => by simp [comp] at hc
  | .refuse _, ac, Q, g, st, a, w, hc, h, hn, hs => by simp [comp] at hc

theorem aops_runs {R : Orc} (hR : R.ok P) {K : St → Prop} : ∀ {l : List AOp} {st stf : St}, Runs R l st stf → K stf → AOps P l st K
  | [], st, stf, hr, hk => by cases hr; exact hk
  | o :: r, st, stf, hr, hk => by
    obtain ⟨c, W, B, e, hc, hf, hr⟩ := hr
    exact eff_step hR e hc hf (aops_runs hR hr hk)

/-! ### own slices in cells: plain regions alone -/
def effTL (st : St) (o : AOp) (x : AO) : Option Eff :=
  match o.guard, o.dst, rdl st x with
  | none, some d, (g, .lptr s off) => match lkb st.bx s with
    | some cells => if d < st.n then some (g = true ∧ off < cells.length, [(d, (cells.getD off (.sv .undef)).lv)], [(s, cells.set off (.sv (cells.getD off (.sv .undef)).share))]) else none
    | none => none
  | _, _, _ => effQ st { o with k := .load none x }
def effSO (st : St) (o : AOp) (x : AO) (s : Nat) : Option Eff :=
  match o.guard, o.dst, rdl st x, (lk st.sl s).gv with
  | none, none, (g, .lptr t off), (g2, .own sz xs) => match lkb st.bx t with
    | some cells => some (g = true ∧ g2 = true ∧ off < cells.length, [(s, (lk st.sl s).dg)], [(t, cells.set off (.own sz xs))])
    | none => none
  | _, _, _, _ => effStore st o 1 x (.t s)
def effCD (R : Orc) (st : St) (o : AOp) (f : FuncId) (args : List AO) : Option Eff :=
  match args with
  | .t s :: rest => match (lk st.sl s).gv with
    | (g, .arr sz xs) => match o.guard, o.dst, evList st rest with
      | none, some d, some (c, l) => match R.d f sz xs l with
        | some (c', rv) => if d < st.n ∧ rv.flat = true then some (g = true ∧ c ∧ c', [(d, rv), (s, .sv .undef)], []) else none
        | none => none
      | _, _, _ => none
    | _ => effCall R st o f args
  | _ => effCall R st o f args
def effT (R : Orc) (st : St) (o : AOp) : Option Eff :=
  match o.k with
  | .takeLoad x => effTL st o x
  | .storeO x s => effSO st o x s
  | .call f args => effCD R st o f args
  | _ => eff R st o
def runT (R : Orc) : List AOp → St → Prop → Option (Prop × St)
  | [], st, c => some (c, st)
  | o :: r, st, c => match effT R st o with
    | some (c', W, B) => runT R r (st.app W B) (c ∧ c' ∧ fresh o st)
    | none => none
theorem effT_step {R : Orc} (hR : R.ok P) {st : St} {o : AOp} {c : Prop} {W : List (Nat × LV)} {B : List (Nat × List RV)} {K : St → Prop} (h : effT R st o = some (c, W, B)) (hc : c) (hf : fresh o st) (hK : K (st.app W B)) : AStep P st o K := by
  unfold effT at h
  split at h
  · rename_i x hk
    obtain ⟨dst, gu, k⟩ := o
    simp only at hk; subst hk
    unfold effTL at h
    split at h
    · rename_i e1 e2 e3
      split at h
      case h_2 => cases h
      rename_i cells hcl
      split at h
      case isFalse => cases h
      rename_i hd
      simp only [Option.some.injEq, Prod.mk.injEq] at h
      obtain ⟨rfl, rfl, rfl⟩ := h
      simp only at e1 e2
      subst e1; subst e2
      simp only [AStep]
      refine .inl ⟨trivial, _, rfl, hd, ?_⟩
      rw [e3]
      simp only [hcl]
      exact ⟨hc.1, hc.2, hK⟩
    · have h' : eff R st ⟨dst, gu, .load none x⟩ = some (c, W, B) := h
      have := eff_step hR h' hc (by trivial) hK
      simp only [AStep] at this ⊢
      exact .inr this
  · rename_i x s hk
    obtain ⟨dst, gu, k⟩ := o
    simp only at hk; subst hk
    unfold effSO at h
    split at h
    · rename_i e1 e2 e3 e4
      split at h
      case h_2 => cases h
      rename_i cells hcl
      simp only [Option.some.injEq, Prod.mk.injEq] at h
      obtain ⟨rfl, rfl, rfl⟩ := h
      simp only at e1 e2
      subst e1; subst e2
      simp only [AStep]
      refine .inl ⟨trivial, trivial, ?_⟩
      rw [e3, e4]
      simp only [hcl]
      exact ⟨hc.1, hc.2.1, hc.2.2, hK⟩
    · have h' : eff R st ⟨dst, gu, .store 1 x (.t s)⟩ = some (c, W, B) := h
      have := eff_step hR h' hc (by trivial) hK
      simp only [AStep] at this ⊢
      exact .inr this
  · rename_i f args hk
    obtain ⟨dst, gu, k⟩ := o
    simp only at hk; subst hk
    have base : effCall R st ⟨dst, gu, .call f args⟩ f args = some (c, W, B) → AStep P st ⟨dst, gu, .call f args⟩ K := fun q =>
      eff_step hR (o := ⟨dst, gu, .call f args⟩) q hc (by trivial) hK
    unfold effCD at h
    split at h
    case h_2 => exact base h
    rename_i s rest
    split at h
    case h_2 => exact base h
    rename_i g sz xs e0
    split at h
    case h_2 => cases h
    rename_i e1 e2 e3
    split at h
    case h_2 => cases h
    rename_i e4
    split at h
    case isFalse => cases h
    rename_i hd
    simp only [Option.some.injEq, Prod.mk.injEq] at h
    obtain ⟨rfl, rfl, rfl⟩ := h
    simp only at e1 e2
    subst e1; subst e2
    simp only [AStep]
    obtain ⟨rfl, hc1, hc2⟩ := hc
    refine .inr (.inr ⟨trivial, _, s, rest, sz, xs, rfl, hd.1, rfl, e0, ?_⟩)
    rw [e3]
    exact ⟨_, hc1, hR.d _ _ _ _ _ _ e4 hc2, hK⟩
  · exact eff_step hR h hc hf hK
theorem runT_of {R : Orc} (hR : R.ok P) {K : St → Prop} : ∀ {l : List AOp} {st stf : St} {c0 c : Prop}, runT R l st c0 = some (c, stf) → c → c0 ∧ (K stf → AOps P l st K)
  | [], st, stf, c0, c, h, hc => by
    simp only [runT, Option.some.injEq, Prod.mk.injEq] at h
    obtain ⟨rfl, rfl⟩ := h
    exact ⟨hc, fun hk => hk⟩
  | o :: r, st, stf, c0, c, h, hc => by
    simp only [runT] at h
    split at h
    case h_2 => cases h
    rename_i c' W B e
    obtain ⟨⟨q1, q2, q3⟩, q4⟩ := runT_of hR h hc
    exact ⟨q1, fun hk => effT_step hR e q2 q3 (q4 hk)⟩
theorem awp_reg {R : Orc} (hR : R.ok P) {l : List AOp} {Q : AEx → St → Prop} {st st' : St} {c : Prop} (hr : runT R l st True = some (c, st')) (hc : c) (hq : Q .normal st') : awp P (.reg l) Q st :=
  (runT_of hR hr hc).2 hq
theorem awp_dreg {R : Orc} (hR : R.ok P) {rl : RL} {l : List AOp} {Q : AEx → St → Prop} {st st' : St} {c : Prop} (hroot : rootsOK rl st) (hr : runR R l st True = some (c, st')) (hc : c) (hq : Q .normal st') : awp P (.dreg rl l) Q st :=
  ⟨hroot, R, c, st', hR, hr, hc, hq⟩
end Go.Av

set_option linter.unusedSimpArgs false
namespace Go.Av
variable {P : Program} {w0 : World} {mu0 : Mem} {T : Tc} {g g' : Gh} {st st' : St} {a : Act} {w w' : World}

inductive AR where
  | t (s : Nat)
  | c (s : Nat) (n : Option Nat)
  deriving Inhabited

def compRes (P : Program) : List ResultVar → Option (List AR)
  | [] => some []
  | .tmp t :: r => (compRes P r).map (.t t :: ·)
  | .cell t ty :: r => match ldk P ty, compRes P r with
    | some n, some l => some (.c t n :: l)
    | _, _ => none

def LV.rv? : LV → Option RV
  | .sv v => some (.sv v)
  | .own sz xs => some (.own sz xs)
  | _ => none

def arV (st : St) : AR → Option (Prop × RV)
  | .t s => match (lk st.sl s).gv with
    | (g, v) => v.rv?.map fun r => (g = true, r)
  | .c s n => match (lk st.sl s).gv with
    | (g, .lptr s' o) => match lkb st.bx s' with
      | some cells => some (g = true ∧ o + n.getD 1 ≤ cells.length, .sv (partV (cells.map RV.share) o n))
      | none => none
    | _ => none

def arVs (st : St) : List AR → Option (Prop × List RV)
  | [] => some (True, [])
  | r :: l => match arV st r, arVs st l with
    | some (c, v), some (d, vs) => some (c ∧ d, v :: vs)
    | _, _ => none

def arSlots : List AR → List Nat
  | [] => []
  | .t s :: r => s :: arSlots r
  | .c _ _ :: r => arSlots r

def resV : List RV → LV
  | [v] => v.lv
  | vs => .tup vs

def WkT : LV → LV → Prop
  | .tup a, .tup b => WkRs a b
  | a, b => WkL a b
theorem WkT.rep {s : Nat} {x y : LV} {val : Value} (h : WkT x y) (hr : RepL g w s x val) : RepL g w s y val := by
  unfold WkT at h
  split at h
  · rename_i a b
    obtain ⟨us, h1, h2, h3⟩ := hr
    obtain ⟨e1, e2⟩ := h.spec
    exact ⟨us, h1, by omega, fun j hj => (e2 j hj).rep (h3 j (by omega))⟩
  · exact h.rep hr

def RvIs (st : St) (rs : List AR) (rv : LV) : Prop := match arVs st rs with
  | some (c, vs) => c ∧ WkT (resV vs) rv
  | none => False

def argSl : Nat → List SV → List (Nat × LV)
  | _, [] => []
  | i, v :: r => (i, .sv v) :: argSl (i + 1) r

def St.enter (n : Nat) (args : List SV) : St := { n := n, sl := argSl 0 args, bx := [], hp := fun _ => none }

theorem lk_argSl : ∀ (l : List SV) (i s : Nat), lk (argSl i l) s = if i ≤ s ∧ s < i + l.length then .sv (l.getD (s - i) .undef) else .sv .undef
  | [], i, s => by simp [argSl, lk]
  | v :: l, i, s => by
    simp only [argSl, lk]
    split
    · rename_i e; subst e; simp
    · rename_i e
      rw [lk_argSl l (i + 1) s]
      by_cases h : i + 1 ≤ s ∧ s < i + 1 + l.length
      · have h' : i ≤ s ∧ s < i + (v :: l).length := by simp; omega
        rw [if_pos h, if_pos h']
        have : s - i = (s - (i + 1)) + 1 := by omega
        rw [this]; simp
      · have h' : ¬ (i ≤ s ∧ s < i + (v :: l).length) := by simp; omega
        rw [if_neg h, if_neg h']

theorem sim_enter {mu : Mem} {vs : List Value} {args : List SV} {n : Nat} (hm : MemOK mu w) (hr : RepArgs mu args vs) (hn : args.length ≤ n) :
    Sim w mu Tc.none { mu := mu, x := fun _ => none, bx := fun _ => none, okx := fun b => b < w.heap.size → Tc.none.ar b, okb := fun b => b < w.heap.size → TB Tc.none b } (St.enter n args) { tmps := vs.toArray ++ Array.replicate (n - vs.toArray.size) undef, defers := [] } w := by
  constructor
  · simp [St.enter]; have := hr.1; omega
  · rfl
  · intro s
    simp only [St.enter]
    rw [lk_argSl]
    split
    · rename_i hs
      have hs2 : s < args.length := by omega
      have := hr.2 s hs2
      have hlt : s < vs.length := by rw [hr.1]; exact hs2
      simpa [RepL, Array.getD_eq_getD_getElem?, Array.getElem?_append, hlt, List.getD_eq_getElem?_getD] using this
    · exact .undef _
  · intro s c e; simp [St.enter, lkb] at e
  · intro s s' b e; simp at e
  · intro b c e; simp [St.enter] at e
  · exact hm
  · intro b j hb _; rfl
  · exact Mem.le_refl _
  · exact Ext.refl _ _
  · rfl
  · intro b p e; simp at e
  · intro s b e; simp at e
  · intro s b p e; simp at e
  · rfl
  · intro s b hb; cases hb

def resOne (tmps : Array Value) : ResultVar → Sem Value
  | .tmp t => pure (tmps.getD t undef)
  | .cell a t => do loadVar t (← asAddr (tmps.getD a undef))

theorem results_list (fn : Func) (tmps : Array Value) : ∀ {us : List Value}, (fn.results.toList.mapM (resOne tmps)).run P w = .ok us w →
    (results fn tmps).run P w = .ok (if h : us.toArray.size = 1 then us.toArray[0] else .tuple us.toArray) w := by
  intro us h
  have e : results fn tmps = (do let vs ← fn.results.mapM (resOne tmps); pure (if h : vs.size = 1 then vs[0] else .tuple vs)) := rfl
  rw [e, Array.mapM_eq_mapM_toList]
  simp [Sem.run_bind, h, Result.andThen]

/-- What the results are, one by one. -/
theorem res_list (h : Sim w0 mu0 T g st a w) : ∀ {l : List ResultVar} {rs : List AR} {vs : List RV} {c : Prop}, compRes P l = some rs → arVs st rs = some (c, vs) → c →
    ∃ us : List Value, (l.mapM (resOne a.tmps)).run P w = .ok us w ∧ us.length = vs.length ∧ rs.length = vs.length ∧ ∀ j, j < vs.length → match rs.getD j (.t 0) with
      | .t s => RepL g w s (vs.getD j (.sv .undef)).lv (us.getD j Go.undef)
      | .c _ _ => ∃ v, vs.getD j (.sv .undef) = .sv v ∧ Rep g.mu v (us.getD j Go.undef)
  | [], rs, vs, c, h1, h2, hc => by
    cases h1; simp only [arVs, Option.some.injEq, Prod.mk.injEq] at h2; obtain ⟨-, rfl⟩ := h2
    exact ⟨[], rfl, rfl, rfl, fun j hj => by simp at hj⟩
  | .tmp t :: l, rs, vs, c, h1, h2, hc => by
    simp only [compRes] at h1
    obtain ⟨rs', hrs, rfl⟩ := opt_map_some h1
    simp only [arVs] at h2
    split at h2
    case h_2 => cases h2
    rename_i c1 v d vs' hv hvs
    simp only [Option.some.injEq, Prod.mk.injEq] at h2
    obtain ⟨rfl, rfl⟩ := h2
    obtain ⟨us, k1, k2, k3, k4⟩ := res_list h hrs hvs hc.2
    refine ⟨a.tmps.getD t undef :: us, ?_, by simp [k2], by simp [k3], ?_⟩
    · simp [List.mapM_cons, Sem.run_bind, resOne, k1, Result.andThen]
    · intro j hj
      cases j with
      | zero =>
        simp only [arV] at hv
        obtain ⟨r, hr1, hr2⟩ := opt_map_some hv
        simp only [Prod.mk.injEq] at hr2
        obtain ⟨rfl, rfl⟩ := hr2
        have := (h.slots t).gv hc.1
        generalize (lk st.sl t).gv.2 = lv at this hr1
        cases lv <;> simp [LV.rv?] at hr1 <;> subst hr1 <;> simpa [RV.lv] using this
      | succ j => simpa using k4 j (by simpa using hj)
  | .cell t ty :: l, rs, vs, c, h1, h2, hc => by
    simp only [compRes] at h1
    split at h1
    case h_2 => cases h1
    rename_i n rs' hld hrs
    cases h1
    simp only [arVs] at h2
    split at h2
    case h_2 => cases h2
    rename_i c1 v d vs' hv hvs
    simp only [Option.some.injEq, Prod.mk.injEq] at h2
    obtain ⟨rfl, rfl⟩ := h2
    obtain ⟨us, k1, k2, k3, k4⟩ := res_list h hrs hvs hc.2
    simp only [arV] at hv
    split at hv
    case h_2 => cases hv
    rename_i g1 s' o hgv
    split at hv
    case h_2 => cases hv
    rename_i cells hcells
    simp only [Option.some.injEq, Prod.mk.injEq] at hv
    obtain ⟨rfl, rfl⟩ := hv
    obtain ⟨b, hb, hbox⟩ := h.boxes s' cells hcells
    have hp := (h.slots t).gv (by rw [hgv]; exact hc.1.1)
    rw [hgv] at hp
    obtain ⟨b', hb', hval⟩ := hp
    rw [hb] at hb'; cases hb'
    obtain ⟨val, h5, h6⟩ := load_ok hld hbox.cellsAt (k := o) (by simpa using hc.1.2)
    refine ⟨val :: us, ?_, by simp [k2], by simp [k3], ?_⟩
    · simp only [Nat.zero_add] at h5
      simp [List.mapM_cons, Sem.run_bind, resOne, k1, Result.andThen, hval, asAddr, h5]
    · intro j hj
      cases j with
      | zero => exact ⟨_, rfl, by simpa using h6⟩
      | succ j => simpa using k4 j (by simpa using hj)

theorem arSlots_mem {s : Nat} : ∀ {rs : List AR} {j : Nat}, j < rs.length → rs.getD j (.t 0) = .t s → s ∈ arSlots rs
  | .t t :: r, 0, _, e => by simp at e; subst e; simp [arSlots]
  | .c _ _ :: r, 0, _, e => by simp at e
  | .t t :: r, j + 1, hj, e => by simp [arSlots]; exact .inr (arSlots_mem (j := j) (by simpa using hj) (by simpa using e))
  | .c _ _ :: r, j + 1, hj, e => by simp [arSlots]; exact arSlots_mem (j := j) (by simpa using hj) (by simpa using e)
  | [], j, hj, _ => by simp at hj

/-- Where a slot's own goes. -/
def posOf (s : Nat) : Nat → List AR → Option Nat
  | _, [] => none
  | j, .t t :: r => if t = s then some j else posOf s (j + 1) r
  | j, .c _ _ :: r => posOf s (j + 1) r

theorem posOf_at {s : Nat} : ∀ {rs : List AR} {i j : Nat}, (arSlots rs).Nodup → j < rs.length → rs.getD j (.t 0) = .t s → posOf s i rs = some (i + j)
  | .t t :: r, i, 0, _, _, e => by simp at e; simp [posOf, e]
  | .c _ _ :: r, i, 0, _, _, e => by simp at e
  | .t t :: r, i, j + 1, hn, hj, e => by
    simp only [arSlots, List.nodup_cons] at hn
    have hj' : j < r.length := by simpa using hj
    have e' : r.getD j (.t 0) = .t s := by simpa using e
    have hm := arSlots_mem hj' e'
    have hne : t ≠ s := fun q => hn.1 (q ▸ hm)
    rw [posOf, if_neg hne, posOf_at hn.2 hj' e']; congr 1; omega
  | .c _ _ :: r, i, j + 1, hn, hj, e => by
    have hj' : j < r.length := by simpa using hj
    have e' : r.getD j (.t 0) = .t s := by simpa using e
    have hn' : (arSlots r).Nodup := hn
    rw [posOf, posOf_at hn' hj' e']; congr 1; omega
  | [], i, j, _, hj, _ => by simp at hj

def retX (g : Gh) (rs : List AR) : Nat → Option Place := fun b => match g.x b with
  | some (.slot s 0) => (posOf s 0 rs).map (.slot 0)
  | _ => none

theorem ret_rep (h : Sim w0 mu0 T g st a w) {l : List ResultVar} {rs : List AR} {rv : LV} (h1 : compRes P l = some rs) (hnd : (arSlots rs).Nodup) (h2 : RvIs st rs rv) :
    ∃ us : List Value, (l.mapM (resOne a.tmps)).run P w = .ok us w ∧ RetRepX g.okx g.mu w rv (if h : us.toArray.size = 1 then us.toArray[0] else .tuple us.toArray) := by
  unfold RvIs at h2
  split at h2
  case h_2 => exact h2.elim
  rename_i c vs hvs
  obtain ⟨hc, hwk⟩ := h2
  obtain ⟨us, k1, k2, k3, k4⟩ := res_list h h1 hvs hc
  refine ⟨us, k1, retX g rs, hwk.rep ?_, ?_⟩
  · have own : ∀ j, j < vs.length → RepR { mu := g.mu, x := retX g rs, bx := fun _ => none, okx := g.okx } w (.slot 0 j) (vs.getD j (.sv .undef)) (us.getD j Go.undef) := by
      intro j hj
      have hk := k4 j hj
      cases hr : rs.getD j (.t 0) with
      | c s n => rw [hr] at hk; obtain ⟨v, e1, e2⟩ := hk; rw [e1]; exact e2
      | t s =>
        rw [hr] at hk
        have hp := posOf_at (i := 0) hnd (by omega) hr
        cases hv : vs.getD j (.sv .undef) with
        | sv v => rw [hv] at hk; exact hk
        | own sz xs =>
          rw [hv] at hk
          rcases hk with hk | ⟨b, off, cap, e1, e2, e3, e4, e5⟩
          · exact .inl hk
          · exact .inr ⟨b, off, cap, e1, e2, by simp [retX, e3, hp], e4, e5⟩
    unfold resV
    split
    · rename_i v
      obtain ⟨u, rfl⟩ : ∃ u, us = [u] := by
        cases us with
        | nil => simp at k2
        | cons u r => cases r with
          | nil => exact ⟨u, rfl⟩
          | cons _ _ => simp at k2
      have := own 0 (by simp)
      simp at this
      cases v <;> exact this
    · rename_i hne
      have hsz : ¬ us.toArray.size = 1 := by
        intro e
        cases vs with
        | nil => simp at k2; simp [k2] at e
        | cons v r => cases r with
          | nil => exact hne v rfl
          | cons _ _ => simp at k2 e; omega
      rw [dif_neg hsz]
      exact ⟨us, rfl, k2, own⟩
  · intro b p e
    simp only [retX] at e
    split at e
    · rename_i s hx; exact h.xlt b _ hx
    · cases e

theorem pure_of {f : FuncId} {fn : Func} {body : Code} {ac : AC} {rs : List AR} {args : List SV} {rv : LV} (hf : P.funcs[f]? = some fn) (hb : fn.body = some body)
    (hc : comp P fn.ntmps body = some ac) (hr : compRes P fn.results.toList = some rs) (hnd : (arSlots rs).Nodup) (hn : args.length ≤ fn.ntmps)
    (h : awp P ac (fun e st => match e with | .exit _ => False | _ => RvIs st rs rv) (St.enter fn.ntmps args)) : Pure P f args rv := by
  intro mu w vs hm hargs
  refine calls_of_wp hf hb ?_
  have hsim := sim_enter hm hargs hn
  refine wp_mono (awp_ok body ac _ _ _ _ w hc hsim rfl h) fun e a' w' hp => ?_
  have fin : ∀ g' st', Sim w mu Tc.none g' st' a' w' → RvIs st' rs rv →
      a'.defers = [] ∧ ∃ v, (results fn a'.tmps).run P w' = .ok v w' ∧ ∃ val mu', Ending.returned v = .returned val ∧ Ext (fun _ => False) w w' ∧ mu.le mu' ∧ MemOK mu' w' ∧ (∀ b j, b < w.heap.size → mu' b j = mu b j) ∧ RetRep w.heap.size mu' w' rv val := by
    intro g' st' hs hq
    obtain ⟨us, q1, q2⟩ := ret_rep hs hr hnd hq
    refine ⟨hs.defers, _, results_list fn a'.tmps q1, _, g'.mu, rfl, hs.ext.mono (fun k hk => by rcases hk with ⟨s, hs⟩ | hk; cases hs; exact hk), hs.mule, hs.mem, fun b j hb => hs.mem0 b j hb (fun q => q), by have := q2; rw [hs.okx] at this; exact this⟩
  cases e with
  | normal => obtain ⟨g', st', q1, q2, q3⟩ := hp; exact fin g' st' q1 q3
  | ret => obtain ⟨g', st', q1, q2, q3⟩ := hp; exact fin g' st' q1 q3
  | exit id => obtain ⟨g', st', q1, q2, q3⟩ := hp; exact q3.elim
  | goto l => exact hp.elim
  | panic ch => exact hp.elim
  | outgrown => exact hp.elim

theorem pure_ofF (s : Nat) {f : FuncId} {fn : Func} {body : Code} {ac : AC} {rs : List AR} {args : List SV} {rv : LV} (hf : P.funcs[f]? = some fn) (hb : fn.body = some body)
    (hc : comp P fn.ntmps body = some ac) (hr : compRes P fn.results.toList = some rs) (hnd : (arSlots rs).Nodup) (hn : args.length ≤ fn.ntmps)
    (h : awp P ac (fun e st => match e with | .exit _ => False | _ => FrzP st s ∧ RvIs (st.frz s) rs rv) (St.enter fn.ntmps args)) : Pure P f args rv := by
  intro mu w vs hm hargs
  refine calls_of_wp hf hb ?_
  have hsim := sim_enter hm hargs hn
  refine wp_mono (awp_ok body ac _ _ _ _ w hc hsim rfl h) fun e a' w' hp => ?_
  have fin : ∀ g' st', Sim w mu Tc.none g' st' a' w' → FrzP st' s ∧ RvIs (st'.frz s) rs rv →
      a'.defers = [] ∧ ∃ v, (results fn a'.tmps).run P w' = .ok v w' ∧ ∃ val mu', Ending.returned v = .returned val ∧ Ext (fun _ => False) w w' ∧ mu.le mu' ∧ MemOK mu' w' ∧ (∀ b j, b < w.heap.size → mu' b j = mu b j) ∧ RetRep w.heap.size mu' w' rv val := by
    intro g0 st0 hs0 hq0
    obtain ⟨hfz, hq⟩ := hq0
    obtain ⟨g', hs⟩ := hs0.frzP hfz
    obtain ⟨us, q1, q2⟩ := ret_rep hs hr hnd hq
    refine ⟨hs.defers, _, results_list fn a'.tmps q1, _, g'.mu, rfl, hs.ext.mono (fun k hk => by rcases hk with ⟨s, hs⟩ | hk; cases hs; exact hk), hs.mule, hs.mem, fun b j hb => hs.mem0 b j hb (fun q => q), by have := q2; rw [hs.okx] at this; exact this⟩
  cases e with
  | normal => obtain ⟨g', st', q1, q2, q3⟩ := hp; exact fin g' st' q1 q3
  | ret => obtain ⟨g', st', q1, q2, q3⟩ := hp; exact fin g' st' q1 q3
  | exit id => obtain ⟨g', st', q1, q2, q3⟩ := hp; exact q3.elim
  | goto l => exact hp.elim
  | panic ch => exact hp.elim
  | outgrown => exact hp.elim

/-! ### a function that works on one object -/
def St.enterE (n : Nat) (cells args : List SV) : St := { n := n, sl := (0, .lptr 0 0) :: argSl 1 args, bx := [(0, cells.map .sv)], hp := fun _ => none }

def T1 (b : Nat) : Tc := ⟨fun s => if s = 0 then some b else none, fun _ => False⟩
theorem sim_enterE {mu : Mem} {b : Nat} {vs : List Value} {cells args : List SV} {n : Nat} (hm : MemOK mu w) (hh : HeapAt mu w b cells) (hr : RepArgs mu args vs) (hn : args.length + 1 ≤ n) :
    Sim w mu (T1 b) { mu := mu, x := fun _ => none, bx := (T1 b).bx, okx := fun b' => b' < w.heap.size → (T1 b).ar b', okb := fun b' => b' < w.heap.size → TB (T1 b) b' } (St.enterE n cells args)
      { tmps := (.pointer (some ⟨b, 0, none⟩) :: vs).toArray ++ Array.replicate (n - (.pointer (some ⟨b, 0, none⟩) :: vs).toArray.size) undef, defers := [] } w := by
  obtain ⟨h0, c, e, fr, h1, h2, h3, h4⟩ := hh
  have hlt : b < w.heap.size := by
    apply Classical.byContradiction; intro q
    rw [Array.getElem?_eq_none (by omega)] at h1; cases h1
  constructor
  · simp [St.enterE]; have := hr.1; omega
  · rfl
  · intro s
    cases s with
    | zero => exact ⟨b, by simp [T1], by simp [Array.getD_eq_getD_getElem?, Array.getElem?_append]⟩
    | succ s =>
      simp only [St.enterE]
      rw [lk_cons_other _ _ (by omega), lk_argSl]
      split
      · rename_i hs
        have hs2 : s < args.length := by omega
        have := hr.2 s hs2
        have hlt : s < vs.length := by rw [hr.1]; exact hs2
        simpa [RepL, Array.getD_eq_getD_getElem?, Array.getElem?_append, hlt, List.getD_eq_getElem?_getD] using this
      · exact .undef _
  · intro s cs hc
    simp only [St.enterE, lkb] at hc
    split at hc
    case isFalse => cases hc
    rename_i q
    cases hc
    subst q
    refine ⟨b, by simp [T1], fun _ => ⟨0, by simp [T1]⟩, h0, rfl, c, e, fr, h1, h2, by simpa using h3, fun j hj => ?_⟩
    have hj' : j < cells.length := by simpa using hj
    simpa [List.getD_eq_getElem?_getD, hj', RepR] using h4 j hj'
  · intro s s' b' e1 e2
    simp only [T1] at e1 e2
    split at e1
    · split at e2
      · omega
      · cases e2
    · cases e1
  · intro b' cs hc; simp [St.enterE] at hc
  · exact hm
  · intro _ _ _ _; rfl
  · exact Mem.le_refl _
  · exact Ext.refl _ _
  · rfl
  · intro b' p hb; simp at hb
  · intro s b' hb
    simp only [T1] at hb
    split at hb
    · cases hb; exact hlt
    · cases hb
  · intro s b' p hb; simp at hb
  · rfl
  · intro s b' hb
    refine ⟨hb, ?_⟩
    by_cases q : s = 0
    · exact .inl q
    · simp [q, T1] at hb

/-- The object's cells, in the end. -/
def ObjIs (st : St) (cells' : List SV) : Prop := match lkb st.bx 0 with
  | some c => c.map RV.share = cells'
  | none => False

theorem eff_of {f : FuncId} {fn : Func} {body : Code} {ac : AC} {rs : List AR} {cells args : List SV} {rv : LV} {cells' : List SV} (hf : P.funcs[f]? = some fn) (hb : fn.body = some body)
    (hc : comp P fn.ntmps body = some ac) (hr : compRes P fn.results.toList = some rs) (hnd : (arSlots rs).Nodup) (hn : args.length + 1 ≤ fn.ntmps)
    (h : awp P ac (fun e st => match e with | .exit _ => False | _ => RvIs st rs rv ∧ ObjIs st cells') (St.enterE fn.ntmps cells args)) : Eff1 P f cells args rv cells' := by
  intro mu w b vs hm hh hargs
  refine calls_of_wp hf hb ?_
  have hsim := sim_enterE hm hh hargs hn
  refine wp_mono (awp_ok body ac _ _ _ _ w hc hsim rfl h) fun e a' w' hp => ?_
  have fin : ∀ g' st', Sim w mu (T1 b) g' st' a' w' → RvIs st' rs rv ∧ ObjIs st' cells' →
      a'.defers = [] ∧ ∃ v, (results fn a'.tmps).run P w' = .ok v w' ∧ ∃ val mu', Ending.returned v = .returned val ∧ Ext (fun k => k = b) w w' ∧ mu.le mu' ∧ MemOK mu' w' ∧ (∀ b' j, b' < w.heap.size → mu' b' j = mu b' j) ∧ HeapAt mu' w' b cells' ∧ RetRep w.heap.size mu' w' rv val := by
    intro g' st' hs hq
    obtain ⟨us, q1, q2⟩ := ret_rep hs hr hnd hq.1
    refine ⟨hs.defers, _, results_list fn a'.tmps q1, _, g'.mu, rfl, hs.ext.mono (fun k hk => by
      rcases hk with ⟨s, hs⟩ | hk
      · by_cases q : s = 0
        · simp [q, T1] at hs; exact hs.symm
        · simp [q, T1] at hs
      · exact hk.elim), hs.mule, hs.mem, fun b j hb => hs.mem0 b j hb (fun q => q), ?_, by have := q2; rw [hs.okx] at this; exact this⟩
    · have hq2 := hq.2
      unfold ObjIs at hq2
      split at hq2
      case h_2 => exact hq2.elim
      rename_i cs hcs
      subst hq2
      obtain ⟨b2, hb2, hbox⟩ := hs.boxes 0 cs hcs
      have hpin := (hs.pin 0 b (by simp [T1])).1
      rw [hpin] at hb2
      cases hb2
      exact hbox.heapAt
  cases e with
  | normal => obtain ⟨g', st', q1, q2, q3⟩ := hp; exact fin g' st' q1 q3
  | ret => obtain ⟨g', st', q1, q2, q3⟩ := hp; exact fin g' st' q1 q3
  | exit id => obtain ⟨g', st', q1, q2, q3⟩ := hp; exact q3.elim
  | goto l => exact hp.elim
  | panic ch => exact hp.elim
  | outgrown => exact hp.elim

/-! ### a function that returns a new object -/
def NewIs (st : St) (rs : List AR) (cells : List SV) : Prop := match rs with
  | [.t s] => match (lk st.sl s).gv with
    | (g, .lptr s' 0) => match lkb st.bx s' with
      | some c => g = true ∧ c.map RV.share = cells
      | none => False
    | _ => False
  | _ => False

theorem new_of {f : FuncId} {fn : Func} {body : Code} {ac : AC} {rs : List AR} {args : List SV} {cells : List SV} (hf : P.funcs[f]? = some fn) (hb : fn.body = some body)
    (hc : comp P fn.ntmps body = some ac) (hr : compRes P fn.results.toList = some rs) (hn : args.length ≤ fn.ntmps)
    (h : awp P ac (fun e st => match e with | .exit _ => False | _ => NewIs st rs cells) (St.enter fn.ntmps args)) : PureN P f args cells := by
  intro mu w vs hm hargs
  refine calls_of_wp hf hb ?_
  have hsim := sim_enter hm hargs hn
  refine wp_mono (awp_ok body ac _ _ _ _ w hc hsim rfl h) fun e a' w' hp => ?_
  have fin : ∀ g' st', Sim w mu Tc.none g' st' a' w' → NewIs st' rs cells →
      a'.defers = [] ∧ ∃ v, (results fn a'.tmps).run P w' = .ok v w' ∧ ∃ b mu', Ending.returned v = .returned (.pointer (some ⟨b, 0, none⟩)) ∧ Ext (fun _ => False) w w' ∧ mu.le mu' ∧ MemOK mu' w' ∧ (∀ b j, b < w.heap.size → mu' b j = mu b j) ∧ w.heap.size ≤ b ∧ HeapAt mu' w' b cells := by
    intro g' st' hs hq
    unfold NewIs at hq
    split at hq
    case h_2 => exact hq.elim
    rename_i s
    split at hq
    case h_2 => exact hq.elim
    rename_i gg s' hgv
    split at hq
    case h_2 => exact hq.elim
    rename_i c hcb
    obtain ⟨rfl, rfl⟩ := hq
    have hslot := (hs.slots s).gv (by rw [hgv])
    rw [hgv] at hslot
    obtain ⟨b, hb1, hval⟩ := hslot
    obtain ⟨b2, hb2, hbox⟩ := hs.boxes s' c hcb
    rw [hb1] at hb2; cases hb2
    have hres : fn.results.toList = [.tmp s] := by
      cases hl : fn.results.toList with
      | nil => rw [hl] at hr; cases hr
      | cons x r =>
        rw [hl] at hr
        cases x with
        | tmp t =>
          simp only [compRes] at hr
          obtain ⟨z, hz, he⟩ := opt_map_some hr
          cases he
          cases r with
          | nil => rfl
          | cons y r' =>
            cases y with
            | tmp t => simp only [compRes] at hz; obtain ⟨z', _, he⟩ := opt_map_some hz; cases he
            | cell t ty => simp only [compRes] at hz; split at hz <;> cases hz
        | cell t ty => simp only [compRes] at hr; split at hr <;> cases hr
    have hrun : (fn.results.toList.mapM (resOne a'.tmps)).run P w' = .ok [.pointer (some ⟨b, 0, none⟩)] w' := by
      rw [hres]; simp [List.mapM_cons, Sem.run_bind, resOne, Result.andThen]; rw [Array.getD_eq_getD_getElem?] at hval; exact hval
    have hok := hbox.1
    rw [hs.okb] at hok
    refine ⟨hs.defers, _, results_list fn a'.tmps hrun, b, g'.mu, rfl, hs.ext.mono (fun k hk => by rcases hk with ⟨s, hs⟩ | hk; cases hs; exact hk), hs.mule, hs.mem, fun b j hb => hs.mem0 b j hb (fun q => q), ?_, hbox.heapAt⟩
    · exact Nat.le_of_not_lt fun q => by obtain ⟨s, hs⟩ := hok q; cases hs
  cases e with
  | normal => obtain ⟨g', st', q1, q2, q3⟩ := hp; exact fin g' st' q1 q3
  | ret => obtain ⟨g', st', q1, q2, q3⟩ := hp; exact fin g' st' q1 q3
  | exit id => obtain ⟨g', st', q1, q2, q3⟩ := hp; exact q3.elim
  | goto l => exact hp.elim
  | panic ch => exact hp.elim
  | outgrown => exact hp.elim
end Go.Av

/- Oracles by encodings: a function's contract for all values of a type of one's own. -/

set_option linter.unusedSimpArgs false
namespace Go.Av

/-- Which value do these arguments stand for? -/
noncomputable def inv {α : Type} (enc : α → List SV) (l : List SV) : Option α :=
  open Classical in if h : ∃ a, l = enc a then some (Classical.choose h) else none
theorem inv_some {α : Type} {enc : α → List SV} {l : List SV} {a : α} (h : inv enc l = some a) : l = enc a := by
  unfold inv at h
  split at h
  · rename_i q
    cases h
    exact Classical.choose_spec q
  · cases h
theorem inv_eq {α : Type} {enc : α → List SV} (hinj : ∀ a b, enc a = enc b → a = b) (a : α) : inv enc (enc a) = some a := by
  unfold inv
  have h : ∃ b, enc a = enc b := ⟨a, rfl⟩
  rw [dif_pos h]
  exact congrArg some (hinj _ _ (Classical.choose_spec h)).symm
/-- One line of an oracle. -/
noncomputable def row {α : Type} (enc : α → List SV) (F : α → Prop × LV) (l : List SV) : Option (Prop × LV) := (inv enc l).map F
theorem row_some {α : Type} {enc : α → List SV} {F : α → Prop × LV} {l : List SV} {c : Prop} {rv : LV} (h : row enc F l = some (c, rv)) : ∃ a, l = enc a ∧ F a = (c, rv) := by
  unfold row at h
  cases q : inv enc l with
  | none => rw [q] at h; cases h
  | some a =>
    rw [q] at h
    exact ⟨a, inv_some q, by simpa using h⟩
theorem row_eq {α : Type} {enc : α → List SV} (hinj : ∀ a b, enc a = enc b → a = b) (F : α → Prop × LV) (a : α) : row enc F (enc a) = some (F a) := by
  unfold row
  rw [inv_eq hinj]; rfl
theorem row_ok {P : Program} {α : Type} {enc : α → List SV} {F : α → Prop × LV} {f : FuncId} {l : List SV} {c : Prop} {rv : LV} (h : row enc F l = some (c, rv)) (hc : c) (hp : ∀ a, (F a).1 → Pure P f (enc a) (F a).2) : Pure P f l rv := by
  obtain ⟨a, rfl, e⟩ := row_some h
  have := hp a
  rw [e] at this
  exact this hc
/-- The same for calls with a pointer to an object. -/
noncomputable def rowE {α : Type} (enc : α → List SV × List SV) (F : α → Prop × LV × List SV) (cells l : List SV) : Option (Prop × LV × List SV) :=
  open Classical in if h : ∃ a, (cells, l) = enc a then some (F (Classical.choose h)) else none
theorem rowE_eq {α : Type} {enc : α → List SV × List SV} (hinj : ∀ a b, enc a = enc b → a = b) (F : α → Prop × LV × List SV) (a : α) : rowE enc F (enc a).1 (enc a).2 = some (F a) := by
  unfold rowE
  have h : ∃ b, ((enc a).1, (enc a).2) = enc b := ⟨a, rfl⟩
  rw [dif_pos h]
  exact congrArg (fun x => some (F x)) (hinj _ _ (Classical.choose_spec h)).symm
theorem rowE_ok {P : Program} {α : Type} {enc : α → List SV × List SV} {F : α → Prop × LV × List SV} {f : FuncId} {cells l : List SV} {c : Prop} {rv : LV} {cells' : List SV} (h : rowE enc F cells l = some (c, rv, cells')) (hc : c) (hp : ∀ a, (F a).1 → Eff1 P f (enc a).1 (enc a).2 (F a).2.1 (F a).2.2) : Eff1 P f cells l rv cells' := by
  unfold rowE at h
  split at h
  case isFalse => cases h
  rename_i q
  have e := Classical.choose_spec q
  have := hp (Classical.choose q)
  simp only [Option.some.injEq] at h
  rw [h, ← e] at this
  exact this hc
theorem map_inj {α : Type} {f : α → SV} (h : ∀ a b, f a = f b → a = b) : ∀ l m : List α, l.map f = m.map f → l = m := by
  intro l
  induction l with
  | nil => intro m q; cases m <;> simp at q ⊢
  | cons a l ih =>
    intro m q
    cases m with
    | nil => simp at q
    | cons b m =>
      simp only [List.map_cons, List.cons.injEq] at q
      rw [h _ _ q.1, ih m q.2]
end Go.Av
