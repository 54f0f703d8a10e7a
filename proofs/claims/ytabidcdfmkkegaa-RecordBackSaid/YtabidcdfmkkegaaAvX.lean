import Derived.Test.YtabidcdfmkkegaaAvW
set_option linter.unusedSimpArgs false
namespace Go.Av

theorem lk_app : ∀ (W l : List (Nat × LV)) (t : Nat), (∀ p ∈ W, p.1 ≠ t) → lk (W ++ l) t = lk l t
  | [], _, _, _ => rfl
  | (s, v) :: W, l, t, h => by
    have h1 : s ≠ t := h (s, v) (by simp)
    simp only [List.cons_append, lk, if_neg h1]
    exact lk_app W l t (fun p hp => h p (by simp [hp]))
theorem lk_app_in : ∀ (W l : List (Nat × LV)) (t : Nat), (∃ p ∈ W, p.1 = t) → lk (W ++ l) t = lk W t
  | [], _, _, h => by obtain ⟨p, hp, _⟩ := h; simp at hp
  | (s, v) :: W, l, t, h => by
    simp only [List.cons_append, lk]
    split
    · rfl
    · rename_i hne
      obtain ⟨p, hp, e⟩ := h
      rcases List.mem_cons.1 hp with rfl | hp
      · exact absurd e hne
      · exact lk_app_in W l t ⟨p, hp, e⟩
theorem lkb_app : ∀ (W l : List (Nat × List RV)) (t : Nat), (∀ p ∈ W, p.1 ≠ t) → lkb (W ++ l) t = lkb l t
  | [], _, _, _ => rfl
  | (s, v) :: W, l, t, h => by
    have h1 : s ≠ t := h (s, v) (by simp)
    simp only [List.cons_append, lkb, if_neg h1]
    exact lkb_app W l t (fun p hp => h p (by simp [hp]))
theorem lkb_app_in : ∀ (W l : List (Nat × List RV)) (t : Nat), (∃ p ∈ W, p.1 = t) → lkb (W ++ l) t = lkb W t
  | [], _, _, h => by obtain ⟨p, hp, _⟩ := h; simp at hp
  | (s, v) :: W, l, t, h => by
    simp only [List.cons_append, lkb]
    split
    · rfl
    · rename_i hne
      obtain ⟨p, hp, e⟩ := h
      rcases List.mem_cons.1 hp with rfl | hp
      · exact absurd e hne
      · exact lkb_app_in W l t ⟨p, hp, e⟩

structure Eqv (st st2 : St) : Prop where
  n : st2.n = st.n
  hp : st2.hp = st.hp
  sl : ∀ t, lk st2.sl t = lk st.sl t
  bx : ∀ t, lkb st2.bx t = lkb st.bx t
  nl : ∀ d, noL d st2.sl ↔ noL d st.sl

theorem Eqv.refl (st : St) : Eqv st st := ⟨rfl, rfl, fun _ => rfl, fun _ => rfl, fun _ => Iff.rfl⟩
theorem Eqv.trans {a b c : St} (h : Eqv a b) (k : Eqv b c) : Eqv a c := ⟨k.n.trans h.n, k.hp.trans h.hp, fun t => (k.sl t).trans (h.sl t), fun t => (k.bx t).trans (h.bx t), fun d => (k.nl d).trans (h.nl d)⟩

theorem noL_append {d : Nat} {a b : List (Nat × LV)} : noL d (a ++ b) ↔ noL d a ∧ noL d b := by
  unfold noL
  constructor
  · intro h; exact ⟨fun p hp => h p (by simp [hp]), fun p hp => h p (by simp [hp])⟩
  · rintro ⟨h1, h2⟩ p hp
    rcases List.mem_append.1 hp with h | h
    · exact h1 p h
    · exact h2 p h

theorem Eqv.app {st st2 : St} (h : Eqv st st2) (W : List (Nat × LV)) (B : List (Nat × List RV)) : Eqv (st.app W B) (st2.app W B) := by
  refine ⟨h.n, h.hp, fun t => ?_, fun t => ?_, fun d => ?_⟩
  · simp only [St.app]
    by_cases e : ∃ p ∈ W, p.1 = t
    · rw [lk_app_in _ _ _ e, lk_app_in _ _ _ e]
    · have e' : ∀ p ∈ W, p.1 ≠ t := fun p hp q => e ⟨p, hp, q⟩
      rw [lk_app _ _ _ e', lk_app _ _ _ e']; exact h.sl t
  · simp only [St.app]
    by_cases e : ∃ p ∈ B, p.1 = t
    · rw [lkb_app_in _ _ _ e, lkb_app_in _ _ _ e]
    · have e' : ∀ p ∈ B, p.1 ≠ t := fun p hp q => e ⟨p, hp, q⟩
      rw [lkb_app _ _ _ e', lkb_app _ _ _ e']; exact h.bx t
  · simp only [St.app, noL_append, h.nl d]

theorem Eqv.swap {st : St} {W1 W2 : List (Nat × LV)} {B1 B2 : List (Nat × List RV)} (hW : ∀ p ∈ W1, ∀ q ∈ W2, p.1 ≠ q.1) (hB : ∀ p ∈ B1, ∀ q ∈ B2, p.1 ≠ q.1) :
    Eqv ((st.app W1 B1).app W2 B2) ((st.app W2 B2).app W1 B1) := by
  refine ⟨rfl, rfl, fun t => ?_, fun t => ?_, fun d => ?_⟩
  · simp only [St.app]
    by_cases e : ∃ p ∈ W1, p.1 = t
    · obtain ⟨p, hp, rfl⟩ := e
      have h2 : ∀ q ∈ W2, q.1 ≠ p.1 := fun q hq => (hW p hp q hq).symm
      rw [lk_app_in _ _ _ ⟨p, hp, rfl⟩, lk_app _ _ _ h2, lk_app_in _ _ _ ⟨p, hp, rfl⟩]
    · have e' : ∀ p ∈ W1, p.1 ≠ t := fun p hp q => e ⟨p, hp, q⟩
      rw [lk_app _ _ _ e']
      by_cases e2 : ∃ p ∈ W2, p.1 = t
      · rw [lk_app_in _ _ _ e2, lk_app_in _ _ _ e2]
      · have e2' : ∀ p ∈ W2, p.1 ≠ t := fun p hp q => e2 ⟨p, hp, q⟩
        rw [lk_app _ _ _ e2', lk_app _ _ _ e2', lk_app _ _ _ e']
  · simp only [St.app]
    by_cases e : ∃ p ∈ B1, p.1 = t
    · obtain ⟨p, hp, rfl⟩ := e
      have h2 : ∀ q ∈ B2, q.1 ≠ p.1 := fun q hq => (hB p hp q hq).symm
      rw [lkb_app_in _ _ _ ⟨p, hp, rfl⟩, lkb_app _ _ _ h2, lkb_app_in _ _ _ ⟨p, hp, rfl⟩]
    · have e' : ∀ p ∈ B1, p.1 ≠ t := fun p hp q => e ⟨p, hp, q⟩
      rw [lkb_app _ _ _ e']
      by_cases e2 : ∃ p ∈ B2, p.1 = t
      · rw [lkb_app_in _ _ _ e2, lkb_app_in _ _ _ e2]
      · have e2' : ∀ p ∈ B2, p.1 ≠ t := fun p hp q => e2 ⟨p, hp, q⟩
        rw [lkb_app _ _ _ e2', lkb_app _ _ _ e2', lkb_app _ _ _ e']
  · simp only [St.app, noL_append]
    constructor <;> rintro ⟨a, b, c⟩ <;> exact ⟨b, a, c⟩

theorem noL_lk {d : Nat} : ∀ {l : List (Nat × LV)} (_ : noL d l) (t : Nat), (lk l t).isL d = false
  | [], _, t => rfl
  | (s, v) :: l, h, t => by
    simp only [lk]
    split
    · exact h (s, v) (by simp)
    · exact noL_lk (l := l) (fun p hp => h p (by simp [hp])) t
theorem isL_gv {d : Nat} {lv : LV} (h : lv.isL d = false) : lv.gv.2.isL d = false := by
  induction lv with
  | gd c v ih => simp only [LV.gv]; exact ih h
  | _ => exact h
theorem noL_ptr {d : Nat} {l : List (Nat × LV)} (h : noL d l) {t s off : Nat} (e : (lk l t).gv.2 = .lptr s off) : s ≠ d := by
  have := isL_gv (noL_lk h t)
  rw [e] at this
  intro q; subst q; simp [LV.isL] at this

theorem noL_lsl {d : Nat} {l : List (Nat × LV)} (h : noL d l) {t s z off n cap : Nat} (e : (lk l t).gv.2 = .lsl s z off n cap) : s ≠ d := by
  have := isL_gv (noL_lk h t)
  rw [e] at this
  intro q; subst q; simp [LV.isL] at this

theorem isL_gdv {d : Nat} {gu : Option (Nat × Bool)} {g : Bool} {lv : LV} : (gdv gu g lv).isL d = lv.isL d := by cases gu <;> rfl
theorem isL_dg {d : Nat} (lv : LV) : lv.dg.isL d = lv.isL d := by
  induction lv with
  | gd c v ih => exact ih
  | _ => rfl
theorem isL_dgi {d i : Nat} (lv : LV) : (lv.dgi i).isL d = lv.isL d := by
  induction lv with
  | gd c v ih => exact ih
  | _ => rfl

/-! ### what an operation writes -/
theorem dgW_ws {st : St} {o : AOp} : ∀ p ∈ dgW st o.k, p.1 ∈ o.ws := by
  obtain ⟨dst, gu, k⟩ := o
  intro p hp
  cases k <;> simp [dgW] at hp <;> subst hp <;> simp [AOp.ws]

theorem eff_ws {R : Orc} {st : St} {o : AOp} {c : Prop} {W : List (Nat × LV)} {B : List (Nat × List RV)} (h : eff R st o = some (c, W, B)) :
    (∀ p ∈ W, p.1 ∈ o.ws) ∧ (o.bk = 0 ∨ o.bk = 1 → B = []) ∧ (o.bk = 2 → (B = [] ∧ effQ st o = some (c, W, B)) ∨ ∃ d cells lv, o.dst = some d ∧ B = [(d, cells)] ∧ W = [(d, lv)] ∧ ∀ d', d ≠ d' → lv.isL d' = false) := by
  have quiet : effQ st o = some (c, W, B) → (o.bk = 0 ∨ o.bk = 1 ∨ o.bk = 2) → (∀ p ∈ W, p.1 ∈ o.ws) ∧ (o.bk = 0 ∨ o.bk = 1 → B = []) ∧ (o.bk = 2 → (B = [] ∧ effQ st o = some (c, W, B)) ∨ ∃ d cells lv, o.dst = some d ∧ B = [(d, cells)] ∧ W = [(d, lv)] ∧ ∀ d', d ≠ d' → lv.isL d' = false) := by
    intro h hb
    have h0 := h
    unfold effQ at h
    split at h
    case h_3 => cases h
    case h_2 e1 e2 e3 =>
      split at h
      case isFalse => cases h
      simp only [Option.some.injEq, Prod.mk.injEq] at h
      obtain ⟨-, rfl, rfl⟩ := h
      refine ⟨fun p hp => ?_, fun _ => rfl, fun e => by rcases hb with q | q | q <;> rw [q] at e <;> first | (cases e; done) | exact .inl ⟨rfl, h0⟩⟩
      simp at hp; subst hp
      simp [AOp.ws, e1]
    rename_i d g c' lv e1 e2 e3
    split at h
    case isFalse => cases h
    simp only [Option.some.injEq, Prod.mk.injEq] at h
    obtain ⟨-, rfl, rfl⟩ := h
    refine ⟨fun p hp => ?_, fun _ => rfl, fun e => by rcases hb with q | q | q <;> rw [q] at e <;> first | (cases e; done) | exact .inl ⟨rfl, h0⟩⟩
    rcases List.mem_cons.1 hp with rfl | hp
    · simp [AOp.ws, e1]
    · exact dgW_ws p hp
  obtain ⟨dst, gu, k⟩ := o
  cases k
  case box n x =>
    simp only [eff, effBox] at h
    split at h
    case h_2 => cases h
    split at h
    case isFalse => cases h
    simp only [Option.some.injEq, Prod.mk.injEq] at h
    obtain ⟨-, rfl, rfl⟩ := h
    exact ⟨fun p hp => by simp at hp; subst hp; simp [AOp.ws], fun e => by simp [AOp.bk] at e, fun _ => .inr ⟨_, _, _, rfl, rfl, rfl, fun d' q => by simp [LV.isL, q]⟩⟩
  case alloc z =>
    simp only [eff, effAlloc] at h
    split at h
    case h_2 => cases h
    split at h
    case isFalse => cases h
    simp only [Option.some.injEq, Prod.mk.injEq] at h
    obtain ⟨-, rfl, rfl⟩ := h
    exact ⟨fun p hp => by simp at hp; subst hp; simp [AOp.ws], fun e => by simp [AOp.bk] at e, fun _ => .inr ⟨_, _, _, rfl, rfl, rfl, fun d' q => by simp [LV.isL, q]⟩⟩
  case mks sz bytes zero l =>
    simp only [eff] at h
    split at h
    · simp only [effMks] at h
      split at h
      case h_2 => cases h
      split at h
      case isFalse => cases h
      simp only [Option.some.injEq, Prod.mk.injEq] at h
      obtain ⟨-, rfl, rfl⟩ := h
      exact ⟨fun p hp => by simp at hp; subst hp; simp [AOp.ws], fun e => by simp [AOp.bk] at e, fun _ => .inr ⟨_, _, _, rfl, rfl, rfl, fun d' q => by simp [LV.isL, q]⟩⟩
    · exact quiet h (by simp [AOp.bk])
  case store n x v =>
    simp only [eff, effStore] at h
    split at h
    case h_2 => cases h
    split at h
    case h_2 => cases h
    simp only [Option.some.injEq, Prod.mk.injEq] at h
    obtain ⟨-, rfl, rfl⟩ := h
    exact ⟨fun p hp => by simp at hp, fun e => by simp [AOp.bk] at e, fun e => by simp [AOp.bk] at e⟩
  case call f l =>
    simp only [eff, effCall] at h
    split at h
    case h_2 => cases h
    split at h
    case h_2 => cases h
    split at h
    case isFalse => cases h
    simp only [Option.some.injEq, Prod.mk.injEq] at h
    obtain ⟨-, rfl, rfl⟩ := h
    exact ⟨fun p hp => by simp at hp; subst hp; simp [AOp.ws], fun _ => rfl, fun e => by simp [AOp.bk] at e⟩
  case callN f l =>
    simp only [eff, effCallN] at h
    split at h
    case h_2 => cases h
    split at h
    case h_2 => cases h
    split at h
    case isFalse => cases h
    simp only [Option.some.injEq, Prod.mk.injEq] at h
    obtain ⟨-, rfl, rfl⟩ := h
    exact ⟨fun p hp => by simp at hp; subst hp; simp [AOp.ws], fun e => by simp [AOp.bk] at e, fun _ => .inr ⟨_, _, _, rfl, rfl, rfl, fun d' q => by simp [LV.isL, q]⟩⟩
  case callE f x l =>
    simp only [eff, effCallE] at h
    split at h
    case h_3 => cases h
    · split at h
      case h_2 => cases h
      split at h
      case h_2 => cases h
      split at h
      case isFalse => cases h
      simp only [Option.some.injEq, Prod.mk.injEq] at h
      obtain ⟨-, rfl, rfl⟩ := h
      exact ⟨fun p hp => by simp at hp; subst hp; simp [AOp.ws], fun e => by simp [AOp.bk] at e, fun e => by simp [AOp.bk] at e⟩
    · split at h
      case h_2 => cases h
      split at h
      case isFalse => cases h
      simp only [Option.some.injEq, Prod.mk.injEq] at h
      obtain ⟨-, rfl, rfl⟩ := h
      exact ⟨fun p hp => by simp at hp; subst hp; simp [AOp.ws], fun e => by simp [AOp.bk] at e, fun e => by simp [AOp.bk] at e⟩
  case takeLoad x => simp [eff] at h
  all_goals exact quiet h (by simp [AOp.bk])

theorem rdl_noL {d : Nat} {st : St} {x : AO} (h : noL d st.sl) : (rdl st x).2.isL d = false := by
  cases x with
  | t s => exact isL_gv (noL_lk h s)
  | c v => rfl
theorem ev1_noL {d : Nat} {st : St} {x : AO} {f : SV → Ev} {c : Prop} {lv : LV} (hf : ∀ v c lv, f v = some (c, lv) → lv.isL d = false) (h : ev1 st x f = some (c, lv)) : lv.isL d = false := by
  unfold ev1 at h
  split at h
  case h_2 => cases h
  split at h
  case h_2 => cases h
  rename_i e
  cases h
  exact hf _ _ _ e
theorem ev2_noL {d : Nat} {st : St} {x y : AO} {f : SV → SV → Ev} {c : Prop} {lv : LV} (hf : ∀ v u c lv, f v u = some (c, lv) → lv.isL d = false) (h : ev2 st x y f = some (c, lv)) : lv.isL d = false :=
  ev1_noL (fun v _ _ h => ev1_noL (hf v) h) h
theorem RV.isL_lv {d : Nat} (r : RV) : r.lv.isL d = false := by cases r <;> rfl

theorem faddrV_noL {d off : Nat} {p : LV} {c : Prop} {lv : LV} (hp : p.isL d = false) (h : faddrV off p = some (c, lv)) : lv.isL d = false := by
  unfold faddrV at h
  split at h <;> cases h <;> first | rfl | exact hp
theorem iaddrAV_noL {d n sz : Nat} {p : LV} {v : SV} {c : Prop} {lv : LV} (hp : p.isL d = false) (h : iaddrAV n sz p v = some (c, lv)) : lv.isL d = false := by
  unfold iaddrAV at h
  split at h
  · split at h <;> cases h <;> first | rfl | exact hp
  · cases h
theorem binV_noL {d : Nat} {op : BinOp} {v u : SV} {c : Prop} {lv : LV} (h : binV op v u = some (c, lv)) : lv.isL d = false := by
  unfold binV at h
  split at h
  · split at h <;> first | (cases h; rfl) | (cases h; done) | (split at h <;> first | (cases h; rfl) | cases h)
  · split at h <;> first | (cases h; rfl) | cases h
  · cases h
theorem loadV_noL {d : Nat} {st : St} {n : Option Nat} {p : LV} {c : Prop} {lv : LV} (h : loadV st n p = some (c, lv)) : lv.isL d = false := by
  unfold loadV at h
  split at h
  · split at h <;> first | (cases h; rfl) | cases h
  · split at h <;> first | (cases h; rfl) | cases h
  · cases h; rfl
  · cases h

theorem ev_noL {d : Nat} {st : St} {k : AK} {c : Prop} {lv : LV} (hn : noL d st.sl) (h : ev st k = some (c, lv)) : lv.isL d = false := by
  cases k
  case mv o =>
    have := rdl_noL (x := o) hn
    simp only [ev] at h
    split at h <;> first | (cases h; rfl) | (cases h; done) | (rename_i e; cases h; rw [e] at this; exact this)
  case take s =>
    have := isL_gv (noL_lk hn s)
    simp only [ev] at h
    split at h <;> first | (cases h; rfl) | (cases h; done) | (rename_i e; cases h; rw [e] at this; exact this)
  case mark s => simp only [ev] at h; split at h <;> first | (cases h; rfl) | cases h
  case pick c a b => simp only [ev] at h; split at h <;> first | (cases h; rfl) | cases h
  case bin op x y => simp only [ev] at h; exact ev2_noL (fun _ _ _ _ h => binV_noL h) h
  case una op x =>
    simp only [ev] at h; refine ev1_noL ?_ h; intro v c lv h
    unfold unaV at h
    split at h
    · split at h <;> first | (cases h; rfl) | cases h
    · split at h <;> first | (cases h; rfl) | cases h
    · cases h
  case eqn sl neg x =>
    simp only [ev] at h
    split at h
    case h_2 => cases h
    rename_i e
    cases h
    unfold eqnV at e
    split at e <;> first | (cases e; done) | (split at e <;> first | (cases e; rfl) | cases e)
  case beq neg x y =>
    simp only [ev] at h; refine ev2_noL ?_ h; intro v u c lv h; clear hn
    unfold beqV at h; split at h <;> first | (cases h; rfl) | cases h
  case eqs ks neg x y =>
    simp only [ev] at h; refine ev2_noL ?_ h; intro v u c lv h; clear hn
    unfold eqsV at h; split at h
    · split at h <;> first | (cases h; rfl) | cases h
    · cases h
  case conv k x =>
    simp only [ev] at h; refine ev1_noL ?_ h; intro v c lv h; clear hn
    split at h <;> first | (cases h; rfl) | cases h
  case b2s x =>
    simp only [ev] at h; refine ev1_noL ?_ h; intro v c lv h; clear hn
    split at h <;> first | (cases h; rfl) | cases h
  case s2b x =>
    simp only [ev] at h; refine ev1_noL ?_ h; intro v c lv h; clear hn
    split at h <;> first | (cases h; rfl) | cases h
  case len b x =>
    simp only [ev] at h
    split at h
    · split at h <;> first | (cases h; rfl) | cases h
    refine ev1_noL ?_ h; intro v c lv h; clear hn
    unfold lenV at h; split at h <;> first | (cases h; rfl) | cases h
  case minmax b x y =>
    simp only [ev] at h; refine ev2_noL ?_ h; intro v u c lv h; clear hn
    unfold minmaxV at h; split at h <;> first | (cases h; done) | (split at h <;> first | (cases h; rfl) | cases h)
  case slc b z x lo hi =>
    simp only [ev] at h; refine ev1_noL ?_ h; intro v c lv h
    split at h
    case h_2 => cases h
    split at h
    case h_2 => cases h
    split at h
    case h_2 => cases h
    rename_i e
    cases h
    unfold slcV at e
    split at e
    · cases e; rfl
    · split at e <;> first | (cases e; rfl) | cases e
    · cases e; rfl
    · cases e
  case slc3 z x lo hi =>
    simp only [ev] at h; refine ev1_noL ?_ h; intro v c lv h
    split at h
    case h_2 => cases h
    split at h
    · split at h <;> first | (cases h; rfl) | cases h
    · cases h; rfl
    · cases h
  case faddr x off =>
    have := rdl_noL (x := x) hn
    simp only [ev] at h
    split at h
    case h_2 => cases h
    rename_i e
    cases h
    exact faddrV_noL this e
  case fld x off n =>
    simp only [ev] at h; refine ev1_noL ?_ h; intro v c lv h; clear hn
    split at h <;> first | (cases h; rfl) | cases h
  case iaddr z x i =>
    have hx := rdl_noL (x := x) hn
    simp only [ev] at h
    split at h
    · rename_i e
      rw [e] at hx
      refine ev1_noL ?_ h
      intro v c lv h
      split at h
      · split at h <;> first | (cases h; exact hx) | cases h
      · cases h
    refine ev2_noL ?_ h; intro v u c lv h; clear hn
    unfold iaddrV at h; split at h <;> first | (cases h; done) | (split at h <;> first | (cases h; rfl) | cases h)
  case iaddrA n z x i =>
    have := rdl_noL (x := x) hn
    simp only [ev] at h
    refine ev1_noL ?_ h; intro v c lv h
    split at h
    case h_2 => cases h
    rename_i e
    cases h
    exact iaddrAV_noL this e
  case idx x i =>
    simp only [ev] at h; refine ev2_noL ?_ h; intro v u c lv h; clear hn
    unfold idxV at h; split at h <;> first | (cases h; rfl) | cases h
  case ext s i =>
    simp only [ev] at h
    split at h <;> first | (cases h; done) | (cases h; exact RV.isL_lv _) | (cases h; rfl)
  case extS s i =>
    simp only [ev] at h
    split at h <;> first | (cases h; done) | (cases h; rfl)
  case nilc x =>
    have := rdl_noL (x := x) hn
    simp only [ev] at h
    split at h <;> first | (cases h; rfl) | (cases h; done) | (rename_i e; cases h; rw [e] at this; exact this)
  case load n x =>
    simp only [ev] at h
    split at h
    case h_2 => cases h
    rename_i e
    cases h
    exact loadV_noL e
  case build z ps => simp only [ev] at h; split at h <;> first | (cases h; rfl) | cases h
  case bsl z n ze ps => simp only [ev] at h; split at h <;> first | (cases h; rfl) | cases h
  case app a b s y =>
    simp only [ev] at h
    split at h
    case h_2 => cases h
    split at h <;> first | (cases h; rfl) | cases h
  case appS s y => simp only [ev] at h; split at h <;> first | (cases h; rfl) | cases h
  case mks a b z l =>
    simp only [ev] at h; refine ev1_noL ?_ h; intro v c lv h; clear hn
    split at h <;> first | (cases h; rfl) | cases h
  all_goals (simp only [ev] at h; cases h)

theorem dgW_noL {d : Nat} {st : St} {k : AK} (hn : noL d st.sl) : noL d (dgW st k) := by
  intro p hp
  cases k <;> simp [dgW] at hp <;> subst hp <;> simp only [isL_dg, isL_dgi] <;> exact noL_lk hn _

theorem eff_noL {R : Orc} {d : Nat} {st : St} {o : AOp} {c : Prop} {W : List (Nat × LV)} {B : List (Nat × List RV)} (h : eff R st o = some (c, W, B)) (hn : noL d st.sl) (hd : o.bk = 2 → o.dst ≠ some d) : noL d W := by
  have quiet : effQ st o = some (c, W, B) → noL d W := by
    intro h
    unfold effQ at h
    split at h
    case h_3 => cases h
    case h_2 e1 e2 e3 =>
      split at h
      case isFalse => cases h
      simp only [Option.some.injEq, Prod.mk.injEq] at h
      obtain ⟨-, rfl, rfl⟩ := h
      intro p hp
      simp at hp; subst hp
      rfl
    rename_i d' g c' lv e1 e2 e3
    split at h
    case isFalse => cases h
    simp only [Option.some.injEq, Prod.mk.injEq] at h
    obtain ⟨-, rfl, rfl⟩ := h
    intro p hp
    rcases List.mem_cons.1 hp with rfl | hp
    · simp only [isL_gdv]; exact ev_noL hn e3
    · exact dgW_noL hn p hp
  by_cases hb : o.bk = 2
  · rcases (eff_ws h).2.2 hb with ⟨_, hq⟩ | ⟨d', cells, lv, e1, -, rfl, hlv⟩
    · exact quiet hq
    have : d' ≠ d := fun q => hd hb (by rw [e1, q])
    intro p hp
    simp at hp; subst hp
    exact hlv d this
  obtain ⟨dst, gu, k⟩ := o
  cases k
  case box n x => simp [AOp.bk] at hb
  case alloc z => simp [AOp.bk] at hb
  case mks sz bytes zero l => simp [AOp.bk] at hb
  case store n x v =>
    simp only [eff, effStore] at h
    split at h
    case h_2 => cases h
    split at h
    case h_2 => cases h
    simp only [Option.some.injEq, Prod.mk.injEq] at h
    obtain ⟨-, rfl, rfl⟩ := h
    intro p hp; simp at hp
  case call f l =>
    simp only [eff, effCall] at h
    split at h
    case h_2 => cases h
    split at h
    case h_2 => cases h
    rename_i rv hrv
    split at h
    case isFalse => cases h
    rename_i hfl
    simp only [Option.some.injEq, Prod.mk.injEq] at h
    obtain ⟨-, rfl, rfl⟩ := h
    intro p hp
    simp at hp; subst hp
    simp only [isL_gdv]
    have := hfl.2
    cases rv <;> first | rfl | simp [LV.flat] at this
  case callN f l => simp [AOp.bk] at hb
  case callE f x l =>
    have fl : ∀ {rv : LV}, rv.flat = true → rv.isL d = false := fun {rv} e => by cases rv <;> first | rfl | simp [LV.flat] at e
    simp only [eff, effCallE] at h
    split at h
    case h_3 => cases h
    · split at h
      case h_2 => cases h
      split at h
      case h_2 => cases h
      split at h
      case isFalse => cases h
      rename_i hfl
      simp only [Option.some.injEq, Prod.mk.injEq] at h
      obtain ⟨-, rfl, rfl⟩ := h
      intro p hp
      simp at hp; subst hp
      simp only [isL_gdv]
      exact fl hfl.2
    · split at h
      case h_2 => cases h
      split at h
      case isFalse => cases h
      rename_i hfl
      simp only [Option.some.injEq, Prod.mk.injEq] at h
      obtain ⟨-, rfl, rfl⟩ := h
      intro p hp
      simp at hp; subst hp
      simp only [isL_gdv]
      exact fl hfl.2
  case takeLoad x => simp [eff] at h
  all_goals exact quiet h
end Go.Av
