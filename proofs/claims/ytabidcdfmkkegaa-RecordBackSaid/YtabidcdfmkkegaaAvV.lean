import Derived.Test.YtabidcdfmkkegaaAvS
set_option linter.unusedSimpArgs false
namespace Go.Av

def AO.rs : AO → List Nat | .t s => [s] | .c _ => []
def AK.rs : AK → List Nat
  | .mv o => o.rs
  | .take s => [s]
  | .mark s => [s]
  | .pick c a b => c.rs ++ a.rs ++ b.rs
  | .bin _ x y => x.rs ++ y.rs
  | .una _ x => x.rs
  | .eqn _ _ x => x.rs
  | .beq _ x y => x.rs ++ y.rs
  | .eqs _ _ x y => x.rs ++ y.rs
  | .conv _ x => x.rs
  | .b2s x => x.rs
  | .s2b x => x.rs
  | .len _ x => x.rs
  | .minmax _ x y => x.rs ++ y.rs
  | .slc _ _ x lo hi => x.rs ++ (lo.map AO.rs).getD [] ++ (hi.map AO.rs).getD []
  | .slc3 _ x lo hi => x.rs ++ (lo.map AO.rs).getD [] ++ hi.rs
  | .faddr x _ => x.rs
  | .fld x _ _ => x.rs
  | .iaddr _ x i => x.rs ++ i.rs
  | .iaddrA _ _ x i => x.rs ++ i.rs
  | .idx x i => x.rs ++ i.rs
  | .ext s _ => [s]
  | .extS s _ => [s]
  | .mkfn _ a b => (a.map AO.rs).flatten ++ (b.map AO.rs).flatten
  | .nilc x => x.rs
  | .load _ x => x.rs
  | .takeLoad x => x.rs
  | .build _ ps => (ps.map fun p => p.2.2.rs).flatten
  | .bsl _ _ _ ps => (ps.map fun p => p.2.rs).flatten
  | .app _ _ s y => s :: y.rs
  | .appS s y => s :: y.rs
  | .mks _ _ _ l => l.rs
  | .box _ x => x.rs
  | .alloc _ => []
  | .store _ x v => x.rs ++ v.rs
  | .call _ l => (l.map AO.rs).flatten
  | .callE _ x l => x.rs ++ (l.map AO.rs).flatten
  | .callN _ l => (l.map AO.rs).flatten

def AOp.rs (o : AOp) : List Nat := (match o.guard with | some (s, _) => [s] | none => []) ++ o.k.rs
def AOp.ws (o : AOp) : List Nat := (match o.dst with | some d => [d] | none => []) ++ (match o.k with | .take s => [s] | .mark s => [s] | .ext s _ => [s] | .app _ _ s _ => [s] | .appS s _ => [s] | _ => [])
/-- 0: no boxes; 1: reads boxes; 2: makes a box; 3: writes to boxes. -/
def AOp.bk (o : AOp) : Nat := match o.k with | .load _ _ => 1 | .takeLoad _ => 3 | .box _ _ => 2 | .alloc _ => 2 | .mks _ _ _ _ => 2 | .store _ _ _ => 3 | .callE _ _ _ => 3 | .callN _ _ => 2 | _ => 0
def disj (a b : List Nat) : Bool := a.all fun x => !b.contains x
def bkOK : Nat → Nat → Bool
  | 0, _ => true
  | _, 0 => true
  | 1, 1 => true
  | 1, 2 => true
  | 2, 1 => true
  | 2, 2 => true
  | _, _ => false
def indep (x y : AOp) : Bool := disj x.rs y.ws && disj x.ws y.rs && disj x.ws y.ws && bkOK x.bk y.bk

/-! ### operations as effects -/
structure Orc where
  p : FuncId → List SV → Option (Prop × LV)
  e : FuncId → List SV → List SV → Option (Prop × LV × List SV) := fun _ _ _ => none
  n : FuncId → List SV → Option (Prop × List SV) := fun _ _ => none
  arr : Nat → Bool := fun _ => false
structure Orc.ok (P : Program) (R : Orc) : Prop where
  p : ∀ f l c rv, R.p f l = some (c, rv) → c → Pure P f l rv
  e : ∀ f cells l c rv cells', R.e f cells l = some (c, rv, cells') → c → Eff1 P f cells l rv cells'
  n : ∀ f l c cells, R.n f l = some (c, cells) → c → PureN P f l cells
abbrev Eff := Prop × List (Nat × LV) × List (Nat × List RV)

def St.app (st : St) (W : List (Nat × LV)) (B : List (Nat × List RV)) : St := { st with sl := W ++ st.sl, bx := B ++ st.bx }

def dgW (st : St) : AK → List (Nat × LV)
  | .take s => [(s, (lk st.sl s).dg)]
  | .mark s => [(s, (lk st.sl s).dg)]
  | .ext s i => [(s, (lk st.sl s).dgi i)]
  | .app _ _ s _ => [(s, (lk st.sl s).dg)]
  | .appS s _ => [(s, (lk st.sl s).dg)]
  | _ => []

def LV.flat : LV → Bool
  | .sv _ | .own _ _ | .tup _ => true
  | _ => false

def effQ (st : St) (o : AOp) : Option Eff :=
  match o.dst, gOf st o.guard, ev st o.k with
  | some d, some g, some (c, lv) => if d < st.n then some (g = true → c, (d, gdv o.guard g lv) :: dgW st o.k, []) else none
  | some d, some false, none => if d < st.n then some (True, [(d, .gd false (.sv .undef))], []) else none
  | _, _, _ => none
def effBox (st : St) (o : AOp) (n : Nat) (x : AO) : Option Eff :=
  match o.guard, o.dst, rd st x with
  | none, some d, some (g, v) => if d < st.n ∧ d ≠ 0 then some (g = true ∧ v.nc = n ∧ v.known = true, [(d, .lptr d 0)], [(d, v.cells.map .sv)]) else none
  | _, _, _ => none
def effAlloc (st : St) (o : AOp) (zero : List SV) : Option Eff :=
  match o.guard, o.dst with
  | none, some d => if d < st.n ∧ d ≠ 0 then some (True, [(d, .lptr d 0)], [(d, zero.map .sv)]) else none
  | _, _ => none
def effMks (st : St) (o : AOp) (sz bytes : Nat) (zero : List SV) (l : AO) : Option Eff :=
  match o.guard, o.dst, rd st l, zero with
  | none, some d, some (g, .int _ n), [z] => if d < st.n ∧ d ≠ 0 ∧ sz = 1 then some (g = true ∧ 0 ≤ n ∧ n * bytes ≤ 281474976710656 ∧ n ≤ 9223372036854775807, [(d, .lsl d 1 0 n.toNat n.toNat)], [(d, List.replicate n.toNat (.sv z))]) else none
  | _, _, _, _ => none
def effStore (st : St) (o : AOp) (n : Nat) (x v : AO) : Option Eff :=
  match o.guard, o.dst, rdl st x, rd st v with
  | none, none, (g1, .lptr s off), some (g2, u) => match lkb st.bx s with
    | some cells => some (g1 = true ∧ g2 = true ∧ u.nc = n ∧ u.cells.all SV.isCell = true ∧ off + u.cells.length ≤ cells.length, [], [(s, setR cells off u.cells)])
    | none => none
  | _, _, _, _ => none
def effCall (R : Orc) (st : St) (o : AOp) (f : FuncId) (args : List AO) : Option Eff :=
  match o.dst, gOf st o.guard, evList st args with
  | some d, some g, some (c, l) => match R.p f l with
    | some (c', rv) => if d < st.n ∧ rv.flat = true then some (g = true → c ∧ c', [(d, gdv o.guard g rv)], []) else none
    | none => none
  | _, _, _ => none

def effCallE (R : Orc) (st : St) (o : AOp) (f : FuncId) (x : AO) (args : List AO) : Option Eff :=
  match o.dst, gOf st o.guard, rdl st x, evList st args with
  | some d, some g, (gx, .lptr s 0), some (c, l) => match lkb st.bx s with
    | some cells => match R.e f (cells.map RV.share) l with
      | some (c', rv, cells') => if d < st.n ∧ rv.flat = true then some (g = true → gx = true ∧ c ∧ c', [(d, gdv o.guard g rv)], [(s, cond g (cells'.map .sv) cells)]) else none
      | none => none
    | none => none
  | some d, some g, (gx, .sv v), some (c, l) => match R.p f (v :: l) with
    | some (c', rv) => if d < st.n ∧ rv.flat = true then some (g = true → gx = true ∧ c ∧ c', [(d, gdv o.guard g rv)], []) else none
    | none => none
  | _, _, _, _ => none

def effCallN (R : Orc) (st : St) (o : AOp) (f : FuncId) (args : List AO) : Option Eff :=
  match o.guard, o.dst, evList st args with
  | none, some d, some (c, l) => match R.n f l with
    | some (c', cells) => if d < st.n ∧ d ≠ 0 then some (c ∧ c', [(d, .lptr d 0)], [(d, cells.map .sv)]) else none
    | none => none
  | _, _, _ => none

def eff (R : Orc) (st : St) (o : AOp) : Option Eff :=
  match o.k with
  | .box n x => effBox st o n x
  | .alloc zero => effAlloc st o zero
  | .mks sz bytes zero l => if R.arr (o.dst.getD 0) then effMks st o sz bytes zero l else effQ st o
  | .store n x v => effStore st o n x v
  | .call f args => effCall R st o f args
  | .callE f x args => effCallE R st o f x args
  | .callN f args => effCallN R st o f args
  | .takeLoad _ => none
  | _ => effQ st o

/-- The slot that a new variable takes is no longer pointed to. -/
def fresh (o : AOp) (st : St) : Prop := match o.k, o.dst with
  | .box _ _, some d => noL d st.sl
  | .alloc _, some d => noL d st.sl
  | .mks _ _ _ _, some d => noL d st.sl
  | .callN _ _, some d => noL d st.sl
  | _, _ => True

def runR (R : Orc) : List AOp → St → Prop → Option (Prop × St)
  | [], st, c => some (c, st)
  | o :: r, st, c => match eff R st o with
    | some (c', W, B) => runR R r (st.app W B) (c ∧ c' ∧ fresh o st)
    | none => none

theorem dgr_app (st : St) (k : AK) (d : Nat) (lv : LV) : (dgr st k).putS d lv = st.app ((d, lv) :: dgW st k) [] := by
  cases k <;> rfl

theorem quiet_step {st : St} {o : AOp} {c : Prop} {W : List (Nat × LV)} {B : List (Nat × List RV)} {K : St → Prop} (h : effQ st o = some (c, W, B)) (hc : c) (hK : K (st.app W B)) :
    ∃ d, o.dst = some d ∧ d < st.n ∧ ((∃ g c' lv, gOf st o.guard = some g ∧ ev st o.k = some (c', lv) ∧ (g = true → c') ∧ K ((dgr st o.k).putS d (gdv o.guard g lv))) ∨ (gOf st o.guard = some false ∧ ev st o.k = none ∧ K (st.putS d (.gd false (.sv .undef))))) := by
  unfold effQ at h
  split at h
  case h_3 => cases h
  case h_2 e1 e2 e3 =>
    split at h
    case isFalse => cases h
    rename_i hd
    simp only [Option.some.injEq, Prod.mk.injEq] at h
    obtain ⟨rfl, rfl, rfl⟩ := h
    exact ⟨_, e1, hd, .inr ⟨e2, e3, hK⟩⟩
  rename_i d g c' lv e1 e2 e3
  split at h
  case isFalse => cases h
  rename_i hd
  simp only [Option.some.injEq, Prod.mk.injEq] at h
  obtain ⟨rfl, rfl, rfl⟩ := h
  exact ⟨d, e1, hd, .inl ⟨g, c', lv, e2, e3, hc, by rw [dgr_app]; exact hK⟩⟩

theorem eff_step {P : Program} {R : Orc} (hR : R.ok P) {st : St} {o : AOp} {c : Prop} {W : List (Nat × LV)} {B : List (Nat × List RV)} {K : St → Prop} (h : eff R st o = some (c, W, B)) (hc : c) (hf : fresh o st) (hK : K (st.app W B)) : AStep P st o K := by
  obtain ⟨dst, gu, k⟩ := o
  cases k
  case box n x =>
    simp only [eff, effBox] at h
    split at h
    case h_2 => cases h
    rename_i d g v e3
    split at h
    case isFalse => cases h
    rename_i hd
    simp only [Option.some.injEq, Prod.mk.injEq] at h
    obtain ⟨rfl, rfl, rfl⟩ := h
    simp only [AStep]
    refine ⟨trivial, d, rfl, hd, hf, ?_⟩
    rw [e3]
    exact ⟨hc.1, hc.2.1, hc.2.2, hK⟩
  case alloc zero =>
    simp only [eff, effAlloc] at h
    split at h
    case h_2 => cases h
    rename_i d
    split at h
    case isFalse => cases h
    rename_i hd
    simp only [Option.some.injEq, Prod.mk.injEq] at h
    obtain ⟨rfl, rfl, rfl⟩ := h
    simp only [AStep]
    exact ⟨trivial, d, rfl, hd, hf, hK⟩
  case mks sz bytes zero l =>
    simp only [eff] at h
    split at h
    · simp only [effMks] at h
      split at h
      case h_2 => cases h
      rename_i d g k n z e3 _
      split at h
      case isFalse => cases h
      rename_i hd
      simp only [Option.some.injEq, Prod.mk.injEq] at h
      obtain ⟨rfl, rfl, rfl⟩ := h
      simp only [AStep]
      refine .inl ⟨trivial, hd.2.2, d, rfl, ⟨hd.1, hd.2.1⟩, hf, ?_⟩
      rw [e3]
      exact ⟨hc, hK⟩
    · obtain ⟨d, q1, q2, ⟨g, c', lv, q3, q4, q5, q6⟩ | ⟨q3, q4, q6⟩⟩ := quiet_step (K := K) h hc hK
      · simp only [AStep]
        refine .inr ⟨d, q1, q2, ?_⟩
        simp only [] at q3 q4
        rw [q3, q4]
        exact ⟨q5, q6⟩
      · simp only [AStep]
        refine .inr ⟨d, q1, q2, ?_⟩
        simp only [] at q3 q4
        rw [q3, q4]
        exact q6
  case store n x v =>
    simp only [eff, effStore] at h
    split at h
    case h_2 => cases h
    rename_i g1 s off g2 u e3 e4
    split at h
    case h_2 => cases h
    rename_i cells e5
    simp only [Option.some.injEq, Prod.mk.injEq] at h
    obtain ⟨rfl, rfl, rfl⟩ := h
    simp only [AStep]
    refine ⟨trivial, trivial, ?_⟩
    rw [e3, e4]
    refine ⟨hc.1, hc.2.1, hc.2.2.1, hc.2.2.2.1, ?_⟩
    simp only [storeV, e5]
    exact ⟨hc.2.2.2.2, hK⟩
  case call f args =>
    simp only [eff, effCall] at h
    split at h
    case h_2 => cases h
    rename_i d g c' l e2 e3
    split at h
    case h_2 => cases h
    rename_i c2 rv e4
    split at h
    case isFalse => cases h
    rename_i hd
    simp only [Option.some.injEq, Prod.mk.injEq] at h
    obtain ⟨rfl, rfl, rfl⟩ := h
    simp only [AStep]
    refine ⟨d, rfl, hd.1, ?_⟩
    rw [e2, e3]
    exact ⟨rv, fun hg => ⟨(hc hg).1, hR.p _ _ _ _ e4 (hc hg).2⟩, hK⟩
  case callN f args =>
    simp only [eff, effCallN] at h
    split at h
    case h_2 => cases h
    rename_i d c' l e3
    split at h
    case h_2 => cases h
    rename_i c2 cells e4
    split at h
    case isFalse => cases h
    rename_i hd
    simp only [Option.some.injEq, Prod.mk.injEq] at h
    obtain ⟨rfl, rfl, rfl⟩ := h
    simp only [AStep]
    refine ⟨trivial, d, rfl, hd, hf, ?_⟩
    rw [e3]
    exact ⟨hc.1, cells, hR.n _ _ _ _ e4 hc.2, hK⟩
  case callE f x args =>
    simp only [eff, effCallE] at h
    split at h
    case h_3 => cases h
    · rename_i d g gx s c' l e2 e3 e4
      split at h
      case h_2 => cases h
      rename_i cells e5
      split at h
      case h_2 => cases h
      rename_i c2 rv cells' e6
      split at h
      case isFalse => cases h
      rename_i hd
      simp only [Option.some.injEq, Prod.mk.injEq] at h
      obtain ⟨rfl, rfl, rfl⟩ := h
      simp only [AStep]
      refine ⟨d, rfl, hd.1, ?_⟩
      rw [e2, e3, e4]
      simp only [e5]
      exact ⟨rv, cells', fun hg => ⟨(hc hg).1, (hc hg).2.1, hR.e _ _ _ _ _ _ e6 (hc hg).2.2⟩, hK⟩
    · rename_i d g gx v c' l e2 e3 e4
      split at h
      case h_2 => cases h
      rename_i c2 rv e6
      split at h
      case isFalse => cases h
      rename_i hd
      simp only [Option.some.injEq, Prod.mk.injEq] at h
      obtain ⟨rfl, rfl, rfl⟩ := h
      simp only [AStep]
      refine ⟨d, rfl, hd.1, ?_⟩
      rw [e2, e3, e4]
      exact ⟨rv, fun hg => ⟨(hc hg).1, (hc hg).2.1, hR.p _ _ _ _ e6 (hc hg).2.2⟩, hK⟩
  case takeLoad x => simp [eff] at h
  all_goals
    simp only [eff] at h
    obtain ⟨d, q1, q2, ⟨g, c', lv, q3, q4, q5, q6⟩ | ⟨q3, q4, q6⟩⟩ := quiet_step (K := K) h hc hK
    · simp only [AStep]
      refine ⟨d, q1, q2, ?_⟩
      simp only [] at q3 q4
      rw [q3, q4]
      exact ⟨q5, q6⟩
    · simp only [AStep]
      refine ⟨d, q1, q2, ?_⟩
      simp only [] at q3 q4
      rw [q3, q4]
      exact q6
end Go.Av
