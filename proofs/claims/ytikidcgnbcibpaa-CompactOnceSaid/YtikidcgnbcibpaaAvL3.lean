import Derived.Test.YtikidcgnbcibpaaAvL2
import Derived.Orders
import Derived.RegionTactic

set_option linter.unusedVariables false
set_option linter.unusedSimpArgs false

set_option linter.unusedSimpArgs false
namespace Go.Av

def AO.rs : AO → List Nat | .t s => [s] | .c _ => []
def AK.rs : AK → List Nat
  | .mv o => o.rs
  | .take s => [s]
  | .mark s => [s]
  | .pick c a b => c.rs ++ a.rs ++ b.rs
  | .bin _ x y => x.rs ++ y.rs
  | .una _ x => x.rs
  | .eqn _ _ x => x.rs
  | .beq _ x y => x.rs ++ y.rs
  | .eqs _ _ x y => x.rs ++ y.rs
  | .conv _ x => x.rs
  | .b2s x => x.rs
  | .s2b x => x.rs
  | .len _ x => x.rs
  | .minmax _ x y => x.rs ++ y.rs
  | .minmax3 _ x y z => x.rs ++ (y.rs ++ z.rs)
  | .loadP x => x.rs
  | .slc _ _ x lo hi => x.rs ++ (lo.map AO.rs).getD [] ++ (hi.map AO.rs).getD []
  | .slc3 _ x lo hi => x.rs ++ (lo.map AO.rs).getD [] ++ hi.rs
  | .faddr x _ => x.rs
  | .fld x _ _ => x.rs
  | .iaddr _ x i => x.rs ++ i.rs
  | .iaddrA _ _ x i => x.rs ++ i.rs
  | .idx x i => x.rs ++ i.rs
  | .idxA _ _ _ x i => x.rs ++ i.rs
  | .ext s _ => [s]
  | .extS s _ => [s]
  | .mkfn _ a b => (a.map AO.rs).flatten ++ (b.map AO.rs).flatten
  | .nilc x => x.rs
  | .load _ x => x.rs
  | .takeLoad x => x.rs
  | .build _ ps => (ps.map fun p => p.2.2.rs).flatten
  | .bsl _ _ _ ps => (ps.map fun p => p.2.rs).flatten
  | .app _ _ s y => s :: y.rs
  | .appS s y => s :: y.rs
  | .mks _ _ _ l => l.rs
  | .box _ x => x.rs
  | .alloc _ => []
  | .store _ x v => x.rs ++ v.rs
  | .storeO x s => x.rs ++ [s]
  | .call _ l => (l.map AO.rs).flatten
  | .callE _ x l => x.rs ++ (l.map AO.rs).flatten
  | .callN _ l => (l.map AO.rs).flatten
  | .callV x l => x.rs ++ (l.map AO.rs).flatten
  | .rng x => x.rs
  | .nxt s => [s]

def AOp.rs (o : AOp) : List Nat := (match o.guard with | some (s, _) => [s] | none => []) ++ o.k.rs
def AOp.ws (o : AOp) : List Nat := (match o.dst with | some d => [d] | none => []) ++ (match o.k with | .take s => [s] | .mark s => [s] | .ext s _ => [s] | .app _ _ s _ => [s] | .appS s _ => [s] | .nxt s => [s] | .storeO _ s => [s] | _ => [])
/-- 0: no boxes; 1: reads boxes; 2: makes a box; 3: writes to boxes. -/
def AOp.bk (o : AOp) : Nat := match o.k with | .load _ _ => 1 | .takeLoad _ => 3 | .box _ _ => 2 | .alloc _ => 2 | .mks _ _ _ _ => 2 | .store _ _ _ => 3 | .storeO _ _ => 3 | .callE _ _ _ => 3 | .callN _ _ => 2 | _ => 0
def disj (a b : List Nat) : Bool := a.all fun x => !b.contains x
/-- The slot whose box an operation reads or writes. -/
def AOp.ptr (o : AOp) : Option Nat := match o.k with
  | .load _ (.t p) => some p
  | .store _ (.t p) _ => some p
  | .callE _ (.t p) _ => some p
  | .takeLoad (.t p) => some p
  | .storeO (.t p) _ => some p
  | _ => none
/-- Slots and the roots that they point from. -/
abbrev RL := List (Nat × Nat)
def rlk : RL → Nat → Option Nat
  | [], _ => none
  | (t, r) :: l, s => if t = s then some r else rlk l s
def bkOK (rl : RL) (x y : AOp) : Bool := match x.ptr, y.ptr with
  | some p, some q => (x.bk == 1 && y.bk == 1) || (match rlk rl p, rlk rl q with
    | some r, some r' => r != r'
    | _, _ => false)
  | _, _ => true
def indep (rl : RL) (x y : AOp) : Bool := disj x.rs y.ws && disj x.ws y.rs && disj x.ws y.ws && bkOK rl x y
/-- Does what it writes keep the roots? -/
def keepsPtr0 (rl : RL) (o : AOp) : Bool := match o.dst with
  | none => true
  | some d => match rlk rl d with
    | none => true
    | some r => match o.k with
      | .faddr (.t q) _ => rlk rl q == some r
      | .mv (.t q) => rlk rl q == some r
      | .take q => rlk rl q == some r
      | .nilc (.t q) => rlk rl q == some r
      | _ => false
/-- A new variable may be a root. -/
def newRoot (rl : RL) (o : AOp) : Bool := match o.k, o.dst with
  | .alloc _, some d => rl.all fun p => p.1 != d || p.2 == d && rl.all fun q => q.2 != d || q.1 == d
  | _, _ => false
def keepsPtr (rl : RL) (o : AOp) : Bool := keepsPtr0 rl o || newRoot rl o
def ptrTo (st : St) (t : Nat) : Option Nat := match (lk st.sl t).gv.2 with
  | .lptr s _ => some s
  | _ => none
/-- Slots with one root point to one box, slots with two to two. -/
def rootsOK (rl : RL) (st : St) : Prop := ∀ p ∈ rl, ∀ q ∈ rl, match ptrTo st p.1, ptrTo st q.1 with
  | some s, some s' => (s = s' ↔ p.2 = q.2)
  | _, _ => True

/-! ### operations as effects -/
structure Orc where
  p : FuncId → List SV → Option (Prop × LV)
  e : FuncId → List SV → List SV → Option (Prop × LV × List SV) := fun _ _ _ => none
  n : FuncId → List SV → Option (Prop × List SV) := fun _ _ => none
  arr : Nat → Bool := fun _ => false
  fv : FuncId → Bool := fun _ => false
  nofz : Bool := false
  d : FuncId → Nat → List SV → List SV → Option (Prop × LV) := fun _ _ _ _ => none
  b : FuncId → List BA → (Nat → Option (List RV)) → Option (Prop × List (Nat × List RV) × LV × List (Nat × List RV)) := fun _ _ _ => none
structure Orc.ok (P : Program) (R : Orc) : Prop where
  p : ∀ f l c rv, R.p f l = some (c, rv) → c → Pure P f l rv
  e : ∀ f cells l c rv cells', R.e f cells l = some (c, rv, cells') → c → Eff1 P f cells l rv cells'
  n : ∀ f l c cells, R.n f l = some (c, cells) → c → PureN P f l cells
  fv : ∀ f, R.fv f = true → okFn P f := by simp
  d : ∀ f sz xs l c rv, R.d f sz xs l = some (c, rv) → c → PureD P f sz xs l rv
  b : ∀ f l look c bxs rv bxs', R.b f l look = some (c, bxs, rv, bxs') → c → EffB P f bxs l rv bxs' := by simp
abbrev Eff := Prop × List (Nat × LV) × List (Nat × List RV)

def St.app (st : St) (W : List (Nat × LV)) (B : List (Nat × List RV)) : St := { st with sl := W ++ st.sl, bx := B ++ st.bx }

def dgW (st : St) : AK → List (Nat × LV)
  | .take s => [(s, (lk st.sl s).dg)]
  | .mark s => [(s, (lk st.sl s).dg)]
  | .ext s i => [(s, (lk st.sl s).dgi i)]
  | .app _ _ s _ => [(s, (lk st.sl s).dg)]
  | .appS s _ => [(s, (lk st.sl s).dg)]
  | _ => []

def LV.flat : LV → Bool
  | .sv _ | .own _ _ | .tup _ | .arr _ _ => true
  | _ => false

def effQ (st : St) (o : AOp) : Option Eff :=
  match o.dst, gOf st o.guard, ev st o.k with
  | some d, some g, some (c, lv) => if d < st.n then some (g = true → c, (d, gdv o.guard g lv) :: dgW st o.k, []) else none
  | some d, some false, none => if d < st.n then some (True, [(d, .gd false (.sv .undef))], []) else none
  | _, _, _ => none
def effBox (st : St) (o : AOp) (n : Nat) (x : AO) : Option Eff :=
  match o.guard, o.dst, rd st x with
  | none, some d, some (g, v) => if d < st.n ∧ d ≠ 0 then some (g = true ∧ v.nc = n ∧ v.known = true, [(d, .lptr d 0)], [(d, v.cells.map .sv)]) else none
  | _, _, _ => none
def effAlloc (st : St) (o : AOp) (zero : List SV) : Option Eff :=
  match o.guard, o.dst with
  | none, some d => if d < st.n ∧ d ≠ 0 then some (True, [(d, .lptr d 0)], [(d, zero.map .sv)]) else none
  | _, _ => none
def effMks (st : St) (o : AOp) (sz bytes : Nat) (zero : List SV) (l : AO) : Option Eff :=
  match o.guard, o.dst, rd st l, zero with
  | none, some d, some (g, .int _ n), [z] => if d < st.n ∧ d ≠ 0 ∧ sz = 1 then some (g = true ∧ 0 ≤ n ∧ n * bytes ≤ 281474976710656 ∧ n ≤ 9223372036854775807, [(d, .lsl d 1 0 n.toNat n.toNat)], [(d, List.replicate n.toNat (.sv z))]) else none
  | _, _, _, _ => none
def effStore (st : St) (o : AOp) (n : Nat) (x v : AO) : Option Eff :=
  match o.guard, o.dst, rdl st x, rd st v with
  | none, none, (g1, .lptr s off), some (g2, u) => match lkb st.bx s with
    | some cells => some (g1 = true ∧ g2 = true ∧ u.nc = n ∧ u.cells.all SV.isCell = true ∧ off + u.cells.length ≤ cells.length, [], [(s, setR cells off u.cells)])
    | none => none
  | _, _, _, _ => none
def effCall (R : Orc) (st : St) (o : AOp) (f : FuncId) (args : List AO) : Option Eff :=
  match o.dst, gOf st o.guard, evList st args with
  | some d, some g, some (c, l) => match R.p f l, g with
    | some (c', rv), g => if d < st.n ∧ rv.flat = true then some (g = true → c ∧ c', [(d, gdv o.guard g rv)], []) else none
    | none, false => if d < st.n then some (True, [(d, gdv o.guard false (.sv .undef))], []) else none
    | none, true => none
  | _, _, _ => none

def effCallE (R : Orc) (st : St) (o : AOp) (f : FuncId) (x : AO) (args : List AO) : Option Eff :=
  match o.dst, gOf st o.guard, rdl st x, evList st args with
  | some d, some g, (gx, .lptr s 0), some (c, l) => match lkb st.bx s with
    | some cells => match R.e f (cells.map RV.share) l with
      | some (c', rv, cells') => if d < st.n ∧ rv.flat = true then some (g = true → gx = true ∧ c ∧ c', [(d, gdv o.guard g rv)], [(s, cond g (cells'.map .sv) cells)]) else none
      | none => none
    | none => none
  | some d, some g, (gx, .sv v), some (c, l) => match R.p f (v :: l) with
    | some (c', rv) => if d < st.n ∧ rv.flat = true then some (g = true → gx = true ∧ c ∧ c', [(d, gdv o.guard g rv)], []) else none
    | none => none
  | _, _, _, _ => none

def effCallN (R : Orc) (st : St) (o : AOp) (f : FuncId) (args : List AO) : Option Eff :=
  match o.guard, o.dst, evList st args with
  | none, some d, some (c, l) => match R.n f l with
    | some (c', cells) => if d < st.n ∧ d ≠ 0 then some (c ∧ c', [(d, .lptr d 0)], [(d, cells.map .sv)]) else none
    | none => none
  | _, _, _ => none

def effCallV (R : Orc) (st : St) (o : AOp) (x : AO) (args : List AO) : Option Eff :=
  match o.dst, gOf st o.guard, rd st x, evList st args with
  | some d, some g, some (gx, .fn f fs cs), some (c, l) => match R.p f (fs ++ l ++ cs) with
    | some (c', rv) => if d < st.n ∧ rv.flat = true ∧ R.fv f = true then some (g = true → gx = true ∧ c ∧ c', [(d, gdv o.guard g rv)], []) else none
    | none => none
  | _, _, _, _ => none

def effTL (st : St) (o : AOp) (x : AO) : Option Eff :=
  match o.guard, o.dst, rdl st x with
  | none, some d, (g, .lptr s off) => match lkb st.bx s with
    | some cells => if d < st.n then some (g = true ∧ off < cells.length, [(d, (cells.getD off (.sv .undef)).lv)], [(s, cells.set off (.sv (cells.getD off (.sv .undef)).share))]) else none
    | none => none
  | _, _, _ => effQ st { o with k := .load none x }
def effSO (st : St) (o : AOp) (x : AO) (s : Nat) : Option Eff :=
  match o.guard, o.dst, rdl st x, (lk st.sl s).gv with
  | none, none, (g, .lptr t off), (g2, .own sz xs) => match lkb st.bx t with
    | some cells => some (g = true ∧ g2 = true ∧ off < cells.length, [(s, (lk st.sl s).dg)], [(t, cells.set off (.own sz xs))])
    | none => none
  | _, _, _, _ => effStore st o 1 x (.t s)
def eff (R : Orc) (st : St) (o : AOp) : Option Eff :=
  match o.k with
  | .box n x => effBox st o n x
  | .alloc zero => effAlloc st o zero
  | .mks sz bytes zero l => if R.arr (o.dst.getD 0) then effMks st o sz bytes zero l else effQ st o
  | .store n x v => effStore st o n x v
  | .call f args => effCall R st o f args
  | .callE f x args => effCallE R st o f x args
  | .callN f args => effCallN R st o f args
  | .callV x args => effCallV R st o x args
  | .takeLoad x => effTL st o x
  | .rng _ => none
  | .nxt _ => none
  | .storeO x s => effSO st o x s
  | _ => effQ st o

/-- The slot that a new variable takes is no longer pointed to. -/
def fresh (o : AOp) (st : St) : Prop := match o.k, o.dst with
  | .box _ _, some d => noL d st.sl
  | .alloc _, some d => noL d st.sl
  | .mks _ _ _ _, some d => noL d st.sl
  | .callN _ _, some d => noL d st.sl
  | _, _ => True

def runR (R : Orc) : List AOp → St → Prop → Option (Prop × St)
  | [], st, c => some (c, st)
  | o :: r, st, c => match eff R st o with
    | some (c', W, B) => runR R r (st.app W B) (c ∧ c' ∧ fresh o st)
    | none => none

theorem dgr_app (st : St) (k : AK) (d : Nat) (lv : LV) : (dgr st k).putS d lv = st.app ((d, lv) :: dgW st k) [] := by
  cases k <;> rfl

theorem quiet_step {st : St} {o : AOp} {c : Prop} {W : List (Nat × LV)} {B : List (Nat × List RV)} {K : St → Prop} (h : effQ st o = some (c, W, B)) (hc : c) (hK : K (st.app W B)) :
    ∃ d, o.dst = some d ∧ d < st.n ∧ ((∃ g c' lv, gOf st o.guard = some g ∧ ev st o.k = some (c', lv) ∧ (g = true → c') ∧ K ((dgr st o.k).putS d (gdv o.guard g lv))) ∨ (gOf st o.guard = some false ∧ ev st o.k = none ∧ K (st.putS d (.gd false (.sv .undef))))) := by
  unfold effQ at h
  split at h
  case h_3 => cases h
  case h_2 e1 e2 e3 =>
    split at h
    case isFalse => cases h
    rename_i hd
    simp only [Option.some.injEq, Prod.mk.injEq] at h
    obtain ⟨rfl, rfl, rfl⟩ := h
    exact ⟨_, e1, hd, .inr ⟨e2, e3, hK⟩⟩
  rename_i d g c' lv e1 e2 e3
  split at h
  case isFalse => cases h
  rename_i hd
  simp only [Option.some.injEq, Prod.mk.injEq] at h
  obtain ⟨rfl, rfl, rfl⟩ := h
  exact ⟨d, e1, hd, .inl ⟨g, c', lv, e2, e3, hc, by rw [dgr_app]; exact hK⟩⟩

theorem eff_step {P : Program} {R : Orc} (hR : R.ok P) {st : St} {o : AOp} {c : Prop} {W : List (Nat × LV)} {B : List (Nat × List RV)} {K : St → Prop} (h : eff R st o = some (c, W, B)) (hc : c) (hf : fresh o st) (hK : K (st.app W B)) : AStep P st o K := by
  obtain ⟨dst, gu, k⟩ := o
  cases k
  case box n x =>
    simp only [eff, effBox] at h
    split at h
    case h_2 => cases h
    rename_i d g v e3
    split at h
    case isFalse => cases h
    rename_i hd
    simp only [Option.some.injEq, Prod.mk.injEq] at h
    obtain ⟨rfl, rfl, rfl⟩ := h
    simp only [AStep]
    refine ⟨trivial, d, rfl, hd, hf, ?_⟩
    rw [e3]
    exact ⟨hc.1, hc.2.1, hc.2.2, hK⟩
  case alloc zero =>
    simp only [eff, effAlloc] at h
    split at h
    case h_2 => cases h
    rename_i d
    split at h
    case isFalse => cases h
    rename_i hd
    simp only [Option.some.injEq, Prod.mk.injEq] at h
    obtain ⟨rfl, rfl, rfl⟩ := h
    simp only [AStep]
    exact .inr ⟨trivial, d, rfl, hd, hf, hK⟩
  case mks sz bytes zero l =>
    simp only [eff] at h
    split at h
    · simp only [effMks] at h
      split at h
      case h_2 => cases h
      rename_i d g k n z e3 _
      split at h
      case isFalse => cases h
      rename_i hd
      simp only [Option.some.injEq, Prod.mk.injEq] at h
      obtain ⟨rfl, rfl, rfl⟩ := h
      simp only [AStep]
      refine .inl ⟨trivial, hd.2.2, d, rfl, ⟨hd.1, hd.2.1⟩, hf, ?_⟩
      rw [e3]
      exact ⟨hc, hK⟩
    · obtain ⟨d, q1, q2, ⟨g, c', lv, q3, q4, q5, q6⟩ | ⟨q3, q4, q6⟩⟩ := quiet_step (K := K) h hc hK
      · simp only [AStep]
        refine .inr ⟨d, q1, q2, ?_⟩
        simp only [] at q3 q4
        rw [q3, q4]
        exact ⟨q5, q6⟩
      · simp only [AStep]
        refine .inr ⟨d, q1, q2, ?_⟩
        simp only [] at q3 q4
        rw [q3, q4]
        exact q6
  case store n x v =>
    simp only [eff, effStore] at h
    split at h
    case h_2 => cases h
    rename_i g1 s off g2 u e3 e4
    split at h
    case h_2 => cases h
    rename_i cells e5
    simp only [Option.some.injEq, Prod.mk.injEq] at h
    obtain ⟨rfl, rfl, rfl⟩ := h
    simp only [AStep]
    refine .inr ⟨trivial, trivial, ?_⟩
    rw [e3, e4]
    refine ⟨hc.1, hc.2.1, hc.2.2.1, hc.2.2.2.1, ?_⟩
    simp only [storeV, e5]
    exact ⟨hc.2.2.2.2, hK⟩
  case call f args =>
    simp only [eff, effCall] at h
    split at h
    case h_2 => cases h
    rename_i d g c' l e2 e3
    split at h
    case h_3 => cases h
    case h_2 =>
      split at h
      case isFalse => cases h
      rename_i hd
      simp only [Option.some.injEq, Prod.mk.injEq] at h
      obtain ⟨rfl, rfl, rfl⟩ := h
      simp only [AStep]
      refine .inl ⟨d, rfl, hd, ?_⟩
      rw [e2, e3]
      exact ⟨.sv .undef, fun hg => (by cases hg), hK⟩
    rename_i c2 rv e4
    split at h
    case isFalse => cases h
    rename_i hd
    simp only [Option.some.injEq, Prod.mk.injEq] at h
    obtain ⟨rfl, rfl, rfl⟩ := h
    simp only [AStep]
    refine .inl ⟨d, rfl, hd.1, ?_⟩
    rw [e2, e3]
    exact ⟨rv, fun hg => ⟨(hc hg).1, hR.p _ _ _ _ e4 (hc hg).2⟩, hK⟩
  case callN f args =>
    simp only [eff, effCallN] at h
    split at h
    case h_2 => cases h
    rename_i d c' l e3
    split at h
    case h_2 => cases h
    rename_i c2 cells e4
    split at h
    case isFalse => cases h
    rename_i hd
    simp only [Option.some.injEq, Prod.mk.injEq] at h
    obtain ⟨rfl, rfl, rfl⟩ := h
    simp only [AStep]
    refine ⟨trivial, d, rfl, hd, hf, ?_⟩
    rw [e3]
    exact ⟨hc.1, cells, hR.n _ _ _ _ e4 hc.2, hK⟩
  case callE f x args =>
    simp only [eff, effCallE] at h
    split at h
    case h_3 => cases h
    · rename_i d g gx s c' l e2 e3 e4
      split at h
      case h_2 => cases h
      rename_i cells e5
      split at h
      case h_2 => cases h
      rename_i c2 rv cells' e6
      split at h
      case isFalse => cases h
      rename_i hd
      simp only [Option.some.injEq, Prod.mk.injEq] at h
      obtain ⟨rfl, rfl, rfl⟩ := h
      simp only [AStep]
      refine .inr ⟨d, rfl, hd.1, ?_⟩
      rw [e2, e3, e4]
      simp only [e5]
      exact ⟨rv, cells', fun hg => ⟨(hc hg).1, (hc hg).2.1, hR.e _ _ _ _ _ _ e6 (hc hg).2.2⟩, hK⟩
    · rename_i d g gx v c' l e2 e3 e4
      split at h
      case h_2 => cases h
      rename_i c2 rv e6
      split at h
      case isFalse => cases h
      rename_i hd
      simp only [Option.some.injEq, Prod.mk.injEq] at h
      obtain ⟨rfl, rfl, rfl⟩ := h
      simp only [AStep]
      refine .inr ⟨d, rfl, hd.1, ?_⟩
      rw [e2, e3, e4]
      exact ⟨rv, fun hg => ⟨(hc hg).1, (hc hg).2.1, hR.p _ _ _ _ e6 (hc hg).2.2⟩, hK⟩
  case callV x args =>
    simp only [eff, effCallV] at h
    split at h
    case h_2 => cases h
    rename_i d g gx f fs cs c' l e2 e3 e5
    split at h
    case h_2 => cases h
    rename_i c2 rv e4
    split at h
    case isFalse => cases h
    rename_i hd
    simp only [Option.some.injEq, Prod.mk.injEq] at h
    obtain ⟨rfl, rfl, rfl⟩ := h
    simp only [AStep]
    refine .inr ⟨d, rfl, hd.1, ?_⟩
    rw [e2, e3, e5]
    exact ⟨rv, fun hg => ⟨(hc hg).1, (hc hg).2.1, hR.fv _ hd.2.2, hR.p _ _ _ _ e4 (hc hg).2.2⟩, hK⟩
  case rng x => simp [eff] at h
  case nxt x => simp [eff] at h
  case takeLoad x =>
    simp only [eff] at h
    unfold effTL at h
    split at h
    · rename_i e1 e2 e3
      split at h
      case h_2 => cases h
      rename_i cells hcl
      split at h
      case isFalse => cases h
      rename_i hd
      simp only [Option.some.injEq, Prod.mk.injEq] at h
      obtain ⟨rfl, rfl, rfl⟩ := h
      simp only at e1 e2
      subst e1; subst e2
      simp only [AStep]
      refine .inl ⟨trivial, _, rfl, hd, ?_⟩
      rw [e3]
      simp only [hcl]
      exact ⟨hc.1, hc.2, hK⟩
    · obtain ⟨d, q1, q2, ⟨g, c', lv, q3, q4, q5, q6⟩ | ⟨q3, q4, q6⟩⟩ := quiet_step (K := K) h hc hK
      · simp only [AStep]
        refine .inr ⟨d, q1, q2, ?_⟩
        simp only [] at q3 q4
        rw [q3, q4]
        exact ⟨q5, q6⟩
      · simp only [AStep]
        refine .inr ⟨d, q1, q2, ?_⟩
        simp only [] at q3 q4
        rw [q3, q4]
        exact q6
  case storeO x s =>
    simp only [eff] at h
    unfold effSO at h
    split at h
    · rename_i e1 e2 e3 e4
      split at h
      case h_2 => cases h
      rename_i cells hcl
      simp only [Option.some.injEq, Prod.mk.injEq] at h
      obtain ⟨rfl, rfl, rfl⟩ := h
      simp only at e1 e2
      subst e1; subst e2
      simp only [AStep]
      refine .inl ⟨trivial, trivial, ?_⟩
      rw [e3, e4]
      simp only [hcl]
      exact ⟨hc.1, hc.2.1, hc.2.2, hK⟩
    · unfold effStore at h
      split at h
      case h_2 => cases h
      rename_i g1 s1 off g2 u e1 e2 e3 e4
      split at h
      case h_2 => cases h
      rename_i cells hcl
      simp only [Option.some.injEq, Prod.mk.injEq] at h
      obtain ⟨rfl, rfl, rfl⟩ := h
      simp only at e1 e2
      subst e1; subst e2
      simp only [AStep]
      refine .inr ⟨trivial, trivial, ?_⟩
      rw [e3, e4]
      simp only [storeV, hcl]
      exact ⟨hc.1, hc.2.1, hc.2.2.1, hc.2.2.2.1, hc.2.2.2.2, hK⟩
  case mkfn f first caps =>
    simp only [eff] at h
    obtain ⟨d, q1, q2, ⟨g, c', lv, q3, q4, q5, q6⟩ | ⟨q3, q4, q6⟩⟩ := quiet_step (K := K) h hc hK
    · simp only [AStep]
      refine .inr ⟨d, q1, q2, ?_⟩
      simp only [] at q3 q4
      rw [q3, q4]
      exact ⟨q5, q6⟩
    · simp only [AStep]
      refine .inr ⟨d, q1, q2, ?_⟩
      simp only [] at q3 q4
      rw [q3, q4]
      exact q6
  case load n x =>
    simp only [eff] at h
    obtain ⟨d, q1, q2, ⟨g, c', lv, q3, q4, q5, q6⟩ | ⟨q3, q4, q6⟩⟩ := quiet_step (K := K) h hc hK
    · simp only [AStep]
      refine .inr ⟨d, q1, q2, ?_⟩
      simp only [] at q3 q4
      rw [q3, q4]
      exact ⟨q5, q6⟩
    · simp only [AStep]
      refine .inr ⟨d, q1, q2, ?_⟩
      simp only [] at q3 q4
      rw [q3, q4]
      exact q6
  all_goals
    simp only [eff] at h
    obtain ⟨d, q1, q2, ⟨g, c', lv, q3, q4, q5, q6⟩ | ⟨q3, q4, q6⟩⟩ := quiet_step (K := K) h hc hK
    · simp only [AStep]
      refine ⟨d, q1, q2, ?_⟩
      simp only [] at q3 q4
      rw [q3, q4]
      exact ⟨q5, q6⟩
    · simp only [AStep]
      refine ⟨d, q1, q2, ?_⟩
      simp only [] at q3 q4
      rw [q3, q4]
      exact q6
end Go.Av

set_option linter.unusedSimpArgs false
namespace Go.Av

/-- Two states that look alike to what reads these slots. -/
structure Alike (rs : List Nat) (st st2 : St) : Prop where
  n : st2.n = st.n
  hp : st2.hp = st.hp
  sl : ∀ t ∈ rs, lk st2.sl t = lk st.sl t

theorem Alike.mono {rs rs' : List Nat} {st st2 : St} (h : Alike rs st st2) (hs : ∀ t ∈ rs', t ∈ rs) : Alike rs' st st2 := ⟨h.n, h.hp, fun t ht => h.sl t (hs t ht)⟩

section
variable {st st2 : St}
theorem rdl_al {x : AO} (h : Alike x.rs st st2) : rdl st2 x = rdl st x := by
  cases x with
  | t s => simp [rdl, h.sl s (by simp [AO.rs])]
  | c v => rfl
theorem rd_al {x : AO} (h : Alike x.rs st st2) : rd st2 x = rd st x := by simp [rd, rdl_al h]
theorem ev1_al {x : AO} {f : SV → Ev} (h : Alike x.rs st st2) : ev1 st2 x f = ev1 st x f := by simp [ev1, rd_al h]
theorem ev2_al {x y : AO} {f : SV → SV → Ev} (h : Alike (x.rs ++ y.rs) st st2) : ev2 st2 x y f = ev2 st x y f := by
  have h1 := h.mono (rs' := x.rs) (by intro t ht; simp [ht])
  have h2 := h.mono (rs' := y.rs) (by intro t ht; simp [ht])
  simp [ev2, ev1, rd_al h1, rd_al h2]
theorem optI_al {d : Int} {o : Option AO} (h : Alike ((o.map AO.rs).getD []) st st2) : optI st2 d o = optI st d o := by
  cases o with
  | none => rfl
  | some x => simp only [optI]; rw [rd_al (by simpa using h)]
theorem evParts_al : ∀ {ps : List (Nat × Nat × AO)}, Alike ((ps.map fun p => p.2.2.rs).flatten) st st2 → evParts st2 ps = evParts st ps
  | [], _ => rfl
  | (a, b, o) :: r, h => by
    simp only [evParts]
    rw [rd_al (h.mono (by intro t ht; simp [ht])), evParts_al (ps := r) (h.mono (by intro t ht; simp at ht ⊢; exact .inr ht))]
theorem evElems_al {sz : Nat} : ∀ {ps : List (Nat × AO)}, Alike ((ps.map fun p => p.2.rs).flatten) st st2 → evElems st2 sz ps = evElems st sz ps
  | [], _ => rfl
  | (a, o) :: r, h => by
    simp only [evElems]
    rw [rd_al (h.mono (by intro t ht; simp [ht])), evElems_al (ps := r) (h.mono (by intro t ht; simp at ht ⊢; exact .inr ht))]
theorem evList_al : ∀ {ps : List AO}, Alike ((ps.map AO.rs).flatten) st st2 → evList st2 ps = evList st ps
  | [], _ => rfl
  | o :: r, h => by
    simp only [evList]
    rw [rd_al (h.mono (by intro t ht; simp [ht])), evList_al (ps := r) (h.mono (by intro t ht; simp at ht ⊢; exact .inr ht))]
theorem gOf_al {gu : Option (Nat × Bool)} (h : Alike (match gu with | some (s, _) => [s] | none => []) st st2) : gOf st2 gu = gOf st gu := by
  cases gu with
  | none => rfl
  | some p => obtain ⟨s, b⟩ := p; simp only [gOf]; rw [h.sl s (by simp)]

theorem loadV_al {n : Option Nat} {p : LV} (hp : st2.hp = st.hp) (h : ∀ s off, p = .lptr s off → lkb st2.bx s = lkb st.bx s) : loadV st2 n p = loadV st n p := by
  unfold loadV
  split
  · rw [h _ _ rfl]
  · rw [hp]
  · rfl
  · rfl

theorem ev_al {k : AK} (h : Alike k.rs st st2) (hb : ∀ n t, k = .load n (.t t) → ∀ s off, (lk st.sl t).gv.2 = .lptr s off → lkb st2.bx s = lkb st.bx s) : ev st2 k = ev st k := by
  cases k
  case mv o => simp only [ev]; rw [rdl_al h]
  case take s => simp only [ev]; rw [h.sl s (by simp [AK.rs])]
  case mark s => simp only [ev]; rw [h.sl s (by simp [AK.rs])]
  case pick c a b =>
    simp only [ev]
    rw [rd_al (h.mono (by intro t ht; simp [AK.rs, ht])), rd_al (x := a) (h.mono (by intro t ht; simp [AK.rs, ht])), rd_al (x := b) (h.mono (by intro t ht; simp [AK.rs, ht]))]
  case bin op x y => exact ev2_al h
  case una op x => exact ev1_al h
  case eqn sl neg x => simp only [ev]; rw [rdl_al h]
  case beq neg x y => exact ev2_al h
  case eqs ks neg x y => exact ev2_al h
  case conv k x => exact ev1_al h
  case b2s x => exact ev1_al h
  case s2b x => exact ev1_al h
  case len b x => simp only [ev]; rw [rdl_al h, show ev1 st2 x (lenV b) = ev1 st x (lenV b) from ev1_al h]
  case minmax b x y => exact ev2_al h
  case minmax3 b x y z =>
    simp only [ev, ev3]
    have : ∀ f, ev2 st2 y z f = ev2 st y z f := fun f => ev2_al (h.mono (by intro t ht; simp only [AK.rs, List.mem_append]; exact .inr (by simpa using ht)))
    simp only [this]
    exact ev1_al (h.mono (by intro t ht; simp [AK.rs, ht]))
  case loadP x => simp only [ev]; rw [rdl_al h]
  case slc b z x lo hi =>
    simp only [ev, ev1]
    rw [rd_al (h.mono (by intro t ht; simp [AK.rs, ht])), show optI st2 0 lo = optI st 0 lo from optI_al (h.mono (by intro t ht; simp [AK.rs, ht]))]
    have : ∀ d, optI st2 d hi = optI st d hi := fun d => optI_al (h.mono (by intro t ht; simp [AK.rs, ht]))
    simp only [this]
  case slc3 z x lo hi =>
    simp only [ev, ev1]
    rw [rd_al (h.mono (by intro t ht; simp [AK.rs, ht])), show optI st2 0 lo = optI st 0 lo from optI_al (h.mono (by intro t ht; simp [AK.rs, ht])), show optI st2 0 (some hi) = optI st 0 (some hi) from optI_al (h.mono (by intro t ht; simp at ht; simp [AK.rs, ht]))]
  case faddr x off => simp only [ev]; rw [rdl_al h]
  case fld x off n => exact ev1_al h
  case iaddr z x i =>
    simp only [ev]
    rw [rdl_al (h.mono (by intro t ht; simp [AK.rs, ht])), show ev2 st2 x i (iaddrV z) = ev2 st x i (iaddrV z) from ev2_al h]
    have : ∀ f, ev1 st2 i f = ev1 st i f := fun f => ev1_al (h.mono (by intro t ht; simp [AK.rs, ht]))
    simp only [this]
  case iaddrA n z x i =>
    simp only [ev, ev1]
    rw [rdl_al (h.mono (by intro t ht; simp [AK.rs, ht])), rd_al (x := i) (h.mono (by intro t ht; simp [AK.rs, ht]))]
  case idx x i => exact ev2_al h
  case idxA a b c x i => exact ev2_al h
  case ext s i => simp only [ev]; rw [h.sl s (by simp [AK.rs])]
  case extS s i => simp only [ev]; rw [h.sl s (by simp [AK.rs])]
  case mkfn f a b => simp only [ev]; rw [evList_al (h.mono (by intro t ht; simp only [AK.rs, List.mem_append]; exact .inl ht)), evList_al (h.mono (by intro t ht; simp only [AK.rs, List.mem_append]; exact .inr ht))]
  case nilc x => simp only [ev]; rw [rdl_al h]
  case load n x =>
    simp only [ev]
    rw [rdl_al h]
    rw [show loadV st2 n (rdl st x).2 = loadV st n (rdl st x).2 from loadV_al h.hp (fun s off e => by
      cases x with
      | t t => exact hb _ _ rfl s off e
      | c v => simp [rdl] at e)]
  case rng x => rfl
  case nxt x => rfl
  case takeLoad x => rfl
  case storeO x s => rfl
  case build z ps => simp only [ev]; rw [evParts_al h]
  case bsl z n ze ps => simp only [ev]; rw [evElems_al h]
  case app a b s y => simp only [ev]; rw [h.sl s (by simp [AK.rs]), rd_al (h.mono (by intro t ht; simp [AK.rs, ht]))]
  case appS s y => simp only [ev]; rw [h.sl s (by simp [AK.rs]), rd_al (h.mono (by intro t ht; simp [AK.rs, ht]))]
  case mks a b z l => exact ev1_al h
  case box n x => rfl
  case alloc z => rfl
  case store n x v => rfl
  case call f l => rfl
  case callE f x l => rfl
  case callN f l => rfl
  case callV x l => rfl

theorem dgW_al {k : AK} (h : Alike k.rs st st2) : dgW st2 k = dgW st k := by
  cases k <;> first | rfl | (simp only [dgW]; rw [h.sl _ (by simp [AK.rs])])

theorem eff_al {R : Orc} {o : AOp} (h : Alike o.rs st st2) (hb : ∀ t, o.ptr = some t → ∀ s off, (lk st.sl t).gv.2 = .lptr s off → lkb st2.bx s = lkb st.bx s) : eff R st2 o = eff R st o := by
  have hk : Alike o.k.rs st st2 := h.mono (by intro t ht; simp [AOp.rs, ht])
  have hg : gOf st2 o.guard = gOf st o.guard := gOf_al (h.mono (by intro t ht; simp only [AOp.rs, List.mem_append]; exact .inl ht))
  have quiet : (o.k.quiet = true) → effQ st2 o = effQ st o := by
    intro _
    unfold effQ
    rw [hg, ev_al hk (fun n t e => hb t (by simp [AOp.ptr, e])), dgW_al hk, h.n]
  obtain ⟨dst, gu, k⟩ := o
  cases k
  case box n x => simp only [eff, effBox]; rw [rd_al hk, h.n]
  case alloc z => simp only [eff, effAlloc]; rw [h.n]
  case mks sz bytes zero l =>
    simp only [eff]
    rw [show effQ st2 _ = effQ st _ from quiet rfl]
    simp only [effMks]
    rw [rd_al hk, h.n]
  case store n x v =>
    have h1 : rdl st2 x = rdl st x := rdl_al (hk.mono (by intro t ht; simp [AK.rs, ht]))
    have h2 : rd st2 v = rd st v := rd_al (hk.mono (by intro t ht; simp [AK.rs, ht]))
    simp only [eff, effStore]
    rw [h1, h2]
    split
    · rename_i g1 s off g2 u e1 e2
      have : lkb st2.bx s = lkb st.bx s := by
        cases x with
        | t t => exact hb t (by simp [AOp.ptr]) s off (by simp [rdl] at e1; rw [e1])
        | c v => simp [rdl] at e1
      rw [this]
    · rfl
  case call f l => simp only [eff, effCall]; simp only [] at hg; rw [hg, evList_al hk, h.n]
  case callN f l => simp only [eff, effCallN]; rw [evList_al hk, h.n]
  case callV x l =>
    have h1 : rd st2 x = rd st x := rd_al (hk.mono (by intro t ht; simp [AK.rs, ht]))
    have h2 : evList st2 l = evList st l := evList_al (hk.mono (by intro t ht; simp only [AK.rs, List.mem_append]; exact .inr ht))
    simp only [eff, effCallV]
    simp only [] at hg
    rw [hg, h1, h2, h.n]
  case callE f x l =>
    have h1 : rdl st2 x = rdl st x := rdl_al (hk.mono (by intro t ht; simp [AK.rs, ht]))
    have h2 : evList st2 l = evList st l := evList_al (hk.mono (by intro t ht; simp only [AK.rs, List.mem_append]; exact .inr ht))
    simp only [eff, effCallE]
    simp only [] at hg
    rw [hg, h1, h2, h.n]
    split
    · rename_i d g gx s c l' e0 e1 e2
      have : lkb st2.bx s = lkb st.bx s := by
        cases x with
        | t t => exact hb t (by simp [AOp.ptr]) s 0 (by simp [rdl] at e1; rw [e1])
        | c v => simp [rdl] at e1
      rw [this]
    · rfl
    · rfl
  case rng x => rfl
  case nxt x => rfl
  case takeLoad x =>
    have h1 : rdl st2 x = rdl st x := rdl_al hk
    have hq : effQ st2 { dst := dst, guard := gu, k := .load none x } = effQ st { dst := dst, guard := gu, k := .load none x } := by
      unfold effQ
      simp only [] at hg ⊢
      rw [hg, ev_al (k := .load none x) hk (fun n t e => by cases e; exact hb t rfl), h.n]
      rfl
    simp only [eff, effTL]
    rw [h1, h.n, hq]
    split
    · rename_i e3
      have : ∀ g s off, rdl st x = (g, .lptr s off) → lkb st2.bx s = lkb st.bx s := fun g s off e => by
        cases x with
        | t t => exact hb t rfl s off (by simp [rdl] at e; rw [e])
        | c v => simp [rdl] at e
      rw [this _ _ _ e3]
    · rfl
  case storeO x s =>
    have h1 : rdl st2 x = rdl st x := rdl_al (hk.mono (by intro t ht; simp [AK.rs, ht]))
    have h2 : lk st2.sl s = lk st.sl s := hk.sl s (by simp [AK.rs])
    have h3 : rd st2 (.t s) = rd st (.t s) := by simp only [rd, rdl, h2]
    have hbx : ∀ g s off, rdl st x = (g, .lptr s off) → lkb st2.bx s = lkb st.bx s := fun g s off e => by
      cases x with
      | t t => exact hb t rfl s off (by simp [rdl] at e; rw [e])
      | c v => simp [rdl] at e
    simp only [eff, effSO, effStore]
    rw [h1, h2, h3]
    split
    · rename_i e1 e2 e3 e4
      rw [hbx _ _ _ e3]
    · split
      · rename_i e3 e4 _
        first | rw [hbx _ _ _ e3] | rw [hbx _ _ _ e4]
      · rfl
  all_goals exact quiet rfl
end
end Go.Av

set_option linter.unusedSimpArgs false
namespace Go.Av

theorem lk_app : ∀ (W l : List (Nat × LV)) (t : Nat), (∀ p ∈ W, p.1 ≠ t) → lk (W ++ l) t = lk l t
  | [], _, _, _ => rfl
  | (s, v) :: W, l, t, h => by
    have h1 : s ≠ t := h (s, v) (by simp)
    simp only [List.cons_append, lk, if_neg h1]
    exact lk_app W l t (fun p hp => h p (by simp [hp]))
theorem lk_app_in : ∀ (W l : List (Nat × LV)) (t : Nat), (∃ p ∈ W, p.1 = t) → lk (W ++ l) t = lk W t
  | [], _, _, h => by obtain ⟨p, hp, _⟩ := h; simp at hp
  | (s, v) :: W, l, t, h => by
    simp only [List.cons_append, lk]
    split
    · rfl
    · rename_i hne
      obtain ⟨p, hp, e⟩ := h
      rcases List.mem_cons.1 hp with rfl | hp
      · exact absurd e hne
      · exact lk_app_in W l t ⟨p, hp, e⟩
theorem lkb_app : ∀ (W l : List (Nat × List RV)) (t : Nat), (∀ p ∈ W, p.1 ≠ t) → lkb (W ++ l) t = lkb l t
  | [], _, _, _ => rfl
  | (s, v) :: W, l, t, h => by
    have h1 : s ≠ t := h (s, v) (by simp)
    simp only [List.cons_append, lkb, if_neg h1]
    exact lkb_app W l t (fun p hp => h p (by simp [hp]))
theorem lkb_app_in : ∀ (W l : List (Nat × List RV)) (t : Nat), (∃ p ∈ W, p.1 = t) → lkb (W ++ l) t = lkb W t
  | [], _, _, h => by obtain ⟨p, hp, _⟩ := h; simp at hp
  | (s, v) :: W, l, t, h => by
    simp only [List.cons_append, lkb]
    split
    · rfl
    · rename_i hne
      obtain ⟨p, hp, e⟩ := h
      rcases List.mem_cons.1 hp with rfl | hp
      · exact absurd e hne
      · exact lkb_app_in W l t ⟨p, hp, e⟩

structure Eqv (st st2 : St) : Prop where
  n : st2.n = st.n
  hp : st2.hp = st.hp
  sl : ∀ t, lk st2.sl t = lk st.sl t
  bx : ∀ t, lkb st2.bx t = lkb st.bx t
  nl : ∀ d, noL d st2.sl ↔ noL d st.sl

theorem Eqv.refl (st : St) : Eqv st st := ⟨rfl, rfl, fun _ => rfl, fun _ => rfl, fun _ => Iff.rfl⟩
theorem Eqv.trans {a b c : St} (h : Eqv a b) (k : Eqv b c) : Eqv a c := ⟨k.n.trans h.n, k.hp.trans h.hp, fun t => (k.sl t).trans (h.sl t), fun t => (k.bx t).trans (h.bx t), fun d => (k.nl d).trans (h.nl d)⟩

theorem noL_append {d : Nat} {a b : List (Nat × LV)} : noL d (a ++ b) ↔ noL d a ∧ noL d b := by
  unfold noL
  constructor
  · intro h; exact ⟨fun p hp => h p (by simp [hp]), fun p hp => h p (by simp [hp])⟩
  · rintro ⟨h1, h2⟩ p hp
    rcases List.mem_append.1 hp with h | h
    · exact h1 p h
    · exact h2 p h

theorem Eqv.app {st st2 : St} (h : Eqv st st2) (W : List (Nat × LV)) (B : List (Nat × List RV)) : Eqv (st.app W B) (st2.app W B) := by
  refine ⟨h.n, h.hp, fun t => ?_, fun t => ?_, fun d => ?_⟩
  · simp only [St.app]
    by_cases e : ∃ p ∈ W, p.1 = t
    · rw [lk_app_in _ _ _ e, lk_app_in _ _ _ e]
    · have e' : ∀ p ∈ W, p.1 ≠ t := fun p hp q => e ⟨p, hp, q⟩
      rw [lk_app _ _ _ e', lk_app _ _ _ e']; exact h.sl t
  · simp only [St.app]
    by_cases e : ∃ p ∈ B, p.1 = t
    · rw [lkb_app_in _ _ _ e, lkb_app_in _ _ _ e]
    · have e' : ∀ p ∈ B, p.1 ≠ t := fun p hp q => e ⟨p, hp, q⟩
      rw [lkb_app _ _ _ e', lkb_app _ _ _ e']; exact h.bx t
  · simp only [St.app, noL_append, h.nl d]

theorem Eqv.swap {st : St} {W1 W2 : List (Nat × LV)} {B1 B2 : List (Nat × List RV)} (hW : ∀ p ∈ W1, ∀ q ∈ W2, p.1 ≠ q.1) (hB : ∀ p ∈ B1, ∀ q ∈ B2, p.1 ≠ q.1) :
    Eqv ((st.app W1 B1).app W2 B2) ((st.app W2 B2).app W1 B1) := by
  refine ⟨rfl, rfl, fun t => ?_, fun t => ?_, fun d => ?_⟩
  · simp only [St.app]
    by_cases e : ∃ p ∈ W1, p.1 = t
    · obtain ⟨p, hp, rfl⟩ := e
      have h2 : ∀ q ∈ W2, q.1 ≠ p.1 := fun q hq => (hW p hp q hq).symm
      rw [lk_app_in _ _ _ ⟨p, hp, rfl⟩, lk_app _ _ _ h2, lk_app_in _ _ _ ⟨p, hp, rfl⟩]
    · have e' : ∀ p ∈ W1, p.1 ≠ t := fun p hp q => e ⟨p, hp, q⟩
      rw [lk_app _ _ _ e']
      by_cases e2 : ∃ p ∈ W2, p.1 = t
      · rw [lk_app_in _ _ _ e2, lk_app_in _ _ _ e2]
      · have e2' : ∀ p ∈ W2, p.1 ≠ t := fun p hp q => e2 ⟨p, hp, q⟩
        rw [lk_app _ _ _ e2', lk_app _ _ _ e2', lk_app _ _ _ e']
  · simp only [St.app]
    by_cases e : ∃ p ∈ B1, p.1 = t
    · obtain ⟨p, hp, rfl⟩ := e
      have h2 : ∀ q ∈ B2, q.1 ≠ p.1 := fun q hq => (hB p hp q hq).symm
      rw [lkb_app_in _ _ _ ⟨p, hp, rfl⟩, lkb_app _ _ _ h2, lkb_app_in _ _ _ ⟨p, hp, rfl⟩]
    · have e' : ∀ p ∈ B1, p.1 ≠ t := fun p hp q => e ⟨p, hp, q⟩
      rw [lkb_app _ _ _ e']
      by_cases e2 : ∃ p ∈ B2, p.1 = t
      · rw [lkb_app_in _ _ _ e2, lkb_app_in _ _ _ e2]
      · have e2' : ∀ p ∈ B2, p.1 ≠ t := fun p hp q => e2 ⟨p, hp, q⟩
        rw [lkb_app _ _ _ e2', lkb_app _ _ _ e2', lkb_app _ _ _ e']
  · simp only [St.app, noL_append]
    constructor <;> rintro ⟨a, b, c⟩ <;> exact ⟨b, a, c⟩

theorem noL_lk {d : Nat} : ∀ {l : List (Nat × LV)} (_ : noL d l) (t : Nat), (lk l t).isL d = false
  | [], _, t => rfl
  | (s, v) :: l, h, t => by
    simp only [lk]
    split
    · exact h (s, v) (by simp)
    · exact noL_lk (l := l) (fun p hp => h p (by simp [hp])) t
theorem isL_gv {d : Nat} {lv : LV} (h : lv.isL d = false) : lv.gv.2.isL d = false := by
  induction lv with
  | gd c v ih => simp only [LV.gv]; exact ih h
  | _ => exact h
theorem noL_ptr {d : Nat} {l : List (Nat × LV)} (h : noL d l) {t s off : Nat} (e : (lk l t).gv.2 = .lptr s off) : s ≠ d := by
  have := isL_gv (noL_lk h t)
  rw [e] at this
  intro q; subst q; simp [LV.isL] at this

theorem noL_lsl {d : Nat} {l : List (Nat × LV)} (h : noL d l) {t s z off n cap : Nat} (e : (lk l t).gv.2 = .lsl s z off n cap) : s ≠ d := by
  have := isL_gv (noL_lk h t)
  rw [e] at this
  intro q; subst q; simp [LV.isL] at this

theorem isL_gdv {d : Nat} {gu : Option (Nat × Bool)} {g : Bool} {lv : LV} : (gdv gu g lv).isL d = lv.isL d := by cases gu <;> rfl
theorem isL_dg {d : Nat} (lv : LV) : lv.dg.isL d = lv.isL d := by
  induction lv with
  | gd c v ih => exact ih
  | _ => rfl
theorem isL_dgi {d i : Nat} (lv : LV) : (lv.dgi i).isL d = lv.isL d := by
  induction lv with
  | gd c v ih => exact ih
  | _ => rfl

/-! ### what an operation writes -/
theorem dgW_ws {st : St} {o : AOp} : ∀ p ∈ dgW st o.k, p.1 ∈ o.ws := by
  obtain ⟨dst, gu, k⟩ := o
  intro p hp
  cases k <;> simp [dgW] at hp <;> subst hp <;> simp [AOp.ws]

theorem eff_ws {R : Orc} {st : St} {o : AOp} {c : Prop} {W : List (Nat × LV)} {B : List (Nat × List RV)} (h : eff R st o = some (c, W, B)) :
    (∀ p ∈ W, p.1 ∈ o.ws) ∧ (o.bk = 0 ∨ o.bk = 1 → B = []) ∧ (o.bk = 2 → (B = [] ∧ effQ st o = some (c, W, B)) ∨ ∃ d cells lv, o.dst = some d ∧ B = [(d, cells)] ∧ W = [(d, lv)] ∧ ∀ d', d ≠ d' → lv.isL d' = false) := by
  have quiet : effQ st o = some (c, W, B) → (o.bk = 0 ∨ o.bk = 1 ∨ o.bk = 2) → (∀ p ∈ W, p.1 ∈ o.ws) ∧ (o.bk = 0 ∨ o.bk = 1 → B = []) ∧ (o.bk = 2 → (B = [] ∧ effQ st o = some (c, W, B)) ∨ ∃ d cells lv, o.dst = some d ∧ B = [(d, cells)] ∧ W = [(d, lv)] ∧ ∀ d', d ≠ d' → lv.isL d' = false) := by
    intro h hb
    have h0 := h
    unfold effQ at h
    split at h
    case h_3 => cases h
    case h_2 e1 e2 e3 =>
      split at h
      case isFalse => cases h
      simp only [Option.some.injEq, Prod.mk.injEq] at h
      obtain ⟨-, rfl, rfl⟩ := h
      refine ⟨fun p hp => ?_, fun _ => rfl, fun e => by rcases hb with q | q | q <;> rw [q] at e <;> first | (cases e; done) | exact .inl ⟨rfl, h0⟩⟩
      simp at hp; subst hp
      simp [AOp.ws, e1]
    rename_i d g c' lv e1 e2 e3
    split at h
    case isFalse => cases h
    simp only [Option.some.injEq, Prod.mk.injEq] at h
    obtain ⟨-, rfl, rfl⟩ := h
    refine ⟨fun p hp => ?_, fun _ => rfl, fun e => by rcases hb with q | q | q <;> rw [q] at e <;> first | (cases e; done) | exact .inl ⟨rfl, h0⟩⟩
    rcases List.mem_cons.1 hp with rfl | hp
    · simp [AOp.ws, e1]
    · exact dgW_ws p hp
  obtain ⟨dst, gu, k⟩ := o
  cases k
  case box n x =>
    simp only [eff, effBox] at h
    split at h
    case h_2 => cases h
    split at h
    case isFalse => cases h
    simp only [Option.some.injEq, Prod.mk.injEq] at h
    obtain ⟨-, rfl, rfl⟩ := h
    exact ⟨fun p hp => by simp at hp; subst hp; simp [AOp.ws], fun e => by simp [AOp.bk] at e, fun _ => .inr ⟨_, _, _, rfl, rfl, rfl, fun d' q => by simp [LV.isL, q]⟩⟩
  case alloc z =>
    simp only [eff, effAlloc] at h
    split at h
    case h_2 => cases h
    split at h
    case isFalse => cases h
    simp only [Option.some.injEq, Prod.mk.injEq] at h
    obtain ⟨-, rfl, rfl⟩ := h
    exact ⟨fun p hp => by simp at hp; subst hp; simp [AOp.ws], fun e => by simp [AOp.bk] at e, fun _ => .inr ⟨_, _, _, rfl, rfl, rfl, fun d' q => by simp [LV.isL, q]⟩⟩
  case mks sz bytes zero l =>
    simp only [eff] at h
    split at h
    · simp only [effMks] at h
      split at h
      case h_2 => cases h
      split at h
      case isFalse => cases h
      simp only [Option.some.injEq, Prod.mk.injEq] at h
      obtain ⟨-, rfl, rfl⟩ := h
      exact ⟨fun p hp => by simp at hp; subst hp; simp [AOp.ws], fun e => by simp [AOp.bk] at e, fun _ => .inr ⟨_, _, _, rfl, rfl, rfl, fun d' q => by simp [LV.isL, q]⟩⟩
    · exact quiet h (by simp [AOp.bk])
  case store n x v =>
    simp only [eff, effStore] at h
    split at h
    case h_2 => cases h
    split at h
    case h_2 => cases h
    simp only [Option.some.injEq, Prod.mk.injEq] at h
    obtain ⟨-, rfl, rfl⟩ := h
    exact ⟨fun p hp => by simp at hp, fun e => by simp [AOp.bk] at e, fun e => by simp [AOp.bk] at e⟩
  case callV x l =>
    simp only [eff, effCallV] at h
    split at h
    case h_2 => cases h
    split at h
    case h_2 => cases h
    split at h
    case isFalse => cases h
    simp only [Option.some.injEq, Prod.mk.injEq] at h
    obtain ⟨-, rfl, rfl⟩ := h
    exact ⟨fun p hp => by simp at hp; subst hp; simp [AOp.ws], fun _ => rfl, fun e => by simp [AOp.bk] at e⟩
  case call f l =>
    simp only [eff, effCall] at h
    split at h
    case h_2 => cases h
    split at h
    case h_3 => cases h
    case h_2 =>
      split at h
      case isFalse => cases h
      simp only [Option.some.injEq, Prod.mk.injEq] at h
      obtain ⟨-, rfl, rfl⟩ := h
      exact ⟨fun p hp => by simp at hp; subst hp; simp [AOp.ws], fun _ => rfl, fun e => by simp [AOp.bk] at e⟩
    split at h
    case isFalse => cases h
    simp only [Option.some.injEq, Prod.mk.injEq] at h
    obtain ⟨-, rfl, rfl⟩ := h
    exact ⟨fun p hp => by simp at hp; subst hp; simp [AOp.ws], fun _ => rfl, fun e => by simp [AOp.bk] at e⟩
  case callN f l =>
    simp only [eff, effCallN] at h
    split at h
    case h_2 => cases h
    split at h
    case h_2 => cases h
    split at h
    case isFalse => cases h
    simp only [Option.some.injEq, Prod.mk.injEq] at h
    obtain ⟨-, rfl, rfl⟩ := h
    exact ⟨fun p hp => by simp at hp; subst hp; simp [AOp.ws], fun e => by simp [AOp.bk] at e, fun _ => .inr ⟨_, _, _, rfl, rfl, rfl, fun d' q => by simp [LV.isL, q]⟩⟩
  case callE f x l =>
    simp only [eff, effCallE] at h
    split at h
    case h_3 => cases h
    · split at h
      case h_2 => cases h
      split at h
      case h_2 => cases h
      split at h
      case isFalse => cases h
      simp only [Option.some.injEq, Prod.mk.injEq] at h
      obtain ⟨-, rfl, rfl⟩ := h
      exact ⟨fun p hp => by simp at hp; subst hp; simp [AOp.ws], fun e => by simp [AOp.bk] at e, fun e => by simp [AOp.bk] at e⟩
    · split at h
      case h_2 => cases h
      split at h
      case isFalse => cases h
      simp only [Option.some.injEq, Prod.mk.injEq] at h
      obtain ⟨-, rfl, rfl⟩ := h
      exact ⟨fun p hp => by simp at hp; subst hp; simp [AOp.ws], fun e => by simp [AOp.bk] at e, fun e => by simp [AOp.bk] at e⟩
  case rng x => simp [eff] at h
  case nxt x => simp [eff] at h
  case takeLoad x =>
    simp only [eff, effTL] at h
    split at h
    · split at h
      case h_2 => cases h
      split at h
      case isFalse => cases h
      simp only [Option.some.injEq, Prod.mk.injEq] at h
      obtain ⟨-, rfl, rfl⟩ := h
      exact ⟨fun p hp => by simp at hp; subst hp; simp [AOp.ws], fun e => by simp [AOp.bk] at e, fun e => by simp [AOp.bk] at e⟩
    · refine ⟨fun p hp => ?_, fun e => by simp [AOp.bk] at e, fun e => by simp [AOp.bk] at e⟩
      unfold effQ at h
      split at h
      case h_3 => cases h
      all_goals
        rename_i e1 _ _
        split at h
        case isFalse => cases h
        simp only [Option.some.injEq, Prod.mk.injEq] at h
        obtain ⟨-, rfl, rfl⟩ := h
        simp [dgW] at hp; subst hp
        simp only [] at e1
        simp [AOp.ws, e1]
  case storeO x s =>
    simp only [eff, effSO] at h
    split at h
    · split at h
      case h_2 => cases h
      simp only [Option.some.injEq, Prod.mk.injEq] at h
      obtain ⟨-, rfl, rfl⟩ := h
      exact ⟨fun p hp => by simp at hp; subst hp; simp [AOp.ws], fun e => by simp [AOp.bk] at e, fun e => by simp [AOp.bk] at e⟩
    · unfold effStore at h
      split at h
      case h_2 => cases h
      split at h
      case h_2 => cases h
      simp only [Option.some.injEq, Prod.mk.injEq] at h
      obtain ⟨-, rfl, rfl⟩ := h
      exact ⟨fun p hp => by simp at hp, fun e => by simp [AOp.bk] at e, fun e => by simp [AOp.bk] at e⟩
  all_goals exact quiet h (by simp [AOp.bk])

theorem rdl_noL {d : Nat} {st : St} {x : AO} (h : noL d st.sl) : (rdl st x).2.isL d = false := by
  cases x with
  | t s => exact isL_gv (noL_lk h s)
  | c v => rfl
theorem ev1_noL {d : Nat} {st : St} {x : AO} {f : SV → Ev} {c : Prop} {lv : LV} (hf : ∀ v c lv, f v = some (c, lv) → lv.isL d = false) (h : ev1 st x f = some (c, lv)) : lv.isL d = false := by
  unfold ev1 at h
  split at h
  case h_2 => cases h
  split at h
  case h_2 => cases h
  rename_i e
  cases h
  exact hf _ _ _ e
theorem ev2_noL {d : Nat} {st : St} {x y : AO} {f : SV → SV → Ev} {c : Prop} {lv : LV} (hf : ∀ v u c lv, f v u = some (c, lv) → lv.isL d = false) (h : ev2 st x y f = some (c, lv)) : lv.isL d = false :=
  ev1_noL (fun v _ _ h => ev1_noL (hf v) h) h
theorem RV.isL_lv {d : Nat} (r : RV) : r.lv.isL d = false := by cases r <;> rfl

theorem faddrV_noL {d off : Nat} {p : LV} {c : Prop} {lv : LV} (hp : p.isL d = false) (h : faddrV off p = some (c, lv)) : lv.isL d = false := by
  unfold faddrV at h
  split at h <;> cases h <;> first | rfl | exact hp
theorem iaddrAV_noL {d n sz : Nat} {p : LV} {v : SV} {c : Prop} {lv : LV} (hp : p.isL d = false) (h : iaddrAV n sz p v = some (c, lv)) : lv.isL d = false := by
  unfold iaddrAV at h
  split at h
  · split at h <;> cases h <;> first | rfl | exact hp
  · cases h
theorem binV_noL {d : Nat} {op : BinOp} {v u : SV} {c : Prop} {lv : LV} (h : binV op v u = some (c, lv)) : lv.isL d = false := by
  unfold binV at h
  split at h
  · split at h <;> first | (cases h; rfl) | (cases h; done) | (split at h <;> first | (cases h; rfl) | cases h)
  · split at h <;> first | (cases h; rfl) | cases h
  · cases h
theorem loadV_noL {d : Nat} {st : St} {n : Option Nat} {p : LV} {c : Prop} {lv : LV} (h : loadV st n p = some (c, lv)) : lv.isL d = false := by
  unfold loadV at h
  split at h
  · split at h <;> first | (cases h; rfl) | cases h
  · split at h <;> first | (cases h; rfl) | cases h
  · cases h; rfl
  · cases h

theorem ev_noL {d : Nat} {st : St} {k : AK} {c : Prop} {lv : LV} (hn : noL d st.sl) (h : ev st k = some (c, lv)) : lv.isL d = false := by
  cases k
  case mv o =>
    have := rdl_noL (x := o) hn
    simp only [ev] at h
    split at h <;> first | (cases h; rfl) | (cases h; done) | (rename_i e; cases h; rw [e] at this; exact this)
  case take s =>
    have := isL_gv (noL_lk hn s)
    simp only [ev] at h
    split at h <;> first | (cases h; rfl) | (cases h; done) | (rename_i e; cases h; rw [e] at this; exact this)
  case mark s => simp only [ev] at h; split at h <;> first | (cases h; rfl) | cases h
  case pick c a b => simp only [ev] at h; split at h <;> first | (cases h; rfl) | cases h
  case bin op x y => simp only [ev] at h; exact ev2_noL (fun _ _ _ _ h => binV_noL h) h
  case una op x =>
    simp only [ev] at h; refine ev1_noL ?_ h; intro v c lv h
    unfold unaV at h
    split at h
    · split at h <;> first | (cases h; rfl) | cases h
    · split at h <;> first | (cases h; rfl) | cases h
    · cases h
  case eqn sl neg x =>
    simp only [ev] at h
    split at h
    case h_2 => cases h
    rename_i e
    cases h
    unfold eqnV at e
    split at e <;> first | (cases e; done) | (split at e <;> first | (cases e; rfl) | cases e)
  case beq neg x y =>
    simp only [ev] at h; refine ev2_noL ?_ h; intro v u c lv h; clear hn
    unfold beqV at h; split at h <;> first | (cases h; rfl) | cases h
  case eqs ks neg x y =>
    simp only [ev] at h; refine ev2_noL ?_ h; intro v u c lv h; clear hn
    unfold eqsV at h; split at h
    · split at h <;> first | (cases h; rfl) | cases h
    · cases h
  case conv k x =>
    simp only [ev] at h; refine ev1_noL ?_ h; intro v c lv h; clear hn
    split at h <;> first | (cases h; rfl) | cases h
  case b2s x =>
    simp only [ev] at h; refine ev1_noL ?_ h; intro v c lv h; clear hn
    split at h <;> first | (cases h; rfl) | cases h
  case s2b x =>
    simp only [ev] at h; refine ev1_noL ?_ h; intro v c lv h; clear hn
    split at h <;> first | (cases h; rfl) | cases h
  case len b x =>
    simp only [ev] at h
    split at h
    · split at h <;> first | (cases h; rfl) | cases h
    refine ev1_noL ?_ h; intro v c lv h; clear hn
    unfold lenV at h; split at h <;> first | (cases h; rfl) | cases h
  case minmax b x y =>
    simp only [ev] at h; refine ev2_noL ?_ h; intro v u c lv h; clear hn
    unfold minmaxV at h; split at h <;> first | (cases h; done) | (split at h <;> first | (cases h; rfl) | cases h)
  case minmax3 b x y z =>
    simp only [ev, ev3] at h; refine ev1_noL ?_ h; intro v c lv h
    refine ev2_noL ?_ h; intro u t c lv h; clear hn
    unfold minmax3V at h; split at h <;> first | (cases h; done) | (split at h <;> first | (cases h; rfl) | cases h)
  case loadP x =>
    have := rdl_noL (x := x) hn
    simp only [ev] at h
    split at h
    · rename_i e; cases h; rw [e] at this; exact this
    · cases h
  case slc b z x lo hi =>
    simp only [ev] at h; refine ev1_noL ?_ h; intro v c lv h
    split at h
    case h_2 => cases h
    split at h
    case h_2 => cases h
    split at h
    case h_2 => cases h
    rename_i e
    cases h
    unfold slcV at e
    split at e
    · cases e; rfl
    · split at e <;> first | (cases e; rfl) | cases e
    · cases e; rfl
    · cases e
  case slc3 z x lo hi =>
    simp only [ev] at h; refine ev1_noL ?_ h; intro v c lv h
    split at h
    case h_2 => cases h
    split at h
    · split at h <;> first | (cases h; rfl) | cases h
    · cases h; rfl
    · cases h
  case faddr x off =>
    have := rdl_noL (x := x) hn
    simp only [ev] at h
    split at h
    case h_2 => cases h
    rename_i e
    cases h
    exact faddrV_noL this e
  case fld x off n =>
    simp only [ev] at h; refine ev1_noL ?_ h; intro v c lv h; clear hn
    split at h <;> first | (cases h; rfl) | cases h
  case iaddr z x i =>
    have hx := rdl_noL (x := x) hn
    simp only [ev] at h
    split at h
    · rename_i e
      rw [e] at hx
      refine ev1_noL ?_ h
      intro v c lv h
      split at h
      · split at h <;> first | (cases h; exact hx) | cases h
      · cases h
    refine ev2_noL ?_ h; intro v u c lv h; clear hn
    unfold iaddrV at h; split at h <;> first | (cases h; done) | (split at h <;> first | (cases h; rfl) | cases h)
  case iaddrA n z x i =>
    have := rdl_noL (x := x) hn
    simp only [ev] at h
    refine ev1_noL ?_ h; intro v c lv h
    split at h
    case h_2 => cases h
    rename_i e
    cases h
    exact iaddrAV_noL this e
  case idx x i =>
    simp only [ev] at h; refine ev2_noL ?_ h; intro v u c lv h; clear hn
    unfold idxV at h; split at h <;> first | (cases h; rfl) | cases h
  case idxA n z m x i =>
    simp only [ev] at h; refine ev2_noL ?_ h; intro v u c lv h; clear hn
    unfold idxAV at h; split at h <;> first | (cases h; rfl) | cases h
  case ext s i =>
    simp only [ev] at h
    split at h <;> first | (cases h; done) | (cases h; exact RV.isL_lv _) | (cases h; rfl)
  case extS s i =>
    simp only [ev] at h
    split at h <;> first | (cases h; done) | (cases h; rfl)
  case nilc x =>
    have := rdl_noL (x := x) hn
    simp only [ev] at h
    split at h <;> first | (cases h; rfl) | (cases h; done) | (rename_i e; cases h; rw [e] at this; exact this)
  case load n x =>
    simp only [ev] at h
    split at h
    case h_2 => cases h
    rename_i e
    cases h
    exact loadV_noL e
  case mkfn f a b => simp only [ev] at h; split at h <;> first | (cases h; rfl) | cases h
  case build z ps => simp only [ev] at h; split at h <;> first | (cases h; rfl) | cases h
  case bsl z n ze ps => simp only [ev] at h; split at h <;> first | (cases h; rfl) | cases h
  case app a b s y =>
    simp only [ev] at h
    split at h
    case h_2 => cases h
    split at h <;> first | (cases h; rfl) | cases h
  case appS s y => simp only [ev] at h; split at h <;> first | (cases h; rfl) | cases h
  case mks a b z l =>
    simp only [ev] at h; refine ev1_noL ?_ h; intro v c lv h; clear hn
    split at h <;> first | (cases h; rfl) | cases h
  all_goals (simp only [ev] at h; cases h)

theorem dgW_noL {d : Nat} {st : St} {k : AK} (hn : noL d st.sl) : noL d (dgW st k) := by
  intro p hp
  cases k <;> simp [dgW] at hp <;> subst hp <;> simp only [isL_dg, isL_dgi] <;> exact noL_lk hn _

theorem eff_noL {R : Orc} {d : Nat} {st : St} {o : AOp} {c : Prop} {W : List (Nat × LV)} {B : List (Nat × List RV)} (h : eff R st o = some (c, W, B)) (hn : noL d st.sl) (hd : o.bk = 2 → o.dst ≠ some d) : noL d W := by
  have quiet : effQ st o = some (c, W, B) → noL d W := by
    intro h
    unfold effQ at h
    split at h
    case h_3 => cases h
    case h_2 e1 e2 e3 =>
      split at h
      case isFalse => cases h
      simp only [Option.some.injEq, Prod.mk.injEq] at h
      obtain ⟨-, rfl, rfl⟩ := h
      intro p hp
      simp at hp; subst hp
      rfl
    rename_i d' g c' lv e1 e2 e3
    split at h
    case isFalse => cases h
    simp only [Option.some.injEq, Prod.mk.injEq] at h
    obtain ⟨-, rfl, rfl⟩ := h
    intro p hp
    rcases List.mem_cons.1 hp with rfl | hp
    · simp only [isL_gdv]; exact ev_noL hn e3
    · exact dgW_noL hn p hp
  by_cases hb : o.bk = 2
  · rcases (eff_ws h).2.2 hb with ⟨_, hq⟩ | ⟨d', cells, lv, e1, -, rfl, hlv⟩
    · exact quiet hq
    have : d' ≠ d := fun q => hd hb (by rw [e1, q])
    intro p hp
    simp at hp; subst hp
    exact hlv d this
  obtain ⟨dst, gu, k⟩ := o
  cases k
  case box n x => simp [AOp.bk] at hb
  case alloc z => simp [AOp.bk] at hb
  case mks sz bytes zero l => simp [AOp.bk] at hb
  case store n x v =>
    simp only [eff, effStore] at h
    split at h
    case h_2 => cases h
    split at h
    case h_2 => cases h
    simp only [Option.some.injEq, Prod.mk.injEq] at h
    obtain ⟨-, rfl, rfl⟩ := h
    intro p hp; simp at hp
  case callV x l =>
    simp only [eff, effCallV] at h
    split at h
    case h_2 => cases h
    split at h
    case h_2 => cases h
    rename_i rv hrv
    split at h
    case isFalse => cases h
    rename_i hfl
    simp only [Option.some.injEq, Prod.mk.injEq] at h
    obtain ⟨-, rfl, rfl⟩ := h
    intro p hp
    simp at hp; subst hp
    simp only [isL_gdv]
    have := hfl.2.1
    cases rv <;> first | rfl | simp [LV.flat] at this
  case call f l =>
    have fl : ∀ {rv : LV} {d : Nat}, rv.flat = true → rv.isL d = false := fun {rv d} e => by cases rv <;> first | rfl | simp [LV.flat] at e
    simp only [eff, effCall] at h
    split at h
    case h_2 => cases h
    split at h
    case h_3 => cases h
    case h_2 =>
      split at h
      case isFalse => cases h
      simp only [Option.some.injEq, Prod.mk.injEq] at h
      obtain ⟨-, rfl, rfl⟩ := h
      intro p hp
      simp at hp; subst hp
      simp only [isL_gdv]
      rfl
    split at h
    case isFalse => cases h
    rename_i hfl
    simp only [Option.some.injEq, Prod.mk.injEq] at h
    obtain ⟨-, rfl, rfl⟩ := h
    intro p hp
    simp at hp; subst hp
    simp only [isL_gdv]
    exact fl hfl.2
  case callN f l => simp [AOp.bk] at hb
  case callE f x l =>
    have fl : ∀ {rv : LV}, rv.flat = true → rv.isL d = false := fun {rv} e => by cases rv <;> first | rfl | simp [LV.flat] at e
    simp only [eff, effCallE] at h
    split at h
    case h_3 => cases h
    · split at h
      case h_2 => cases h
      split at h
      case h_2 => cases h
      split at h
      case isFalse => cases h
      rename_i hfl
      simp only [Option.some.injEq, Prod.mk.injEq] at h
      obtain ⟨-, rfl, rfl⟩ := h
      intro p hp
      simp at hp; subst hp
      simp only [isL_gdv]
      exact fl hfl.2
    · split at h
      case h_2 => cases h
      split at h
      case isFalse => cases h
      rename_i hfl
      simp only [Option.some.injEq, Prod.mk.injEq] at h
      obtain ⟨-, rfl, rfl⟩ := h
      intro p hp
      simp at hp; subst hp
      simp only [isL_gdv]
      exact fl hfl.2
  case rng x => simp [eff] at h
  case nxt x => simp [eff] at h
  case takeLoad x =>
    simp only [eff, effTL] at h
    split at h
    · split at h
      case h_2 => cases h
      split at h
      case isFalse => cases h
      simp only [Option.some.injEq, Prod.mk.injEq] at h
      obtain ⟨-, rfl, rfl⟩ := h
      intro p hp
      simp at hp; subst hp
      exact RV.isL_lv _
    · unfold effQ at h
      split at h
      case h_3 => cases h
      case h_2 e1 e2 e3 =>
        split at h
        case isFalse => cases h
        simp only [Option.some.injEq, Prod.mk.injEq] at h
        obtain ⟨-, rfl, rfl⟩ := h
        intro p hp
        simp at hp; subst hp
        rfl
      rename_i d' g c' lv e1 e2 e3
      split at h
      case isFalse => cases h
      simp only [Option.some.injEq, Prod.mk.injEq] at h
      obtain ⟨-, rfl, rfl⟩ := h
      intro p hp
      simp [dgW] at hp; subst hp
      simp only [isL_gdv]
      exact ev_noL hn e3
  case storeO x s =>
    simp only [eff, effSO] at h
    split at h
    · split at h
      case h_2 => cases h
      simp only [Option.some.injEq, Prod.mk.injEq] at h
      obtain ⟨-, rfl, rfl⟩ := h
      intro p hp
      simp at hp; subst hp
      simp only [isL_dg]
      exact noL_lk hn _
    · unfold effStore at h
      split at h
      case h_2 => cases h
      split at h
      case h_2 => cases h
      simp only [Option.some.injEq, Prod.mk.injEq] at h
      obtain ⟨-, rfl, rfl⟩ := h
      intro p hp; simp at hp
  all_goals exact quiet h
end Go.Av

set_option linter.unusedSimpArgs false
namespace Go.Av

theorem rlk_mem : ∀ {rl : RL} {t r : Nat}, rlk rl t = some r → (t, r) ∈ rl
  | (u, v) :: l, t, r, h => by
    simp only [rlk] at h
    split at h
    · rename_i e; cases h; subst e; simp
    · exact List.mem_cons_of_mem _ (rlk_mem h)
theorem rootsOK.spec {rl : RL} {st : St} (h : rootsOK rl st) {t r t' r' s s' : Nat} (h1 : rlk rl t = some r) (h2 : rlk rl t' = some r') (h3 : ptrTo st t = some s) (h4 : ptrTo st t' = some s') : s = s' ↔ r = r' := by
  have := h _ (rlk_mem h1) _ (rlk_mem h2)
  simp only [h3, h4] at this
  exact this

def Roots (rl : RL) (st : St) : Prop := ∀ t r t' r' s s', rlk rl t = some r → rlk rl t' = some r' → ptrTo st t = some s → ptrTo st t' = some s' → (s = s' ↔ r = r')
theorem rootsOK.roots {rl : RL} {st : St} (h : rootsOK rl st) : Roots rl st := fun _ _ _ _ _ _ h1 h2 h3 h4 => h.spec h1 h2 h3 h4

theorem ptr_dg (lv : LV) (s o : Nat) : lv.dg.gv.2 = .lptr s o ↔ lv.gv.2 = .lptr s o := by
  induction lv with
  | gd c v ih => simpa [LV.dg, LV.gv] using ih
  | _ => simp [LV.dg, LV.gv]
theorem ptr_dgi (i : Nat) (lv : LV) (s o : Nat) : (lv.dgi i).gv.2 = .lptr s o ↔ lv.gv.2 = .lptr s o := by
  induction lv with
  | gd c v ih => simpa [LV.dgi, LV.gv] using ih
  | _ => simp [LV.dgi, LV.gv]
theorem ptrTo_iff {st : St} {t s : Nat} : ptrTo st t = some s ↔ ∃ o, (lk st.sl t).gv.2 = .lptr s o := by
  unfold ptrTo
  generalize (lk st.sl t).gv.2 = lv
  cases lv <;> simp

theorem eff_box {R : Orc} {st : St} {o : AOp} {c : Prop} {W : List (Nat × LV)} {B : List (Nat × List RV)} (h : eff R st o = some (c, W, B)) :
    ∀ p ∈ B, (o.bk = 2 ∧ o.dst = some p.1) ∨ ∃ q, o.ptr = some q ∧ ptrTo st q = some p.1 := by
  have hw := eff_ws h
  by_cases h2 : o.bk = 2
  · rcases hw.2.2 h2 with ⟨e, _⟩ | ⟨d, cells, lv, e1, e2, _⟩
    · intro p hp; rw [e] at hp; simp at hp
    · intro p hp; rw [e2] at hp; simp at hp; subst hp; exact .inl ⟨h2, e1⟩
  by_cases h0 : o.bk = 0 ∨ o.bk = 1
  · intro p hp; rw [hw.2.1 h0] at hp; simp at hp
  obtain ⟨dst, gu, k⟩ := o
  have hk : k.quiet = false ∧ (∃ n x v, k = .store n x v) ∨ (∃ f x l, k = .callE f x l) ∨ (∃ x, k = .takeLoad x) ∨ (∃ x s, k = .storeO x s) := by
    cases k <;> simp [AOp.bk, AK.quiet] at h2 h0 ⊢
  rcases hk with ⟨_, n, x, v, rfl⟩ | ⟨f, x, l, rfl⟩ | ⟨x, rfl⟩ | ⟨x, s, rfl⟩
  · simp only [eff, effStore] at h
    split at h
    case h_2 => cases h
    rename_i g1 s off g2 u e1 e2
    split at h
    case h_2 => cases h
    simp only [Option.some.injEq, Prod.mk.injEq] at h
    obtain ⟨-, -, rfl⟩ := h
    intro p hp
    simp at hp; subst hp
    right
    cases x with
    | t t => exact ⟨t, rfl, ptrTo_iff.2 ⟨off, by simp [rdl] at e1; rw [e1]⟩⟩
    | c v => simp [rdl] at e1
  · simp only [eff, effCallE] at h
    split at h
    case h_3 => cases h
    · rename_i d g gx s c' l' e0 e1 e2
      split at h
      case h_2 => cases h
      split at h
      case h_2 => cases h
      split at h
      case isFalse => cases h
      simp only [Option.some.injEq, Prod.mk.injEq] at h
      obtain ⟨-, -, rfl⟩ := h
      intro p hp
      simp at hp; subst hp
      right
      cases x with
      | t t => exact ⟨t, rfl, ptrTo_iff.2 ⟨0, by simp [rdl] at e1; rw [e1]⟩⟩
      | c v => simp [rdl] at e1
    · split at h
      case h_2 => cases h
      split at h
      case isFalse => cases h
      simp only [Option.some.injEq, Prod.mk.injEq] at h
      obtain ⟨-, -, rfl⟩ := h
      intro p hp; simp at hp
  · simp only [eff, effTL] at h
    split at h
    · rename_i e1 e2 e3
      split at h
      case h_2 => cases h
      split at h
      case isFalse => cases h
      simp only [Option.some.injEq, Prod.mk.injEq] at h
      obtain ⟨-, -, rfl⟩ := h
      intro p hp
      simp at hp; subst hp
      right
      cases x with
      | t t => exact ⟨t, rfl, ptrTo_iff.2 ⟨_, by simp [rdl] at e3; rw [e3]⟩⟩
      | c v => simp [rdl] at e3
    · unfold effQ at h
      split at h
      case h_3 => cases h
      all_goals
        split at h
        case isFalse => cases h
        simp only [Option.some.injEq, Prod.mk.injEq] at h
        obtain ⟨-, -, rfl⟩ := h
        intro p hp; simp at hp
  · have key : ∀ {g : Bool} {t off : Nat}, rdl st x = (g, .lptr t off) → ∃ q, AOp.ptr { dst := dst, guard := gu, k := .storeO x s } = some q ∧ ptrTo st q = some t := fun {g t off} e => by
      cases x with
      | t t => exact ⟨t, rfl, ptrTo_iff.2 ⟨_, by simp [rdl] at e; rw [e]⟩⟩
      | c v => simp [rdl] at e
    simp only [eff, effSO] at h
    split at h
    · rename_i e1 e2 e3 e4
      split at h
      case h_2 => cases h
      simp only [Option.some.injEq, Prod.mk.injEq] at h
      obtain ⟨-, -, rfl⟩ := h
      intro p hp
      simp at hp; subst hp
      exact .inr (key e3)
    · unfold effStore at h
      split at h
      case h_2 => cases h
      rename_i g1 s1 off g2 u e1 e2 e3 e4
      split at h
      case h_2 => cases h
      simp only [Option.some.injEq, Prod.mk.injEq] at h
      obtain ⟨-, -, rfl⟩ := h
      intro p hp
      simp at hp; subst hp
      exact .inr (key e3)

/-- What is written. -/
theorem eff_W {R : Orc} {st : St} {o : AOp} {c : Prop} {W : List (Nat × LV)} {B : List (Nat × List RV)} (h : eff R st o = some (c, W, B)) :
    W = [] ∨ (∃ s, W = [(s, (lk st.sl s).dg)]) ∨ ∃ d v rest, o.dst = some d ∧ W = (d, v) :: rest ∧ (rest = [] ∨ rest = dgW st o.k) ∧ ∀ s off, v.gv.2 = .lptr s off → (∃ lv c', ev st o.k = some (c', lv) ∧ lv.gv.2 = .lptr s off) ∨ o.bk = 2 := by
  have quiet : effQ st o = some (c, W, B) → W = [] ∨ (∃ s, W = [(s, (lk st.sl s).dg)]) ∨ ∃ d v rest, o.dst = some d ∧ W = (d, v) :: rest ∧ (rest = [] ∨ rest = dgW st o.k) ∧ ∀ s off, v.gv.2 = .lptr s off → (∃ lv c', ev st o.k = some (c', lv) ∧ lv.gv.2 = .lptr s off) ∨ o.bk = 2 := by
    intro h
    unfold effQ at h
    split at h
    case h_3 => cases h
    case h_2 e1 e2 e3 =>
      split at h
      case isFalse => cases h
      simp only [Option.some.injEq, Prod.mk.injEq] at h
      obtain ⟨-, rfl, rfl⟩ := h
      exact .inr (.inr ⟨_, _, [], e1, rfl, .inl rfl, fun s off q => by simp [LV.gv] at q⟩)
    rename_i d g c' lv e1 e2 e3
    split at h
    case isFalse => cases h
    simp only [Option.some.injEq, Prod.mk.injEq] at h
    obtain ⟨-, rfl, rfl⟩ := h
    refine .inr (.inr ⟨d, _, _, e1, rfl, .inr rfl, fun s off q => .inl ⟨lv, c', e3, ?_⟩⟩)
    cases hgu : o.guard with
    | none => simpa [gdv, hgu] using q
    | some z => simpa [gdv, hgu, LV.gv] using q
  by_cases h2 : o.bk = 2
  · rcases (eff_ws h).2.2 h2 with ⟨_, hq⟩ | ⟨d, cells, lv, e1, _, e2, _⟩
    · exact quiet hq
    · exact .inr (.inr ⟨d, lv, [], e1, e2, .inl rfl, fun _ _ _ => .inr h2⟩)
  have flat : ∀ {gu : Option (Nat × Bool)} {g : Bool} {rv : LV} {s off : Nat}, rv.flat = true → (gdv gu g rv).gv.2 ≠ .lptr s off := by
    intro gu g rv s off hf
    cases gu <;> cases rv <;> simp [LV.flat] at hf <;> simp [gdv, LV.gv]
  obtain ⟨dst, gu, k⟩ := o
  cases k
  case box n x => simp [AOp.bk] at h2
  case alloc z => simp [AOp.bk] at h2
  case mks a b z l => simp [AOp.bk] at h2
  case callN f l => simp [AOp.bk] at h2
  case store n x v =>
    simp only [eff, effStore] at h
    split at h
    case h_2 => cases h
    split at h
    case h_2 => cases h
    simp only [Option.some.injEq, Prod.mk.injEq] at h
    obtain ⟨-, rfl, rfl⟩ := h
    exact .inl rfl
  case callV x l =>
    simp only [eff, effCallV] at h
    split at h
    case h_2 => cases h
    rename_i d g gx f fs cs c' l e2 e3 e5
    split at h
    case h_2 => cases h
    rename_i c2 rv e4
    split at h
    case isFalse => cases h
    rename_i hd
    simp only [Option.some.injEq, Prod.mk.injEq] at h
    obtain ⟨-, rfl, rfl⟩ := h
    exact .inr (.inr ⟨d, _, [], rfl, rfl, .inl rfl, fun s off q => absurd q (flat hd.2.1)⟩)
  case call f l =>
    simp only [eff, effCall] at h
    split at h
    case h_2 => cases h
    rename_i d g c' l e2 e3
    split at h
    case h_3 => cases h
    case h_2 =>
      split at h
      case isFalse => cases h
      simp only [Option.some.injEq, Prod.mk.injEq] at h
      obtain ⟨-, rfl, rfl⟩ := h
      exact .inr (.inr ⟨d, _, [], rfl, rfl, .inl rfl, fun s off q => absurd q (flat rfl)⟩)
    rename_i c2 rv e4
    split at h
    case isFalse => cases h
    rename_i hd
    simp only [Option.some.injEq, Prod.mk.injEq] at h
    obtain ⟨-, rfl, rfl⟩ := h
    exact .inr (.inr ⟨d, _, [], rfl, rfl, .inl rfl, fun s off q => absurd q (flat hd.2)⟩)
  case callE f x l =>
    simp only [eff, effCallE] at h
    split at h
    case h_3 => cases h
    · split at h
      case h_2 => cases h
      split at h
      case h_2 => cases h
      split at h
      case isFalse => cases h
      rename_i hd
      simp only [Option.some.injEq, Prod.mk.injEq] at h
      obtain ⟨-, rfl, rfl⟩ := h
      exact .inr (.inr ⟨_, _, [], rfl, rfl, .inl rfl, fun s off q => absurd q (flat hd.2)⟩)
    · split at h
      case h_2 => cases h
      split at h
      case isFalse => cases h
      rename_i hd
      simp only [Option.some.injEq, Prod.mk.injEq] at h
      obtain ⟨-, rfl, rfl⟩ := h
      exact .inr (.inr ⟨_, _, [], rfl, rfl, .inl rfl, fun s off q => absurd q (flat hd.2)⟩)
  case rng x => simp [eff] at h
  case nxt x => simp [eff] at h
  case takeLoad x =>
    simp only [eff, effTL] at h
    split at h
    · split at h
      case h_2 => cases h
      split at h
      case isFalse => cases h
      simp only [Option.some.injEq, Prod.mk.injEq] at h
      obtain ⟨-, rfl, rfl⟩ := h
      exact .inr (.inr ⟨_, _, [], rfl, rfl, .inl rfl, fun s off q => by
        generalize List.getD _ _ _ = r at q
        cases r <;> simp [RV.lv, LV.gv] at q⟩)
    · unfold effQ at h
      split at h
      case h_3 => cases h
      case h_2 e1 e2 e3 =>
        split at h
        case isFalse => cases h
        simp only [Option.some.injEq, Prod.mk.injEq] at h
        obtain ⟨-, rfl, rfl⟩ := h
        exact .inr (.inr ⟨_, _, [], e1, rfl, .inl rfl, fun s off q => by simp [LV.gv] at q⟩)
      rename_i d g c' lv e1 e2 e3
      split at h
      case isFalse => cases h
      simp only [Option.some.injEq, Prod.mk.injEq] at h
      obtain ⟨-, rfl, rfl⟩ := h
      refine .inr (.inr ⟨d, _, _, e1, rfl, .inl rfl, fun s off q => ?_⟩)
      exfalso
      simp only [ev] at e3
      split at e3
      case h_2 => cases e3
      rename_i e
      cases e3
      have key : ∀ gu : Option (Nat × Bool), (gdv gu g lv).gv.2 ≠ .lptr s off := fun gu q => by
        have hz := isL_gv (d := s) (lv := gdv gu g lv) (by rw [isL_gdv]; exact loadV_noL e)
        rw [q] at hz
        simp [LV.isL] at hz
      exact key _ q
  case storeO x s =>
    simp only [eff, effSO] at h
    split at h
    · split at h
      case h_2 => cases h
      simp only [Option.some.injEq, Prod.mk.injEq] at h
      obtain ⟨-, rfl, rfl⟩ := h
      exact .inr (.inl ⟨s, rfl⟩)
    · unfold effStore at h
      split at h
      case h_2 => cases h
      split at h
      case h_2 => cases h
      simp only [Option.some.injEq, Prod.mk.injEq] at h
      obtain ⟨-, rfl, rfl⟩ := h
      exact .inl rfl
  all_goals exact quiet h

theorem ptr_dgW {st : St} {k : AK} {t s off : Nat} (h : (lk (dgW st k ++ st.sl) t).gv.2 = .lptr s off) : (lk st.sl t).gv.2 = .lptr s off := by
  cases k <;> simp only [dgW, List.cons_append, List.nil_append, lk] at h
  all_goals first | exact h | skip
  all_goals
    split at h
    · rename_i e
      subst e
      first | exact (ptr_dg _ _ _).1 h | exact (ptr_dgi _ _ _ _).1 h
    · exact h

theorem eff_ptr {R : Orc} {rl : RL} {st : St} {o : AOp} {c : Prop} {W : List (Nat × LV)} {B : List (Nat × List RV)} (h : eff R st o = some (c, W, B)) (hk : keepsPtr0 rl o = true) {t r s : Nat} (ht : rlk rl t = some r)
    (hp : ptrTo (st.app W B) t = some s) : ∃ q, rlk rl q = some r ∧ ptrTo st q = some s := by
  obtain ⟨off, hz⟩ := ptrTo_iff.1 hp
  simp only [St.app] at hz
  rcases eff_W h with rfl | ⟨s', rfl⟩ | ⟨d, v, rest, e1, rfl, e2, e3⟩
  · exact ⟨t, ht, ptrTo_iff.2 ⟨off, hz⟩⟩
  · simp only [List.cons_append, List.nil_append, lk] at hz
    refine ⟨t, ht, ptrTo_iff.2 ⟨off, ?_⟩⟩
    split at hz
    · rename_i e; subst e; exact (ptr_dg _ _ _).1 hz
    · exact hz
  simp only [List.cons_append, lk] at hz
  split at hz
  · rename_i hdt
    subst hdt
    simp only [keepsPtr0, e1, ht] at hk
    have key : ∀ q, rlk rl q = some r → ((lk st.sl q).gv.2 = .lptr s off ∨ ∃ z, (lk st.sl q).gv.2 = .lptr s z) → ∃ q, rlk rl q = some r ∧ ptrTo st q = some s := fun q hq hl => by
      rcases hl with hl | ⟨z, hl⟩
      · exact ⟨q, hq, ptrTo_iff.2 ⟨_, hl⟩⟩
      · exact ⟨q, hq, ptrTo_iff.2 ⟨_, hl⟩⟩
    rcases e3 s off hz with ⟨lv, c', q1, q2⟩ | q1
    · split at hk
      · rename_i q z hok
        have hq : rlk rl q = some r := by simpa using hk
        rw [hok] at q1
        simp only [ev] at q1
        split at q1
        case h_2 => cases q1
        rename_i c2 r2 hf
        simp only [Option.some.injEq, Prod.mk.injEq] at q1
        obtain ⟨-, rfl⟩ := q1
        unfold faddrV at hf
        split at hf <;> cases hf
        · rename_i s0 o0 hx
          simp only [LV.gv] at q2
          cases q2
          exact key q hq (.inr ⟨_, by simpa [rdl] using hx⟩)
        · simp [LV.gv] at q2
        · simp [LV.gv] at q2
      · rename_i q hok
        have hq : rlk rl q = some r := by simpa using hk
        rw [hok] at q1
        simp only [ev, rdl] at q1
        split at q1 <;> cases q1 <;> simp only [LV.gv] at q2 <;> cases q2
        rename_i hx
        exact key q hq (.inr ⟨_, by rw [hx]⟩)
      · rename_i q hok
        have hq : rlk rl q = some r := by simpa using hk
        rw [hok] at q1
        simp only [ev] at q1
        split at q1 <;> cases q1 <;> simp only [LV.gv] at q2 <;> cases q2
        rename_i hx
        exact key q hq (.inr ⟨_, by rw [hx]⟩)
      · rename_i q hok
        have hq : rlk rl q = some r := by simpa using hk
        rw [hok] at q1
        simp only [ev, rdl] at q1
        split at q1 <;> cases q1 <;> simp only [LV.gv] at q2 <;> cases q2
        rename_i hx
        exact key q hq (.inr ⟨_, by rw [hx]⟩)
      · cases hk
    · split at hk
      · rename_i hok; simp [AOp.bk, hok] at q1
      · rename_i hok; simp [AOp.bk, hok] at q1
      · rename_i hok; simp [AOp.bk, hok] at q1
      · rename_i hok; simp [AOp.bk, hok] at q1
      · cases hk
  · rcases e2 with rfl | rfl
    · exact ⟨t, ht, ptrTo_iff.2 ⟨off, by simpa using hz⟩⟩
    · exact ⟨t, ht, ptrTo_iff.2 ⟨off, ptr_dgW hz⟩⟩

theorem noL_lk2 {d : Nat} : ∀ {l : List (Nat × LV)} {t : Nat}, noL d l → (lk l t).isL d = false
  | [], t, _ => rfl
  | (s, v) :: r, t, h => by
    simp only [lk]
    split
    · exact h (s, v) (by simp)
    · exact noL_lk2 (fun p hp => h p (by simp [hp]))
theorem isL_gv2 {d : Nat} {lv : LV} {off : Nat} (h : lv.gv.2 = .lptr d off) : lv.isL d = true := by
  induction lv with
  | gd c v ih => simpa [LV.isL] using ih (by simpa [LV.gv] using h)
  | lptr s o => simp [LV.gv] at h; simp [LV.isL, h.1]
  | _ => simp [LV.gv] at h
theorem Roots.app {R : Orc} {rl : RL} {st : St} {o : AOp} {c : Prop} {W : List (Nat × LV)} {B : List (Nat × List RV)} (hr : Roots rl st) (h : eff R st o = some (c, W, B)) (hf : fresh o st) (hk : keepsPtr rl o = true) : Roots rl (st.app W B) := by
  unfold keepsPtr at hk
  rw [Bool.or_eq_true] at hk
  rcases hk with hk | hk
  · intro t r t' r' s s' h1 h2 h3 h4
    obtain ⟨q, k1, k2⟩ := eff_ptr h hk h1 h3
    obtain ⟨q', k3, k4⟩ := eff_ptr h hk h2 h4
    exact hr q r q' r' s s' k1 k3 k2 k4
  · obtain ⟨dst, gu, k⟩ := o
    unfold newRoot at hk
    split at hk
    case h_2 => cases hk
    rename_i z d e1 e2
    simp only at e1 e2
    subst e1 e2
    simp only [fresh] at hf
    simp only [eff, effAlloc] at h
    split at h
    case h_2 => cases h
    split at h
    case isFalse => cases h
    rename_i e2 hd
    cases e2
    simp only [Option.some.injEq, Prod.mk.injEq] at h
    obtain ⟨-, rfl, rfl⟩ := h
    have hal : ∀ p ∈ rl, p.1 ≠ d ∨ p.2 = d ∧ ∀ q ∈ rl, q.2 ≠ d ∨ q.1 = d := fun p hp => by
      have := List.all_eq_true.1 hk p hp
      simp only [Bool.or_eq_true, Bool.and_eq_true, bne_iff_ne, beq_iff_eq, List.all_eq_true] at this
      exact this
    have old : ∀ {t s : Nat}, t ≠ d → ptrTo (st.app [(d, .lptr d 0)] [(d, z.map .sv)]) t = some s → ptrTo st t = some s ∧ s ≠ d := by
      intro t s ht hp
      obtain ⟨off, hz⟩ := ptrTo_iff.1 hp
      simp only [St.app, List.cons_append, List.nil_append, lk, if_neg (Ne.symm ht)] at hz
      refine ⟨ptrTo_iff.2 ⟨off, hz⟩, fun q => ?_⟩
      subst q
      have h1 := noL_lk2 (t := t) hf
      rw [isL_gv2 hz] at h1
      cases h1
    have new : ∀ {s : Nat}, ptrTo (st.app [(d, .lptr d 0)] [(d, z.map .sv)]) d = some s → s = d := by
      intro s hp
      obtain ⟨off, hz⟩ := ptrTo_iff.1 hp
      simp [St.app, lk, LV.gv] at hz
      exact hz.1.symm
    have root : ∀ {t r t' r' : Nat}, rlk rl t = some r → t = d → rlk rl t' = some r' → t' ≠ d → r = d ∧ r' ≠ d := by
      intro t r t' r' h1 ht h2 ht'
      rcases hal _ (rlk_mem h1) with q | ⟨q1, q2⟩
      · exact absurd ht q
      · refine ⟨q1, ?_⟩
        rcases q2 _ (rlk_mem h2) with q | q
        · exact q
        · exact absurd q ht'
    intro t r t' r' s s' h1 h2 h3 h4
    by_cases ht : t = d
    · by_cases ht' : t' = d
      · subst ht ht'
        have e1 := new h3
        have e2 := new h4
        rw [h1] at h2
        cases h2
        exact ⟨fun _ => rfl, fun _ => e1.trans e2.symm⟩
      · obtain ⟨q1, q2⟩ := root h1 ht h2 ht'
        obtain ⟨_, q4⟩ := old ht' h4
        subst ht
        have e1 := new h3
        subst e1 q1
        exact ⟨fun e => absurd e.symm q4, fun e => absurd e.symm q2⟩
    · by_cases ht' : t' = d
      · obtain ⟨q1, q2⟩ := root h2 ht' h1 ht
        obtain ⟨_, q4⟩ := old ht h3
        subst ht'
        have e1 := new h4
        subst e1 q1
        exact ⟨fun e => absurd e q4, fun e => absurd e q2⟩
      · exact hr t r t' r' s s' h1 h2 (old ht h3).1 (old ht' h4).1
end Go.Av

set_option linter.unusedSimpArgs false
namespace Go.Av

theorem disj_spec {a b : List Nat} (h : disj a b = true) : ∀ x ∈ a, ∀ y ∈ b, x ≠ y := by
  intro x hx y hy e
  subst e
  have := List.all_eq_true.1 h x hx
  simp [hy] at this

theorem eff_fits {R : Orc} {x y : AOp} {st : St} {c : Prop} {W : List (Nat × LV)} {B : List (Nat × List RV)} (hx : eff R st x = some (c, W, B))
    (hd : disj x.ws y.rs = true) (hb : ∀ q, y.ptr = some q → ∀ s, ptrTo st q = some s → ∀ p ∈ B, p.1 ≠ s) : eff R (st.app W B) y = eff R st y := by
  obtain ⟨k1, k2, k3⟩ := eff_ws hx
  have hne := disj_spec hd
  refine eff_al ⟨rfl, rfl, fun t ht => ?_⟩ fun q hq s off e => ?_
  · simp only [St.app]
    exact lk_app _ _ _ fun p hp => hne _ (k1 p hp) _ ht
  · simp only [St.app]
    exact lkb_app _ _ _ fun p hp => hb q hq s (ptrTo_iff.2 ⟨off, e⟩) p hp

theorem fresh_iff {o : AOp} {st : St} : fresh o st ↔ (o.bk = 2 → ∀ d, o.dst = some d → noL d st.sl) := by
  obtain ⟨dst, gu, k⟩ := o
  cases dst with
  | none => cases k <;> simp [fresh, AOp.bk]
  | some d => cases k <;> simp [fresh, AOp.bk]

theorem bk_ws {o : AOp} {d : Nat} (h : o.dst = some d) : d ∈ o.ws := by simp [AOp.ws, h]

/-- Boxes that two operations touch are two. -/
theorem boxes_apart {R : Orc} {rl : RL} {x y : AOp} {st : St} {c1 : Prop} {W1 : List (Nat × LV)} {B1 : List (Nat × List RV)} (hr : Roots rl st) (hok : bkOK rl x y = true)
    (h1 : eff R st x = some (c1, W1, B1)) (f1 : fresh x st) : ∀ q, y.ptr = some q → ∀ s, ptrTo st q = some s → ∀ p ∈ B1, p.1 ≠ s := by
  intro q hq s hs p hp e
  subst e
  rcases eff_box h1 p hp with ⟨hb, hd⟩ | ⟨q', hq', hs'⟩
  · obtain ⟨off, h⟩ := ptrTo_iff.1 hs
    exact noL_ptr (fresh_iff.1 f1 hb _ hd) h rfl
  · simp only [bkOK, hq', hq, Bool.or_eq_true, Bool.and_eq_true, beq_iff_eq] at hok
    rcases hok with ⟨hx1, _⟩ | hne
    · rw [(eff_ws h1).2.1 (.inr hx1)] at hp; simp at hp
    · split at hne
      · rename_i r r' e1 e2
        have := (hr _ _ _ _ _ _ e1 e2 hs' hs).1 rfl
        simp [this] at hne
      · cases hne

theorem bkOK_symm {rl : RL} {x y : AOp} (h : bkOK rl x y = true) : bkOK rl y x = true := by
  unfold bkOK at h ⊢
  cases hx : x.ptr <;> cases hy : y.ptr <;> simp only [hx, hy] at h ⊢
  rename_i p q
  cases h1 : rlk rl p <;> cases h2 : rlk rl q <;> simp [h1, h2] at h ⊢
  · exact ⟨h.2, h.1⟩
  · exact ⟨h.2, h.1⟩
  · exact ⟨h.2, h.1⟩
  · rcases h with h | h
    · exact .inl ⟨h.2, h.1⟩
    · exact .inr (fun e => h e.symm)

/-- Two operations that do not touch each other change places. -/
theorem eff_swap {R : Orc} {rl : RL} {x y : AOp} {st : St} {c1 c2 : Prop} {W1 W2 : List (Nat × LV)} {B1 B2 : List (Nat × List RV)} (hr : Roots rl st) (hi : indep rl x y = true)
    (h1 : eff R st x = some (c1, W1, B1)) (f1 : fresh x st) (h2 : eff R (st.app W1 B1) y = some (c2, W2, B2)) (f2 : fresh y (st.app W1 B1)) :
    eff R st y = some (c2, W2, B2) ∧ fresh y st ∧ eff R (st.app W2 B2) x = some (c1, W1, B1) ∧ fresh x (st.app W2 B2) ∧ Eqv ((st.app W1 B1).app W2 B2) ((st.app W2 B2).app W1 B1) := by
  simp only [indep, Bool.and_eq_true] at hi
  obtain ⟨⟨⟨i1, i2⟩, i3⟩, i4⟩ := hi
  obtain ⟨k1, k2, k3⟩ := eff_ws h1
  have e2 : eff R st y = some (c2, W2, B2) := by
    rw [← h2]; symm
    exact eff_fits h1 i2 (boxes_apart hr i4 h1 f1)
  have g2 : fresh y st := fresh_iff.2 fun hb d hd => (noL_append.1 (fresh_iff.1 f2 hb d hd)).2
  obtain ⟨l1, l2, l3⟩ := eff_ws e2
  have hap := boxes_apart hr (bkOK_symm i4) e2 g2
  have e1 : eff R (st.app W2 B2) x = some (c1, W1, B1) := by
    rw [← h1]
    have i1' : disj y.ws x.rs = true := by
      apply List.all_eq_true.2; intro t ht
      have := disj_spec i1
      simp; intro q; exact this _ q _ ht rfl
    exact eff_fits e2 i1' hap
  have i3' := disj_spec i3
  refine ⟨e2, g2, e1, fresh_iff.2 fun hb d hd => ?_, Eqv.swap (fun p hp q hq => i3' _ (k1 p hp) _ (l1 q hq)) fun p hp q hq => ?_⟩
  · simp only [St.app]
    exact noL_append.2 ⟨eff_noL e2 (fresh_iff.1 f1 hb d hd) (fun _ e => i3' _ (bk_ws hd) _ (bk_ws e) rfl), fresh_iff.1 f1 hb d hd⟩
  · rcases eff_box h1 p hp with ⟨b1, d1⟩ | ⟨q1, n1, s1⟩
    · rcases eff_box e2 q hq with ⟨b2, d2⟩ | ⟨q2, n2, s2⟩
      · exact i3' _ (bk_ws d1) _ (bk_ws d2)
      · exact boxes_apart hr i4 h1 f1 q2 n2 _ s2 p hp
    · exact (hap q1 n1 _ s1 q hq).symm

/-! ### runs -/
def Runs (R : Orc) : List AOp → St → St → Prop
  | [], st, stf => st = stf
  | o :: r, st, stf => ∃ c W B, eff R st o = some (c, W, B) ∧ c ∧ fresh o st ∧ Runs R r (st.app W B) stf

theorem runs_of : ∀ {R : Orc} {l : List AOp} {st stf : St} {c0 c : Prop}, runR R l st c0 = some (c, stf) → c → c0 ∧ Runs R l st stf
  | R, [], st, stf, c0, c, h, hc => by cases h; exact ⟨hc, rfl⟩
  | R, o :: r, st, stf, c0, c, h, hc => by
    simp only [runR] at h
    split at h
    case h_2 => cases h
    rename_i c' W B e
    obtain ⟨⟨q1, q2, q3⟩, q4⟩ := runs_of h hc
    exact ⟨q1, c', W, B, e, q2, q3, q4⟩

theorem eff_eqv {R : Orc} {st st2 : St} (h : Eqv st st2) (o : AOp) : eff R st2 o = eff R st o :=
  eff_al ⟨h.n, h.hp, fun t _ => h.sl t⟩ fun _ _ s _ _ => h.bx s
theorem fresh_eqv {st st2 : St} (h : Eqv st st2) (o : AOp) : fresh o st → fresh o st2 := fun hf => fresh_iff.2 fun hb d hd => (h.nl d).2 (fresh_iff.1 hf hb d hd)

theorem Runs.eqv {R : Orc} : ∀ {l : List AOp} {st st2 stf : St}, Eqv st st2 → Runs R l st stf → ∃ stf2, Runs R l st2 stf2 ∧ Eqv stf stf2
  | [], st, st2, stf, h, hr => by cases hr; exact ⟨st2, rfl, h⟩
  | o :: r, st, st2, stf, h, hr => by
    obtain ⟨c, W, B, e, hc, hf, hr⟩ := hr
    obtain ⟨stf2, q1, q2⟩ := Runs.eqv (h.app W B) hr
    exact ⟨stf2, ⟨c, W, B, by rw [eff_eqv h]; exact e, hc, fresh_eqv h o hf, q1⟩, q2⟩

theorem Runs.bubble {R : Orc} {rl : RL} {o : AOp} {post : List AOp} : ∀ {pre : List AOp} {st stf : St}, Roots rl st → (∀ x ∈ pre, keepsPtr rl x = true) → (∀ x ∈ pre, indep rl x o = true) → Runs R (pre ++ o :: post) st stf →
    ∃ c W B, eff R st o = some (c, W, B) ∧ c ∧ fresh o st ∧ ∃ stf', Runs R (pre ++ post) (st.app W B) stf' ∧ Eqv stf stf'
  | [], st, stf, _, _, _, hr => by
    obtain ⟨c, W, B, e, hc, hf, hr⟩ := hr
    exact ⟨c, W, B, e, hc, hf, stf, hr, Eqv.refl _⟩
  | x :: pre, st, stf, hroot, hkp, hi, hr => by
    obtain ⟨c1, W1, B1, e1, hc1, hf1, hr⟩ := hr
    obtain ⟨c, W, B, e, hc, hf, stf', q1, q2⟩ := Runs.bubble (hroot.app e1 hf1 (hkp x (by simp))) (fun y hy => hkp y (by simp [hy])) (fun y hy => hi y (by simp [hy])) hr
    obtain ⟨s1, s2, s3, s4, s5⟩ := eff_swap hroot (hi x (by simp)) e1 hf1 e hf
    obtain ⟨stf2, r1, r2⟩ := q1.eqv s5
    exact ⟨c, W, B, s1, hc, s2, stf2, ⟨c1, W1, B1, s3, hc1, s4, r1⟩, q2.trans r2⟩

/-! ### a region whose order is drawn -/
def comesBefore (ops : Array Oper) : Nat → Nat → Nat → Bool
  | 0, _, _ => false
  | f + 1, j, i => match ops[i]? with
    | some o => o.after.toList.any fun e => Region.binds .any e && (e.on == j || comesBefore ops f j e.on)
    | none => false

def allNat (n : Nat) (p : Nat → Bool) : Bool := (List.range n).all p
theorem allNat_spec {n : Nat} {p : Nat → Bool} (h : allNat n p = true) : ∀ i, i < n → p i = true := fun i hi => List.all_eq_true.1 h i (List.mem_range.2 hi)

def edgesBack (ops : Array Oper) : Bool := allNat ops.size fun i => match ops[i]? with
  | some o => o.after.toList.all fun e => !Region.binds .any e || decide (e.on < i)
  | none => true

def Closed (ops : Array Oper) (listed : Array Bool) : Prop := ∀ i o, ops[i]? = some o → listed.getD i true = true → ∀ e ∈ o.after.toList, Region.binds .any e = true → listed.getD e.on false = true

/-- What must stand ahead, through others. -/
inductive Bef (ops : Array Oper) : Nat → Nat → Prop
  | one {i : Nat} {o : Oper} {e : Edge} : ops[i]? = some o → e ∈ o.after.toList → Region.binds .any e = true → Bef ops e.on i
  | more {i j : Nat} {o : Oper} {e : Edge} : ops[i]? = some o → e ∈ o.after.toList → Region.binds .any e = true → Bef ops j e.on → Bef ops j i
def addE (W n : Nat) : Nat → List Edge → Nat
  | M, [] => M
  | M, e :: r => addE W n (if Region.binds .any e && decide (e.on < W) then M ||| ((2 ^ e.on ||| ((M >>> (e.on * W)) % 2 ^ W)) <<< (n * W)) else M) r
def closeM (ops : Array Oper) (W : Nat) : Nat → Nat → Nat → Nat
  | 0, _, M => M
  | f + 1, n, M => closeM ops W f (n + 1) (match ops[n]? with | some o => addE W n M o.after.toList | none => M)
def MaskOK (ops : Array Oper) (W M : Nat) : Prop := ∀ i j, j < W → M.testBit (i * W + j) = true → Bef ops j i
theorem addE_ok {ops : Array Oper} {W n : Nat} {o : Oper} (ho : ops[n]? = some o) : ∀ (es : List Edge) (M : Nat), (∀ e ∈ es, e ∈ o.after.toList) → MaskOK ops W M → MaskOK ops W (addE W n M es)
  | [], M, _, h => h
  | e :: r, M, hes, h => by
    simp only [addE]
    refine addE_ok ho r _ (fun x hx => hes x (by simp [hx])) ?_
    split
    case isFalse => exact h
    rename_i hb
    simp only [Bool.and_eq_true, decide_eq_true_eq] at hb
    obtain ⟨hb, hlt⟩ := hb
    intro i j hj ht
    rw [Nat.testBit_or, Bool.or_eq_true] at ht
    rcases ht with ht | ht
    · exact h i j hj ht
    rw [Nat.testBit_shiftLeft, Bool.and_eq_true, decide_eq_true_eq] at ht
    obtain ⟨hge, ht⟩ := ht
    rw [Nat.testBit_or, Bool.or_eq_true] at ht
    have key : ∀ t, i * W + j - n * W = t → t < W → i = n ∧ j = t := by
      intro t e1 e2
      have e3 : i * W + j = n * W + t := by omega
      have hW : 0 < W := by omega
      have d1 : (i * W + j) / W = i := by rw [Nat.mul_comm, Nat.mul_add_div hW, Nat.div_eq_of_lt hj, Nat.add_zero]
      have d2 : (n * W + t) / W = n := by rw [Nat.mul_comm, Nat.mul_add_div hW, Nat.div_eq_of_lt e2, Nat.add_zero]
      have : i = n := by rw [← d1, ← d2, e3]
      subst this
      exact ⟨rfl, by omega⟩
    have hmem := hes e (by simp)
    rcases ht with ht | ht
    · rw [Nat.testBit_two_pow, decide_eq_true_eq] at ht
      have h1 : i * W + j - n * W = e.on := ht.symm
      obtain ⟨rfl, rfl⟩ := key _ h1 hlt
      exact .one ho hmem hb
    · rw [Nat.testBit_mod_two_pow, Bool.and_eq_true, decide_eq_true_eq, Nat.testBit_shiftRight] at ht
      obtain ⟨rfl, e2⟩ := key _ rfl ht.1
      rw [← e2] at ht
      exact .more ho hmem hb (h e.on j hj ht.2)
theorem closeM_ok {ops : Array Oper} {W : Nat} : ∀ (f n M : Nat), MaskOK ops W M → MaskOK ops W (closeM ops W f n M)
  | 0, n, M, h => h
  | f + 1, n, M, h => by
    simp only [closeM]
    refine closeM_ok f (n + 1) _ ?_
    split
    · rename_i o ho; exact addE_ok ho _ M (fun e he => he) h
    · exact h
theorem bef_listed {ops : Array Oper} {listed : Array Bool} (hsz : listed.size = ops.size) (hc : Closed ops listed) {j i : Nat} (hb : Bef ops j i) : ∀ o, ops[i]? = some o → (∀ e ∈ o.after.toList, Region.binds .any e = true → listed.getD e.on false = true) → listed.getD j false = true := by
  induction hb with
  | one ho hm hb => intro o' ho' hl; rw [ho] at ho'; cases ho'; exact hl _ hm hb
  | @more i j o e ho hm hb _ ih =>
    intro o' ho' hl
    rw [ho] at ho'; cases ho'
    have hle := hl e hm hb
    have hlt : e.on < ops.size := by
      rw [← hsz]
      apply Classical.byContradiction; intro q
      simp [Array.getD_eq_getD_getElem?, q] at hle
    have hlt' : e.on < listed.size := by omega
    have ho2 : ops[e.on]? = some ops[e.on] := by simp [hlt]
    exact ih _ ho2 (hc e.on _ ho2 (by simpa [Array.getD_eq_getD_getElem?, hlt'] using hle))
def inMask (ops : Array Oper) (j i : Nat) : Bool := decide (j < ops.size) && (closeM ops ops.size ops.size 0 0).testBit (i * ops.size + j)
theorem mask_listed {ops : Array Oper} {listed : Array Bool} (hsz : listed.size = ops.size) (hc : Closed ops listed) {j i : Nat} {o : Oper} (h : inMask ops j i = true) (ho : ops[i]? = some o) (hl : ∀ e ∈ o.after.toList, Region.binds .any e = true → listed.getD e.on false = true) : listed.getD j false = true := by
  simp only [inMask, Bool.and_eq_true, decide_eq_true_eq] at h
  exact bef_listed hsz hc (closeM_ok ops.size 0 0 (fun i j _ q => by simp at q) i j h.1 h.2) o ho hl

def drawOK (ops : Array Oper) (al : List AOp) (rl : RL) : Bool := edgesBack ops && al.all (keepsPtr rl) &&
  allNat ops.size fun i => allNat i fun j => indep rl (al.getD j default) (al.getD i default) || comesBefore ops 3 j i || inMask ops j i

/-- Slots that are pointed through, and where from. -/
def rootOf (al : List AOp) : Nat → Nat → Nat
  | 0, t => t
  | f + 1, t => match al.find? (fun o => o.dst == some t) with
    | some o => match o.k with
      | .faddr (.t q) _ => rootOf al f q
      | .mv (.t q) => rootOf al f q
      | .take q => rootOf al f q
      | .nilc (.t q) => rootOf al f q
      | _ => t
    | none => t
def chainOf (al : List AOp) : Nat → Nat → List Nat
  | 0, t => [t]
  | f + 1, t => match al.find? (fun o => o.dst == some t) with
    | some o => match o.k with
      | .faddr (.t q) _ => t :: chainOf al f q
      | .mv (.t q) => t :: chainOf al f q
      | .take q => t :: chainOf al f q
      | .nilc (.t q) => t :: chainOf al f q
      | _ => [t]
    | none => [t]
def rlOf (al : List AOp) : RL := ((al.filterMap AOp.ptr).flatMap (chainOf al 6)).eraseDups.map fun t => (t, rootOf al 6 t)


def pend (ops : Array Oper) (listed : Array Bool) : List Nat := (List.range ops.size).filter fun i => !listed.getD i true

theorem ready_spec {ops : Array Oper} {listed : Array Bool} {i : Nat} (h : i ∈ Region.ready .any ops listed) : i ∈ pend ops listed ∧ ∃ o, ops[i]? = some o ∧ ∀ e ∈ o.after.toList, Region.binds .any e = true → listed.getD e.on false = true := by
  simp only [Region.ready, List.mem_filter, Bool.and_eq_true] at h
  obtain ⟨h1, h2, h3⟩ := h
  refine ⟨List.mem_filter.2 ⟨h1, h2⟩, ?_⟩
  cases ho : ops[i]? with
  | none => simp [ho] at h3
  | some o =>
    refine ⟨o, rfl, fun e he hb => ?_⟩
    simp [ho] at h3
    obtain ⟨k, hk, hk2⟩ := List.mem_iff_getElem.1 he
    have := h3 k (by simpa using hk)
    simp at hk2
    rw [hk2] at this
    rcases this with q | q
    · rw [hb] at q; cases q
    · simpa using q

theorem before_listed {ops : Array Oper} {listed : Array Bool} (hsz : listed.size = ops.size) (hc : Closed ops listed) : ∀ (f j i : Nat) (o : Oper), ops[i]? = some o → (∀ e ∈ o.after.toList, Region.binds .any e = true → listed.getD e.on false = true) → comesBefore ops f j i = true → listed.getD j false = true
  | 0, j, i, o, _, _, h => by simp [comesBefore] at h
  | f + 1, j, i, o, ho, hl, h => by
    simp only [comesBefore, ho, List.any_eq_true, Bool.and_eq_true, Bool.or_eq_true, beq_iff_eq] at h
    obtain ⟨e, he, hb, h⟩ := h
    have hle := hl e he hb
    rcases h with h | h
    · rw [← h]; exact hle
    · have hlt : e.on < ops.size := by
        rw [← hsz]
        apply Classical.byContradiction; intro q
        simp [Array.getD_eq_getD_getElem?, q] at hle
      have ho2 : ops[e.on]? = some ops[e.on] := by simp [hlt]
      have hlt' : e.on < listed.size := by omega
      exact before_listed hsz hc f j e.on _ ho2 (hc e.on _ ho2 (by simpa [Array.getD_eq_getD_getElem?, hlt'] using hle)) h

end Go.Av

set_option linter.unusedSimpArgs false
namespace Go.Av
variable {P : Program} {w0 : World} {mu0 : Mem} {T : Tc} {g g' : Gh} {st st' : St} {a : Act} {w w' : World}

def gsOK (n : Nat) : Option (Nat × Bool) → Bool
  | none => true
  | some (s, _) => s < n
theorem gs_of {n : Nat} {gu : Option (Nat × Bool)} (h : gsOK n gu = true) : ∀ s b, gu = some (s, b) → s < n := by
  intro s b e; subst e; simpa [gsOK] using h

def consumes (d : Nat) (o : Oper) : Bool :=
  match o.op with
  | .assign (.tmp t) => t == d
  | .call { callee := .builtin .append, args := xs, .. } => match xs.toList with
    | .tmp t :: _ => t == d
    | _ => false
  | _ => false

def isApp (o : Oper) : Bool :=
  match o.op with
  | .call { callee := .builtin .append, .. } => true
  | _ => false
def isBsl (o : Oper) : Bool :=
  match o.op with
  | .buildSlice _ _ _ => true
  | _ => false
/-- Is what is moved here taken from where it was? -/
def tkOf (ops : Array Oper) (o : Oper) : Bool :=
  match o.op with
  | .load _ _ => o.guard.isNone && (match o.dst with | some d => ops.toList.any (fun q => isApp q && consumes d q) | none => false)
  | .store _ _ (.tmp t) => o.guard.isNone && ops.toList.any (fun q => q.dst == some t && (isApp q || isBsl q))
  | .move (.tmp t) => (match o.dst with | some d => ops.toList.any (consumes d) | none => false) || ops.toList.any (fun q => q.dst == some t)
  | _ => (match o.dst with | some d => ops.toList.any (consumes d) | none => false)
/-- In a drawn order: what is loaded and appended to is taken, and what was appended to is put back. -/
def tkD (ops : Array Oper) (o : Oper) : Bool :=
  match o.op with
  | .load _ _ => tkOf ops o
  | .store _ _ _ => tkOf ops o
  | .move (.tmp t) => o.guard.isNone && (match o.dst with | some d => ops.toList.any (fun q => isApp q && consumes d q) | none => false) && ops.toList.any (fun q => q.dst == some t)
  | _ => false
/-- In a drawn order: a pointer that a variable holds, which nothing here writes to. -/
def plOf (P : Program) (ops : Array Oper) (o : Oper) : Bool :=
  match o.op with
  | .load t (.tmp p) => o.guard.isNone && (match P.underlying t with | some (.pointer _) => true | _ => false) && ops.toList.all (fun q => q.dst != some p && (match q.op with | .store _ (.tmp p') _ => p' != p | _ => true))
  | _ => false
def compKP (P : Program) (o : Oper) : Option AK :=
  match o.op with
  | .load t x => match ldk P t, compO x with
    | some none, some a => some (.loadP a)
    | _, _ => none
  | _ => none
def compKD (P : Program) (ops : Array Oper) (o : Oper) : Option AK := if plOf P ops o = true then compKP P o else compK P (tkD ops o) o
theorem compKD_real {ops : Array Oper} {o : Oper} {k : AK} {gu : Option (Nat × Bool)} (c1 : compKD P ops o = some k) (c2 : compG ops o.guard = some gu) :
    ∃ tk' k', compK P tk' o = some k' ∧ ∀ (st : St) (K : St → Prop), AStep P st { dst := o.dst, guard := gu, k := k } K → AStep P st { dst := o.dst, guard := gu, k := k' } K := by
  unfold compKD at c1
  split at c1
  case isFalse => exact ⟨_, k, c1, fun _ _ h => h⟩
  rename_i hp
  unfold compKP at c1
  split at c1
  case h_2 => cases c1
  rename_i t x hop
  split at c1
  case h_2 => cases c1
  rename_i a h1 h2
  cases c1
  have hg : o.guard = none := by
    unfold plOf at hp
    rw [hop] at hp
    split at hp
    · simp only [Bool.and_eq_true, Option.isNone_iff_eq_none] at hp; exact hp.1.1
    · cases hp
  rw [hg] at c2
  simp only [compG, Option.some.injEq] at c2
  subst c2
  refine ⟨false, .load none a, by unfold compK; rw [hop]; simp [h1, h2], fun st K h => ?_⟩
  simp only [AStep, ev] at h ⊢
  obtain ⟨d, q1, q2, q3⟩ := h
  refine .inl ⟨trivial, d, q1, q2, ?_⟩
  simp only [gOf] at q3 ⊢
  generalize rdl st a = r at q3 ⊢
  obtain ⟨gx, lv⟩ := r
  cases lv <;> simp only at q3 ⊢ <;> try exact q3.elim
  exact q3
def compOpD (P : Program) (n : Nat) (ops : Array Oper) (o : Oper) : Option AOp :=
  match compKD P ops o, compG ops o.guard with
  | some k, some gu => if gsOK n gu then some { dst := o.dst, guard := gu, k := k } else none
  | _, _ => none
def compOpsD (P : Program) (n : Nat) (ops : Array Oper) : List Oper → Option (List AOp)
  | [] => some []
  | o :: r => match compOpD P n ops o, compOpsD P n ops r with
    | some a, some l => some (a :: l)
    | _, _ => none

theorem compOpsD_spec {n : Nat} {ops : Array Oper} : ∀ {l : List Oper} {al : List AOp}, compOpsD P n ops l = some al → ∀ (i : Nat) (o : Oper), l[i]? = some o →
    ∃ k gu, compKD P ops o = some k ∧ compG ops o.guard = some gu ∧ gsOK n gu = true ∧ al.getD i default = { dst := o.dst, guard := gu, k := k }
  | [], al, _, i, o, h => by simp at h
  | x :: l, al, hc, i, o, h => by
    simp only [compOpsD] at hc
    split at hc
    case h_2 => cases hc
    rename_i b al' hb hl
    cases hc
    cases i with
    | succ i => simpa using compOpsD_spec hl i o (by simpa using h)
    | zero =>
      simp at h; subst h
      simp only [compOpD] at hb
      split at hb
      case h_2 => cases hb
      rename_i k gu hk hg
      split at hb
      case isFalse => cases hb
      rename_i hgs
      cases hb
      exact ⟨k, gu, hk, hg, hgs, rfl⟩

theorem pend_set {ops : Array Oper} {listed : Array Bool} {i : Nat} (hi : i < listed.size) : pend ops (listed.setIfInBounds i true) = (pend ops listed).filter fun j => decide (j ≠ i) := by
  simp only [pend, List.filter_filter]
  congr 1
  funext j
  by_cases e : j = i
  · subst e; simp [Array.getD_eq_getD_getElem?, hi]
  · have : i ≠ j := fun q => e q.symm
    simp [Array.getD_eq_getD_getElem?, Array.getElem?_setIfInBounds, this, e]

theorem pend_sorted (ops : Array Oper) (listed : Array Bool) : (pend ops listed).Pairwise (· < ·) := List.Pairwise.filter _ List.pairwise_lt_range

theorem filter_ne_mid {l pre post : List Nat} {i : Nat} (hs : l.Pairwise (· < ·)) (h : l = pre ++ i :: post) : (l.filter fun j => decide (j ≠ i)) = pre ++ post ∧ (∀ x ∈ pre, x < i) := by
  subst h
  rw [List.pairwise_append] at hs
  obtain ⟨h1, h2, h3⟩ := hs
  rw [List.pairwise_cons] at h2
  have hp : ∀ x ∈ pre, x < i := fun x hx => h3 x hx i (by simp)
  refine ⟨?_, hp⟩
  rw [List.filter_append, List.filter_cons]
  have e1 : pre.filter (fun j => decide (j ≠ i)) = pre := List.filter_eq_self.2 fun x hx => by have := hp x hx; simp; omega
  have e2 : post.filter (fun j => decide (j ≠ i)) = post := List.filter_eq_self.2 fun x hx => by have := h2.1 x hx; simp; omega
  rw [e1, e2]; simp

theorem Closed.set {ops : Array Oper} {listed : Array Bool} (hc : Closed ops listed) (hsz : listed.size = ops.size) {i : Nat} {o : Oper} (ho : ops[i]? = some o) (hl : ∀ e ∈ o.after.toList, Region.binds .any e = true → listed.getD e.on false = true) :
    Closed ops (listed.setIfInBounds i true) := by
  have up : ∀ k, listed.getD k false = true → (listed.setIfInBounds i true).getD k false = true := by
    intro k hk
    by_cases q : i = k
    · subst q
      have : i < listed.size := by
        apply Classical.byContradiction; intro q; simp [Array.getD_eq_getD_getElem?, q] at hk
      simp [Array.getD_eq_getD_getElem?, this]
    · simpa [Array.getD_eq_getD_getElem?, Array.getElem?_setIfInBounds, q] using hk
  intro k o' ho' hk e he hb
  by_cases q : i = k
  · subst q; rw [ho] at ho'; cases ho'; exact up _ (hl e he hb)
  · refine up _ (hc k o' ho' ?_ e he hb)
    simpa [Array.getD_eq_getD_getElem?, Array.getElem?_setIfInBounds, q] using hk

theorem any_ok {R : Orc} (hR : R.ok P) {n : Nat} {ops : Array Oper} {al : List AOp} {rl : RL} (hal : compOpsD P n ops ops.toList = some al) (hd : drawOK ops al rl = true) {stf : St} {Q' : Exit → Act → World → Prop}
    (hQ : ∀ g st a w, Sim w0 mu0 T g st a w → st.n = n → Eqv stf st → Q' .normal a w) : ∀ (fuel : Nat) (listed : Array Bool) (g : Gh) (st stx : St) (a : Act) (w : World),
    listed.size = ops.size → Roots rl st → Closed ops listed → (pend ops listed).length = fuel → Sim w0 mu0 T g st a w → st.n = n → Runs R ((pend ops listed).map fun i => al.getD i default) st stx → Eqv stf stx → wpAny P .any ops Q' fuel listed a w
  | 0, listed, g, st, stx, a, w, hsz, hroot, hc, hlen, hs, hn, hr, he => by
    have hp : pend ops listed = [] := List.length_eq_zero_iff.1 hlen
    rw [hp] at hr
    cases hr
    refine ⟨?_, hQ g st a w hs hn he⟩
    cases hrd : Region.ready .any ops listed with
    | nil => rfl
    | cons i r =>
      have := (ready_spec (i := i) (by rw [hrd]; simp)).1
      rw [hp] at this; simp at this
  | fuel + 1, listed, g, st, stx, a, w, hsz, hroot, hc, hlen, hs, hn, hr, he => by
    have hd0 := hd
    simp only [drawOK, Bool.and_eq_true] at hd
    obtain ⟨⟨hd1, hkp⟩, hd2⟩ := hd
    refine ⟨fun hnil => ?_, fun i hi => ?_⟩
    · exfalso
      cases hp : pend ops listed with
      | nil => rw [hp] at hlen; simp at hlen
      | cons i r =>
        have hmem : i ∈ pend ops listed := by rw [hp]; simp
        obtain ⟨hir, hnl⟩ := List.mem_filter.1 hmem
        have hlt : i < ops.size := List.mem_range.1 hir
        have hsort := pend_sorted ops listed
        rw [hp, List.pairwise_cons] at hsort
        have hready : i ∈ Region.ready .any ops listed := by
          simp only [Region.ready, List.mem_filter, Bool.and_eq_true]
          refine ⟨hir, hnl, ?_⟩
          have ho : ops[i]? = some ops[i] := by simp [hlt]
          rw [ho]
          simp only [Option.map_some, Option.getD_some]
          rw [Array.all_eq_true]
          intro k hk
          have hb := allNat_spec hd1 i hlt
          rw [ho] at hb
          have hon := List.all_eq_true.1 hb (ops[i].after[k]) (by simp)
          cases hbd : Region.binds .any ops[i].after[k] with
          | false => rfl
          | true =>
          simp only [hbd, Bool.not_true, Bool.false_or, decide_eq_true_eq] at hon
          have hlsz : ops[i].after[k].on < listed.size := by omega
          have : listed.getD ops[i].after[k].on false = true := by
            apply Classical.byContradiction; intro q
            have hin : ops[i].after[k].on ∈ pend ops listed := List.mem_filter.2 ⟨List.mem_range.2 (by omega), by
              simp [Array.getD_eq_getD_getElem?, hlsz] at q ⊢; exact q⟩
            rw [hp] at hin
            rcases List.mem_cons.1 hin with q' | q'
            · omega
            · have := hsort.1 _ q'; omega
          rw [this]; simp
        rw [hnil] at hready; simp at hready
    · obtain ⟨hp, o, ho, hl⟩ := ready_spec hi
      obtain ⟨pre, post, hsplit⟩ := List.append_of_mem hp
      obtain ⟨hf1, hf2⟩ := filter_ne_mid (pend_sorted ops listed) hsplit
      have hlt : i < ops.size := List.mem_range.1 (List.mem_filter.1 hp).1
      obtain ⟨k, gu, c1, c2, c3, c4⟩ := compOpsD_spec hal i o (by simpa using ho)
      rw [hsplit, List.map_append, List.map_cons] at hr
      have hkp' : ∀ j, keepsPtr rl (al.getD j default) = true := by
        intro j
        by_cases q : j < al.length
        · rw [List.getD_eq_getElem?_getD, List.getElem?_eq_getElem q]
          exact List.all_eq_true.1 hkp _ (List.getElem_mem q)
        · rw [List.getD_eq_getElem?_getD, List.getElem?_eq_none (by omega)]
          rfl
      have hind : ∀ x ∈ pre.map (fun i => al.getD i default), indep rl x (al.getD i default) = true := by
        intro x hx
        obtain ⟨j, hj, rfl⟩ := List.mem_map.1 hx
        have hji := hf2 j hj
        have := allNat_spec (allNat_spec hd2 i hlt) j hji
        rw [Bool.or_eq_true, Bool.or_eq_true] at this
        rcases this with (q | q) | q
        · exact q
        all_goals
          exfalso
          have h1 : listed.getD j false = true := by first | exact before_listed hsz hc 3 j i o ho hl q | exact mask_listed hsz hc q ho hl
          have h2 : j ∈ pend ops listed := by rw [hsplit]; simp [hj]
          have h3 := (List.mem_filter.1 h2).2
          have hjl : j < listed.size := by omega
          simp [Array.getD_eq_getD_getElem?, hjl] at h1 h3
          rw [h1] at h3; cases h3
      obtain ⟨c, W, B, e1, e2, e3, stf', q1, q2⟩ := Runs.bubble hroot (fun x hx => by obtain ⟨j, _, rfl⟩ := List.mem_map.1 hx; exact hkp' j) hind hr
      have hstep : AStep P st (al.getD i default) fun st' => Roots rl st' ∧ ∃ s2, Runs R ((pre ++ post).map fun i => al.getD i default) st' s2 ∧ Eqv stf s2 :=
        eff_step hR e1 e2 e3 ⟨hroot.app e1 e3 (hkp' i), stf', by rw [List.map_append]; exact q1, he.trans q2⟩
      rw [c4] at hstep
      obtain ⟨tk', k', c1', hK⟩ := compKD_real c1 c2
      have hstep := hK _ _ hstep
      have hmain := step_ok (ops := ops) (o := o) (tk := tk') (ao := { dst := o.dst, guard := gu, k := k' }) (K' := wpAny P .any ops Q' fuel (listed.setIfInBounds i true)) (Q := Q') c1' rfl c2 (by rw [hn]; exact gs_of c3) hs hstep
        (fun g' st' a' w' hs' hn' hK => by
          obtain ⟨hroot', s2, r1, r2⟩ := hK
          have hps : pend ops (listed.setIfInBounds i true) = pre ++ post := by rw [pend_set (by omega), hf1]
          refine any_ok hR hal hd0 hQ fuel _ g' st' s2 a' w' (by simpa using hsz) hroot' (hc.set hsz ho hl) ?_ hs' (hn'.trans hn) (by rw [hps]; exact r1) r2
          rw [hps]
          rw [hsplit] at hlen
          simp at hlen ⊢; omega)
      unfold wpOp
      rw [ho]
      show if Region.wanted o (yielded ops a.tmps) = true then _ else _
      split
      · rename_i hw; rw [if_pos hw] at hmain; exact .inl hmain
      · rename_i hw; rw [if_neg hw] at hmain; exact hmain

theorem Sim.eqv (h : Sim w0 mu0 T g st a w) (e : Eqv st' st) : Sim w0 mu0 T g st' a w := h.congr e.n.symm (fun t => (e.sl t).symm) (fun t => (e.bx t).symm) e.hp.symm

theorem draw_ok {R : Orc} (hR : R.ok P) (hm : P.follows .mixedOrders = true) {n id : Nat} {ops : Array Oper} {al : List AOp} {rl : RL} (hal : compOpsD P n ops ops.toList = some al) (hd : drawOK ops al rl = true) {stf : St} {c : Prop}
    {Q' : Exit → Act → World → Prop} (hQ : ∀ g a w, Sim w0 mu0 T g stf a w → stf.n = n → Q' .normal a w) (hs : Sim w0 mu0 T g st a w) (hn : st.n = n) (hroot : rootsOK rl st) (hr : runR R al st True = some (c, stf)) (hc : c) :
    (Code.region id ops true).wp P Q' a w := by
  refine wp_region_any hm ?_
  have hlist : (pend ops (Array.replicate ops.size false)) = List.range ops.size := by
    apply List.filter_eq_self.2
    intro i hi
    have := List.mem_range.1 hi
    simp [Array.getD_eq_getD_getElem?, this]
  have hlen : al.length = ops.size := by
    have : ∀ {l : List Oper} {al : List AOp}, compOpsD P n ops l = some al → al.length = l.length := by
      intro l
      induction l with
      | nil => intro al h; cases h; rfl
      | cons o l ih =>
        intro al h
        simp only [compOpsD] at h
        split at h
        case h_2 => cases h
        rename_i h2
        cases h
        simp [ih h2]
    simpa using this hal
  have hmap : (List.range ops.size).map (fun i => al.getD i default) = al := by
    apply List.ext_getElem
    · simp [hlen]
    · intro i h1 h2; simp [List.getD_eq_getElem?_getD, h2]
  refine any_ok hR hal hd (stf := stf) (fun g st a w h1 h2 h3 => hQ g a w (h1.eqv h3) (h3.n.symm.trans h2)) ops.size _ g st stf a _ (by simp) hroot.roots ?_ (by rw [hlist]; simp) hs.drew hn ?_ (Eqv.refl _)
  · intro i o ho hl
    have : i < ops.size := by
      apply Classical.byContradiction; intro q; simp [q] at ho
    simp [Array.getD_eq_getD_getElem?, this] at hl
  · rw [hlist, hmap]; exact (runs_of hr hc).2
end Go.Av

set_option linter.unusedSimpArgs false
namespace Go.Av
variable {P : Program} {w0 : World} {mu0 : Mem} {T : Tc} {g g' : Gh} {st st' : St} {a : Act} {w w' : World}

inductive AC where
  | skip
  | seq (a b : AC)
  | reg (l : List AOp)
  | dreg (rl : RL) (l : List AOp)
  | frz (l : List Nat)
  | cond (x : AO) (a b : AC)
  | block (id : Nat) (b : AC)
  | loop (b : AC)
  | rfunc (x : AO) (ps : List Nat) (a b : AC)
  | exit (id : Nat)
  | ret
  deriving Inhabited

inductive AEx where
  | normal
  | exit (id : Nat)
  | ret

def AOps (P : Program) : List AOp → St → (St → Prop) → Prop
  | [], st, K => K st
  | o :: r, st, K => AStep P st o fun st' => AOps P r st' K

/-- Less is known of a cell. -/
def WkC : SV → SV → Prop
  | _, .undef => True
  | .nils, .sl _ xs => xs = []
  | a, b => a = b
def WkCs : List SV → List SV → Prop
  | [], [] => True
  | a :: r, b :: s => WkC a b ∧ WkCs r s
  | _, _ => False
@[simp] theorem WkC_refl (a : SV) : WkC a a := by cases a <;> first | exact trivial | exact rfl
@[simp] theorem WkCs_refl : ∀ l : List SV, WkCs l l
  | [] => trivial
  | a :: l => ⟨WkC_refl a, WkCs_refl l⟩
theorem WkC.rep {mu : Mem} {x y : SV} {val : Value} (h : WkC x y) (hr : Rep mu x val) : Rep mu y val := by
  unfold WkC at h
  split at h
  · exact .undef _
  · subst h; rw [Rep.inv_nils hr]; exact .slnil _
  · subst h; exact hr
theorem WkCs.spec : ∀ {l m : List SV}, WkCs l m → l.length = m.length ∧ ∀ j, j < m.length → WkC (l.getD j .undef) (m.getD j .undef)
  | [], [], _ => ⟨rfl, fun j hj => by simp at hj⟩
  | a :: l, b :: m, h => by
    obtain ⟨h1, h2⟩ := h
    obtain ⟨e1, e2⟩ := WkCs.spec h2
    refine ⟨by simp [e1], fun j hj => ?_⟩
    cases j with
    | zero => simpa using h1
    | succ j => simpa using e2 j (by simpa using hj)
  | [], _ :: _, h => h.elim
  | _ :: _, [], h => h.elim
theorem WkCs.rep {mu : Mem} {l m : List SV} {val : Value} (h : WkCs l m) (hr : Rep mu (.agg l) val) : Rep mu (.agg m) val := by
  obtain ⟨e1, e2⟩ := h.spec
  cases hr with
  | agg _ vs h1 h2 => exact .agg m vs (h1.trans e1) (fun j hj => (e2 j hj).rep (h2 j (by omega)))

/-- Less is known. -/
def WkL : LV → LV → Prop
  | _, .sv .undef => True
  | .own sz xs, .sv (.sl sz' xs') => sz = sz' ∧ xs = xs'
  | .own sz xs, .own sz' xs' => sz = sz' ∧ xs = xs'
  | .sv .nils, .own _ xs => xs = []
  | .sv .nils, .sv (.sl _ xs) => xs = []
  | .sv (.agg l), .sv (.agg m) => WkCs l m
  | a, b => a = b
def WkR : RV → RV → Prop
  | _, .sv .undef => True
  | .own sz xs, .sv (.sl sz' xs') => sz = sz' ∧ xs = xs'
  | .sv .nils, .own _ xs => xs = []
  | .sv .nils, .sv (.sl _ xs) => xs = []
  | .sv (.agg l), .sv (.agg m) => WkCs l m
  | a, b => a = b
def WkRs : List RV → List RV → Prop
  | [], [] => True
  | a :: r, b :: s => WkR a b ∧ WkRs r s
  | _, _ => False
def WkS (st : St) : List (Nat × LV) → Prop
  | [] => True
  | (s, v) :: r => WkL (lk st.sl s) v ∧ WkS st r
def WkB (st : St) : List (Nat × List RV) → Prop
  | [] => True
  | (s, c) :: r => (∃ c', lkb st.bx s = some c' ∧ WkRs c' c) ∧ WkB st r
def Wk (st st' : St) : Prop := st'.n = st.n ∧ st'.hp = st.hp ∧ WkS st st'.sl ∧ WkB st st'.bx

/-- A box that may be there is written to no more. -/
def FrzP (st : St) (s : Nat) : Prop := match lkb st.bx s with
  | some c => s ≠ 0 ∧ s < st.n ∧ (shareB c).all SV.isCell = true
  | none => True
theorem Sim.frzP (h : Sim w0 mu0 T g st a w) {s : Nat} (hf : FrzP st s) : ∃ g', Sim w0 mu0 T g' (st.frz s) a w := by
  unfold FrzP at hf
  cases hc : lkb st.bx s with
  | none => exact ⟨g, by simpa [St.frz, hc] using h⟩
  | some c =>
    rw [hc] at hf
    exact h.freeze ⟨hf.1, hf.2.1, by rw [hc]; exact hf.2.2⟩
/-- The boxes that these slots point to are written to no more. -/
def frzAll : List Nat → St → (St → Prop) → Prop
  | [], st, K => K st
  | s :: r, st, K => match ptrTo st s with
    | some b => FrzP st b ∧ frzAll r (st.frz b) K
    | none => frzAll r st K
theorem frzAll.mono {K K' : St → Prop} (hk : ∀ st, K st → K' st) : ∀ {l : List Nat} {st : St}, frzAll l st K → frzAll l st K'
  | [], st, h => hk _ h
  | s :: r, st, h => by
    simp only [frzAll] at h ⊢
    split at h
    · exact ⟨h.1, frzAll.mono hk h.2⟩
    · exact frzAll.mono hk h
theorem frz_n (st : St) (s : Nat) : (st.frz s).n = st.n := by unfold St.frz; split <;> rfl
theorem Sim.frzAll : ∀ {l : List Nat} {g : Gh} {st : St} {K : St → Prop}, Sim w0 mu0 T g st a w → Av.frzAll l st K → ∃ g' st', Sim w0 mu0 T g' st' a w ∧ st'.n = st.n ∧ K st'
  | [], g, st, K, h, hk => ⟨g, st, h, rfl, hk⟩
  | s :: r, g, st, K, h, hk => by
    simp only [Av.frzAll] at hk
    split at hk
    · obtain ⟨g1, h1⟩ := h.frzP hk.1
      obtain ⟨g', st', q1, q2, q3⟩ := h1.frzAll hk.2
      exact ⟨g', st', q1, q2.trans (frz_n _ _), q3⟩
    · exact h.frzAll hk

def awp (P : Program) : AC → (AEx → St → Prop) → St → Prop
  | .skip, Q, st => Q .normal st
  | .seq x y, Q, st => awp P x (fun e st' => match e with | .normal => awp P y Q st' | e => Q e st') st
  | .reg l, Q, st => AOps P l st (Q .normal)
  | .dreg rl l, Q, st => rootsOK rl st ∧ ∃ R c st', Orc.ok P R ∧ runR R l st True = some (c, st') ∧ c ∧ Q .normal st'
  | .frz l, Q, st => Q .normal st ∨ frzAll l st (Q .normal)
  | .cond x y z, Q, st => match rd st x with
    | some (c, .bool b) => c = true ∧ (b = true → awp P y Q st) ∧ (b = false → awp P z Q st)
    | some (c, .anyb) => c = true ∧ awp P y Q st ∧ awp P z Q st
    | _ => False
  | .block id x, Q, st => awp P x (fun e st' => match e with | .exit id' => if id' = id then Q .normal st' else Q (.exit id') st' | e => Q e st') st
  | .loop x, Q, st => ∃ I : Nat → St → Prop, (∃ n st', Wk st st' ∧ I n st') ∧ ∀ n st, I n st → awp P x (fun e st' => match e with | .normal => ∃ m st'', m < n ∧ Wk st' st'' ∧ I m st'' | e => Q e st') st
  | .rfunc _ _ _ _, _, _ => False
  | .exit id, Q, st => Q (.exit id) st
  | .ret, Q, st => Q .ret st

/-! ### the translation -/
def compOp (P : Program) (n : Nat) (ops : Array Oper) (o : Oper) : Option AOp :=
  let tk := tkOf ops o
  match compK P tk o, compG ops o.guard with
  | some k, some gu => if gsOK n gu then some { dst := o.dst, guard := gu, k := k } else none
  | _, _ => none

def compOps (P : Program) (n : Nat) (ops : Array Oper) : List Oper → Option (List AOp)
  | [] => some []
  | o :: r => match compOp P n ops o, compOps P n ops r with
    | some a, some l => some (a :: l)
    | _, _ => none

def capsOf : List AOp → List Nat
  | [] => []
  | o :: r => (match o.k with | .mkfn _ _ l => (l.map AO.rs).flatten | _ => []) ++ capsOf r
def wrapF (al : List AOp) (c : AC) : AC := match capsOf al with
  | [] => c
  | l => .seq (.frz l) c
theorem wrapF_ok {al : List AOp} {c : AC} {Q : AEx → St → Prop} (h : Sim w0 mu0 T g st a w) (hs : awp P (wrapF al c) Q st) : ∃ g' st', Sim w0 mu0 T g' st' a w ∧ st'.n = st.n ∧ awp P c Q st' := by
  unfold wrapF at hs
  split at hs
  · exact ⟨g, st, h, rfl, hs⟩
  · simp only [awp] at hs
    rcases hs with hs | hs
    · exact ⟨g, st, h, rfl, hs⟩
    · exact h.frzAll hs

def comp (P : Program) (n : Nat) : Code → Option AC
  | .skip => some .skip
  | .region _ ops false => (compOps P n ops ops.toList).map fun al => wrapF al (.reg al)
  | .region _ ops true => match compOpsD P n ops ops.toList with
    | some al => if P.follows .mixedOrders = true ∧ drawOK ops al [] = true then some (wrapF al (.dreg [] al)) else if P.follows .mixedOrders = true ∧ drawOK ops al (rlOf al) = true then some (wrapF al (.dreg (rlOf al) al)) else none
    | none => none
  | .seq x y => match comp P n x, comp P n y with
    | some a, some b => some (.seq a b)
    | _, _ => none
  | .cond x y z => match compO x, comp P n y, comp P n z with
    | some o, some a, some b => some (.cond o a b)
    | _, _, _ => none
  | .block id x => (comp P n x).map (.block id)
  | .loop x => (comp P n x).map .loop
  | .rangeFunc gx ps x y => match compO gx, comp P n x, comp P n y with
    | some o, some a, some b => some (.rfunc o ps.toList a b)
    | _, _, _ => none
  | .exit id => some (.exit id)
  | .ret => some .ret
  | _ => none

/-- What is behind a piece of code: one of the abstract ends. -/
def Post (w0 : World) (mu0 : Mem) (T : Tc) (n : Nat) (Q : AEx → St → Prop) : Exit → Act → World → Prop
  | .normal, a, w => ∃ g st, Sim w0 mu0 T g st a w ∧ st.n = n ∧ Q .normal st
  | .exit id, a, w => ∃ g st, Sim w0 mu0 T g st a w ∧ st.n = n ∧ Q (.exit id) st
  | .ret, a, w => ∃ g st, Sim w0 mu0 T g st a w ∧ st.n = n ∧ Q .ret st
  | _, _, _ => False

theorem ops_ok {n : Nat} {ops : Array Oper} {Q : AEx → St → Prop} {Q' : Exit → Act → World → Prop} (hQ : ∀ g st a w, Sim w0 mu0 T g st a w → st.n = n → Q .normal st → Q' .normal a w) : ∀ (l : List Oper) (al : List AOp) (g : Gh) (st : St) (a : Act) (w : World),
    compOps P n ops l = some al → Sim w0 mu0 T g st a w → st.n = n → AOps P al st (Q .normal) → wpList P ops Q' l a w
  | [], al, g, st, a, w, hc, h, hn, hs => by cases hc; exact hQ g st a w h hn hs
  | o :: l, al, g, st, a, w, hc, h, hn, hs => by
    simp only [compOps] at hc
    split at hc
    case h_2 => cases hc
    rename_i ao al' ho hl
    cases hc
    simp only [compOp] at ho
    split at ho
    case h_2 => cases ho
    rename_i k gu hk hg
    split at ho
    case isFalse => cases ho
    rename_i hgs
    cases ho
    refine wpList_step fun K hK => ?_
    refine step_ok (ao := { dst := o.dst, guard := gu, k := k }) hk rfl hg (by rw [hn]; exact gs_of hgs) h hs (fun g' st' a' w' hsim hn' hK' => hK _ _ ?_)
    exact ops_ok hQ l al' g' st' a' w' hl hsim (hn'.trans hn) hK'

theorem WkL.rep {s : Nat} {x y : LV} {val : Value} (h : WkL x y) (hr : RepL g w s x val) : RepL g w s y val := by
  unfold WkL at h
  split at h
  · exact .undef _
  · obtain ⟨rfl, rfl⟩ := h; exact OwnAt.share (g := g) hr
  · obtain ⟨rfl, rfl⟩ := h; exact hr
  · subst h; rw [Rep.inv_nils hr]; exact .inl ⟨.slnil _, rfl⟩
  · subst h; rw [Rep.inv_nils hr]; exact Rep.slnil _
  · exact WkCs.rep h hr
  · subst h; exact hr
theorem WkR.rep {p : Place} {x y : RV} {val : Value} (h : WkR x y) (hr : RepR g w p x val) : RepR g w p y val := by
  unfold WkR at h
  split at h
  · exact .undef _
  · obtain ⟨rfl, rfl⟩ := h; exact OwnAt.share (g := g) hr
  · subst h; rw [Rep.inv_nils hr]; exact .inl ⟨.slnil _, rfl⟩
  · subst h; rw [Rep.inv_nils hr]; exact Rep.slnil _
  · exact WkCs.rep h hr
  · subst h; exact hr
theorem WkRs.spec : ∀ {l m : List RV}, WkRs l m → l.length = m.length ∧ ∀ j, j < m.length → WkR (l.getD j (.sv .undef)) (m.getD j (.sv .undef))
  | [], [], _ => ⟨rfl, fun j hj => by simp at hj⟩
  | a :: l, b :: m, h => by
    obtain ⟨h1, h2⟩ := h
    obtain ⟨e1, e2⟩ := WkRs.spec h2
    refine ⟨by simp [e1], fun j hj => ?_⟩
    cases j with
    | zero => simpa using h1
    | succ j => simpa using e2 j (by simpa using hj)
  | [], _ :: _, h => h.elim
  | _ :: _, [], h => h.elim

theorem WkS.spec {st : St} : ∀ {l : List (Nat × LV)}, WkS st l → ∀ s, WkL (lk st.sl s) (lk l s)
  | [], _, s => by simp [lk, WkL]
  | (t, v) :: l, h, s => by
    simp only [lk]
    split
    · rename_i e; subst e; exact h.1
    · exact WkS.spec h.2 s
theorem WkB.spec {st : St} : ∀ {l : List (Nat × List RV)}, WkB st l → ∀ s c, lkb l s = some c → ∃ c', lkb st.bx s = some c' ∧ WkRs c' c
  | [], _, s, c, e => by simp [lkb] at e
  | (t, v) :: l, h, s, c, e => by
    simp only [lkb] at e
    split at e
    · rename_i q; subst q; cases e; exact h.1
    · exact WkB.spec h.2 s c e

theorem Sim.wk (h : Sim w0 mu0 T g st a w) (hw : Wk st st') : Sim w0 mu0 T g st' a w := by
  obtain ⟨h1, h2, h3, h4⟩ := hw
  constructor
  · rw [h1]; exact h.size
  · exact h.defers
  · intro s; exact (h3.spec s).rep (h.slots s)
  · intro s c hc
    obtain ⟨c', e1, e2⟩ := h4.spec s c hc
    obtain ⟨b, hb, k1, k2, k3, cc, e, fr, k4, k5, k6, k7⟩ := h.boxes s c' e1
    obtain ⟨f1, f2⟩ := e2.spec
    exact ⟨b, hb, k1, k2, k3, cc, e, fr, k4, k5, by rw [← f1]; exact k6, fun j hj => (f2 j hj).rep (k7 j (by rw [f1]; exact hj))⟩
  · exact h.bxinj
  · rw [h2]; exact h.heap
  · exact h.mem
  · exact h.mem0
  · exact h.mule
  · exact h.ext
  · exact h.okx
  · exact h.xlt
  · exact h.blt
  · exact h.bxx
  · exact h.okb
  · intro s b hb; rw [h1]; exact h.pin s b hb

theorem awp_ok {n : Nat} : ∀ (c : Code) (ac : AC) (Q : AEx → St → Prop) (g : Gh) (st : St) (a : Act) (w : World), comp P n c = some ac → Sim w0 mu0 T g st a w → st.n = n → awp P ac Q st → c.wp P (Post w0 mu0 T n Q) a w
  | .skip, ac, Q, g, st, a, w, hc, h, hn, hs => by cases hc; exact wp_skip ⟨g, st, h, hn, hs⟩
  | .ret, ac, Q, g, st, a, w, hc, h, hn, hs => by cases hc; exact wp_ret ⟨g, st, h, hn, hs⟩
  | .exit id, ac, Q, g, st, a, w, hc, h, hn, hs => by cases hc; exact wp_exit ⟨g, st, h, hn, hs⟩
  | .region id ops draw, ac, Q, g, st, a, w, hc, h, hn, hs => by
    cases draw with
    | true =>
      simp only [comp] at hc
      split at hc
      case h_2 => cases hc
      rename_i al hal
      have fin : ∀ rl : RL, P.follows .mixedOrders = true ∧ drawOK ops al rl = true → ac = wrapF al (.dreg rl al) → (Code.region id ops true).wp P (Post w0 mu0 T n Q) a w := by
        intro rl hcond e
        subst e
        obtain ⟨g1, st1, h1, hn1, hs⟩ := wrapF_ok h hs
        obtain ⟨hroot, R, cc, stf, hR, hr, hcc, hq⟩ := hs
        exact draw_ok hR hcond.1 hal hcond.2 (stf := stf) (fun g' a' w' h1 h2 => ⟨g', stf, h1, h2, hq⟩) h1 (hn1.trans hn) hroot hr hcc
      split at hc
      · rename_i hcond
        cases hc
        exact fin _ hcond rfl
      · split at hc
        case isFalse => cases hc
        rename_i hcond
        cases hc
        exact fin _ hcond rfl
    | false =>
      simp only [comp] at hc
      obtain ⟨al, hal, rfl⟩ := opt_map_some hc
      obtain ⟨g1, st1, h1, hn1, hs⟩ := wrapF_ok h hs
      exact wp_region_list (ops_ok (Q := Q) (fun g st a w h hn hq => ⟨g, st, h, hn, hq⟩) ops.toList al g1 st1 a w hal h1 (hn1.trans hn) hs)
  | .seq x y, ac, Q, g, st, a, w, hc, h, hn, hs => by
    simp only [comp] at hc
    split at hc
    case h_2 => cases hc
    rename_i a1 a2 h1 h2
    cases hc
    refine wp_seq (wp_mono (awp_ok x a1 _ g st a w h1 h hn hs) fun e a' w' hp => ?_)
    cases e with
    | normal => obtain ⟨g', st', q1, q2, q3⟩ := hp; exact awp_ok y a2 Q g' st' a' w' h2 q1 q2 q3
    | exit id => exact hp
    | ret => exact hp
    | _ => exact hp
  | .cond x y z, ac, Q, g, st, a, w, hc, h, hn, hs => by
    simp only [comp] at hc
    split at hc
    case h_2 => cases hc
    rename_i o a1 a2 h1 h2 h3
    cases hc
    simp only [awp] at hs
    split at hs
    case h_3 => exact hs.elim
    · rename_i c b hb
      obtain ⟨rfl, hy, hz⟩ := hs
      have := (rd_rep h h1 hb).inv_bool
      exact wp_cond_split this (fun e => awp_ok y a1 Q g st a w h2 h hn (hy e)) (fun e => awp_ok z a2 Q g st a w h3 h hn (hz e))
    · rename_i c hb
      obtain ⟨rfl, hy, hz⟩ := hs
      obtain ⟨b, this⟩ := (rd_rep h h1 hb).inv_anyb
      exact wp_cond_split this (fun _ => awp_ok y a1 Q g st a w h2 h hn hy) (fun _ => awp_ok z a2 Q g st a w h3 h hn hz)
  | .block id x, ac, Q, g, st, a, w, hc, h, hn, hs => by
    simp only [comp] at hc
    obtain ⟨a1, h1, rfl⟩ := opt_map_some hc
    refine wp_block (wp_mono (awp_ok x a1 _ g st a w h1 h hn hs) fun e a' w' hp => ?_)
    cases e with
    | normal => exact hp
    | exit id' =>
      simp only [Exit.inBlock]
      obtain ⟨g', st', q1, q2, q3⟩ := hp
      simp only [] at q3
      split
      · rename_i e; rw [if_pos e] at q3; exact ⟨g', st', q1, q2, q3⟩
      · rename_i e; rw [if_neg e] at q3; exact ⟨g', st', q1, q2, q3⟩
    | ret => exact hp
    | _ => exact hp
  | .loop x, ac, Q, g, st, a, w, hc, h, hn, hs => by
    simp only [comp] at hc
    obtain ⟨a1, h1, rfl⟩ := opt_map_some hc
    obtain ⟨I, ⟨m0, st0, hw0, hI0⟩, hround⟩ := hs
    intro b k cs
    have key : ∀ (m : Nat) (g : Gh) (st : St) (a : Act) (w : World), Sim w0 mu0 T g st a w → st.n = n → I m st →
        ∃ e a' w', Post w0 mu0 T n Q e a' w' ∧ Arrives P (lone (b.at a (.code x :: .inLoop x :: k)) cs w) b k cs e a' w' := by
      intro m
      induction m using Nat.strongRecOn with
      | _ m ih =>
        intro g st a w h hn hI
        obtain ⟨e, a', w', hp, harr⟩ := awp_ok x a1 _ g st a w h1 h hn (hround m st hI) b (.inLoop x :: k) cs
        cases e with
        | normal =>
          obtain ⟨g', st', q1, q2, m', st'', hlt, hwk, hI'⟩ := hp
          obtain ⟨e2, a2, w2, r1, r2⟩ := ih m' hlt g' st'' a' w' (q1.wk hwk) (hwk.1.trans q2) hI'
          exact ⟨e2, a2, w2, r1, .of_steps (Steps.trans harr (.one step_inLoop)) r2⟩
        | exit id => obtain ⟨g', st', q1, q2, q3⟩ := hp; exact ⟨.exit id, a', w', ⟨g', st', q1, q2, q3⟩, .pass (x := .inLoop x) rfl (fun _ _ => .inl (by simp)) harr⟩
        | ret => obtain ⟨g', st', q1, q2, q3⟩ := hp; exact ⟨.ret, a', w', ⟨g', st', q1, q2, q3⟩, .pass (x := .inLoop x) rfl (fun _ _ => .inl (by simp)) harr⟩
        | goto l => exact hp.elim
        | panic ch => exact hp.elim
        | outgrown => exact hp.elim
    obtain ⟨e, a', w', r1, r2⟩ := key m0 g st0 a w (h.wk hw0) (hw0.1.trans hn) hI0
    exact ⟨e, a', w', r1, .of_steps (.one step_loop) r2⟩
  | .rangeFunc _ _ _ _, ac, Q, g, st, a, w, hc, h, hn, hs => by
    simp only [comp] at hc
    split at hc
    case h_2 => cases hc
    cases hc
    exact hs.elim
  | .scope _, ac, Q, g, st, a, w, hc, h, hn, hs => by simp [comp] at hc
  | .label _, ac, Q, g, st, a, w, hc, h, hn, hs => by simp [comp] at hc
  | .goto _, ac, Q, g, st, a, w, hc, h, hn, hs => by simp [comp] at hc
  | .refuse _, ac, Q, g, st, a, w, hc, h, hn, hs => by simp [comp] at hc

theorem aops_runs {R : Orc} (hR : R.ok P) {K : St → Prop} : ∀ {l : List AOp} {st stf : St}, Runs R l st stf → K stf → AOps P l st K
  | [], st, stf, hr, hk => by cases hr; exact hk
  | o :: r, st, stf, hr, hk => by
    obtain ⟨c, W, B, e, hc, hf, hr⟩ := hr
    exact eff_step hR e hc hf (aops_runs hR hr hk)

/-! ### own slices in cells: plain regions alone -/
def effCD (R : Orc) (st : St) (o : AOp) (f : FuncId) (args : List AO) : Option Eff :=
  match args with
  | .t s :: rest => match (lk st.sl s).gv with
    | (g, .arr sz xs) => match o.guard, o.dst, evList st rest with
      | none, some d, some (c, l) => match R.d f sz xs l with
        | some (c', rv) => if d < st.n ∧ rv.flat = true then some (g = true ∧ c ∧ c', [(d, rv), (s, .sv .undef)], []) else none
        | none => none
      | _, _, _ => none
    | _ => effCall R st o f args
  | _ => effCall R st o f args
def effRng (st : St) (o : AOp) (x : AO) : Option Eff :=
  match o.guard, o.dst, rd st x with
  | none, some d, some (g, .str t) => if d < st.n then some (g = true, [(d, .siter t 0)], []) else none
  | _, _, _ => none
def effNxt (st : St) (o : AOp) (s : Nat) : Option Eff :=
  match o.guard, o.dst, (lk st.sl s).gv with
  | none, some d, (g, .siter t pos) => if d < st.n then some (g = true, [(d, nxtV t pos), (s, .siter t (nxtP t pos))], []) else none
  | _, _, _ => none
def effB (R : Orc) (st : St) (d : Nat) (gx : Bool) (f : FuncId) (c : Prop) (l : List BA) : Option Eff :=
  match R.b f l (lkb st.bx) with
  | some (c', bxs, rv, bxs') => if d < st.n ∧ rv.alone = true ∧ capsIn bxs l = true ∧ namesIn bxs bxs' = true then some (gx = true ∧ c ∧ c' ∧ BxsAt st bxs, [(d, rv)], bxs') else none
  | none => none
def effCB (R : Orc) (st : St) (o : AOp) (f : FuncId) (x : AO) (args : List AO) : Option Eff :=
  match effCallE R st o f x args with
  | some e => some e
  | none => match o.guard, o.dst, baList st (x :: args) with
    | none, some d, some (c, l) => effB R st d true f c l
    | _, _, _ => none
def effVB (R : Orc) (st : St) (o : AOp) (x : AO) (args : List AO) : Option Eff :=
  match rdl st x with
  | (gx, .clo f nf caps) => if R.fv f = true then (match o.guard, o.dst, baList st args with
    | none, some d, some (c, l) => effB R st d gx f c ((caps.take nf).map .c ++ l ++ (caps.drop nf).map .c)
    | _, _, _ => none) else none
  | _ => effCallV R st o x args
def effPn (st : St) (o : AOp) (zero : List SV) : Option Eff :=
  match o.guard, o.dst, zero with
  | none, some d, [.nilp] => if d < st.n then some (True, [(d, .pn)], []) else none
  | _, _, _ => effAlloc st o zero
def effSP (st : St) (o : AOp) (n : Nat) (x v : AO) : Option Eff :=
  match o.guard, o.dst, n, x, rdl st x, rdl st v with
  | none, none, 1, .t s, (g1, .pn), (g2, .lptr t off) => if s < st.n then some (g1 = true ∧ g2 = true, [(s, .pp t off)], []) else none
  | _, _, _, _, _, _ => effStore st o n x v
def effLP (st : St) (o : AOp) (n : Option Nat) (x : AO) : Option Eff :=
  match n, o.dst, gOf st o.guard, rdl st x with
  | none, some d, some gg, (gx, .pp s off) => if d < st.n then some (gg = true → gx = true, [(d, gdv o.guard gg (.lptr s off))], []) else none
  | _, _, _, _ => effQ st o
def effMF (st : St) (o : AOp) (f : FuncId) (first caps : List AO) : Option Eff :=
  match o.guard, o.dst, capList st (first ++ caps) with
  | none, some d, some (c, x :: l) => if d < st.n then some (c, [(d, .clo f first.length (x :: l))], []) else none
  | _, _, _ => effQ st o
def effT (R : Orc) (st : St) (o : AOp) : Option Eff :=
  match o.k with
  | .callE f x args => effCB R st o f x args
  | .callV x args => effVB R st o x args
  | .alloc zero => effPn st o zero
  | .store n x v => effSP st o n x v
  | .load n x => effLP st o n x
  | .mkfn f first caps => effMF st o f first caps
  | .rng x => effRng st o x
  | .nxt s => effNxt st o s
  | .call f args => effCD R st o f args
  | _ => eff R st o
def runT (R : Orc) : List AOp → St → Prop → Option (Prop × St)
  | [], st, c => some (c, st)
  | o :: r, st, c => match effT R st o with
    | some (c', W, B) => runT R r (st.app W B) (c ∧ c' ∧ fresh o st)
    | none => none
theorem effB_inv {R : Orc} {st : St} {d : Nat} {gx : Bool} {f : FuncId} {c c0 : Prop} {l : List BA} {W : List (Nat × LV)} {B : List (Nat × List RV)} (h : effB R st d gx f c l = some (c0, W, B)) :
    ∃ c' bxs rv bxs', R.b f l (lkb st.bx) = some (c', bxs, rv, bxs') ∧ d < st.n ∧ rv.alone = true ∧ capsIn bxs l = true ∧ namesIn bxs bxs' = true ∧ c0 = (gx = true ∧ c ∧ c' ∧ BxsAt st bxs) ∧ W = [(d, rv)] ∧ B = bxs' := by
  unfold effB at h
  split at h
  case h_2 => cases h
  rename_i c' bxs rv bxs' e
  split at h
  case isFalse => cases h
  rename_i hd
  simp only [Option.some.injEq, Prod.mk.injEq] at h
  obtain ⟨rfl, rfl, rfl⟩ := h
  exact ⟨c', bxs, rv, _, e, hd.1, hd.2.1, hd.2.2.1, hd.2.2.2, rfl, rfl, rfl⟩
theorem effT_step {R : Orc} (hR : R.ok P) {st : St} {o : AOp} {c : Prop} {W : List (Nat × LV)} {B : List (Nat × List RV)} {K : St → Prop} (h : effT R st o = some (c, W, B)) (hc : c) (hf : fresh o st) (hK : K (st.app W B)) : AStep P st o K := by
  unfold effT at h
  split at h
  · rename_i f x args hk
    obtain ⟨dst, gu, k⟩ := o
    simp only at hk; subst hk
    unfold effCB at h
    split at h
    · rename_i e he
      cases h
      exact eff_step hR (o := ⟨dst, gu, .callE f x args⟩) he hc hf hK
    · split at h
      case h_2 => cases h
      rename_i e1 e2 e3
      simp only at e1 e2
      subst e1; subst e2
      obtain ⟨c', bxs, rv, bxs', hb, hd, hal, hci, hni, rfl, rfl, hB⟩ := effB_inv h
      subst hB
      obtain ⟨_, hc1, hc2, hc3⟩ := hc
      simp only [AStep]
      refine .inl ⟨trivial, _, rfl, hd, ?_⟩
      rw [e3]
      exact ⟨hc1, bxs, rv, B, hR.b _ _ _ _ _ _ _ hb hc2, hc3, hci, hni, hal, hK⟩
  · rename_i x args hk
    obtain ⟨dst, gu, k⟩ := o
    simp only at hk; subst hk
    unfold effVB at h
    split at h
    · rename_i gx f caps ex
      split at h
      case isFalse => cases h
      rename_i hfv
      split at h
      case h_2 => cases h
      rename_i e1 e2 e3
      simp only at e1 e2
      subst e1; subst e2
      obtain ⟨c', bxs, rv, bxs', hb, hd, hal, hci, hni, rfl, rfl, hB⟩ := effB_inv h
      subst hB
      obtain ⟨hgx, hc1, hc2, hc3⟩ := hc
      simp only [AStep]
      refine .inl ⟨trivial, _, rfl, hd, ?_⟩
      rw [ex, e3]
      exact ⟨hgx, hc1, hR.fv _ hfv, bxs, rv, B, hR.b _ _ _ _ _ _ _ hb hc2, hc3, hci, hni, hal, hK⟩
    · exact eff_step hR (o := ⟨dst, gu, .callV x args⟩) h hc hf hK
  · rename_i zero hk
    obtain ⟨dst, gu, k⟩ := o
    simp only at hk; subst hk
    have base : effAlloc st { dst := dst, guard := gu, k := .alloc zero } zero = some (c, W, B) → AStep P st ⟨dst, gu, .alloc zero⟩ K := fun q => eff_step hR (o := ⟨dst, gu, .alloc zero⟩) q hc hf hK
    unfold effPn at h
    split at h
    · rename_i e1 e2
      split at h
      case isFalse => cases h
      rename_i hd
      simp only [Option.some.injEq, Prod.mk.injEq] at h
      obtain ⟨rfl, rfl, rfl⟩ := h
      simp only at e1 e2
      subst e1; subst e2
      simp only [AStep]
      exact .inl ⟨trivial, trivial, _, rfl, hd, hK⟩
    · exact base h
  · rename_i n x v hk
    obtain ⟨dst, gu, k⟩ := o
    simp only at hk; subst hk
    have base : effStore st { dst := dst, guard := gu, k := .store n x v } n x v = some (c, W, B) → AStep P st ⟨dst, gu, .store n x v⟩ K := fun q => eff_step hR (o := ⟨dst, gu, .store n x v⟩) q hc hf hK
    unfold effSP at h
    split at h
    · rename_i e3 e4 e1 e2
      split at h
      case isFalse => cases h
      rename_i hd
      simp only [Option.some.injEq, Prod.mk.injEq] at h
      obtain ⟨rfl, rfl, rfl⟩ := h
      simp only at e1 e2
      subst e1; subst e2
      simp only [AStep]
      refine .inl ⟨trivial, trivial, trivial, _, rfl, hd, ?_⟩
      rw [show (lk st.sl _).gv = _ from e4, e3]
      exact ⟨hc.1, hc.2, hK⟩
    · exact base h
  · rename_i n x hk
    obtain ⟨dst, gu, k⟩ := o
    simp only at hk; subst hk
    have base : effQ st { dst := dst, guard := gu, k := .load n x } = some (c, W, B) → AStep P st ⟨dst, gu, .load n x⟩ K := fun q => eff_step hR (o := ⟨dst, gu, .load n x⟩) q hc hf hK
    unfold effLP at h
    split at h
    · rename_i e3 e1 e2
      split at h
      case isFalse => cases h
      rename_i hd
      simp only [Option.some.injEq, Prod.mk.injEq] at h
      obtain ⟨rfl, rfl, rfl⟩ := h
      simp only at e1 e2
      subst e1
      simp only [AStep]
      refine .inl ⟨trivial, _, rfl, hd, ?_⟩
      rw [e2, e3]
      exact ⟨hc, hK⟩
    · exact base h
  · rename_i f first caps hk
    obtain ⟨dst, gu, k⟩ := o
    simp only at hk; subst hk
    have base : effQ st { dst := dst, guard := gu, k := .mkfn f first caps } = some (c, W, B) → AStep P st ⟨dst, gu, .mkfn f first caps⟩ K := fun q => eff_step hR (o := ⟨dst, gu, .mkfn f first caps⟩) q hc hf hK
    unfold effMF at h
    split at h
    · rename_i e1 e2 e3
      split at h
      case isFalse => cases h
      rename_i hd
      simp only [Option.some.injEq, Prod.mk.injEq] at h
      obtain ⟨rfl, rfl, rfl⟩ := h
      simp only at e1 e2
      subst e1; subst e2
      simp only [AStep]
      refine .inl ⟨trivial, _, rfl, hd, ?_⟩
      rw [e3]
      exact ⟨hc, hK⟩
    · exact base h
  · rename_i x hk
    obtain ⟨dst, gu, k⟩ := o
    simp only at hk; subst hk
    unfold effRng at h
    split at h
    case h_2 => cases h
    rename_i e1 e2 e3
    split at h
    case isFalse => cases h
    rename_i hd
    simp only [Option.some.injEq, Prod.mk.injEq] at h
    obtain ⟨rfl, rfl, rfl⟩ := h
    simp only at e1 e2
    subst e1; subst e2
    simp only [AStep]
    refine ⟨trivial, _, rfl, hd, ?_⟩
    rw [e3]
    exact ⟨hc, hK⟩
  · rename_i s hk
    obtain ⟨dst, gu, k⟩ := o
    simp only at hk; subst hk
    unfold effNxt at h
    split at h
    case h_2 => cases h
    rename_i e1 e2 e3
    split at h
    case isFalse => cases h
    rename_i hd
    simp only [Option.some.injEq, Prod.mk.injEq] at h
    obtain ⟨rfl, rfl, rfl⟩ := h
    simp only at e1 e2
    subst e1; subst e2
    simp only [AStep]
    refine ⟨trivial, _, rfl, hd, ?_⟩
    rw [e3]
    exact ⟨hc, hK⟩
  · rename_i f args hk
    obtain ⟨dst, gu, k⟩ := o
    simp only at hk; subst hk
    have base : effCall R st ⟨dst, gu, .call f args⟩ f args = some (c, W, B) → AStep P st ⟨dst, gu, .call f args⟩ K := fun q =>
      eff_step hR (o := ⟨dst, gu, .call f args⟩) q hc (by trivial) hK
    unfold effCD at h
    split at h
    case h_2 => exact base h
    rename_i s rest
    split at h
    case h_2 => exact base h
    rename_i g sz xs e0
    split at h
    case h_2 => cases h
    rename_i e1 e2 e3
    split at h
    case h_2 => cases h
    rename_i e4
    split at h
    case isFalse => cases h
    rename_i hd
    simp only [Option.some.injEq, Prod.mk.injEq] at h
    obtain ⟨rfl, rfl, rfl⟩ := h
    simp only at e1 e2
    subst e1; subst e2
    simp only [AStep]
    obtain ⟨rfl, hc1, hc2⟩ := hc
    refine .inr (.inr ⟨trivial, _, s, rest, sz, xs, rfl, hd.1, rfl, e0, ?_⟩)
    rw [e3]
    exact ⟨_, hc1, hR.d _ _ _ _ _ _ e4 hc2, hK⟩
  · exact eff_step hR h hc hf hK
theorem runT_of {R : Orc} (hR : R.ok P) {K : St → Prop} : ∀ {l : List AOp} {st stf : St} {c0 c : Prop}, runT R l st c0 = some (c, stf) → c → c0 ∧ (K stf → AOps P l st K)
  | [], st, stf, c0, c, h, hc => by
    simp only [runT, Option.some.injEq, Prod.mk.injEq] at h
    obtain ⟨rfl, rfl⟩ := h
    exact ⟨hc, fun hk => hk⟩
  | o :: r, st, stf, c0, c, h, hc => by
    simp only [runT] at h
    split at h
    case h_2 => cases h
    rename_i c' W B e
    obtain ⟨⟨q1, q2, q3⟩, q4⟩ := runT_of hR h hc
    exact ⟨q1, fun hk => effT_step hR e q2 q3 (q4 hk)⟩
theorem awp_reg {R : Orc} (hR : R.ok P) {l : List AOp} {Q : AEx → St → Prop} {st st' : St} {c : Prop} (hr : runT R l st True = some (c, st')) (hc : c) (hq : Q .normal st') : awp P (.reg l) Q st :=
  (runT_of hR hr hc).2 hq
theorem awp_dreg {R : Orc} (hR : R.ok P) {rl : RL} {l : List AOp} {Q : AEx → St → Prop} {st st' : St} {c : Prop} (hroot : rootsOK rl st) (hr : runR R l st True = some (c, st')) (hc : c) (hq : Q .normal st') : awp P (.dreg rl l) Q st :=
  ⟨hroot, R, c, st', hR, hr, hc, hq⟩
end Go.Av

set_option linter.unusedSimpArgs false
namespace Go.Av
variable {P : Program} {w0 : World} {mu0 : Mem} {T : Tc} {g g' : Gh} {st st' : St} {a : Act} {w w' : World}

inductive AR where
  | t (s : Nat)
  | c (s : Nat) (n : Option Nat)
  deriving Inhabited

def compRes (P : Program) : List ResultVar → Option (List AR)
  | [] => some []
  | .tmp t :: r => (compRes P r).map (.t t :: ·)
  | .cell t ty :: r => match ldk P ty, compRes P r with
    | some n, some l => some (.c t n :: l)
    | _, _ => none

def LV.rv? : LV → Option RV
  | .sv v => some (.sv v)
  | .own sz xs => some (.own sz xs)
  | _ => none

def arV (st : St) : AR → Option (Prop × RV)
  | .t s => match (lk st.sl s).gv with
    | (g, v) => v.rv?.map fun r => (g = true, r)
  | .c s n => match (lk st.sl s).gv with
    | (g, .lptr s' o) => match lkb st.bx s' with
      | some cells => some (g = true ∧ o + n.getD 1 ≤ cells.length, .sv (partV (cells.map RV.share) o n))
      | none => none
    | _ => none

def arVs (st : St) : List AR → Option (Prop × List RV)
  | [] => some (True, [])
  | r :: l => match arV st r, arVs st l with
    | some (c, v), some (d, vs) => some (c ∧ d, v :: vs)
    | _, _ => none

def arSlots : List AR → List Nat
  | [] => []
  | .t s :: r => s :: arSlots r
  | .c _ _ :: r => arSlots r

def resV : List RV → LV
  | [v] => v.lv
  | vs => .tup vs

def WkT : LV → LV → Prop
  | .tup a, .tup b => WkRs a b
  | a, b => WkL a b
theorem WkT.rep {s : Nat} {x y : LV} {val : Value} (h : WkT x y) (hr : RepL g w s x val) : RepL g w s y val := by
  unfold WkT at h
  split at h
  · rename_i a b
    obtain ⟨us, h1, h2, h3⟩ := hr
    obtain ⟨e1, e2⟩ := h.spec
    exact ⟨us, h1, by omega, fun j hj => (e2 j hj).rep (h3 j (by omega))⟩
  · exact h.rep hr

def RvIs (st : St) (rs : List AR) (rv : LV) : Prop := match arVs st rs with
  | some (c, vs) => c ∧ WkT (resV vs) rv
  | none => False

def argSl : Nat → List SV → List (Nat × LV)
  | _, [] => []
  | i, v :: r => (i, .sv v) :: argSl (i + 1) r

def St.enter (n : Nat) (args : List SV) : St := { n := n, sl := argSl 0 args, bx := [], hp := fun _ => none }

theorem lk_argSl : ∀ (l : List SV) (i s : Nat), lk (argSl i l) s = if i ≤ s ∧ s < i + l.length then .sv (l.getD (s - i) .undef) else .sv .undef
  | [], i, s => by simp [argSl, lk]
  | v :: l, i, s => by
    simp only [argSl, lk]
    split
    · rename_i e; subst e; simp
    · rename_i e
      rw [lk_argSl l (i + 1) s]
      by_cases h : i + 1 ≤ s ∧ s < i + 1 + l.length
      · have h' : i ≤ s ∧ s < i + (v :: l).length := by simp; omega
        rw [if_pos h, if_pos h']
        have : s - i = (s - (i + 1)) + 1 := by omega
        rw [this]; simp
      · have h' : ¬ (i ≤ s ∧ s < i + (v :: l).length) := by simp; omega
        rw [if_neg h, if_neg h']

theorem sim_enter {mu : Mem} {vs : List Value} {args : List SV} {n : Nat} (hm : MemOK mu w) (hr : RepArgs mu args vs) (hn : args.length ≤ n) :
    Sim w mu Tc.none { mu := mu, x := fun _ => none, bx := fun _ => none, okx := fun b => b < w.heap.size → Tc.none.ar b, okb := fun b => b < w.heap.size → TB Tc.none b } (St.enter n args) { tmps := vs.toArray ++ Array.replicate (n - vs.toArray.size) undef, defers := [] } w := by
  constructor
  · simp [St.enter]; have := hr.1; omega
  · rfl
  · intro s
    simp only [St.enter]
    rw [lk_argSl]
    split
    · rename_i hs
      have hs2 : s < args.length := by omega
      have := hr.2 s hs2
      have hlt : s < vs.length := by rw [hr.1]; exact hs2
      simpa [RepL, Array.getD_eq_getD_getElem?, Array.getElem?_append, hlt, List.getD_eq_getElem?_getD] using this
    · exact .undef _
  · intro s c e; simp [St.enter, lkb] at e
  · intro s s' b e; simp at e
  · intro b c e; simp [St.enter] at e
  · exact hm
  · intro b j hb _; rfl
  · exact Mem.le_refl _
  · exact Ext.refl _ _
  · rfl
  · intro b p e; simp at e
  · intro s b e; simp at e
  · intro s b p e; simp at e
  · rfl
  · intro s b hb; cases hb

def resOne (tmps : Array Value) : ResultVar → Sem Value
  | .tmp t => pure (tmps.getD t undef)
  | .cell a t => do loadVar t (← asAddr (tmps.getD a undef))

theorem results_list (fn : Func) (tmps : Array Value) : ∀ {us : List Value}, (fn.results.toList.mapM (resOne tmps)).run P w = .ok us w →
    (results fn tmps).run P w = .ok (if h : us.toArray.size = 1 then us.toArray[0] else .tuple us.toArray) w := by
  intro us h
  have e : results fn tmps = (do let vs ← fn.results.mapM (resOne tmps); pure (if h : vs.size = 1 then vs[0] else .tuple vs)) := rfl
  rw [e, Array.mapM_eq_mapM_toList]
  simp [Sem.run_bind, h, Result.andThen]

/-- What the results are, one by one. -/
theorem res_list (h : Sim w0 mu0 T g st a w) : ∀ {l : List ResultVar} {rs : List AR} {vs : List RV} {c : Prop}, compRes P l = some rs → arVs st rs = some (c, vs) → c →
    ∃ us : List Value, (l.mapM (resOne a.tmps)).run P w = .ok us w ∧ us.length = vs.length ∧ rs.length = vs.length ∧ ∀ j, j < vs.length → match rs.getD j (.t 0) with
      | .t s => RepL g w s (vs.getD j (.sv .undef)).lv (us.getD j Go.undef)
      | .c _ _ => ∃ v, vs.getD j (.sv .undef) = .sv v ∧ Rep g.mu v (us.getD j Go.undef)
  | [], rs, vs, c, h1, h2, hc => by
    cases h1; simp only [arVs, Option.some.injEq, Prod.mk.injEq] at h2; obtain ⟨-, rfl⟩ := h2
    exact ⟨[], rfl, rfl, rfl, fun j hj => by simp at hj⟩
  | .tmp t :: l, rs, vs, c, h1, h2, hc => by
    simp only [compRes] at h1
    obtain ⟨rs', hrs, rfl⟩ := opt_map_some h1
    simp only [arVs] at h2
    split at h2
    case h_2 => cases h2
    rename_i c1 v d vs' hv hvs
    simp only [Option.some.injEq, Prod.mk.injEq] at h2
    obtain ⟨rfl, rfl⟩ := h2
    obtain ⟨us, k1, k2, k3, k4⟩ := res_list h hrs hvs hc.2
    refine ⟨a.tmps.getD t undef :: us, ?_, by simp [k2], by simp [k3], ?_⟩
    · simp [List.mapM_cons, Sem.run_bind, resOne, k1, Result.andThen]
    · intro j hj
      cases j with
      | zero =>
        simp only [arV] at hv
        obtain ⟨r, hr1, hr2⟩ := opt_map_some hv
        simp only [Prod.mk.injEq] at hr2
        obtain ⟨rfl, rfl⟩ := hr2
        have := (h.slots t).gv hc.1
        generalize (lk st.sl t).gv.2 = lv at this hr1
        cases lv <;> simp [LV.rv?] at hr1 <;> subst hr1 <;> simpa [RV.lv] using this
      | succ j => simpa using k4 j (by simpa using hj)
  | .cell t ty :: l, rs, vs, c, h1, h2, hc => by
    simp only [compRes] at h1
    split at h1
    case h_2 => cases h1
    rename_i n rs' hld hrs
    cases h1
    simp only [arVs] at h2
    split at h2
    case h_2 => cases h2
    rename_i c1 v d vs' hv hvs
    simp only [Option.some.injEq, Prod.mk.injEq] at h2
    obtain ⟨rfl, rfl⟩ := h2
    obtain ⟨us, k1, k2, k3, k4⟩ := res_list h hrs hvs hc.2
    simp only [arV] at hv
    split at hv
    case h_2 => cases hv
    rename_i g1 s' o hgv
    split at hv
    case h_2 => cases hv
    rename_i cells hcells
    simp only [Option.some.injEq, Prod.mk.injEq] at hv
    obtain ⟨rfl, rfl⟩ := hv
    obtain ⟨b, hb, hbox⟩ := h.boxes s' cells hcells
    have hp := (h.slots t).gv (by rw [hgv]; exact hc.1.1)
    rw [hgv] at hp
    obtain ⟨b', hb', hval⟩ := hp
    rw [hb] at hb'; cases hb'
    obtain ⟨val, h5, h6⟩ := load_ok hld hbox.cellsAt (k := o) (by simpa using hc.1.2)
    refine ⟨val :: us, ?_, by simp [k2], by simp [k3], ?_⟩
    · simp only [Nat.zero_add] at h5
      simp [List.mapM_cons, Sem.run_bind, resOne, k1, Result.andThen, hval, asAddr, h5]
    · intro j hj
      cases j with
      | zero => exact ⟨_, rfl, by simpa using h6⟩
      | succ j => simpa using k4 j (by simpa using hj)

theorem arSlots_mem {s : Nat} : ∀ {rs : List AR} {j : Nat}, j < rs.length → rs.getD j (.t 0) = .t s → s ∈ arSlots rs
  | .t t :: r, 0, _, e => by simp at e; subst e; simp [arSlots]
  | .c _ _ :: r, 0, _, e => by simp at e
  | .t t :: r, j + 1, hj, e => by simp [arSlots]; exact .inr (arSlots_mem (j := j) (by simpa using hj) (by simpa using e))
  | .c _ _ :: r, j + 1, hj, e => by simp [arSlots]; exact arSlots_mem (j := j) (by simpa using hj) (by simpa using e)
  | [], j, hj, _ => by simp at hj

/-- Where a slot's own goes. -/
def posOf (s : Nat) : Nat → List AR → Option Nat
  | _, [] => none
  | j, .t t :: r => if t = s then some j else posOf s (j + 1) r
  | j, .c _ _ :: r => posOf s (j + 1) r

theorem posOf_at {s : Nat} : ∀ {rs : List AR} {i j : Nat}, (arSlots rs).Nodup → j < rs.length → rs.getD j (.t 0) = .t s → posOf s i rs = some (i + j)
  | .t t :: r, i, 0, _, _, e => by simp at e; simp [posOf, e]
  | .c _ _ :: r, i, 0, _, _, e => by simp at e
  | .t t :: r, i, j + 1, hn, hj, e => by
    simp only [arSlots, List.nodup_cons] at hn
    have hj' : j < r.length := by simpa using hj
    have e' : r.getD j (.t 0) = .t s := by simpa using e
    have hm := arSlots_mem hj' e'
    have hne : t ≠ s := fun q => hn.1 (q ▸ hm)
    rw [posOf, if_neg hne, posOf_at hn.2 hj' e']; congr 1; omega
  | .c _ _ :: r, i, j + 1, hn, hj, e => by
    have hj' : j < r.length := by simpa using hj
    have e' : r.getD j (.t 0) = .t s := by simpa using e
    have hn' : (arSlots r).Nodup := hn
    rw [posOf, posOf_at hn' hj' e']; congr 1; omega
  | [], i, j, _, hj, _ => by simp at hj

def retX (g : Gh) (rs : List AR) : Nat → Option Place := fun b => match g.x b with
  | some (.slot s 0) => (posOf s 0 rs).map (.slot 0)
  | _ => none

theorem ret_rep2 (h : Sim w0 mu0 T g st a w) {l : List ResultVar} {rs : List AR} {rv : LV} (h1 : compRes P l = some rs) (hnd : (arSlots rs).Nodup) (h2 : RvIs st rs rv) :
    ∃ us : List Value, (l.mapM (resOne a.tmps)).run P w = .ok us w ∧ RepL { mu := g.mu, x := retX g rs, bx := fun _ => none, okx := g.okx } w 0 rv (if h : us.toArray.size = 1 then us.toArray[0] else .tuple us.toArray) ∧ ∀ b p, retX g rs b = some p → b < w.heap.size := by
  unfold RvIs at h2
  split at h2
  case h_2 => exact h2.elim
  rename_i c vs hvs
  obtain ⟨hc, hwk⟩ := h2
  obtain ⟨us, k1, k2, k3, k4⟩ := res_list h h1 hvs hc
  refine ⟨us, k1, hwk.rep ?_, ?_⟩
  · have own : ∀ j, j < vs.length → RepR { mu := g.mu, x := retX g rs, bx := fun _ => none, okx := g.okx } w (.slot 0 j) (vs.getD j (.sv .undef)) (us.getD j Go.undef) := by
      intro j hj
      have hk := k4 j hj
      cases hr : rs.getD j (.t 0) with
      | c s n => rw [hr] at hk; obtain ⟨v, e1, e2⟩ := hk; rw [e1]; exact e2
      | t s =>
        rw [hr] at hk
        have hp := posOf_at (i := 0) hnd (by omega) hr
        cases hv : vs.getD j (.sv .undef) with
        | sv v => rw [hv] at hk; exact hk
        | own sz xs =>
          rw [hv] at hk
          rcases hk with hk | ⟨b, off, cap, e1, e2, e3, e4, e5⟩
          · exact .inl hk
          · exact .inr ⟨b, off, cap, e1, e2, by simp [retX, e3, hp], e4, e5⟩
    unfold resV
    split
    · rename_i v
      obtain ⟨u, rfl⟩ : ∃ u, us = [u] := by
        cases us with
        | nil => simp at k2
        | cons u r => cases r with
          | nil => exact ⟨u, rfl⟩
          | cons _ _ => simp at k2
      have := own 0 (by simp)
      simp at this
      cases v <;> exact this
    · rename_i hne
      have hsz : ¬ us.toArray.size = 1 := by
        intro e
        cases vs with
        | nil => simp at k2; simp [k2] at e
        | cons v r => cases r with
          | nil => exact hne v rfl
          | cons _ _ => simp at k2 e; omega
      rw [dif_neg hsz]
      exact ⟨us, rfl, k2, own⟩
  · intro b p e
    simp only [retX] at e
    split at e
    · rename_i s hx; exact h.xlt b _ hx
    · cases e

theorem ret_rep (h : Sim w0 mu0 T g st a w) {l : List ResultVar} {rs : List AR} {rv : LV} (h1 : compRes P l = some rs) (hnd : (arSlots rs).Nodup) (h2 : RvIs st rs rv) :
    ∃ us : List Value, (l.mapM (resOne a.tmps)).run P w = .ok us w ∧ RetRepX g.okx g.mu w rv (if h : us.toArray.size = 1 then us.toArray[0] else .tuple us.toArray) := by
  obtain ⟨us, k1, k2, k3⟩ := ret_rep2 h h1 hnd h2
  exact ⟨us, k1, retX g rs, k2, k3⟩

theorem pure_of {f : FuncId} {fn : Func} {body : Code} {ac : AC} {rs : List AR} {args : List SV} {rv : LV} (hf : P.funcs[f]? = some fn) (hb : fn.body = some body)
    (hc : comp P fn.ntmps body = some ac) (hr : compRes P fn.results.toList = some rs) (hnd : (arSlots rs).Nodup) (hn : args.length ≤ fn.ntmps)
    (h : awp P ac (fun e st => match e with | .exit _ => False | _ => RvIs st rs rv) (St.enter fn.ntmps args)) : Pure P f args rv := by
  intro mu w vs hm hargs
  refine calls_of_wp hf hb ?_
  have hsim := sim_enter hm hargs hn
  refine wp_mono (awp_ok body ac _ _ _ _ w hc hsim rfl h) fun e a' w' hp => ?_
  have fin : ∀ g' st', Sim w mu Tc.none g' st' a' w' → RvIs st' rs rv →
      a'.defers = [] ∧ ∃ v, (results fn a'.tmps).run P w' = .ok v w' ∧ ∃ val mu', Ending.returned v = .returned val ∧ Ext (fun _ => False) w w' ∧ mu.le mu' ∧ MemOK mu' w' ∧ (∀ b j, b < w.heap.size → mu' b j = mu b j) ∧ RetRep w.heap.size mu' w' rv val := by
    intro g' st' hs hq
    obtain ⟨us, q1, q2⟩ := ret_rep hs hr hnd hq
    refine ⟨hs.defers, _, results_list fn a'.tmps q1, _, g'.mu, rfl, hs.ext.mono (fun k hk => by rcases hk with ⟨s, hs⟩ | hk; cases hs; exact hk), hs.mule, hs.mem, fun b j hb => hs.mem0 b j hb (fun q => q), by have := q2; rw [hs.okx] at this; exact this⟩
  cases e with
  | normal => obtain ⟨g', st', q1, q2, q3⟩ := hp; exact fin g' st' q1 q3
  | ret => obtain ⟨g', st', q1, q2, q3⟩ := hp; exact fin g' st' q1 q3
  | exit id => obtain ⟨g', st', q1, q2, q3⟩ := hp; exact q3.elim
  | goto l => exact hp.elim
  | panic ch => exact hp.elim
  | outgrown => exact hp.elim

theorem pure_ofF (s : Nat) {f : FuncId} {fn : Func} {body : Code} {ac : AC} {rs : List AR} {args : List SV} {rv : LV} (hf : P.funcs[f]? = some fn) (hb : fn.body = some body)
    (hc : comp P fn.ntmps body = some ac) (hr : compRes P fn.results.toList = some rs) (hnd : (arSlots rs).Nodup) (hn : args.length ≤ fn.ntmps)
    (h : awp P ac (fun e st => match e with | .exit _ => False | _ => FrzP st s ∧ RvIs (st.frz s) rs rv) (St.enter fn.ntmps args)) : Pure P f args rv := by
  intro mu w vs hm hargs
  refine calls_of_wp hf hb ?_
  have hsim := sim_enter hm hargs hn
  refine wp_mono (awp_ok body ac _ _ _ _ w hc hsim rfl h) fun e a' w' hp => ?_
  have fin : ∀ g' st', Sim w mu Tc.none g' st' a' w' → FrzP st' s ∧ RvIs (st'.frz s) rs rv →
      a'.defers = [] ∧ ∃ v, (results fn a'.tmps).run P w' = .ok v w' ∧ ∃ val mu', Ending.returned v = .returned val ∧ Ext (fun _ => False) w w' ∧ mu.le mu' ∧ MemOK mu' w' ∧ (∀ b j, b < w.heap.size → mu' b j = mu b j) ∧ RetRep w.heap.size mu' w' rv val := by
    intro g0 st0 hs0 hq0
    obtain ⟨hfz, hq⟩ := hq0
    obtain ⟨g', hs⟩ := hs0.frzP hfz
    obtain ⟨us, q1, q2⟩ := ret_rep hs hr hnd hq
    refine ⟨hs.defers, _, results_list fn a'.tmps q1, _, g'.mu, rfl, hs.ext.mono (fun k hk => by rcases hk with ⟨s, hs⟩ | hk; cases hs; exact hk), hs.mule, hs.mem, fun b j hb => hs.mem0 b j hb (fun q => q), by have := q2; rw [hs.okx] at this; exact this⟩
  cases e with
  | normal => obtain ⟨g', st', q1, q2, q3⟩ := hp; exact fin g' st' q1 q3
  | ret => obtain ⟨g', st', q1, q2, q3⟩ := hp; exact fin g' st' q1 q3
  | exit id => obtain ⟨g', st', q1, q2, q3⟩ := hp; exact q3.elim
  | goto l => exact hp.elim
  | panic ch => exact hp.elim
  | outgrown => exact hp.elim

/-! ### a function that works on one object -/
def St.enterE (n : Nat) (cells args : List SV) : St := { n := n, sl := (0, .lptr 0 0) :: argSl 1 args, bx := [(0, cells.map .sv)], hp := fun _ => none }

def T1 (b : Nat) : Tc := ⟨fun s => if s = 0 then some b else none, fun _ => False⟩
theorem sim_enterE {mu : Mem} {b : Nat} {vs : List Value} {cells args : List SV} {n : Nat} (hm : MemOK mu w) (hh : HeapAt mu w b cells) (hr : RepArgs mu args vs) (hn : args.length + 1 ≤ n) :
    Sim w mu (T1 b) { mu := mu, x := fun _ => none, bx := (T1 b).bx, okx := fun b' => b' < w.heap.size → (T1 b).ar b', okb := fun b' => b' < w.heap.size → TB (T1 b) b' } (St.enterE n cells args)
      { tmps := (.pointer (some ⟨b, 0, none⟩) :: vs).toArray ++ Array.replicate (n - (.pointer (some ⟨b, 0, none⟩) :: vs).toArray.size) undef, defers := [] } w := by
  obtain ⟨h0, c, e, fr, h1, h2, h3, h4⟩ := hh
  have hlt : b < w.heap.size := by
    apply Classical.byContradiction; intro q
    rw [Array.getElem?_eq_none (by omega)] at h1; cases h1
  constructor
  · simp [St.enterE]; have := hr.1; omega
  · rfl
  · intro s
    cases s with
    | zero => exact ⟨b, by simp [T1], by simp [Array.getD_eq_getD_getElem?, Array.getElem?_append]⟩
    | succ s =>
      simp only [St.enterE]
      rw [lk_cons_other _ _ (by omega), lk_argSl]
      split
      · rename_i hs
        have hs2 : s < args.length := by omega
        have := hr.2 s hs2
        have hlt : s < vs.length := by rw [hr.1]; exact hs2
        simpa [RepL, Array.getD_eq_getD_getElem?, Array.getElem?_append, hlt, List.getD_eq_getElem?_getD] using this
      · exact .undef _
  · intro s cs hc
    simp only [St.enterE, lkb] at hc
    split at hc
    case isFalse => cases hc
    rename_i q
    cases hc
    subst q
    refine ⟨b, by simp [T1], fun _ => ⟨0, by simp [T1]⟩, h0, rfl, c, e, fr, h1, h2, by simpa using h3, fun j hj => ?_⟩
    have hj' : j < cells.length := by simpa using hj
    simpa [List.getD_eq_getElem?_getD, hj', RepR] using h4 j hj'
  · intro s s' b' e1 e2
    simp only [T1] at e1 e2
    split at e1
    · split at e2
      · omega
      · cases e2
    · cases e1
  · intro b' cs hc; simp [St.enterE] at hc
  · exact hm
  · intro _ _ _ _; rfl
  · exact Mem.le_refl _
  · exact Ext.refl _ _
  · rfl
  · intro b' p hb; simp at hb
  · intro s b' hb
    simp only [T1] at hb
    split at hb
    · cases hb; exact hlt
    · cases hb
  · intro s b' p hb; simp at hb
  · rfl
  · intro s b' hb
    refine ⟨hb, ?_⟩
    by_cases q : s = 0
    · exact .inl q
    · simp [q, T1] at hb

/-- The object's cells, in the end. -/
def ObjIs (st : St) (cells' : List SV) : Prop := match lkb st.bx 0 with
  | some c => c.map RV.share = cells'
  | none => False

theorem eff_of {f : FuncId} {fn : Func} {body : Code} {ac : AC} {rs : List AR} {cells args : List SV} {rv : LV} {cells' : List SV} (hf : P.funcs[f]? = some fn) (hb : fn.body = some body)
    (hc : comp P fn.ntmps body = some ac) (hr : compRes P fn.results.toList = some rs) (hnd : (arSlots rs).Nodup) (hn : args.length + 1 ≤ fn.ntmps)
    (h : awp P ac (fun e st => match e with | .exit _ => False | _ => RvIs st rs rv ∧ ObjIs st cells') (St.enterE fn.ntmps cells args)) : Eff1 P f cells args rv cells' := by
  intro mu w b vs hm hh hargs
  refine calls_of_wp hf hb ?_
  have hsim := sim_enterE hm hh hargs hn
  refine wp_mono (awp_ok body ac _ _ _ _ w hc hsim rfl h) fun e a' w' hp => ?_
  have fin : ∀ g' st', Sim w mu (T1 b) g' st' a' w' → RvIs st' rs rv ∧ ObjIs st' cells' →
      a'.defers = [] ∧ ∃ v, (results fn a'.tmps).run P w' = .ok v w' ∧ ∃ val mu', Ending.returned v = .returned val ∧ Ext (fun k => k = b) w w' ∧ mu.le mu' ∧ MemOK mu' w' ∧ (∀ b' j, b' < w.heap.size → mu' b' j = mu b' j) ∧ HeapAt mu' w' b cells' ∧ RetRep w.heap.size mu' w' rv val := by
    intro g' st' hs hq
    obtain ⟨us, q1, q2⟩ := ret_rep hs hr hnd hq.1
    refine ⟨hs.defers, _, results_list fn a'.tmps q1, _, g'.mu, rfl, hs.ext.mono (fun k hk => by
      rcases hk with ⟨s, hs⟩ | hk
      · by_cases q : s = 0
        · simp [q, T1] at hs; exact hs.symm
        · simp [q, T1] at hs
      · exact hk.elim), hs.mule, hs.mem, fun b j hb => hs.mem0 b j hb (fun q => q), ?_, by have := q2; rw [hs.okx] at this; exact this⟩
    · have hq2 := hq.2
      unfold ObjIs at hq2
      split at hq2
      case h_2 => exact hq2.elim
      rename_i cs hcs
      subst hq2
      obtain ⟨b2, hb2, hbox⟩ := hs.boxes 0 cs hcs
      have hpin := (hs.pin 0 b (by simp [T1])).1
      rw [hpin] at hb2
      cases hb2
      exact hbox.heapAt
  cases e with
  | normal => obtain ⟨g', st', q1, q2, q3⟩ := hp; exact fin g' st' q1 q3
  | ret => obtain ⟨g', st', q1, q2, q3⟩ := hp; exact fin g' st' q1 q3
  | exit id => obtain ⟨g', st', q1, q2, q3⟩ := hp; exact q3.elim
  | goto l => exact hp.elim
  | panic ch => exact hp.elim
  | outgrown => exact hp.elim

/-! ### a function that returns a new object -/
def NewIs (st : St) (rs : List AR) (cells : List SV) : Prop := match rs with
  | [.t s] => match (lk st.sl s).gv with
    | (g, .lptr s' 0) => match lkb st.bx s' with
      | some c => g = true ∧ c.map RV.share = cells
      | none => False
    | _ => False
  | _ => False

theorem new_of {f : FuncId} {fn : Func} {body : Code} {ac : AC} {rs : List AR} {args : List SV} {cells : List SV} (hf : P.funcs[f]? = some fn) (hb : fn.body = some body)
    (hc : comp P fn.ntmps body = some ac) (hr : compRes P fn.results.toList = some rs) (hn : args.length ≤ fn.ntmps)
    (h : awp P ac (fun e st => match e with | .exit _ => False | _ => NewIs st rs cells) (St.enter fn.ntmps args)) : PureN P f args cells := by
  intro mu w vs hm hargs
  refine calls_of_wp hf hb ?_
  have hsim := sim_enter hm hargs hn
  refine wp_mono (awp_ok body ac _ _ _ _ w hc hsim rfl h) fun e a' w' hp => ?_
  have fin : ∀ g' st', Sim w mu Tc.none g' st' a' w' → NewIs st' rs cells →
      a'.defers = [] ∧ ∃ v, (results fn a'.tmps).run P w' = .ok v w' ∧ ∃ b mu', Ending.returned v = .returned (.pointer (some ⟨b, 0, none⟩)) ∧ Ext (fun _ => False) w w' ∧ mu.le mu' ∧ MemOK mu' w' ∧ (∀ b j, b < w.heap.size → mu' b j = mu b j) ∧ w.heap.size ≤ b ∧ HeapAt mu' w' b cells := by
    intro g' st' hs hq
    unfold NewIs at hq
    split at hq
    case h_2 => exact hq.elim
    rename_i s
    split at hq
    case h_2 => exact hq.elim
    rename_i gg s' hgv
    split at hq
    case h_2 => exact hq.elim
    rename_i c hcb
    obtain ⟨rfl, rfl⟩ := hq
    have hslot := (hs.slots s).gv (by rw [hgv])
    rw [hgv] at hslot
    obtain ⟨b, hb1, hval⟩ := hslot
    obtain ⟨b2, hb2, hbox⟩ := hs.boxes s' c hcb
    rw [hb1] at hb2; cases hb2
    have hres : fn.results.toList = [.tmp s] := by
      cases hl : fn.results.toList with
      | nil => rw [hl] at hr; cases hr
      | cons x r =>
        rw [hl] at hr
        cases x with
        | tmp t =>
          simp only [compRes] at hr
          obtain ⟨z, hz, he⟩ := opt_map_some hr
          cases he
          cases r with
          | nil => rfl
          | cons y r' =>
            cases y with
            | tmp t => simp only [compRes] at hz; obtain ⟨z', _, he⟩ := opt_map_some hz; cases he
            | cell t ty => simp only [compRes] at hz; split at hz <;> cases hz
        | cell t ty => simp only [compRes] at hr; split at hr <;> cases hr
    have hrun : (fn.results.toList.mapM (resOne a'.tmps)).run P w' = .ok [.pointer (some ⟨b, 0, none⟩)] w' := by
      rw [hres]; simp [List.mapM_cons, Sem.run_bind, resOne, Result.andThen]; rw [Array.getD_eq_getD_getElem?] at hval; exact hval
    have hok := hbox.1
    rw [hs.okb] at hok
    refine ⟨hs.defers, _, results_list fn a'.tmps hrun, b, g'.mu, rfl, hs.ext.mono (fun k hk => by rcases hk with ⟨s, hs⟩ | hk; cases hs; exact hk), hs.mule, hs.mem, fun b j hb => hs.mem0 b j hb (fun q => q), ?_, hbox.heapAt⟩
    · exact Nat.le_of_not_lt fun q => by obtain ⟨s, hs⟩ := hok q; cases hs
  cases e with
  | normal => obtain ⟨g', st', q1, q2, q3⟩ := hp; exact fin g' st' q1 q3
  | ret => obtain ⟨g', st', q1, q2, q3⟩ := hp; exact fin g' st' q1 q3
  | exit id => obtain ⟨g', st', q1, q2, q3⟩ := hp; exact q3.elim
  | goto l => exact hp.elim
  | panic ch => exact hp.elim
  | outgrown => exact hp.elim
end Go.Av

/- Functions that work on boxes of the frame that calls them. -/

set_option linter.unusedSimpArgs false
set_option linter.unusedVariables false
namespace Go.Av
variable {P : Program} {w0 : World} {mu0 : Mem} {T : Tc} {g g' : Gh} {st st' : St} {a : Act} {w w' : World}

def argLv : Nat → List LV → List (Nat × LV)
  | _, [] => []
  | i, v :: r => (i, v) :: argLv (i + 1) r
theorem lk_argLv : ∀ (l : List LV) (i s : Nat), lk (argLv i l) s = if i ≤ s ∧ s < i + l.length then l.getD (s - i) (.sv .undef) else .sv .undef
  | [], i, s => by simp [argLv, lk]
  | v :: l, i, s => by
    simp only [argLv, lk]
    split
    · rename_i e; subst e; simp
    · rename_i e
      rw [lk_argLv l (i + 1) s]
      by_cases h : i + 1 ≤ s ∧ s < i + 1 + l.length
      · have h' : i ≤ s ∧ s < i + (v :: l).length := by simp; omega
        rw [if_pos h, if_pos h']
        have : s - i = (s - (i + 1)) + 1 := by omega
        rw [this]; simp
      · have h' : ¬ (i ≤ s ∧ s < i + (v :: l).length) := by simp; omega
        rw [if_neg h, if_neg h']
def Cap.up (n : Nat) : Cap → Cap
  | .bp s off => .bp (n + s) off
  | .pp s off => .pp (n + s) off
/-- What is handed in, in the frame that is called: boxes' names stand behind the slots. -/
def BA.up (n : Nat) : BA → LV
  | .v x => .sv x
  | .c (.bp s off) => .lptr (n + s) off
  | .c (.pp s off) => .pp (n + s) off
  | .f fi nf caps => .clo fi nf (caps.map (Cap.up n))
def upB (n : Nat) (bxs : List (Nat × List RV)) : List (Nat × List RV) := bxs.map fun p => (n + p.1, p.2)
theorem lkb_upB (n : Nat) : ∀ (l : List (Nat × List RV)) (t : Nat), lkb (upB n l) t = if n ≤ t then lkb l (t - n) else none
  | [], t => by simp [upB, lkb]
  | (s, v) :: l, t => by
    have := lkb_upB n l t
    simp only [upB, List.map_cons, lkb] at this ⊢
    rw [this]
    by_cases q : n ≤ t
    · simp only [q, if_true]
      by_cases z : s = t - n
      · have : n + s = t := by omega
        simp [z, this]
        omega
      · have : ¬ n + s = t := by omega
        simp [z, this]
    · have : ¬ n + s = t := by omega
      simp [q, this]
def St.enterB (n : Nat) (bxs : List (Nat × List RV)) (args : List BA) : St := { n := n, sl := argLv 0 (args.map (BA.up n)), bx := upB n bxs, hp := fun _ => none }
def TBx (n : Nat) (g : Gh) : Tc := ⟨fun t => if n ≤ t then g.bx (t - n) else none, fun b => g.x b ≠ none⟩
def ghB (n : Nat) (g : Gh) (w : World) : Gh := { mu := g.mu, x := fun b => match g.x b with | some (.cell s j) => some (.cell (n + s) j) | _ => none, bx := (TBx n g).bx, okx := fun b => b < w.heap.size → (TBx n g).ar b, okb := fun b => b < w.heap.size → TB (TBx n g) b }

theorem sim_enterB {vs : List Value} {bxs : List (Nat × List RV)} {args : List BA} {n : Nat} (hm : MemOK g.mu w)
    (h1 : ∀ s cells, lkb bxs s = some cells → ∃ b, g.bx s = some b ∧ BoxIn g w s b cells)
    (h2 : ∀ s s' b, g.bx s = some b → g.bx s' = some b → s = s')
    (h3 : ∀ s b, g.bx s = some b → b < w.heap.size ∧ (lkb bxs s).isSome = true)
    (h4 : ∀ b p, g.x b = some p → b < w.heap.size ∧ g.okx b ∧ (∀ s, g.bx s ≠ some b) ∧ ∃ s j, p = .cell s j)
    (h5 : vs.length = args.length) (h6 : ∀ j, j < args.length → RepB g (args.getD j (.v .undef)) (vs.getD j Go.undef)) (hn : args.length ≤ n) :
    Sim w g.mu (TBx n g) (ghB n g w) (St.enterB n bxs args) { tmps := vs.toArray ++ Array.replicate (n - vs.toArray.size) undef, defers := [] } w := by
  have hbx : ∀ s, (ghB n g w).bx (n + s) = g.bx s := fun s => by simp [ghB, TBx]
  constructor
  · simp [St.enterB]; omega
  · rfl
  · intro s
    simp only [St.enterB]
    rw [lk_argLv]
    split
    · rename_i hs
      have hs2 : s < args.length := by simpa using hs.2
      have hlt : s < vs.length := by omega
      have := h6 s hs2
      have e1 : (args.map (BA.up n)).getD (s - 0) (.sv .undef) = (args.getD s (.v .undef)).up n := by
        simp [List.getD_eq_getElem?_getD, hs2]
      have e2 : (vs.toArray ++ Array.replicate (n - vs.toArray.size) undef).getD s Go.undef = vs.getD s Go.undef := by
        simp [Array.getD_eq_getD_getElem?, Array.getElem?_append, hlt, List.getD_eq_getElem?_getD]
      rw [e1]
      show RepL _ _ _ _ ((vs.toArray ++ Array.replicate (n - vs.toArray.size) undef).getD s Go.undef)
      rw [e2]
      cases hb : args.getD s (.v .undef) with
      | v x => rw [hb] at this; exact this
      | c c =>
        rw [hb] at this
        cases c with
        | bp t off => obtain ⟨b, q1, q2⟩ := this; exact ⟨b, (hbx t).trans q1, q2⟩
        | pp t off => obtain ⟨b0, o0, b, q1, q2, q3⟩ := this; exact ⟨b0, o0, b, q1, q2, (hbx t).trans q3⟩
      | f f nf caps =>
        rw [hb] at this
        obtain ⟨us, z1, z2, z3⟩ := this
        refine ⟨us, z1, by simpa using z2, fun i hi => ?_⟩
        have hi' : i < caps.length := by simpa using hi
        have := z3 i hi'
        have e : (caps.map (Cap.up n)).getD i default = (caps.getD i default).up n := by simp [List.getD_eq_getElem?_getD, hi']
        rw [e]
        cases hc : caps.getD i default with
        | bp t off => rw [hc] at this; obtain ⟨b, q1, q2⟩ := this; exact ⟨b, (hbx t).trans q1, q2⟩
        | pp t off => rw [hc] at this; obtain ⟨b0, o0, b, q1, q2, q3⟩ := this; exact ⟨b0, o0, b, q1, q2, (hbx t).trans q3⟩
    · exact .undef _
  · intro t cells hc
    simp only [St.enterB] at hc
    rw [lkb_upB] at hc
    split at hc
    case isFalse => cases hc
    rename_i hnt
    obtain ⟨b, q1, q2, q3, c, e, fr, q4, q5, q6, q7⟩ := h1 _ _ hc
    refine ⟨b, by simp [ghB, TBx, hnt, q1], fun _ => ⟨t, by simp [TBx, hnt, q1]⟩, q2, by simp [ghB, q3], c, e, fr, q4, q5, q6, fun j hj => ?_⟩
    refine RepR.move (gc := g) (g2 := ghB n g w) rfl (fun b' e' _ => ⟨?_, fun _ => ?_⟩) (q7 j hj)
    · simp only [ghB, e']
      rw [show n + (t - n) = t by omega]
    · simp [TBx, e']
  · intro s s' b e1 e2
    simp only [ghB, TBx] at e1 e2
    split at e1
    · split at e2
      · have := h2 _ _ b e1 e2; omega
      · cases e2
    · cases e1
  · intro b cs hc; simp [St.enterB] at hc
  · exact hm
  · intro _ _ _ _; rfl
  · exact Mem.le_refl _
  · exact Ext.refl _ _
  · rfl
  · intro b p hb
    cases q : g.x b with
    | none => simp [ghB, q] at hb
    | some p' => exact (h4 b p' q).1
  · intro s b hb
    simp only [ghB, TBx] at hb
    split at hb
    · exact (h3 _ b hb).1
    · cases hb
  · intro s b p hb hb2
    simp only [ghB, TBx] at hb2
    split at hb2
    · cases q : g.x b with
      | none => simp [ghB, q] at hb
      | some p' => exact (h4 b p' q).2.2.1 _ hb2
    · cases hb2
  · rfl
  · intro s b hb
    refine ⟨hb, .inr ?_⟩
    simp only [TBx] at hb
    split at hb
    · assumption
    · cases hb

/-- The boxes, in the end. -/
def BxsIs (n : Nat) (st : St) : List (Nat × List RV) → Prop
  | [] => True
  | (s, c) :: r => (match lkb st.bx (n + s) with | some c' => WkRs c' c | none => False) ∧ BxsIs n st r
theorem BxsIs.spec {n : Nat} {st : St} : ∀ {l : List (Nat × List RV)}, BxsIs n st l → ∀ s c, lkb l s = some c → ∃ c', lkb st.bx (n + s) = some c' ∧ WkRs c' c
  | (t, v) :: l, h, s, c, e => by
    simp only [lkb] at e
    split at e
    · rename_i q; cases e; subst q
      have := h.1
      split at this
      · rename_i c' hc'; exact ⟨c', hc', this⟩
      · exact this.elim
    · exact BxsIs.spec h.2 s c e

theorem effB_of {f : FuncId} {fn : Func} {body : Code} {ac : AC} {rs : List AR} {bxs bxs' : List (Nat × List RV)} {args : List BA} {rv : LV} (hf : P.funcs[f]? = some fn) (hb : fn.body = some body)
    (hc : comp P fn.ntmps body = some ac) (hr : compRes P fn.results.toList = some rs) (hnd : (arSlots rs).Nodup) (hn : args.length ≤ fn.ntmps) (hal : rv.alone = true) (hni : namesIn bxs' bxs = true)
    (h : awp P ac (fun e st => match e with | .exit _ => False | _ => RvIs st rs rv ∧ BxsIs fn.ntmps st bxs') (St.enterB fn.ntmps bxs args)) : EffB P f bxs args rv bxs' := by
  intro g w vs hm h1 h2 h3 h4 h5 h6
  refine calls_of_wp hf hb ?_
  have hsim := sim_enterB hm h1 h2 h3 h4 h5 h6 hn
  refine wp_mono (awp_ok body ac _ _ _ _ w hc hsim rfl h) fun e a' w' hp => ?_
  have fin : ∀ g' st', Sim w g.mu (TBx fn.ntmps g) g' st' a' w' → RvIs st' rs rv ∧ BxsIs fn.ntmps st' bxs' →
      a'.defers = [] ∧ ∃ v, (results fn a'.tmps).run P w' = .ok v w' ∧ ∃ val g2, Ending.returned v = .returned val ∧ Ext (fun k => (∃ s, g.bx s = some k) ∨ g.x k ≠ none) w w' ∧ g.mu.le g2.mu ∧ MemOK g2.mu w' ∧
        (∀ b j, b < w.heap.size → g.x b = none → g2.mu b j = g.mu b j) ∧
        (∀ s cells, lkb bxs' s = some cells → ∃ b, g.bx s = some b ∧ BoxIn g2 w' s b cells) ∧
        (∀ b p, g2.x b = some p → b < w'.heap.size ∧ (b < w.heap.size → g.x b ≠ none) ∧ ∀ s, g.bx s ≠ some b) ∧
        (∀ b, g2.okx b → b < w.heap.size → g.x b ≠ none) ∧ RepL g2 w' 0 rv val := by
    intro g' st' hs hq
    obtain ⟨us, q1, q2, q3⟩ := ret_rep2 hs hr hnd hq.1
    have hok : ∀ b, g'.okx b → b < w.heap.size → g.x b ≠ none := fun b hb => by rw [hs.okx] at hb; exact hb
    have hpin : ∀ s b, g.bx s = some b → g'.bx (fn.ntmps + s) = some b := fun s b e => (hs.pin (fn.ntmps + s) b (by simp [TBx, e])).1
    classical
    let g2 : Gh := { mu := g'.mu, bx := g.bx, okx := g'.okx, x := fun b => if g'.okx b ∧ b < w'.heap.size then (match g'.x b with | some (.slot s i) => retX g' rs b | some (.cell t j) => if fn.ntmps ≤ t then some (.cell (t - fn.ntmps) j) else none | none => none) else none }
    refine ⟨hs.defers, _, results_list fn a'.tmps q1, _, g2, rfl, hs.ext.mono (fun k hk => ?_), hs.mule, hs.mem, fun b j hb hx => hs.mem0 b j hb (fun q => q hx), ?_, ?_, hok, ?_⟩
    · rcases hk with ⟨s, hk⟩ | hk
      · simp only [TBx] at hk
        split at hk
        · exact .inl ⟨_, hk⟩
        · cases hk
      · exact .inr hk
    · intro s cells hcs
      obtain ⟨c', e1, e2⟩ := hq.2.spec s cells hcs
      obtain ⟨b, k0, k1, k2, k3, c, e, fr, k4, k5, k6, k7⟩ := hs.boxes _ c' e1
      obtain ⟨z1, z2⟩ := WkRs.spec e2
      have hbs : g.bx s = some b := by
        obtain ⟨c0, hc0⟩ := Option.isSome_iff_exists.1 (namesIn_spec hni (s := s) (by rw [hcs]; rfl))
        obtain ⟨b0, e0, _⟩ := h1 s c0 hc0
        have := hpin s b0 e0
        rw [k0] at this; cases this
        exact e0
      refine ⟨b, hbs, k2, by simp [g2, k3], c, e, fr, k4, k5, by omega, fun j hj => ?_⟩
      refine RepR.move (gc := g') (g2 := g2) rfl (fun b' e' z => ⟨?_, z⟩) ((z2 j hj).rep (k7 j (by omega)))
      simp only [g2]
      rw [if_pos ⟨z, hs.xlt b' _ e'⟩, e']
      simp only
      rw [if_pos (Nat.le_add_right _ _), Nat.add_sub_cancel_left]
    · intro b p hp
      simp only [g2] at hp
      split at hp
      case isFalse => cases hp
      rename_i hq
      refine ⟨hq.2, hok b hq.1, fun s hb => ?_⟩
      cases hx : g'.x b with
      | none => rw [hx] at hp; cases hp
      | some p' => exact hs.bxx _ b p' hx (hpin s b hb)
    · refine RepL.move (gc := { mu := g'.mu, x := retX g' rs, bx := fun _ => none, okx := g'.okx }) (g2 := g2) rfl (fun b i e z => ⟨?_, z⟩) hal q2
      have e' : retX g' rs b = some (.slot 0 i) := e
      have hx : ∃ s, g'.x b = some (.slot s 0) := by
        simp only [retX] at e'
        split at e'
        · rename_i s hx; exact ⟨s, hx⟩
        · cases e'
      obtain ⟨s, hx⟩ := hx
      simp only [g2]
      rw [if_pos ⟨z, hs.xlt b _ hx⟩, hx]
      exact e'
  cases e with
  | normal => obtain ⟨g', st', q1, q2, q3⟩ := hp; exact fin g' st' q1 q3
  | ret => obtain ⟨g', st', q1, q2, q3⟩ := hp; exact fin g' st' q1 q3
  | exit id => obtain ⟨g', st', q1, q2, q3⟩ := hp; exact q3.elim
  | goto l => exact hp.elim
  | panic ch => exact hp.elim
  | outgrown => exact hp.elim
end Go.Av

/- Oracles by encodings: a function's contract for all values of a type of one's own. -/

set_option linter.unusedSimpArgs false
namespace Go.Av

/-- Which value do these arguments stand for? -/
noncomputable def inv {α : Type} (enc : α → List SV) (l : List SV) : Option α :=
  open Classical in if h : ∃ a, l = enc a then some (Classical.choose h) else none
theorem inv_some {α : Type} {enc : α → List SV} {l : List SV} {a : α} (h : inv enc l = some a) : l = enc a := by
  unfold inv at h
  split at h
  · rename_i q
    cases h
    exact Classical.choose_spec q
  · cases h
theorem inv_eq {α : Type} {enc : α → List SV} (hinj : ∀ a b, enc a = enc b → a = b) (a : α) : inv enc (enc a) = some a := by
  unfold inv
  have h : ∃ b, enc a = enc b := ⟨a, rfl⟩
  rw [dif_pos h]
  exact congrArg some (hinj _ _ (Classical.choose_spec h)).symm
/-- One line of an oracle. -/
noncomputable def row {α : Type} (enc : α → List SV) (F : α → Prop × LV) (l : List SV) : Option (Prop × LV) := (inv enc l).map F
theorem row_some {α : Type} {enc : α → List SV} {F : α → Prop × LV} {l : List SV} {c : Prop} {rv : LV} (h : row enc F l = some (c, rv)) : ∃ a, l = enc a ∧ F a = (c, rv) := by
  unfold row at h
  cases q : inv enc l with
  | none => rw [q] at h; cases h
  | some a =>
    rw [q] at h
    exact ⟨a, inv_some q, by simpa using h⟩
theorem row_eq {α : Type} {enc : α → List SV} (hinj : ∀ a b, enc a = enc b → a = b) (F : α → Prop × LV) (a : α) : row enc F (enc a) = some (F a) := by
  unfold row
  rw [inv_eq hinj]; rfl
theorem row_ok {P : Program} {α : Type} {enc : α → List SV} {F : α → Prop × LV} {f : FuncId} {l : List SV} {c : Prop} {rv : LV} (h : row enc F l = some (c, rv)) (hc : c) (hp : ∀ a, (F a).1 → Pure P f (enc a) (F a).2) : Pure P f l rv := by
  obtain ⟨a, rfl, e⟩ := row_some h
  have := hp a
  rw [e] at this
  exact this hc
/-- The same for calls with a pointer to an object. -/
noncomputable def rowE {α : Type} (enc : α → List SV × List SV) (F : α → Prop × LV × List SV) (cells l : List SV) : Option (Prop × LV × List SV) :=
  open Classical in if h : ∃ a, (cells, l) = enc a then some (F (Classical.choose h)) else none
theorem rowE_eq {α : Type} {enc : α → List SV × List SV} (hinj : ∀ a b, enc a = enc b → a = b) (F : α → Prop × LV × List SV) (a : α) : rowE enc F (enc a).1 (enc a).2 = some (F a) := by
  unfold rowE
  have h : ∃ b, ((enc a).1, (enc a).2) = enc b := ⟨a, rfl⟩
  rw [dif_pos h]
  exact congrArg (fun x => some (F x)) (hinj _ _ (Classical.choose_spec h)).symm
theorem rowE_ok {P : Program} {α : Type} {enc : α → List SV × List SV} {F : α → Prop × LV × List SV} {f : FuncId} {cells l : List SV} {c : Prop} {rv : LV} {cells' : List SV} (h : rowE enc F cells l = some (c, rv, cells')) (hc : c) (hp : ∀ a, (F a).1 → Eff1 P f (enc a).1 (enc a).2 (F a).2.1 (F a).2.2) : Eff1 P f cells l rv cells' := by
  unfold rowE at h
  split at h
  case isFalse => cases h
  rename_i q
  have e := Classical.choose_spec q
  have := hp (Classical.choose q)
  simp only [Option.some.injEq] at h
  rw [h, ← e] at this
  exact this hc
theorem map_inj {α : Type} {f : α → SV} (h : ∀ a b, f a = f b → a = b) : ∀ l m : List α, l.map f = m.map f → l = m := by
  intro l
  induction l with
  | nil => intro m q; cases m <;> simp at q ⊢
  | cons a l ih =>
    intro m q
    cases m with
    | nil => simp at q
    | cons b m =>
      simp only [List.map_cons, List.cons.injEq] at q
      rw [h _ _ q.1, ih m q.2]
end Go.Av
