import Derived.Test.YtabidcdfmkkegaaAvT
set_option linter.unusedSimpArgs false
namespace Go.Av
variable {P : Program} {w0 : World} {mu0 : Mem} {T : Nat → Prop} {g g' : Gh} {st st' : St} {a : Act} {w w' : World}

inductive AR where
  | t (s : Nat)
  | c (s : Nat) (n : Option Nat)
  deriving Inhabited

def compRes (P : Program) : List ResultVar → Option (List AR)
  | [] => some []
  | .tmp t :: r => (compRes P r).map (.t t :: ·)
  | .cell t ty :: r => match ldk P ty, compRes P r with
    | some n, some l => some (.c t n :: l)
    | _, _ => none

def LV.rv? : LV → Option RV
  | .sv v => some (.sv v)
  | .own sz xs => some (.own sz xs)
  | _ => none

def arV (st : St) : AR → Option (Prop × RV)
  | .t s => match (lk st.sl s).gv with
    | (g, v) => v.rv?.map fun r => (g = true, r)
  | .c s n => match (lk st.sl s).gv with
    | (g, .lptr s' o) => match lkb st.bx s' with
      | some cells => some (g = true ∧ o + n.getD 1 ≤ cells.length, .sv (partV (cells.map RV.share) o n))
      | none => none
    | _ => none

def arVs (st : St) : List AR → Option (Prop × List RV)
  | [] => some (True, [])
  | r :: l => match arV st r, arVs st l with
    | some (c, v), some (d, vs) => some (c ∧ d, v :: vs)
    | _, _ => none

def arSlots : List AR → List Nat
  | [] => []
  | .t s :: r => s :: arSlots r
  | .c _ _ :: r => arSlots r

def resV : List RV → LV
  | [v] => v.lv
  | vs => .tup vs

def WkT : LV → LV → Prop
  | .tup a, .tup b => WkRs a b
  | a, b => WkL a b
theorem WkT.rep {s : Nat} {x y : LV} {val : Value} (h : WkT x y) (hr : RepL g w s x val) : RepL g w s y val := by
  unfold WkT at h
  split at h
  · rename_i a b
    obtain ⟨us, h1, h2, h3⟩ := hr
    obtain ⟨e1, e2⟩ := h.spec
    exact ⟨us, h1, by omega, fun j hj => (e2 j hj).rep (h3 j (by omega))⟩
  · exact h.rep hr

def RvIs (st : St) (rs : List AR) (rv : LV) : Prop := match arVs st rs with
  | some (c, vs) => c ∧ WkT (resV vs) rv
  | none => False

def argSl : Nat → List SV → List (Nat × LV)
  | _, [] => []
  | i, v :: r => (i, .sv v) :: argSl (i + 1) r

def St.enter (n : Nat) (args : List SV) : St := { n := n, sl := argSl 0 args, bx := [], hp := fun _ => none }

theorem lk_argSl : ∀ (l : List SV) (i s : Nat), lk (argSl i l) s = if i ≤ s ∧ s < i + l.length then .sv (l.getD (s - i) .undef) else .sv .undef
  | [], i, s => by simp [argSl, lk]
  | v :: l, i, s => by
    simp only [argSl, lk]
    split
    · rename_i e; subst e; simp
    · rename_i e
      rw [lk_argSl l (i + 1) s]
      by_cases h : i + 1 ≤ s ∧ s < i + 1 + l.length
      · have h' : i ≤ s ∧ s < i + (v :: l).length := by simp; omega
        rw [if_pos h, if_pos h']
        have : s - i = (s - (i + 1)) + 1 := by omega
        rw [this]; simp
      · have h' : ¬ (i ≤ s ∧ s < i + (v :: l).length) := by simp; omega
        rw [if_neg h, if_neg h']

theorem sim_enter {mu : Mem} {vs : List Value} {args : List SV} {n : Nat} (hm : MemOK mu w) (hr : RepArgs mu args vs) (hn : args.length ≤ n) :
    Sim w mu (fun _ => False) { mu := mu, x := fun _ => none, bx := fun _ => none, B := w.heap.size, okb := fun b => b < w.heap.size → False } (St.enter n args) { tmps := vs.toArray ++ Array.replicate (n - vs.toArray.size) undef, defers := [] } w := by
  constructor
  · simp [St.enter]; have := hr.1; omega
  · rfl
  · intro s
    simp only [St.enter]
    rw [lk_argSl]
    split
    · rename_i hs
      have hs2 : s < args.length := by omega
      have := hr.2 s hs2
      have hlt : s < vs.length := by rw [hr.1]; exact hs2
      simpa [RepL, Array.getD_eq_getD_getElem?, Array.getElem?_append, hlt, List.getD_eq_getElem?_getD] using this
    · exact .undef _
  · intro s c e; simp [St.enter, lkb] at e
  · intro s s' b e; simp at e
  · intro b c e; simp [St.enter] at e
  · exact hm
  · intro b j hb; rfl
  · exact Ext.refl _ _
  · rfl
  · intro b p e; simp at e
  · intro s b e; simp at e
  · intro s b p e; simp at e
  · rfl
  · intro b hb; exact hb.elim

def resOne (tmps : Array Value) : ResultVar → Sem Value
  | .tmp t => pure (tmps.getD t undef)
  | .cell a t => do loadVar t (← asAddr (tmps.getD a undef))

theorem results_list (fn : Func) (tmps : Array Value) : ∀ {us : List Value}, (fn.results.toList.mapM (resOne tmps)).run P w = .ok us w →
    (results fn tmps).run P w = .ok (if h : us.toArray.size = 1 then us.toArray[0] else .tuple us.toArray) w := by
  intro us h
  have e : results fn tmps = (do let vs ← fn.results.mapM (resOne tmps); pure (if h : vs.size = 1 then vs[0] else .tuple vs)) := rfl
  rw [e, Array.mapM_eq_mapM_toList]
  simp [Sem.run_bind, h, Result.andThen]

/-- What the results are, one by one. -/
theorem res_list (h : Sim w0 mu0 T g st a w) : ∀ {l : List ResultVar} {rs : List AR} {vs : List RV} {c : Prop}, compRes P l = some rs → arVs st rs = some (c, vs) → c →
    ∃ us : List Value, (l.mapM (resOne a.tmps)).run P w = .ok us w ∧ us.length = vs.length ∧ rs.length = vs.length ∧ ∀ j, j < vs.length → match rs.getD j (.t 0) with
      | .t s => RepL g w s (vs.getD j (.sv .undef)).lv (us.getD j Go.undef)
      | .c _ _ => ∃ v, vs.getD j (.sv .undef) = .sv v ∧ Rep g.mu v (us.getD j Go.undef)
  | [], rs, vs, c, h1, h2, hc => by
    cases h1; simp only [arVs, Option.some.injEq, Prod.mk.injEq] at h2; obtain ⟨-, rfl⟩ := h2
    exact ⟨[], rfl, rfl, rfl, fun j hj => by simp at hj⟩
  | .tmp t :: l, rs, vs, c, h1, h2, hc => by
    simp only [compRes] at h1
    obtain ⟨rs', hrs, rfl⟩ := opt_map_some h1
    simp only [arVs] at h2
    split at h2
    case h_2 => cases h2
    rename_i c1 v d vs' hv hvs
    simp only [Option.some.injEq, Prod.mk.injEq] at h2
    obtain ⟨rfl, rfl⟩ := h2
    obtain ⟨us, k1, k2, k3, k4⟩ := res_list h hrs hvs hc.2
    refine ⟨a.tmps.getD t undef :: us, ?_, by simp [k2], by simp [k3], ?_⟩
    · simp [List.mapM_cons, Sem.run_bind, resOne, k1, Result.andThen]
    · intro j hj
      cases j with
      | zero =>
        simp only [arV] at hv
        obtain ⟨r, hr1, hr2⟩ := opt_map_some hv
        simp only [Prod.mk.injEq] at hr2
        obtain ⟨rfl, rfl⟩ := hr2
        have := (h.slots t).gv hc.1
        generalize (lk st.sl t).gv.2 = lv at this hr1
        cases lv <;> simp [LV.rv?] at hr1 <;> subst hr1 <;> simpa [RV.lv] using this
      | succ j => simpa using k4 j (by simpa using hj)
  | .cell t ty :: l, rs, vs, c, h1, h2, hc => by
    simp only [compRes] at h1
    split at h1
    case h_2 => cases h1
    rename_i n rs' hld hrs
    cases h1
    simp only [arVs] at h2
    split at h2
    case h_2 => cases h2
    rename_i c1 v d vs' hv hvs
    simp only [Option.some.injEq, Prod.mk.injEq] at h2
    obtain ⟨rfl, rfl⟩ := h2
    obtain ⟨us, k1, k2, k3, k4⟩ := res_list h hrs hvs hc.2
    simp only [arV] at hv
    split at hv
    case h_2 => cases hv
    rename_i g1 s' o hgv
    split at hv
    case h_2 => cases hv
    rename_i cells hcells
    simp only [Option.some.injEq, Prod.mk.injEq] at hv
    obtain ⟨rfl, rfl⟩ := hv
    obtain ⟨b, hb, hbox⟩ := h.boxes s' cells hcells
    have hp := (h.slots t).gv (by rw [hgv]; exact hc.1.1)
    rw [hgv] at hp
    obtain ⟨b', hb', hval⟩ := hp
    rw [hb] at hb'; cases hb'
    obtain ⟨val, h5, h6⟩ := load_ok hld hbox.cellsAt (k := o) (by simpa using hc.1.2)
    refine ⟨val :: us, ?_, by simp [k2], by simp [k3], ?_⟩
    · simp only [Nat.zero_add] at h5
      simp [List.mapM_cons, Sem.run_bind, resOne, k1, Result.andThen, hval, asAddr, h5]
    · intro j hj
      cases j with
      | zero => exact ⟨_, rfl, by simpa using h6⟩
      | succ j => simpa using k4 j (by simpa using hj)

theorem arSlots_mem {s : Nat} : ∀ {rs : List AR} {j : Nat}, j < rs.length → rs.getD j (.t 0) = .t s → s ∈ arSlots rs
  | .t t :: r, 0, _, e => by simp at e; subst e; simp [arSlots]
  | .c _ _ :: r, 0, _, e => by simp at e
  | .t t :: r, j + 1, hj, e => by simp [arSlots]; exact .inr (arSlots_mem (j := j) (by simpa using hj) (by simpa using e))
  | .c _ _ :: r, j + 1, hj, e => by simp [arSlots]; exact arSlots_mem (j := j) (by simpa using hj) (by simpa using e)
  | [], j, hj, _ => by simp at hj

/-- Where a slot's own goes. -/
def posOf (s : Nat) : Nat → List AR → Option Nat
  | _, [] => none
  | j, .t t :: r => if t = s then some j else posOf s (j + 1) r
  | j, .c _ _ :: r => posOf s (j + 1) r

theorem posOf_at {s : Nat} : ∀ {rs : List AR} {i j : Nat}, (arSlots rs).Nodup → j < rs.length → rs.getD j (.t 0) = .t s → posOf s i rs = some (i + j)
  | .t t :: r, i, 0, _, _, e => by simp at e; simp [posOf, e]
  | .c _ _ :: r, i, 0, _, _, e => by simp at e
  | .t t :: r, i, j + 1, hn, hj, e => by
    simp only [arSlots, List.nodup_cons] at hn
    have hj' : j < r.length := by simpa using hj
    have e' : r.getD j (.t 0) = .t s := by simpa using e
    have hm := arSlots_mem hj' e'
    have hne : t ≠ s := fun q => hn.1 (q ▸ hm)
    rw [posOf, if_neg hne, posOf_at hn.2 hj' e']; congr 1; omega
  | .c _ _ :: r, i, j + 1, hn, hj, e => by
    have hj' : j < r.length := by simpa using hj
    have e' : r.getD j (.t 0) = .t s := by simpa using e
    have hn' : (arSlots r).Nodup := hn
    rw [posOf, posOf_at hn' hj' e']; congr 1; omega
  | [], i, j, _, hj, _ => by simp at hj

def retX (g : Gh) (rs : List AR) : Nat → Option Place := fun b => match g.x b with
  | some (.slot s 0) => (posOf s 0 rs).map (.slot 0)
  | _ => none

theorem ret_rep (h : Sim w0 mu0 T g st a w) {l : List ResultVar} {rs : List AR} {rv : LV} (h1 : compRes P l = some rs) (hnd : (arSlots rs).Nodup) (h2 : RvIs st rs rv) :
    ∃ us : List Value, (l.mapM (resOne a.tmps)).run P w = .ok us w ∧ RetRep w0.heap.size g.mu w rv (if h : us.toArray.size = 1 then us.toArray[0] else .tuple us.toArray) := by
  unfold RvIs at h2
  split at h2
  case h_2 => exact h2.elim
  rename_i c vs hvs
  obtain ⟨hc, hwk⟩ := h2
  obtain ⟨us, k1, k2, k3, k4⟩ := res_list h h1 hvs hc
  refine ⟨us, k1, retX g rs, hwk.rep ?_, ?_⟩
  · have own : ∀ j, j < vs.length → RepR { mu := g.mu, x := retX g rs, bx := fun _ => none, B := w0.heap.size } w (.slot 0 j) (vs.getD j (.sv .undef)) (us.getD j Go.undef) := by
      intro j hj
      have hk := k4 j hj
      cases hr : rs.getD j (.t 0) with
      | c s n => rw [hr] at hk; obtain ⟨v, e1, e2⟩ := hk; rw [e1]; exact e2
      | t s =>
        rw [hr] at hk
        have hp := posOf_at (i := 0) hnd (by omega) hr
        cases hv : vs.getD j (.sv .undef) with
        | sv v => rw [hv] at hk; exact hk
        | own sz xs =>
          rw [hv] at hk
          rcases hk with hk | ⟨b, off, cap, e1, e2, e3, e4, e5⟩
          · obtain ⟨u1, q, u2, u3⟩ := hk
            exact .inl ⟨u1, q, u2, fun a e => by rw [← h.B]; exact u3 a e⟩
          · exact .inr ⟨b, off, cap, e1, e2, by simp [retX, e3, hp], by rw [← h.B]; exact e4, e5⟩
    unfold resV
    split
    · rename_i v
      obtain ⟨u, rfl⟩ : ∃ u, us = [u] := by
        cases us with
        | nil => simp at k2
        | cons u r => cases r with
          | nil => exact ⟨u, rfl⟩
          | cons _ _ => simp at k2
      have := own 0 (by simp)
      simp at this
      cases v <;> exact this
    · rename_i hne
      have hsz : ¬ us.toArray.size = 1 := by
        intro e
        cases vs with
        | nil => simp at k2; simp [k2] at e
        | cons v r => cases r with
          | nil => exact hne v rfl
          | cons _ _ => simp at k2 e; omega
      rw [dif_neg hsz]
      exact ⟨us, rfl, k2, own⟩
  · intro b p e
    simp only [retX] at e
    split at e
    · rename_i s hx; exact h.xlt b _ hx
    · cases e

theorem pure_of {f : FuncId} {fn : Func} {body : Code} {ac : AC} {rs : List AR} {args : List SV} {rv : LV} (hf : P.funcs[f]? = some fn) (hb : fn.body = some body)
    (hc : comp P fn.ntmps body = some ac) (hr : compRes P fn.results.toList = some rs) (hnd : (arSlots rs).Nodup) (hn : args.length ≤ fn.ntmps)
    (h : awp P ac (fun e st => match e with | .exit _ => False | _ => RvIs st rs rv) (St.enter fn.ntmps args)) : Pure P f args rv := by
  intro mu w vs hm hargs
  refine calls_of_wp hf hb ?_
  have hsim := sim_enter hm hargs hn
  refine wp_mono (awp_ok body ac _ _ _ _ w hc hsim rfl h) fun e a' w' hp => ?_
  have fin : ∀ g' st', Sim w mu (fun _ => False) g' st' a' w' → RvIs st' rs rv →
      a'.defers = [] ∧ ∃ v, (results fn a'.tmps).run P w' = .ok v w' ∧ ∃ val mu', Ending.returned v = .returned val ∧ Ext (fun _ => False) w w' ∧ mu.le mu' ∧ MemOK mu' w' ∧ (∀ b j, b < w.heap.size → mu' b j = mu b j) ∧ RetRep w.heap.size mu' w' rv val := by
    intro g' st' hs hq
    obtain ⟨us, q1, q2⟩ := ret_rep hs hr hnd hq
    refine ⟨hs.defers, _, results_list fn a'.tmps q1, _, g'.mu, rfl, hs.ext, ?_, hs.mem, hs.mem0, q2⟩
    intro b j v e
    rw [hs.mem0 b j (hm.lt e)]; exact e
  cases e with
  | normal => obtain ⟨g', st', q1, q2, q3⟩ := hp; exact fin g' st' q1 q3
  | ret => obtain ⟨g', st', q1, q2, q3⟩ := hp; exact fin g' st' q1 q3
  | exit id => obtain ⟨g', st', q1, q2, q3⟩ := hp; exact q3.elim
  | goto l => exact hp.elim
  | panic ch => exact hp.elim
  | outgrown => exact hp.elim

/-- A box that may be there is written to no more. -/
def FrzP (st : St) (s : Nat) : Prop := match lkb st.bx s with
  | some c => s ≠ 0 ∧ (shareB c).all SV.isCell = true
  | none => True
theorem Sim.frzP (h : Sim w0 mu0 T g st a w) {s : Nat} (hf : FrzP st s) : ∃ g', Sim w0 mu0 T g' (st.frz s) a w := by
  unfold FrzP at hf
  cases hc : lkb st.bx s with
  | none => exact ⟨g, by simpa [St.frz, hc] using h⟩
  | some c =>
    rw [hc] at hf
    exact h.freeze ⟨hf.1, by rw [hc]; exact hf.2⟩

theorem pure_ofF (s : Nat) {f : FuncId} {fn : Func} {body : Code} {ac : AC} {rs : List AR} {args : List SV} {rv : LV} (hf : P.funcs[f]? = some fn) (hb : fn.body = some body)
    (hc : comp P fn.ntmps body = some ac) (hr : compRes P fn.results.toList = some rs) (hnd : (arSlots rs).Nodup) (hn : args.length ≤ fn.ntmps)
    (h : awp P ac (fun e st => match e with | .exit _ => False | _ => FrzP st s ∧ RvIs (st.frz s) rs rv) (St.enter fn.ntmps args)) : Pure P f args rv := by
  intro mu w vs hm hargs
  refine calls_of_wp hf hb ?_
  have hsim := sim_enter hm hargs hn
  refine wp_mono (awp_ok body ac _ _ _ _ w hc hsim rfl h) fun e a' w' hp => ?_
  have fin : ∀ g' st', Sim w mu (fun _ => False) g' st' a' w' → FrzP st' s ∧ RvIs (st'.frz s) rs rv →
      a'.defers = [] ∧ ∃ v, (results fn a'.tmps).run P w' = .ok v w' ∧ ∃ val mu', Ending.returned v = .returned val ∧ Ext (fun _ => False) w w' ∧ mu.le mu' ∧ MemOK mu' w' ∧ (∀ b j, b < w.heap.size → mu' b j = mu b j) ∧ RetRep w.heap.size mu' w' rv val := by
    intro g0 st0 hs0 hq0
    obtain ⟨hfz, hq⟩ := hq0
    obtain ⟨g', hs⟩ := hs0.frzP hfz
    obtain ⟨us, q1, q2⟩ := ret_rep hs hr hnd hq
    refine ⟨hs.defers, _, results_list fn a'.tmps q1, _, g'.mu, rfl, hs.ext, ?_, hs.mem, hs.mem0, q2⟩
    intro b j v e
    rw [hs.mem0 b j (hm.lt e)]; exact e
  cases e with
  | normal => obtain ⟨g', st', q1, q2, q3⟩ := hp; exact fin g' st' q1 q3
  | ret => obtain ⟨g', st', q1, q2, q3⟩ := hp; exact fin g' st' q1 q3
  | exit id => obtain ⟨g', st', q1, q2, q3⟩ := hp; exact q3.elim
  | goto l => exact hp.elim
  | panic ch => exact hp.elim
  | outgrown => exact hp.elim

/-! ### a function that works on one object -/
def St.enterE (n : Nat) (cells args : List SV) : St := { n := n, sl := (0, .lptr 0 0) :: argSl 1 args, bx := [(0, cells.map .sv)], hp := fun _ => none }

theorem sim_enterE {mu : Mem} {b : Nat} {vs : List Value} {cells args : List SV} {n : Nat} (hm : MemOK mu w) (hh : HeapAt mu w b cells) (hr : RepArgs mu args vs) (hn : args.length + 1 ≤ n) :
    Sim w mu (fun k => k = b) { mu := mu, x := fun _ => none, bx := fun s => if s = 0 then some b else none, B := w.heap.size, okb := fun b' => b' < w.heap.size → b' = b } (St.enterE n cells args)
      { tmps := (.pointer (some ⟨b, 0, none⟩) :: vs).toArray ++ Array.replicate (n - (.pointer (some ⟨b, 0, none⟩) :: vs).toArray.size) undef, defers := [] } w := by
  obtain ⟨h0, c, e, fr, h1, h2, h3, h4⟩ := hh
  have hlt : b < w.heap.size := by
    apply Classical.byContradiction; intro q
    rw [Array.getElem?_eq_none (by omega)] at h1; cases h1
  constructor
  · simp [St.enterE]; have := hr.1; omega
  · rfl
  · intro s
    cases s with
    | zero => exact ⟨b, by simp, by simp [Array.getD_eq_getD_getElem?, Array.getElem?_append]⟩
    | succ s =>
      simp only [St.enterE]
      rw [lk_cons_other _ _ (by omega), lk_argSl]
      split
      · rename_i hs
        have hs2 : s < args.length := by omega
        have := hr.2 s hs2
        have hlt : s < vs.length := by rw [hr.1]; exact hs2
        simpa [RepL, Array.getD_eq_getD_getElem?, Array.getElem?_append, hlt, List.getD_eq_getElem?_getD] using this
      · exact .undef _
  · intro s cs hc
    simp only [St.enterE, lkb] at hc
    split at hc
    case isFalse => cases hc
    rename_i q
    cases hc
    subst q
    refine ⟨b, by simp, fun _ => rfl, h0, rfl, c, e, fr, h1, h2, by simpa using h3, fun j hj => ?_⟩
    have hj' : j < cells.length := by simpa using hj
    simpa [List.getD_eq_getElem?_getD, hj', RepR] using h4 j hj'
  · intro s s' b' e1 e2
    simp only [] at e1 e2
    split at e1
    · split at e2
      · omega
      · cases e2
    · cases e1
  · intro b' cs hc; simp [St.enterE] at hc
  · exact hm
  · intro _ _ _; rfl
  · exact Ext.refl _ _
  · rfl
  · intro b' p hb; simp at hb
  · intro s b' hb
    simp only [] at hb
    split at hb
    · cases hb; exact hlt
    · cases hb
  · intro s b' p hb; simp at hb
  · rfl
  · intro b' hb; subst hb; simp

/-- The object's cells, in the end. -/
def ObjIs (st : St) (cells' : List SV) : Prop := match lkb st.bx 0 with
  | some c => c.map RV.share = cells'
  | none => False

theorem eff_of {f : FuncId} {fn : Func} {body : Code} {ac : AC} {rs : List AR} {cells args : List SV} {rv : LV} {cells' : List SV} (hf : P.funcs[f]? = some fn) (hb : fn.body = some body)
    (hc : comp P fn.ntmps body = some ac) (hr : compRes P fn.results.toList = some rs) (hnd : (arSlots rs).Nodup) (hn : args.length + 1 ≤ fn.ntmps)
    (h : awp P ac (fun e st => match e with | .exit _ => False | _ => RvIs st rs rv ∧ ObjIs st cells') (St.enterE fn.ntmps cells args)) : Eff1 P f cells args rv cells' := by
  intro mu w b vs hm hh hargs
  refine calls_of_wp hf hb ?_
  have hsim := sim_enterE hm hh hargs hn
  refine wp_mono (awp_ok body ac _ _ _ _ w hc hsim rfl h) fun e a' w' hp => ?_
  have fin : ∀ g' st', Sim w mu (fun k => k = b) g' st' a' w' → RvIs st' rs rv ∧ ObjIs st' cells' →
      a'.defers = [] ∧ ∃ v, (results fn a'.tmps).run P w' = .ok v w' ∧ ∃ val mu', Ending.returned v = .returned val ∧ Ext (fun k => k = b) w w' ∧ mu.le mu' ∧ MemOK mu' w' ∧ (∀ b' j, b' < w.heap.size → mu' b' j = mu b' j) ∧ HeapAt mu' w' b cells' ∧ RetRep w.heap.size mu' w' rv val := by
    intro g' st' hs hq
    obtain ⟨us, q1, q2⟩ := ret_rep hs hr hnd hq.1
    refine ⟨hs.defers, _, results_list fn a'.tmps q1, _, g'.mu, rfl, hs.ext, ?_, hs.mem, hs.mem0, ?_, q2⟩
    · intro b j v e
      rw [hs.mem0 b j (hm.lt e)]; exact e
    · have hq2 := hq.2
      unfold ObjIs at hq2
      split at hq2
      case h_2 => exact hq2.elim
      rename_i cs hcs
      subst hq2
      obtain ⟨b2, hb2, hbox⟩ := hs.boxes 0 cs hcs
      have hpin := hs.pin b rfl
      rw [hpin] at hb2
      cases hb2
      exact hbox.heapAt
  cases e with
  | normal => obtain ⟨g', st', q1, q2, q3⟩ := hp; exact fin g' st' q1 q3
  | ret => obtain ⟨g', st', q1, q2, q3⟩ := hp; exact fin g' st' q1 q3
  | exit id => obtain ⟨g', st', q1, q2, q3⟩ := hp; exact q3.elim
  | goto l => exact hp.elim
  | panic ch => exact hp.elim
  | outgrown => exact hp.elim

/-! ### a function that returns a new object -/
def NewIs (st : St) (rs : List AR) (cells : List SV) : Prop := match rs with
  | [.t s] => match (lk st.sl s).gv with
    | (g, .lptr s' 0) => match lkb st.bx s' with
      | some c => g = true ∧ c.map RV.share = cells
      | none => False
    | _ => False
  | _ => False

theorem new_of {f : FuncId} {fn : Func} {body : Code} {ac : AC} {rs : List AR} {args : List SV} {cells : List SV} (hf : P.funcs[f]? = some fn) (hb : fn.body = some body)
    (hc : comp P fn.ntmps body = some ac) (hr : compRes P fn.results.toList = some rs) (hn : args.length ≤ fn.ntmps)
    (h : awp P ac (fun e st => match e with | .exit _ => False | _ => NewIs st rs cells) (St.enter fn.ntmps args)) : PureN P f args cells := by
  intro mu w vs hm hargs
  refine calls_of_wp hf hb ?_
  have hsim := sim_enter hm hargs hn
  refine wp_mono (awp_ok body ac _ _ _ _ w hc hsim rfl h) fun e a' w' hp => ?_
  have fin : ∀ g' st', Sim w mu (fun _ => False) g' st' a' w' → NewIs st' rs cells →
      a'.defers = [] ∧ ∃ v, (results fn a'.tmps).run P w' = .ok v w' ∧ ∃ b mu', Ending.returned v = .returned (.pointer (some ⟨b, 0, none⟩)) ∧ Ext (fun _ => False) w w' ∧ mu.le mu' ∧ MemOK mu' w' ∧ (∀ b j, b < w.heap.size → mu' b j = mu b j) ∧ w.heap.size ≤ b ∧ HeapAt mu' w' b cells := by
    intro g' st' hs hq
    unfold NewIs at hq
    split at hq
    case h_2 => exact hq.elim
    rename_i s
    split at hq
    case h_2 => exact hq.elim
    rename_i gg s' hgv
    split at hq
    case h_2 => exact hq.elim
    rename_i c hcb
    obtain ⟨rfl, rfl⟩ := hq
    have hslot := (hs.slots s).gv (by rw [hgv])
    rw [hgv] at hslot
    obtain ⟨b, hb1, hval⟩ := hslot
    obtain ⟨b2, hb2, hbox⟩ := hs.boxes s' c hcb
    rw [hb1] at hb2; cases hb2
    have hres : fn.results.toList = [.tmp s] := by
      cases hl : fn.results.toList with
      | nil => rw [hl] at hr; cases hr
      | cons x r =>
        rw [hl] at hr
        cases x with
        | tmp t =>
          simp only [compRes] at hr
          obtain ⟨z, hz, he⟩ := opt_map_some hr
          cases he
          cases r with
          | nil => rfl
          | cons y r' =>
            cases y with
            | tmp t => simp only [compRes] at hz; obtain ⟨z', _, he⟩ := opt_map_some hz; cases he
            | cell t ty => simp only [compRes] at hz; split at hz <;> cases hz
        | cell t ty => simp only [compRes] at hr; split at hr <;> cases hr
    have hrun : (fn.results.toList.mapM (resOne a'.tmps)).run P w' = .ok [.pointer (some ⟨b, 0, none⟩)] w' := by
      rw [hres]; simp [List.mapM_cons, Sem.run_bind, resOne, Result.andThen]; rw [Array.getD_eq_getD_getElem?] at hval; exact hval
    have hok := hbox.1
    rw [hs.okb] at hok
    refine ⟨hs.defers, _, results_list fn a'.tmps hrun, b, g'.mu, rfl, hs.ext, ?_, hs.mem, hs.mem0, ?_, hbox.heapAt⟩
    · intro b j v e
      rw [hs.mem0 b j (hm.lt e)]; exact e
    · exact Nat.le_of_not_lt fun q => hok q
  cases e with
  | normal => obtain ⟨g', st', q1, q2, q3⟩ := hp; exact fin g' st' q1 q3
  | ret => obtain ⟨g', st', q1, q2, q3⟩ := hp; exact fin g' st' q1 q3
  | exit id => obtain ⟨g', st', q1, q2, q3⟩ := hp; exact q3.elim
  | goto l => exact hp.elim
  | panic ch => exact hp.elim
  | outgrown => exact hp.elim
end Go.Av
