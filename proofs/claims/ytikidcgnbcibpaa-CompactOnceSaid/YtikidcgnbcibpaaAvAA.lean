import Derived.Test.YtikidcgnbcibpaaAvL3

set_option linter.unusedVariables false
set_option linter.unusedSimpArgs false
namespace Go.Av
variable {P : Program}

def RegGo (R : Orc) (l : List AOp) (st : St) (K : St → Prop) : Prop := match runR R l st True with
  | some (c, st') => c ∧ K st'
  | none => False

def RegGoT (R : Orc) (l : List AOp) (st : St) (K : St → Prop) : Prop := match runT R l st True with
  | some (c, st') => c ∧ K st'
  | none => False

def awpR (R : Orc) : AC → (AEx → St → Prop) → St → Prop
  | .skip, Q, st => Q .normal st
  | .seq x y, Q, st => awpR R x (fun e st' => match e with | .normal => awpR R y Q st' | e => Q e st') st
  | .reg l, Q, st => RegGoT R l st (Q .normal)
  | .dreg rl l, Q, st => rootsOK rl st ∧ RegGo R l st (Q .normal)
  | .frz l, Q, st => if R.nofz = true then Q .normal st else frzAll l st (Q .normal)
  | .cond x y z, Q, st => match rd st x with
    | some (c, .bool b) => c = true ∧ (b = true → awpR R y Q st) ∧ (b = false → awpR R z Q st)
    | some (c, .anyb) => c = true ∧ awpR R y Q st ∧ awpR R z Q st
    | _ => False
  | .block id x, Q, st => awpR R x (fun e st' => match e with | .exit id' => if id' = id then Q .normal st' else Q (.exit id') st' | e => Q e st') st
  | .loop x, Q, st => ∃ I : Nat → St → Prop, (∃ n st', Wk st st' ∧ I n st') ∧ ∀ n st, I n st → awpR R x (fun e st' => match e with | .normal => ∃ m st'', m < n ∧ Wk st' st'' ∧ I m st'' | e => Q e st') st
  | .rfunc _ _ _ _, _, _ => False
  | .exit id, Q, st => Q (.exit id) st
  | .ret, Q, st => Q .ret st

theorem awpR_ok {R : Orc} (hR : R.ok P) : ∀ (ac : AC) (Q Q' : AEx → St → Prop) (st : St), (∀ e st, Q e st → Q' e st) → awpR R ac Q st → awp P ac Q' st
  | .skip, Q, Q', st, hq, h => hq _ _ h
  | .ret, Q, Q', st, hq, h => hq _ _ h
  | .exit id, Q, Q', st, hq, h => hq _ _ h
  | .reg l, Q, Q', st, hq, h => by
    simp only [awpR, RegGoT] at h
    split at h
    · rename_i e; exact awp_reg hR e h.1 (hq _ _ h.2)
    · exact h.elim
  | .dreg rl l, Q, Q', st, hq, h => by
    simp only [awpR, RegGo] at h
    obtain ⟨h0, h⟩ := h
    split at h
    · rename_i e; exact awp_dreg hR h0 e h.1 (hq _ _ h.2)
    · exact h.elim
  | .rfunc _ _ _ _, Q, Q', st, hq, h => h.elim
  | .frz l, Q, Q', st, hq, h => by
    simp only [awpR] at h
    split at h
    · exact .inl (hq _ _ h)
    · exact .inr (frzAll.mono (fun st => hq _ st) h)
  | .seq x y, Q, Q', st, hq, h => by
    simp only [awpR] at h
    simp only [awp]
    refine awpR_ok hR x _ _ st (fun e st' he => ?_) h
    cases e with
    | normal => exact awpR_ok hR y Q Q' st' hq he
    | exit id => exact hq _ _ he
    | ret => exact hq _ _ he
  | .cond x y z, Q, Q', st, hq, h => by
    simp only [awpR] at h
    simp only [awp]
    split at h
    · rename_i e
      rw [e]
      exact ⟨h.1, fun q => awpR_ok hR y Q Q' st hq (h.2.1 q), fun q => awpR_ok hR z Q Q' st hq (h.2.2 q)⟩
    · rename_i e
      rw [e]
      exact ⟨h.1, awpR_ok hR y Q Q' st hq h.2.1, awpR_ok hR z Q Q' st hq h.2.2⟩
    · exact h.elim
  | .block id x, Q, Q', st, hq, h => by
    simp only [awpR] at h
    simp only [awp]
    refine awpR_ok hR x _ _ st (fun e st' he => ?_) h
    cases e with
    | normal => exact hq _ _ he
    | exit id' =>
      simp only [] at he ⊢
      split
      · rename_i q; rw [if_pos q] at he; exact hq _ _ he
      · rename_i q; rw [if_neg q] at he; exact hq _ _ he
    | ret => exact hq _ _ he
  | .loop x, Q, Q', st, hq, h => by
    simp only [awpR] at h
    simp only [awp]
    obtain ⟨I, h0, hr⟩ := h
    refine ⟨I, h0, fun n st hI => awpR_ok hR x _ _ st (fun e st' he => ?_) (hr n st hI)⟩
    cases e with
    | normal => exact he
    | exit id => exact hq _ _ he
    | ret => exact hq _ _ he

/-- What is asked behind a loop; simp doesn't look into it. -/
class QB where
  q : AEx → St → Prop
def LoopGo (R : Orc) (b : AC) [Q : QB] (st : St) : Prop := awpR R (.loop b) Q.q st

theorem awpR_loop {R : Orc} {b : AC} {Q : AEx → St → Prop} {st : St} {α : Type} (inv : α → Prop) (stOf : α → St) (meas : α → Nat) (a0 : α) (h0 : inv a0) (hw : Wk st (stOf a0))
    (h : ∀ a, inv a → awpR R b (fun e st' => match e with | .normal => ∃ a', inv a' ∧ meas a' < meas a ∧ Wk st' (stOf a') | e => Q e st') (stOf a)) : @LoopGo R b ⟨Q⟩ st := by
  unfold LoopGo
  simp only [awpR]
  refine ⟨fun n st => ∃ a, inv a ∧ n = meas a ∧ st = stOf a, ⟨meas a0, stOf a0, hw, a0, h0, rfl, rfl⟩, ?_⟩
  rintro n st ⟨a, ha, rfl, rfl⟩
  have := h a ha
  have mono : ∀ {ac : AC} {Q Q' : AEx → St → Prop} {st : St}, (∀ e st, Q e st → Q' e st) → awpR R ac Q st → awpR R ac Q' st := by
    intro ac
    induction ac with
    | skip => intro Q Q' st hq h; exact hq _ _ h
    | ret => intro Q Q' st hq h; exact hq _ _ h
    | exit id => intro Q Q' st hq h; exact hq _ _ h
    | reg l =>
      intro Q Q' st hq h
      simp only [awpR, RegGoT] at h ⊢
      split at h
      · exact ⟨h.1, hq _ _ h.2⟩
      · exact h.elim
    | dreg rl l =>
      intro Q Q' st hq h
      simp only [awpR, RegGo] at h ⊢
      refine ⟨h.1, ?_⟩
      replace h := h.2
      split at h
      · exact ⟨h.1, hq _ _ h.2⟩
      · exact h.elim
    | rfunc x ps a b => intro Q Q' st hq h; exact h.elim
    | frz l =>
      intro Q Q' st hq h
      simp only [awpR] at h ⊢
      split at h
      · rename_i q; rw [if_pos q]; exact hq _ _ h
      · rename_i q; rw [if_neg q]; exact frzAll.mono (fun st => hq _ st) h
    | seq x y ihx ihy =>
      intro Q Q' st hq h
      simp only [awpR] at h ⊢
      refine ihx (fun e st' he => ?_) h
      cases e with
      | normal => exact ihy hq he
      | exit id => exact hq _ _ he
      | ret => exact hq _ _ he
    | cond x y z ihy ihz =>
      intro Q Q' st hq h
      simp only [awpR] at h ⊢
      split at h
      · exact ⟨h.1, fun q => ihy hq (h.2.1 q), fun q => ihz hq (h.2.2 q)⟩
      · exact ⟨h.1, ihy hq h.2.1, ihz hq h.2.2⟩
      · exact h.elim
    | block id x ih =>
      intro Q Q' st hq h
      simp only [awpR] at h ⊢
      refine ih (fun e st' he => ?_) h
      cases e with
      | normal => exact hq _ _ he
      | exit id' =>
        simp only [] at he ⊢
        split
        · rename_i q; rw [if_pos q] at he; exact hq _ _ he
        · rename_i q; rw [if_neg q] at he; exact hq _ _ he
      | ret => exact hq _ _ he
    | loop x ih =>
      intro Q Q' st hq h
      simp only [awpR] at h ⊢
      obtain ⟨I, h0, hr⟩ := h
      refine ⟨I, h0, fun n st hI => ih (fun e st' he => ?_) (hr n st hI)⟩
      cases e with
      | normal => exact he
      | exit id => exact hq _ _ he
      | ret => exact hq _ _ he
  refine mono (fun e st' he => ?_) this
  cases e with
  | normal => obtain ⟨a', q1, q2, q3⟩ := he; exact ⟨meas a', stOf a', q2, q3, a', q1, rfl, rfl⟩
  | exit id => exact he
  | ret => exact he

def Done (rs : List AR) (rv : LV) (e : AEx) (st : St) : Prop := match e with
  | .exit _ => False
  | _ => RvIs st rs rv

theorem pure_go {R : Orc} (hR : R.ok P) {f : FuncId} {fn : Func} {n : Nat} {ac : AC} {rs : List AR} {args : List SV} {rv : LV} (hf : P.funcs[f]? = some fn) (hn : fn.ntmps = n)
    (hc : fn.body.bind (comp P n) = some ac) (hr : compRes P fn.results.toList = some rs) (hnd : (arSlots rs).Nodup) (hl : args.length ≤ n)
    (h : awpR R ac (Done rs rv) (St.enter n args)) : Pure P f args rv := by
  cases hb : fn.body with
  | none => rw [hb] at hc; cases hc
  | some c =>
    rw [hb] at hc
    subst hn
    exact pure_of hf hb hc hr hnd hl (awpR_ok hR ac _ _ _ (fun e st he => by cases e <;> exact he) h)

def DoneF (s : Nat) (rs : List AR) (rv : LV) (e : AEx) (st : St) : Prop := match e with
  | .exit _ => False
  | _ => FrzP st s ∧ RvIs (st.frz s) rs rv

theorem pure_goF (s : Nat) {R : Orc} (hR : R.ok P) {f : FuncId} {fn : Func} {n : Nat} {ac : AC} {rs : List AR} {args : List SV} {rv : LV} (hf : P.funcs[f]? = some fn) (hn : fn.ntmps = n)
    (hc : fn.body.bind (comp P n) = some ac) (hr : compRes P fn.results.toList = some rs) (hnd : (arSlots rs).Nodup) (hl : args.length ≤ n)
    (h : awpR R ac (DoneF s rs rv) (St.enter n args)) : Pure P f args rv := by
  cases hb : fn.body with
  | none => rw [hb] at hc; cases hc
  | some c =>
    rw [hb] at hc
    subst hn
    exact pure_ofF s hf hb hc hr hnd hl (awpR_ok hR ac _ _ _ (fun e st he => by cases e <;> exact he) h)

def DoneE (rs : List AR) (rv : LV) (cells' : List SV) (e : AEx) (st : St) : Prop := match e with
  | .exit _ => False
  | _ => RvIs st rs rv ∧ ObjIs st cells'

theorem eff_go {R : Orc} (hR : R.ok P) {f : FuncId} {fn : Func} {n : Nat} {ac : AC} {rs : List AR} {cells args : List SV} {rv : LV} {cells' : List SV} (hf : P.funcs[f]? = some fn) (hn : fn.ntmps = n)
    (hc : fn.body.bind (comp P n) = some ac) (hr : compRes P fn.results.toList = some rs) (hnd : (arSlots rs).Nodup) (hl : args.length + 1 ≤ n)
    (h : awpR R ac (DoneE rs rv cells') (St.enterE n cells args)) : Eff1 P f cells args rv cells' := by
  cases hb : fn.body with
  | none => rw [hb] at hc; cases hc
  | some c =>
    rw [hb] at hc
    subst hn
    exact eff_of hf hb hc hr hnd hl (awpR_ok hR ac _ _ _ (fun e st he => by cases e <;> exact he) h)

def DoneB (n : Nat) (rs : List AR) (rv : LV) (bxs' : List (Nat × List RV)) (e : AEx) (st : St) : Prop := match e with
  | .exit _ => False
  | _ => RvIs st rs rv ∧ BxsIs n st bxs'

theorem effB_go {R : Orc} (hR : R.ok P) {f : FuncId} {fn : Func} {n : Nat} {ac : AC} {rs : List AR} {bxs bxs' : List (Nat × List RV)} {args : List BA} {rv : LV} (hf : P.funcs[f]? = some fn) (hn : fn.ntmps = n)
    (hc : fn.body.bind (comp P n) = some ac) (hr : compRes P fn.results.toList = some rs) (hnd : (arSlots rs).Nodup) (hl : args.length ≤ n) (hal : rv.alone = true) (hni : namesIn bxs' bxs = true)
    (h : awpR R ac (DoneB n rs rv bxs') (St.enterB n bxs args)) : EffB P f bxs args rv bxs' := by
  cases hb : fn.body with
  | none => rw [hb] at hc; cases hc
  | some c =>
    rw [hb] at hc
    subst hn
    exact effB_of hf hb hc hr hnd hl hal hni (awpR_ok hR ac _ _ _ (fun e st he => by cases e <;> exact he) h)

def DoneN (rs : List AR) (cells : List SV) (e : AEx) (st : St) : Prop := match e with
  | .exit _ => False
  | _ => NewIs st rs cells

theorem new_go {R : Orc} (hR : R.ok P) {f : FuncId} {fn : Func} {n : Nat} {ac : AC} {rs : List AR} {args cells : List SV} (hf : P.funcs[f]? = some fn) (hn : fn.ntmps = n)
    (hc : fn.body.bind (comp P n) = some ac) (hr : compRes P fn.results.toList = some rs) (hl : args.length ≤ n)
    (h : awpR R ac (DoneN rs cells) (St.enter n args)) : PureN P f args cells := by
  cases hb : fn.body with
  | none => rw [hb] at hc; cases hc
  | some c =>
    rw [hb] at hc
    subst hn
    exact new_of hf hb hc hr hl (awpR_ok hR ac _ _ _ (fun e st he => by cases e <;> exact he) h)

def R0 : Orc := { p := fun _ _ => none }
theorem R0_ok : R0.ok P := ⟨fun _ _ _ _ h => (by cases h), fun _ _ _ _ _ _ h => (by cases h), fun _ _ _ _ h => (by cases h), fun _ h => (by cases h), fun _ _ _ _ _ _ h => (by cases h), fun _ _ _ _ _ _ _ h => (by cases h)⟩
attribute [simp] WkC WkCs frzAll rootsOK ptrTo eqsV eqC kdOf effMks DoneF FrzP St.frz frzSl LV.frz dropB shareB WkT Done DoneE DoneN DoneB NewIs ObjIs RvIs St.enter St.enterE argSl effT effTL effSO effCD effRng effNxt effB effCB effVB effPn effSP effLP effMF baOf baList capOf capList capsIn namesIn BxsAt BxsIs upB BA.up argLv St.enterB LV.alone Cap.name eff effBox effAlloc effStore effCall effCallE effCallN effCallV effQ ev ev1 ev2 binV unaV eqnV beqV lenV rd rdl LV.gv LV.sh? lk lkb gOf minmaxV ev3 minmax3V mmI Cap.up BA.up faddrV loadV iaddrV iaddrAV idxV idxAV optI slcV dgW gdv fresh noL LV.isL SV.nc SV.cells SV.cell SV.isCell SV.known partV RV.share St.app evParts evElems evList layV setL setParts elemOf asOwn elems? LV.dg LV.dgi LV.flat setR RV.lv LV.rv? arV arVs resV Wk WkS WkB WkL WkR WkRs
/-- Two ways; only the one that is taken is looked at. -/
def CondGo (b : Bool) (A B : Prop) : Prop := (b = true → A) ∧ (b = false → B)
@[congr] theorem CondGo_congr {b b' : Bool} (A B : Prop) (h : b = b') : CondGo b A B = CondGo b' A B := by rw [h]
@[simp] theorem CondGo_true (A B : Prop) : CondGo true A B = A := by simp [CondGo]
@[simp] theorem CondGo_false (A B : Prop) : CondGo false A B = B := by simp [CondGo]
@[simp ↓] theorem CondGo_true' (A B : Prop) : CondGo true A B = A := CondGo_true A B
@[simp ↓] theorem CondGo_false' (A B : Prop) : CondGo false A B = B := CondGo_false A B
@[simp low] theorem CondGo_any (b : Bool) (A B : Prop) : CondGo b A B = ((b = true → A) ∧ (b = false → B)) := rfl
section
variable {R : Orc} {Q : AEx → St → Prop} {st : St}
@[simp ↓] theorem awpR_skip : awpR R .skip Q st = Q .normal st := rfl
@[simp ↓] theorem awpR_ret : awpR R .ret Q st = Q .ret st := rfl
@[simp ↓] theorem awpR_exit {id : Nat} : awpR R (.exit id) Q st = Q (.exit id) st := rfl
@[simp ↓] theorem awpR_seq {x y : AC} : awpR R (.seq x y) Q st = awpR R x (fun e st' => match e with | .normal => awpR R y Q st' | e => Q e st') st := rfl
@[simp ↓] theorem awpR_reg {l : List AOp} : awpR R (.reg l) Q st = RegGoT R l st (Q .normal) := rfl
@[simp ↓] theorem awpR_dreg {rl : RL} {l : List AOp} : awpR R (.dreg rl l) Q st = (rootsOK rl st ∧ RegGo R l st (Q .normal)) := rfl
@[simp ↓] theorem awpR_dreg0 {l : List AOp} : awpR R (.dreg [] l) Q st = RegGo R l st (Q .normal) := by simp [awpR, rootsOK]
@[simp ↓] theorem awpR_frz {l : List Nat} : awpR R (.frz l) Q st = (if R.nofz = true then Q .normal st else frzAll l st (Q .normal)) := rfl
@[simp ↓] theorem awpR_cond {o : AO} {y z : AC} : awpR R (.cond o y z) Q st = (match rd st o with
    | some (c, .bool b) => c = true ∧ CondGo b (awpR R y Q st) (awpR R z Q st)
    | some (c, .anyb) => c = true ∧ awpR R y Q st ∧ awpR R z Q st
    | _ => False) := rfl
@[simp ↓] theorem awpR_block {id : Nat} {x : AC} : awpR R (.block id x) Q st = awpR R x (fun e st' => match e with | .exit id' => if id' = id then Q .normal st' else Q (.exit id') st' | e => Q e st') st := rfl
@[simp ↓] theorem awpR_loopgo {b : AC} : awpR R (.loop b) Q st = @LoopGo R b ⟨Q⟩ st := rfl
end
attribute [simp ↓] RegGo runR RegGoT runT
end Go.Av
