import Derived.Test.YtabidcdfmkkegaaAvE
namespace Go.Av
variable {P : Program} {w0 : World} {mu0 : Mem} {T : Nat → Prop} {g g' : Gh} {st : St} {a : Act} {w w' : World}

theorem Sim.dg (h : Sim w0 mu0 T g st a w) (s : Nat) : Sim w0 mu0 T g { st with sl := (s, (lk st.sl s).dg) :: st.sl } a w := h.weaken LV.dg_rep

/-- Taking an own slice out of a slot, for another one. -/
theorem take_own (h : Sim w0 mu0 T g st a w) {s sz : Nat} {xs : List SV} (hl : (lk st.sl s).gv = (true, .own sz xs)) (d : Nat) :
    ∃ g', Sim w0 mu0 T g' { st with sl := (s, (lk st.sl s).dg) :: st.sl } a w ∧ RepL g' w d (.own sz xs) (a.tmps.getD s Go.undef) := by
  have hs : RepL g w s (.own sz xs) (a.tmps.getD s Go.undef) := by have := (h.slots s).gv (by rw [hl]); rwa [hl] at this
  rcases hs with ⟨h1, h2⟩ | ⟨b, off, cap, hv, hr, hx, hB, hsp⟩
  · exact ⟨g, h.dg s, .inl ⟨h1, h2⟩⟩
  · have hlt := h.xlt b _ hx
    obtain ⟨ob1, ob2⟩ := h.own_block hx
    have h1 := h.disown' hl hv hx
    have h2 := h1.setx (b := b) (p := .slot d 0) (by simp) ob1 ob2 hlt
    exact ⟨_, h2, .inr ⟨b, off, cap, hv, hr, by simp, hB, hsp⟩⟩

/-- What a slot has becomes another one's. -/
def ren (s d : Nat) (x : Nat → Option Place) : Nat → Option Place := fun b => match x b with
  | some (.slot s' i) => if s' = s then some (.slot d i) else some (.slot s' i)
  | p => p
theorem take_tup (h : Sim w0 mu0 T g st a w) {s : Nat} {vs : List RV} (hl : (lk st.sl s).gv = (true, .tup vs)) (d : Nat) :
    ∃ g', Sim w0 mu0 T g' { st with sl := (s, (lk st.sl s).dg) :: st.sl } a w ∧ RepL g' w d (.tup vs) (a.tmps.getD s Go.undef) := by
  have hs : RepL g w s (.tup vs) (a.tmps.getD s Go.undef) := by have := (h.slots s).gv (by rw [hl]); rwa [hl] at this
  let g' : Gh := { g with x := ren s d g.x }
  have hx0 : ∀ b, g.x b = none ↔ g'.x b = none := by
    intro b
    simp only [g', ren]
    cases hb : g.x b with
    | none => simp
    | some p => cases p with
      | slot s' i => simp; split <;> simp
      | cell s' j => simp
  have hk : ∀ t i, t ≠ s → Keeps g w g' w (.slot t i) := fun t i ht => ⟨Mem.le_refl _, fun b hb => ⟨by simp [g', ren, hb, ht], rfl, fun _ q => q⟩, rfl⟩
  have hkc : ∀ t j, Keeps g w g' w (.cell t j) := fun t j => ⟨Mem.le_refl _, fun b hb => ⟨by simp [g', ren, hb], rfl, fun _ q => q⟩, rfl⟩
  have dgx : ∀ (lv : LV) (val : Value), RepL g w s lv val → lv.gv = (true, .tup vs) → RepL g' w s lv.dg val := by
    intro lv
    induction lv with
    | gd c v ih =>
      intro val hr hg
      simp only [LV.gv, Prod.mk.injEq, Bool.and_eq_true] at hg
      exact ⟨fun hc => ih _ (hr.1 hc) (by rw [← hg.1.2, ← hg.2]), hr.2⟩
    | tup us =>
      intro val hr hg
      obtain ⟨us', h1, h2, h3⟩ := hr
      refine ⟨us', h1, by simpa using h2, fun j hj => ?_⟩
      have hj' : j < us.length := by simpa using hj
      have := (h3 j hj').share
      simpa [List.getD_eq_getElem?_getD, hj', RepR] using this
    | _ => intro val hr hg; simp [LV.gv] at hg
  refine ⟨g', ?_, ?_⟩
  · constructor
    · exact h.size
    · exact h.defers
    · intro t
      by_cases e : s = t
      · subst e
        simp only [lk, if_true]
        exact dgx _ _ (h.slots s) hl
      · have e' : t ≠ s := fun q => e q.symm
        simp only [lk, e, if_false]
        exact RepL.keeps (fun i => hk t i e') (fun _ => rfl) (h.slots t)
    · intro t cells hc
      obtain ⟨b, hb, h1, h2, h3, c, e, fr, h4, h5, h6, h7⟩ := h.boxes t cells hc
      exact ⟨b, hb, h1, h2, (hx0 b).1 h3, c, e, fr, h4, h5, h6, fun j hj => RepR.keeps (hkc t j) (h7 j hj)⟩
    · exact h.bxinj
    · intro b cells hc
      obtain ⟨h1, h2, h3⟩ := h.heap b cells hc
      exact ⟨h1, (hx0 b).1 h2, h3⟩
    · exact h.mem
    · exact h.mem0
    · exact h.ext
    · exact h.B
    · intro b p e
      cases hq : g.x b with
      | none => rw [(hx0 b).1 hq] at e; cases e
      | some q => exact h.xlt b q hq
    · exact h.blt
    · intro t b p e
      cases hq : g.x b with
      | none => rw [(hx0 b).1 hq] at e; cases e
      | some q => exact h.bxx t b q hq
    · exact h.okb
    · exact h.pin
  · obtain ⟨us, h1, h2, h3⟩ := hs
    refine ⟨us, h1, h2, fun j hj => ?_⟩
    have := h3 j hj
    cases hv : vs.getD j (.sv .undef) with
    | sv v => rw [hv] at this; exact this
    | own sz xs =>
      rw [hv] at this
      rcases this with this | ⟨b, off, cap, e1, e2, e3, e4, e5⟩
      · exact .inl this
      · exact .inr ⟨b, off, cap, e1, e2, by simp [g', ren, e3], e4, e5⟩

theorem y_take (h : Sim w0 mu0 T g st a w) {s : Nat} {ox : Oper} (hop : ox.op = .move (.tmp s) ∨ ox.op = .assign (.tmp s)) {c : Prop} {lv : LV} (he : ev st (.take s) = some (c, lv)) (hc : c) (d : Nat) :
    Yields P w0 mu0 T g (dgr st (.take s)) a w ox d lv := by
  have hr : (execOp a.eval ox).run P w = .ok (.value (a.tmps.getD s Go.undef)) w := by rcases hop with hop | hop <;> simp [execOp, hop, Act.eval]
  simp only [ev] at he
  split at he <;> first | (cases he; done) | skip
  · rename_i gg v hv
    simp only [Option.some.injEq, Prod.mk.injEq] at he
    obtain ⟨rfl, rfl⟩ := he
    subst hc
    refine .same (h.dg s) hr ?_
    have := (h.slots s).gv (by rw [hv])
    rw [hv] at this; exact this
  · rename_i gg sz xs hv
    simp only [Option.some.injEq, Prod.mk.injEq] at he
    obtain ⟨rfl, rfl⟩ := he
    subst hc
    obtain ⟨g', h1, h2⟩ := take_own h hv d
    exact ⟨_, g', w, hr, h1, h2⟩
  · rename_i gg vs hv
    simp only [Option.some.injEq, Prod.mk.injEq] at he
    obtain ⟨rfl, rfl⟩ := he
    subst hc
    obtain ⟨g', h1, h2⟩ := take_tup h hv d
    exact ⟨_, g', w, hr, h1, h2⟩
  · rename_i gg t off hv
    simp only [Option.some.injEq, Prod.mk.injEq] at he
    obtain ⟨rfl, rfl⟩ := he
    subst hc
    refine .same (h.dg s) hr ?_
    have := (h.slots s).gv (by rw [hv])
    rw [hv] at this; exact this
  · rename_i gg t z off n cap hv
    simp only [Option.some.injEq, Prod.mk.injEq] at he
    obtain ⟨rfl, rfl⟩ := he
    subst hc
    refine .same (h.dg s) hr ?_
    have := (h.slots s).gv (by rw [hv])
    rw [hv] at this; exact this

/-! ### two operands -/
theorem ev1_inv {x : AO} {f : SV → Ev} {c : Prop} {lv : LV} (he : ev1 st x f = some (c, lv)) (hc : c) : ∃ v c', rd st x = some (true, v) ∧ f v = some (c', lv) ∧ c' := by
  unfold ev1 at he
  split at he
  · rename_i gg v hv
    split at he
    · rename_i c' r hf
      simp only [Option.some.injEq, Prod.mk.injEq] at he
      obtain ⟨rfl, rfl⟩ := he
      obtain ⟨rfl, hc'⟩ := hc
      exact ⟨v, c', hv, hf, hc'⟩
    · cases he
  · cases he
theorem ev2_inv {x y : AO} {f : SV → SV → Ev} {c : Prop} {lv : LV} (he : ev2 st x y f = some (c, lv)) (hc : c) :
    ∃ v u c', rd st x = some (true, v) ∧ rd st y = some (true, u) ∧ f v u = some (c', lv) ∧ c' := by
  obtain ⟨v, c1, h1, h2, h3⟩ := ev1_inv he hc
  obtain ⟨u, c2, h4, h5, h6⟩ := ev1_inv h2 h3
  exact ⟨v, u, c2, h1, h4, h5, h6⟩

theorem y_bin (h : Sim w0 mu0 T g st a w) {x y : Operand} {o p : AO} {op : BinOp} {t t' : TypeId} {ox : Oper} (hop : ox.op = .binOp op t x y t') (hx : compO x = some o) (hy : compO y = some p)
    {c : Prop} {lv : LV} (he : ev st (.bin op o p) = some (c, lv)) (hc : c) (d : Nat) : Yields P w0 mu0 T g st a w ox d lv := by
  obtain ⟨v, u, c', hv, hu, hf, hc'⟩ := ev2_inv he hc
  have rv := rd_rep h hx hv
  have ru := rd_rep h hy hu
  have key : ∃ val, (binOp op t (a.eval x) (a.eval y)).run P w = .ok val w ∧ RepL g w d lv val ∧ eqGuard op t x y (a.eval x) (a.eval y) = pure () := by
    cases v <;> try (cases hf; done)
    · rename_i k m
      cases u <;> try (cases hf; done)
      rename_i k' n
      rw [rv.inv_int, ru.inv_int]
      have hgd : eqGuard op t x y (Value.int k m) (Value.int k' n) = pure () := eqGuard_at_int op t x y _ k m
      rw [hgd]
      cases op <;> simp only [binV, reduceCtorEq] at hf <;> first
        | (split at hf
           · rename_i hk; subst hk
             simp only [Option.some.injEq, Prod.mk.injEq] at hf
             obtain ⟨rfl, rfl⟩ := hf
             exact ⟨_, by simp [Go.binOp, Op.intArith, Op.intDiv, Op.intBits, Op.intCmp, hc'], .int _ _, rfl⟩
           · cases hf)
        | (split at hf
           · rename_i hk; subst hk
             simp only [Option.some.injEq, Prod.mk.injEq] at hf
             obtain ⟨rfl, rfl⟩ := hf
             exact ⟨_, by simp [Go.binOp, Op.intArith, Op.intDiv, Op.intBits, Op.intCmp], .bool _, rfl⟩
           · cases hf)
        | (simp only [Option.some.injEq, Prod.mk.injEq] at hf
           obtain ⟨rfl, rfl⟩ := hf
           exact ⟨_, by simp [Go.binOp, Op.shift, Int.not_lt.2 hc'], .int _ _, rfl⟩)
    · rename_i s
      cases u <;> try (cases hf; done)
      rename_i s'
      rw [rv.inv_str, ru.inv_str]
      have hgd : eqGuard op t x y (Value.string s) (Value.string s') = pure () := eqGuard_at_string op t x y _ s
      rw [hgd]
      cases op <;> simp only [binV, reduceCtorEq] at hf <;> simp only [Option.some.injEq, Prod.mk.injEq] at hf <;> obtain ⟨rfl, rfl⟩ := hf
      · exact ⟨.string (s ++ s'), by simp only [Go.binOp, Op.stringOp]; rw [if_neg (by rw [IntKind.max_i64]; omega)]; rfl, .str _, rfl⟩
      all_goals exact ⟨_, by simp [Go.binOp, Op.stringOp], .bool _, rfl⟩
  obtain ⟨val, hr, hv', hgd⟩ := key
  refine .same h (val := val) ?_ hv'
  simp only [execOp, hop, Sem.run_bind, hgd, Sem.run_pure, Result.andThen_ok, hr]
end Go.Av
