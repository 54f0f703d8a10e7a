import Derived.Test.YtabidcdfmkkegaaAvD
namespace Go.Av
variable {P : Program} {w0 : World} {mu0 : Mem} {T : Nat → Prop} {g g' : Gh} {st : St} {a : Act} {w w' : World}

def LV.dg : LV → LV
  | .own sz xs => .sv (.sl sz xs)
  | .gd c v => .gd c v.dg
  | .tup vs => .tup (vs.map fun r => .sv r.share)
  | v => v
def LV.dgi (i : Nat) : LV → LV
  | .tup vs => .tup (vs.set i (.sv (vs.getD i (.sv .undef)).share))
  | .gd c v => .gd c (v.dgi i)
  | v => v

/-- What becomes of the frame beside the destination. -/
def dgr (st : St) : AK → St
  | .take s => { st with sl := (s, (lk st.sl s).dg) :: st.sl }
  | .mark s => { st with sl := (s, (lk st.sl s).dg) :: st.sl }
  | .ext s i => { st with sl := (s, (lk st.sl s).dgi i) :: st.sl }
  | .app _ _ s _ => { st with sl := (s, (lk st.sl s).dg) :: st.sl }
  | .appS s _ => { st with sl := (s, (lk st.sl s).dg) :: st.sl }
  | _ => st

/-- An operation that yields one value and leaves the world, but for what it makes. -/
def Yields (P : Program) (w0 : World) (mu0 : Mem) (T : Nat → Prop) (g : Gh) (st' : St) (a : Act) (w : World) (x : Oper) (d : Nat) (lv : LV) : Prop :=
  ∃ val g' w', (execOp a.eval x).run P w = .ok (.value val) w' ∧ Sim w0 mu0 T g' st' a w' ∧ RepL g' w' d lv val

theorem Yields.same {x : Oper} {d : Nat} {lv : LV} {val : Value} (h : Sim w0 mu0 T g st a w) (hr : (execOp a.eval x).run P w = .ok (.value val) w) (hv : RepL g w d lv val) :
    Yields P w0 mu0 T g st a w x d lv := ⟨val, g, w, hr, h, hv⟩

/-! ### moves -/
theorem y_mv (h : Sim w0 mu0 T g st a w) {x : Operand} {o : AO} {ox : Oper} (hop : ox.op = .move x ∨ ox.op = .assign x) (hx : compO x = some o) {c : Prop} {lv : LV} (he : ev st (.mv o) = some (c, lv)) (hc : c) (d : Nat) :
    Yields P w0 mu0 T g st a w ox d lv := by
  have hr : (execOp a.eval ox).run P w = .ok (.value (a.eval x)) w := by rcases hop with hop | hop <;> simp [execOp, hop]
  refine .same h hr ?_
  simp only [ev] at he
  split at he <;> first | (cases he; done) | skip
  · rename_i gg v hv
    simp only [Option.some.injEq, Prod.mk.injEq] at he
    obtain ⟨rfl, rfl⟩ := he
    subst hc
    exact rdl_sv h hx hv
  · rename_i gg sz xs hv
    simp only [Option.some.injEq, Prod.mk.injEq] at he
    obtain ⟨rfl, rfl⟩ := he
    subst hc
    exact rd_rep h hx (by simp [rd, hv, LV.sh?])
  · rename_i gg vs hv
    simp only [Option.some.injEq, Prod.mk.injEq] at he
    obtain ⟨rfl, rfl⟩ := he
    subst hc
    exact rdl_tup h hx hv
  · rename_i gg s off hv
    simp only [Option.some.injEq, Prod.mk.injEq] at he
    obtain ⟨rfl, rfl⟩ := he
    subst hc
    exact rdl_lptr h hx hv
  · rename_i gg s z off n cap hv
    simp only [Option.some.injEq, Prod.mk.injEq] at he
    obtain ⟨rfl, rfl⟩ := he
    subst hc
    exact rdl_lsl h hx hv

theorem LV.dg_rep {s : Nat} {lv : LV} {val : Value} (h : RepL g w s lv val) : RepL g w s lv.dg val := by
  induction lv with
  | gd c v ih => exact ⟨fun hc => ih (h.1 hc), h.2⟩
  | own sz xs => exact OwnAt.share (g := g) h
  | tup vs =>
    obtain ⟨us, h1, h2, h3⟩ := h
    refine ⟨us, h1, by simpa using h2, fun j hj => ?_⟩
    have hj' : j < vs.length := by simpa using hj
    have := (h3 j hj').share
    simpa [List.getD_eq_getElem?_getD, hj', RepR] using this
  | _ => exact h

theorem LV.gv_own_dg {lv : LV} {c : Bool} {sz : Nat} {xs : List SV} (h : lv.gv = (c, .own sz xs)) : lv.dg.gv = (c, .sv (.sl sz xs)) := by
  induction lv generalizing c with
  | gd b v ih =>
    simp only [LV.gv, Prod.mk.injEq] at h
    simp only [LV.dg, LV.gv]
    rw [ih (c := v.gv.1) (by rw [← h.2])]
    simp [h.1]
  | own a b => simp only [LV.gv, Prod.mk.injEq] at h; obtain ⟨rfl, h⟩ := h; cases h; rfl
  | _ => simp [LV.gv] at h

/-- Slot t's slice is no longer its own; its block is nobody's. -/
theorem Sim.disown' (h : Sim w0 mu0 T g st a w) {t sz : Nat} {xs : List SV} {b off cap : Nat} (hl : (lk st.sl t).gv = (true, .own sz xs))
    (hval : a.tmps.getD t Go.undef = .slice (some ⟨b, off, none⟩) xs.length cap) (hx : g.x b = some (.slot t 0)) :
    Sim w0 mu0 T { g with x := fun b' => if b' = b then none else g.x b' } { st with sl := (t, (lk st.sl t).dg) :: st.sl } a w := by
  have h1 : Sim w0 mu0 T g { st with sl := (t, .own sz xs) :: st.sl } a w := h.weaken (fun hr => by have := hr.gv (by rw [hl]); rwa [hl] at this)
  have h2 := h1.disown (t := t) (lk_cons_same _ _ _) hval hx
  have h3 := h2.weaken (d := t) (lv := (lk st.sl t).dg) (fun _ => by
    have h0 := LV.dg_rep (h.slots t)
    generalize hlv : lk st.sl t = lv at h0 hl ⊢
    clear hlv h2 h1
    have key : ∀ lv : LV, lv.gv = (true, .own sz xs) → RepL g w t lv.dg (a.tmps.getD t Go.undef) → RepL { g with x := fun b' => if b' = b then none else g.x b' } w t lv.dg (a.tmps.getD t Go.undef) := by
      intro lv
      induction lv with
      | gd c v ih =>
        intro hl h0
        simp only [LV.gv, Prod.mk.injEq, Bool.and_eq_true] at hl
        exact ⟨fun hc => ih (by rw [← hl.1.2, ← hl.2]) (h0.1 hc), h0.2⟩
      | own z ys => intro _ h0; exact h0
      | _ => intro hl; simp [LV.gv] at hl
    exact key lv hl h0)
  constructor
  · exact h3.size
  · exact h3.defers
  · intro s
    have := h3.slots s
    by_cases e : t = s
    · subst e; simpa [lk] using this
    · simpa [lk, e] using this
  · exact h3.boxes
  · exact h3.bxinj
  · exact h3.heap
  · exact h3.mem
  · exact h3.mem0
  · exact h3.ext
  · exact h3.B
  · exact h3.xlt
  · exact h3.blt
  · exact h3.bxx
  · exact h3.okb
  · exact h3.pin

/-- A block that is nobody's gets an owner. -/
theorem Sim.setx (h : Sim w0 mu0 T g st a w) {b : Nat} {p : Place} (hn : g.x b = none) (hb : ∀ s, g.bx s ≠ some b) (hh : st.hp b = none) (hlt : b < w.heap.size) :
    Sim w0 mu0 T { g with x := fun b' => if b' = b then some p else g.x b' } st a w := by
  refine h.grow (g' := { g with x := fun b' => if b' = b then some p else g.x b' }) (Mem.le_refl _) (fun _ _ => ⟨rfl, fun _ e => e⟩) ?_ ?_ h.mem (fun _ _ _ => rfl) h.ext (fun _ => rfl) rfl (Nat.le_refl _)
  · intro b' e
    have : b' ≠ b := fun q => e (q ▸ hn)
    simp [this]
  · intro b' e1 e2
    by_cases q : b' = b
    · subst q; exact ⟨hb, hh, hlt⟩
    · simp [q, e1] at e2

/-- The facts on an own slice's block. -/
theorem Sim.own_block (h : Sim w0 mu0 T g st a w) {b : Nat} {p : Place} (hx : g.x b = some p) : (∀ s, g.bx s ≠ some b) ∧ st.hp b = none := by
  refine ⟨fun s => h.bxx s b p hx, ?_⟩
  · cases hq : st.hp b with
    | none => rfl
    | some cells => have := (h.heap b cells hq).2.1; rw [hx] at this; cases this
end Go.Av
