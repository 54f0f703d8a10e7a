import Derived.Test.YtabidcdfmkkegaaAvI
set_option linter.unusedSimpArgs false
namespace Go.Av
variable {P : Program} {w0 : World} {mu0 : Mem} {T : Nat → Prop} {g g' : Gh} {st : St} {a : Act} {w w' : World}

theorem cell_of_block {b j : Nat} {c : Array Value} {e : TypeId} {fr : Nat × Nat} (h : w.heap[b]? = some (.cells c e fr)) : w.cell? ⟨b, j, none⟩ = c[j]? := by
  simp [World.cell?, h]

theorem BoxAt.cellsAt {s b : Nat} {cells : List RV} (h : BoxAt g w s b cells) : CellsAt g.mu w b 0 (cells.map RV.share) := by
  obtain ⟨_, _, _, c, e, fr, h1, _, h3, h4⟩ := h
  intro j hj
  have hj' : j < cells.length := by simpa using hj
  have hjc : j < c.size := by omega
  refine ⟨c[j], by rw [cell_of_block h1]; simp [hjc], ?_⟩
  have := (h4 j hj').share
  simpa [List.getD_eq_getElem?_getD, hj', Array.getD_eq_getD_getElem?, hjc] using this

theorem HeapAt.cellsAt {mu : Mem} {b : Nat} {cells : List SV} (h : HeapAt mu w b cells) : CellsAt mu w b 0 cells := by
  obtain ⟨_, c, e, fr, h1, _, h3, h4⟩ := h
  intro j hj
  have hjc : j < c.size := by omega
  refine ⟨c[j], by rw [cell_of_block h1]; simp [hjc], ?_⟩
  have := h4 j hj
  simpa [Array.getD_eq_getD_getElem?, hjc] using this

theorem y_load (h : Sim w0 mu0 T g st a w) {x : Operand} {o : AO} {t : TypeId} {n : Option Nat} {ox : Oper} (hop : ox.op = .load t x) (hn : ldk P t = some n) (hx : compO x = some o)
    {c : Prop} {lv : LV} (he : ev st (.load n o) = some (c, lv)) (hc : c) (d : Nat) : Yields P w0 mu0 T g st a w ox d lv := by
  simp only [ev] at he
  split at he
  case h_2 => cases he
  rename_i c' r hl
  simp only [Option.some.injEq, Prod.mk.injEq] at he
  obtain ⟨rfl, rfl⟩ := he
  obtain ⟨hg, hc'⟩ := hc
  have hr : rdl st o = (true, (rdl st o).2) := by rw [← hg]
  have key : ∀ (b k' k : Nat) (cs : List SV), a.eval x = .pointer (some ⟨b, k' + k, none⟩) → CellsAt g.mu w b k' cs → k + n.getD 1 ≤ cs.length → r = .sv (partV cs k n) → Yields P w0 mu0 T g st a w ox d r := by
    intro b k' k cs hv hcs hle hr
    obtain ⟨val, h1, h2⟩ := load_ok hn hcs hle
    subst hr
    refine .same h (val := val) ?_ h2
    simp [execOp, hop, hv, Instr.loadAt, Instr.sureAddr, h1]
  have ha := addr_of h hx hr d
  generalize hp : (rdl st o).2 = p at hl ha hr
  unfold loadV at hl
  split at hl <;> first | (cases hl; done) | skip
  · rename_i s k
    split at hl
    case h_2 => cases hl
    rename_i cells hcells
    simp only [Option.some.injEq, Prod.mk.injEq] at hl
    obtain ⟨rfl, rfl⟩ := hl
    obtain ⟨b, hb, hbox⟩ := h.boxes s cells hcells
    rcases ha with ⟨b', hb', hv⟩ | ⟨h1, _⟩
    · rw [hb] at hb'; cases hb'
      exact key b 0 k _ (by rw [hv]; simp) hbox.cellsAt (by simpa using hc') rfl
    · exact absurd rfl (h1 _ _)
  · rename_i b k
    split at hl
    case h_2 => cases hl
    rename_i cells hcells
    simp only [Option.some.injEq, Prod.mk.injEq] at hl
    obtain ⟨rfl, rfl⟩ := hl
    rcases ha with ha | ⟨_, h2⟩
    · exact key b 0 k _ (by rw [Rep.inv_ptr ha]; simp) (h.heap b cells hcells).1.cellsAt hc' rfl
    · exact absurd rfl (h2 _)
  · rename_i e k
    simp only [Option.some.injEq, Prod.mk.injEq] at hl
    obtain ⟨rfl, rfl⟩ := hl
    rcases ha with ha | ⟨_, h2⟩
    · obtain ⟨b, off, vals, hv, q1, q2⟩ := Rep.inv_eptr ha
      exact key b off k _ hv (fun j hj => ⟨vals j, (h.mem _ _ _ (q1 j hj)).1, q2 j hj⟩) hc' rfl
    · exact absurd rfl (h2 _)

/-! ### parts of a call's result -/
theorem RepL.dgi {s i : Nat} {lv : LV} {val : Value} (h : RepL g w s lv val) : RepL g w s (lv.dgi i) val := by
  induction lv with
  | gd c v ih => exact ⟨fun hc => ih (h.1 hc), h.2⟩
  | tup vs =>
    obtain ⟨us, h1, h2, h3⟩ := h
    refine ⟨us, h1, by simpa using h2, fun j hj => ?_⟩
    have hj' : j < vs.length := by simpa using hj
    by_cases e : i = j
    · subst e
      have := (h3 i hj').share
      simpa [List.getD_eq_getElem?_getD, hj', RepR] using this
    · have := h3 j hj'
      simpa [List.getD_eq_getElem?_getD, List.getElem?_set, e] using this
  | _ => exact h

theorem LV.gv_tup_dgi {lv : LV} {c : Bool} {vs : List RV} (i : Nat) (h : lv.gv = (c, .tup vs)) : (lv.dgi i).gv = (c, .tup (vs.set i (.sv (vs.getD i (.sv .undef)).share))) := by
  induction lv generalizing c with
  | gd b v ih =>
    simp only [LV.gv, Prod.mk.injEq] at h
    simp only [LV.dgi, LV.gv]
    rw [ih (c := v.gv.1) (by rw [← h.2])]
    simp [h.1]
  | tup ws => simp only [LV.gv, Prod.mk.injEq, LV.tup.injEq] at h; obtain ⟨rfl, rfl⟩ := h; rfl
  | _ => simp [LV.gv] at h

/-- A part of a call's result is taken out. -/
theorem ext_own (h : Sim w0 mu0 T g st a w) {s i : Nat} {vs : List RV} (hl : (lk st.sl s).gv = (true, .tup vs)) (hi : i < vs.length) (d : Nat) :
    ∃ (us : List Value) (g' : Gh), a.tmps.getD s Go.undef = .tuple us.toArray ∧ us.length = vs.length ∧ Sim w0 mu0 T g' { st with sl := (s, (lk st.sl s).dgi i) :: st.sl } a w ∧ RepL g' w d (vs.getD i (.sv .undef)).lv (us.getD i Go.undef) := by
  have hs : RepL g w s (.tup vs) (a.tmps.getD s Go.undef) := by have := (h.slots s).gv (by rw [hl]); rwa [hl] at this
  obtain ⟨us, e1, e2, e3⟩ := hs
  have hdg : Sim w0 mu0 T g { st with sl := (s, (lk st.sl s).dgi i) :: st.sl } a w := h.weaken RepL.dgi
  refine ⟨us, ?_⟩
  have hri := e3 i hi
  cases hv : vs.getD i (.sv .undef) with
  | sv v => rw [hv] at hri; exact ⟨g, e1, e2, hdg, hri⟩
  | own sz xs =>
    rw [hv] at hri
    rcases hri with hri | ⟨b, off, cap, hval, hr, hx, hB, hsp⟩
    · exact ⟨g, e1, e2, hdg, .inl hri⟩
    · obtain ⟨ob1, ob2⟩ := h.own_block hx
      have hlt := h.xlt b _ hx
      let g1 : Gh := { g with x := fun b' => if b' = b then some (.slot d 0) else g.x b' }
      refine ⟨g1, e1, e2, ?_, .inr ⟨b, off, cap, hval, hr, by simp [g1], hB, hsp⟩⟩
      have hne : ∀ b' p, p ≠ Place.slot s i → g.x b' = some p → g1.x b' = some p := fun b' p hp e => by
        have : b' ≠ b := fun e' => hp (by subst e'; rw [hx] at e; cases e; rfl)
        simp [g1, this, e]
      constructor
      · exact h.size
      · exact h.defers
      · intro q
        by_cases e : s = q
        · subst e
          simp only [lk, if_true]
          have key : ∀ lv : LV, lv.gv = (true, .tup vs) → RepL g w s lv (a.tmps.getD s Go.undef) → RepL g1 w s (lv.dgi i) (a.tmps.getD s Go.undef) := by
            intro lv
            induction lv with
            | gd c v ih =>
              intro hl h0
              simp only [LV.gv, Prod.mk.injEq, Bool.and_eq_true] at hl
              exact ⟨fun hc => ih (by rw [← hl.1.2, ← hl.2]) (h0.1 hc), h0.2⟩
            | tup ws =>
              intro hl h0
              simp only [LV.gv, Prod.mk.injEq, LV.tup.injEq, true_and] at hl
              subst hl
              obtain ⟨us', f1, f2, f3⟩ := h0
              refine ⟨us', f1, by simpa using f2, fun j hj => ?_⟩
              have hj' : j < ws.length := by simpa using hj
              by_cases ej : i = j
              · subst ej
                have : Rep g.mu (ws.getD i (.sv .undef)).share (us'.getD i Go.undef) := (f3 i hj').share
                simpa [List.getD_eq_getElem?_getD, hj', RepR] using this
              · have h3 := f3 j hj'
                have : RepR g1 w (.slot s j) (ws.getD j (.sv .undef)) (us'.getD j Go.undef) :=
                  RepR.keeps (g := g) ⟨Mem.le_refl _, fun b'' e' => ⟨hne b'' _ (by intro q; cases q; exact ej rfl) e', rfl, fun _ q => q⟩, rfl⟩ h3
                simpa [List.getD_eq_getElem?_getD, List.getElem?_set, ej] using this
            | _ => intro hl; simp [LV.gv] at hl
          exact key _ hl (h.slots s)
        · simp only [lk, e, if_false]
          exact RepL.keeps' (g := g) (g' := g1) (Mem.le_refl _) (fun b' i' e' => ⟨hne b' _ (by intro q'; cases q'; exact e rfl) e', rfl, fun _ q => q⟩) rfl (fun _ => rfl) (h.slots q)
      · intro q cells hc
        obtain ⟨b', hb, h1, h2, h3, c, e, fr, h4, h5, h6, h7⟩ := h.boxes q cells hc
        have hbb : b' ≠ b := fun e => ob1 q (e ▸ hb)
        refine ⟨b', hb, h1, h2, by simp [g1, hbb, h3], c, e, fr, h4, h5, h6, fun j hj => RepR.keeps (g := g) ⟨Mem.le_refl _, fun b'' e' => ⟨hne b'' _ (by intro q; cases q) e', rfl, fun _ q => q⟩, rfl⟩ (h7 j hj)⟩
      · exact h.bxinj
      · intro b' cells hc
        obtain ⟨h1, h2, h3⟩ := h.heap b' cells hc
        have hbb : b' ≠ b := fun e => by rw [e, ob2] at hc; cases hc
        exact ⟨h1, by simp [g1, hbb, h2], h3⟩
      · exact h.mem
      · exact h.mem0
      · exact h.ext
      · exact h.B
      · intro b' p e
        by_cases q : b' = b
        · subst q; exact hlt
        · simp [g1, q] at e; exact h.xlt b' p e
      · exact h.blt
      · intro q b' p e
        by_cases q' : b' = b
        · subst q'; exact ob1 q
        · simp [g1, q'] at e; exact h.bxx q b' p e
      · exact h.okb
      · exact h.pin

theorem y_ext (h : Sim w0 mu0 T g st a w) {s i : Nat} {ox : Oper} (hop : ox.op = .extract (.tmp s) i) {c : Prop} {lv : LV} (he : ev st (.ext s i) = some (c, lv)) (hc : c) (d : Nat) :
    Yields P w0 mu0 T g (dgr st (.ext s i)) a w ox d lv := by
  simp only [ev] at he
  split at he <;> first | (cases he; done) | skip
  · rename_i gg vs hv
    simp only [Option.some.injEq, Prod.mk.injEq] at he
    obtain ⟨rfl, rfl⟩ := he
    obtain ⟨rfl, hi⟩ := hc
    obtain ⟨us, g', e1, e2, h1, h2⟩ := ext_own h hv hi d
    have hi' : i < us.length := by omega
    refine ⟨us.getD i Go.undef, g', w, ?_, h1, h2⟩
    simp [execOp, hop, Act.eval, Instr.extract] 
    rw [Array.getD_eq_getD_getElem?] at e1
    rw [e1]
    simp [hi', List.getD_eq_getElem?_getD]
  · rename_i gg vs hv
    simp only [Option.some.injEq, Prod.mk.injEq] at he
    obtain ⟨rfl, rfl⟩ := he
    obtain ⟨rfl, hi⟩ := hc
    have hs : RepL g w s (.sv (.tup vs)) (a.tmps.getD s Go.undef) := by have := (h.slots s).gv (by rw [hv]); rwa [hv] at this
    obtain ⟨us, e1, e2, e3⟩ := Rep.inv_tup hs
    have hi' : i < us.length := by omega
    refine ⟨us.getD i Go.undef, g, w, ?_, h.weaken RepL.dgi, e3 i hi⟩
    simp [execOp, hop, Act.eval, Instr.extract] 
    rw [Array.getD_eq_getD_getElem?] at e1
    rw [e1]
    simp [hi', List.getD_eq_getElem?_getD]

theorem y_extS (h : Sim w0 mu0 T g st a w) {s i : Nat} {ox : Oper} (hop : ox.op = .extract (.tmp s) i) {c : Prop} {lv : LV} (he : ev st (.extS s i) = some (c, lv)) (hc : c) (d : Nat) :
    Yields P w0 mu0 T g st a w ox d lv := by
  simp only [ev] at he
  split at he <;> first | (cases he; done) | skip
  · rename_i gg vs hv
    simp only [Option.some.injEq, Prod.mk.injEq] at he
    obtain ⟨rfl, rfl⟩ := he
    obtain ⟨rfl, hi⟩ := hc
    have hs : RepL g w s (.tup vs) (a.tmps.getD s Go.undef) := by have := (h.slots s).gv (by rw [hv]); rwa [hv] at this
    obtain ⟨us, e1, e2, e3⟩ := hs
    have hi' : i < us.length := by omega
    refine ⟨us.getD i Go.undef, g, w, ?_, h, (e3 i hi).share⟩
    simp [execOp, hop, Act.eval, Instr.extract] 
    rw [Array.getD_eq_getD_getElem?] at e1
    rw [e1]
    simp [hi', List.getD_eq_getElem?_getD]
  · rename_i gg vs hv
    simp only [Option.some.injEq, Prod.mk.injEq] at he
    obtain ⟨rfl, rfl⟩ := he
    obtain ⟨rfl, hi⟩ := hc
    have hs : RepL g w s (.sv (.tup vs)) (a.tmps.getD s Go.undef) := by have := (h.slots s).gv (by rw [hv]); rwa [hv] at this
    obtain ⟨us, e1, e2, e3⟩ := Rep.inv_tup hs
    have hi' : i < us.length := by omega
    refine ⟨us.getD i Go.undef, g, w, ?_, h, e3 i hi⟩
    simp [execOp, hop, Act.eval, Instr.extract] 
    rw [Array.getD_eq_getD_getElem?] at e1
    rw [e1]
    simp [hi', List.getD_eq_getElem?_getD]
end Go.Av
