import Derived.Test.YtabidcdfmkkegaaAvR
set_option linter.unusedSimpArgs false
namespace Go.Av
variable {P : Program} {w0 : World} {mu0 : Mem} {T : Nat → Prop} {g g' : Gh} {st st' : St} {a : Act} {w w' : World}

theorem RepL.gv_false {s : Nat} {lv : LV} {val : Value} (h : RepL g w s lv val) (hg : lv.gv.1 = false) : val = Go.undef := by
  induction lv with
  | gd c v ih =>
    cases c with
    | false => exact h.2 rfl
    | true => exact ih (h.1 rfl) (by simpa [LV.gv] using hg)
  | _ => simp [LV.gv] at hg

def compG (ops : Array Oper) : Option (Nat × Bool) → Option (Option (Nat × Bool))
  | none => some none
  | some (j, b) => match ops[j]? with
    | some o => o.dst.map fun s => some (s, b)
    | none => none

theorem wanted_iff (h : Sim w0 mu0 T g st a w) {ops : Array Oper} {o : Oper} {gu : Option (Nat × Bool)} (hg : compG ops o.guard = some gu) {c : Bool} (hc : gOf st gu = some c)
    (hn : ∀ s b, gu = some (s, b) → s < st.n) : Region.wanted o (yielded ops a.tmps) = c := by
  unfold Region.wanted
  cases hgd : o.guard with
  | none => rw [hgd] at hg; cases hg; simp [gOf] at hc; simpa using hc.symm
  | some p =>
    obtain ⟨j, want⟩ := p
    rw [hgd] at hg
    simp only [compG] at hg
    split at hg
    case h_2 => cases hg
    rename_i oj hoj
    obtain ⟨s, hs, rfl⟩ := opt_map_some hg
    simp only [gOf] at hc
    split at hc
    case h_2 => cases hc
    rename_i g0 b hgv
    simp only [Option.some.injEq] at hc
    subst hc
    have hsn := hn s want rfl
    have hslot := h.slots s
    have htm : a.tmps[s]? = some (a.tmps.getD s Go.undef) := by
      have : s < a.tmps.size := by rw [h.size]; exact hsn
      rw [Array.getD_eq_getD_getElem?, Array.getElem?_eq_getElem this]; rfl
    have hy : yielded ops a.tmps j = match a.tmps.getD s Go.undef with | .bool b => some b | _ => none := by
      unfold yielded
      rw [hoj, Option.bind_some, hs, Option.bind_some, htm]
      generalize a.tmps.getD s Go.undef = v
      cases v <;> rfl
    simp only []
    rw [hy]
    cases g0 with
    | true =>
      have := hslot.gv (by rw [hgv])
      rw [hgv] at this
      rw [Rep.inv_bool this]
      cases b <;> cases want <;> rfl
    | false =>
      rw [hslot.gv_false (by rw [hgv])]
      rfl

theorem Sim.dgr (h : Sim w0 mu0 T g st a w) (k : AK) : Sim w0 mu0 T g (dgr st k) a w := by
  cases k <;> first | exact h | exact h.weaken LV.dg_rep | exact h.weaken RepL.dgi

theorem dgr_n (st : St) (k : AK) : (Av.dgr st k).n = st.n := by cases k <;> rfl

/-- After a pure call. -/
theorem Sim.calledX (h : Sim w0 mu0 T g st a w) {mu' : Mem} {rv : LV} {val : Value} (hext : Ext (fun _ => False) w w') (hle : g.mu.le mu') (hmem : MemOK mu' w') (hold : ∀ b j, b < w.heap.size → mu' b j = g.mu b j)
    (x : Nat → Option Place) (hx : RepL { mu := mu', x := x, bx := fun _ => none, B := w.heap.size } w' 0 rv val) (hxl : ∀ b p, x b = some p → b < w'.heap.size) (d : Nat) :
    ∃ g', g'.mu = mu' ∧ g'.bx = g.bx ∧ (∀ b, w.heap.size ≤ b → x b = none → g'.x b = none) ∧ Sim w0 mu0 T g' st a w' ∧ RepL g' w' d rv val := by
  let mv : Place → Place := fun p => match p with | .slot _ i => .slot d i | q => q
  let g' : Gh := { mu := mu', x := fun b => if b < w.heap.size then g.x b else match x b with | some (.slot 0 i) => some (.slot d i) | _ => none, bx := g.bx, B := g.B, okb := g.okb }
  have hs0 := h.ext.size
  refine ⟨g', rfl, rfl, fun b hb hn => by simp [g', Nat.not_lt.2 hb, hn], h.grow (g' := g') hle ?_ ?_ ?_ hmem ?_ ?_ (fun _ => rfl) rfl hext.size, ?_⟩
  · intro b hb
    have hlt := h.used_lt hb
    exact ⟨hext.block b hlt (fun f => f), fun j q => by rw [show g'.mu b j = mu' b j from rfl, hold b j hlt]; exact q⟩
  · intro b hb
    have hlt := h.used_lt (.inl hb)
    simp [g', hlt]
  · intro b hb hn
    have hge : ¬ b < w.heap.size := fun q => by simp [g', q, hb] at hn
    refine ⟨fun s e => hge (h.blt s b e), ?_, ?_⟩
    · cases hq : st.hp b with
      | none => rfl
      | some cs => exact absurd (h.used_lt (b := b) (.inr (.inr (by rw [hq]; simp)))) hge
    · simp only [g', hge, if_false] at hn
      cases hxb : x b with
      | none => rw [hxb] at hn; exact absurd rfl hn
      | some p => exact hxl b p hxb
  · intro b j hb
    exact hold b j (by omega)
  · exact ⟨hext.os.trans h.ext.os, hext.tape.trans h.ext.tape, hext.output.trans h.ext.output, Nat.le_trans h.ext.size hext.size, fun k hk ht => (hext.block k (by omega) (fun f => f)).trans (h.ext.block k hk ht), fun a ha => (hext.frozen a (by omega)).trans (h.ext.frozen a ha)⟩
  · have hB : g.B ≤ w.heap.size := by rw [h.B]; exact hs0
    have hown : ∀ i sz xs v, OwnAt { mu := mu', x := x, bx := fun _ => none, B := w.heap.size } w' (.slot 0 i) sz xs v → OwnAt g' w' (.slot d i) sz xs v := by
      intro i sz xs v ho
      rcases ho with ho | ⟨b, off, cap, h1, h2, h3, h4, h5⟩
      · obtain ⟨h1, q, h2, h3⟩ := ho
        exact .inl ⟨h1, q, h2, fun a e => Nat.le_trans hB (h3 a e)⟩
      · have hge : ¬ b < w.heap.size := Nat.not_lt.2 h4
        refine .inr ⟨b, off, cap, h1, h2, ?_, Nat.le_trans hB h4, h5⟩
        simp only at h3
        simp [g', hge, h3]
    induction rv generalizing val with
    | gd c v ih => exact ⟨fun hc => ih (hx.1 hc), hx.2⟩
    | sv v => exact hx
    | own sz xs => exact hown 0 sz xs val hx
    | lptr t off => obtain ⟨b, hb, _⟩ := hx; cases hb
    | lsl t z off n cap => obtain ⟨b, hb, _⟩ := hx; cases hb
    | tup vs =>
      obtain ⟨us, h1, h2, h3⟩ := hx
      refine ⟨us, h1, h2, fun j hj => ?_⟩
      have := h3 j hj
      cases hv : vs.getD j (.sv .undef) with
      | sv v => rw [hv] at this; exact this
      | own sz xs => rw [hv] at this; exact hown j sz xs _ this
    | siter t pos =>
      obtain ⟨b, h1, h2, h3, h4, h5⟩ := hx
      simp only at h2 h3
      have hge : ¬ b < w.heap.size := Nat.not_lt.2 h3
      exact ⟨b, h1, by simp [g', hge, h2], Nat.le_trans hB h3, h4, h5⟩

theorem Sim.called (h : Sim w0 mu0 T g st a w) {mu' : Mem} {rv : LV} {val : Value} (hext : Ext (fun _ => False) w w') (hle : g.mu.le mu') (hmem : MemOK mu' w') (hold : ∀ b j, b < w.heap.size → mu' b j = g.mu b j)
    (hr : RetRep w.heap.size mu' w' rv val) (d : Nat) : ∃ g', g'.mu = mu' ∧ g'.bx = g.bx ∧ Sim w0 mu0 T g' st a w' ∧ RepL g' w' d rv val := by
  obtain ⟨x, hx, hxl⟩ := hr
  obtain ⟨g', e1, e2, _, e3, e4⟩ := h.calledX hext hle hmem hold x hx hxl d
  exact ⟨g', e1, e2, e3, e4⟩

theorem compK_box {o : Oper} {tk : Bool} {n : Nat} {x : AO} (hk : compK P tk o = some (.box n x)) : ∃ t y i, o.op = .box t y ∧ P.info? t = some i ∧ compO y = some x ∧ i.size = n := by
  unfold compK at hk
  split at hk
  all_goals try ((repeat' split at hk) <;> simp at hk; done)
  rename_i t y hop
  split at hk
  · rename_i i a h1 h2; cases hk; exact ⟨t, y, i, hop, h1, h2, rfl⟩
  · cases hk
theorem compK_alloc {o : Oper} {tk : Bool} {z : List SV} (hk : compK P tk o = some (.alloc z)) : ∃ t, o.op = .alloc t ∧ zeroV P t = some z := by
  unfold compK at hk
  split at hk
  all_goals try ((repeat' split at hk) <;> simp at hk; done)
  rename_i t hop
  obtain ⟨z', hz, he⟩ := opt_map_some hk
  cases he; exact ⟨t, hop, hz⟩
theorem compK_mks {o : Oper} {tk : Bool} {sz bytes : Nat} {zero : List SV} {l : AO} (hk : compK P tk o = some (.mks sz bytes zero l)) :
    ∃ t y e i, o.op = .makeSlice t y y ∧ P.underlying t = some (.slice e) ∧ P.info? e = some i ∧ i.size = sz ∧ i.bytes = bytes ∧ i.size ≠ 0 ∧ zeroV P e = some zero ∧ zero.length = i.size ∧ zero.all SV.isCell = true ∧ compO y = some l := by
  unfold compK at hk
  split at hk
  all_goals try ((repeat' split at hk) <;> simp at hk; done)
  rename_i t l cc hop
  split at hk
  · rename_i e s s' h1
    split at hk
    · rename_i i z h2 h3
      split at hk
      · rename_i hcs
        cases hk
        obtain ⟨rfl, h4, h5, h6⟩ := hcs
        exact ⟨_, _, e, i, hop, h1, h2, rfl, rfl, h4, h3, h5, h6, rfl⟩
      · cases hk
    · cases hk
  · cases hk
theorem compK_store {o : Oper} {tk : Bool} {n : Nat} {x v : AO} (hk : compK P tk o = some (.store n x v)) : ∃ t y u i, o.op = .store t y u ∧ P.info? t = some i ∧ compO y = some x ∧ compO u = some v ∧ i.size = n := by
  unfold compK at hk
  split at hk
  all_goals try ((repeat' split at hk) <;> simp at hk; done)
  rename_i t y u hop
  split at hk
  · rename_i i a b h1 h2 h3; cases hk; exact ⟨t, y, u, i, hop, h1, h2, h3, rfl⟩
  · cases hk
theorem compK_call {o : Oper} {tk : Bool} {f : FuncId} {args : List AO} (hk : compK P tk o = some (.call f args)) :
    ∃ xs ts fn, o.op = .call { callee := .value (.func f), args := xs, argTypes := ts } ∧ P.funcs[f]? = some fn ∧ fn.body.isSome ∧ (fn.name == "runtime.NumGoroutine") = false ∧ compArgs xs.toList = some args := by
  unfold compK at hk
  split at hk
  all_goals try ((repeat' split at hk) <;> simp at hk; done)
  rename_i f' xs ts hop
  split at hk
  · rename_i fn hfn
    split at hk
    · rename_i hc
      split at hk
      · rename_i x l hz
        split at hk
        · cases hk
        · split at hk
          · cases hk
          · cases hk; exact ⟨xs, ts, fn, hop, hfn, hc.1, hc.2, hz⟩
      · rename_i hz
        split at hk
        · cases hk
        · cases hk; exact ⟨xs, ts, fn, hop, hfn, hc.1, hc.2, hz⟩
      · cases hk
    · cases hk
  · cases hk
theorem compK_callN {o : Oper} {tk : Bool} {f : FuncId} {args : List AO} (hk : compK P tk o = some (.callN f args)) :
    ∃ xs ts fn, o.op = .call { callee := .value (.func f), args := xs, argTypes := ts } ∧ P.funcs[f]? = some fn ∧ fn.body.isSome ∧ (fn.name == "runtime.NumGoroutine") = false ∧ compArgs xs.toList = some args := by
  unfold compK at hk
  split at hk
  all_goals try ((repeat' split at hk) <;> simp at hk; done)
  rename_i f' xs ts hop
  split at hk
  · rename_i fn hfn
    split at hk
    · rename_i hc
      split at hk
      · rename_i x l hz
        split at hk
        · cases hk
        · split at hk
          · cases hk; exact ⟨xs, ts, fn, hop, hfn, hc.1, hc.2, hz⟩
          · cases hk
      · rename_i hz
        split at hk
        · cases hk; exact ⟨xs, ts, fn, hop, hfn, hc.1, hc.2, hz⟩
        · cases hk
      · cases hk
    · cases hk
  · cases hk
theorem compK_callE {o : Oper} {tk : Bool} {f : FuncId} {x : AO} {args : List AO} (hk : compK P tk o = some (.callE f x args)) :
    ∃ xs ts fn, o.op = .call { callee := .value (.func f), args := xs, argTypes := ts } ∧ P.funcs[f]? = some fn ∧ fn.body.isSome ∧ (fn.name == "runtime.NumGoroutine") = false ∧ compArgs xs.toList = some (x :: args) := by
  unfold compK at hk
  split at hk
  all_goals try ((repeat' split at hk) <;> simp at hk; done)
  rename_i f' xs ts hop
  split at hk
  · rename_i fn hfn
    split at hk
    · rename_i hc
      split at hk
      · rename_i x l hz
        split at hk
        · cases hk; exact ⟨xs, ts, fn, hop, hfn, hc.1, hc.2, hz⟩
        · split at hk <;> cases hk
      · split at hk <;> cases hk
      · cases hk
    · cases hk
  · cases hk

/-- A box is filled anew. -/
theorem Sim.rebox (h : Sim w0 mu0 T g st a w) {s b : Nat} {cells cells' : List RV} (hcl : lkb st.bx s = some cells) (hb : g.bx s = some b)
    (q1 : w'.os = w.os) (q2 : w'.tape = w.tape) (q3 : w'.output = w.output) (q4 : w'.heap.size = w.heap.size) (q5 : ∀ k, k ≠ b → w'.heap[k]? = w.heap[k]?) (q6 : ∀ x, w'.frozen? x = w.frozen? x)
    {c : Array Value} {e : TypeId} {fr : Nat × Nat} (hc : w'.heap[b]? = some (.cells c e fr)) (hfr : Unfrozen c fr) (hsz : c.size = cells'.length)
    (hr : ∀ j, j < cells'.length → RepR g w' (.cell s j) (cells'.getD j (.sv .undef)) (c.getD j Go.undef)) : Sim w0 mu0 T g (updBox st s cells') a w' := by
  obtain ⟨b', hb', k1, k2, k3, _⟩ := h.boxes s cells hcl
  rw [hb] at hb'; cases hb'
  have hxb : ∀ b' p, g.x b' = some p → b' ≠ b := fun b' p e1 e2 => by subst e2; rw [k3] at e1; cases e1
  have hk : ∀ p, Keeps g w g w' p := fun p => ⟨Mem.le_refl _, fun b' e => ⟨e, q5 b' (hxb b' p e), fun _ q => q⟩, rfl⟩
  constructor
  · exact h.size
  · exact h.defers
  · intro t
    exact RepL.keeps (fun i => hk _) (fun _ => rfl) (h.slots t)
  · intro t cells2 hcs
    by_cases q : s = t
    · subst q
      simp only [updBox, lkb, if_true, Option.some.injEq] at hcs
      subst hcs
      exact ⟨b, hb, k1, k2, k3, c, e, fr, hc, hfr, hsz, hr⟩
    · simp only [updBox, lkb, q, if_false] at hcs
      obtain ⟨b', hb'', m1, m2, m3, c2, e2, fr2, m4, m5, m6, m7⟩ := h.boxes t cells2 hcs
      have hne : b' ≠ b := fun e => q (h.bxinj s t b hb (e ▸ hb''))
      exact ⟨b', hb'', m1, m2, m3, c2, e2, fr2, (q5 b' hne).trans m4, m5, m6, fun j hj => RepR.keeps (hk _) (m7 j hj)⟩
  · exact h.bxinj
  · intro b' cells2 hcs
    obtain ⟨⟨m1, c2, e2, fr2, m2, m3, m4, m5⟩, m6, m7, m8⟩ := h.heap b' cells2 hcs
    have hne : b' ≠ b := fun e => m7 s (e ▸ hb)
    exact ⟨⟨m1, c2, e2, fr2, (q5 b' hne).trans m2, m3, m4, m5⟩, m6, m7, m8⟩
  · intro b' j v hm
    have hne : b' ≠ b := fun e => by subst e; rw [k2] at hm; cases hm
    have := h.mem b' j v hm
    refine ⟨?_, this.2⟩
    rw [← this.1]
    unfold World.cell?
    rw [q5 b' hne]
  · exact h.mem0
  · have hbB : b < w0.heap.size → T b := by rw [h.okb] at k1; exact k1
    exact ⟨q1.trans h.ext.os, q2.trans h.ext.tape, q3.trans h.ext.output, by rw [q4]; exact h.ext.size, fun k hk' ht' => (q5 k (fun e => by subst e; exact ht' (hbB hk'))).trans (h.ext.block k hk' ht'), fun a ha => (q6 a).trans (h.ext.frozen a ha)⟩
  · exact h.B
  · intro b' p e
    rw [q4]; exact h.xlt b' p e
  · intro s b e
    rw [q4]; exact h.blt s b e
  · exact h.bxx
  · exact h.okb
  · exact h.pin

theorem OwnAt.world {g : Gh} {w1 : World} (hw : ∀ k, g.B ≤ k → w1.heap[k]? = w.heap[k]?) {p : Place} {sz : Nat} {xs : List SV} {val : Value} (h : OwnAt g w p sz xs val) : OwnAt g w1 p sz xs val := by
  rcases h with h | ⟨b, off, cap, h1, h2, h3, h4, ⟨c, e, fr, h5, h6, h7⟩, h8⟩
  · exact .inl h
  · exact .inr ⟨b, off, cap, h1, h2, h3, h4, ⟨c, e, fr, (hw b h4).trans h5, h6, h7⟩, h8⟩
theorem RepL.world {g : Gh} {w1 : World} (hw : ∀ k, g.B ≤ k → w1.heap[k]? = w.heap[k]?) {s : Nat} {lv : LV} {val : Value} (h : RepL g w s lv val) : RepL g w1 s lv val := by
  induction lv with
  | gd c v ih => exact ⟨fun hc => ih (h.1 hc), h.2⟩
  | sv v => exact h
  | own sz xs => exact OwnAt.world hw h
  | lptr t off => exact h
  | lsl t z off n cap => exact h
  | tup vs =>
    obtain ⟨us, h1, h2, h3⟩ := h
    refine ⟨us, h1, h2, fun j hj => ?_⟩
    have := h3 j hj
    cases hv : vs.getD j (.sv .undef) with
    | sv v => rw [hv] at this; exact this
    | own sz xs => rw [hv] at this; exact OwnAt.world hw this
  | siter t pos => obtain ⟨b, h1, h2, h3, h4, h5⟩ := h; exact ⟨b, h1, h2, h3, h4, (hw b h3).trans h5⟩

theorem BoxAt.heapAt {s b : Nat} {cells : List RV} (h : BoxAt g w s b cells) : HeapAt g.mu w b (cells.map RV.share) := by
  obtain ⟨_, h2, _, c, e, fr, h4, h5, h6, h7⟩ := h
  refine ⟨h2, c, e, fr, h4, h5, by simpa using h6, fun j hj => ?_⟩
  have hj' : j < cells.length := by simpa using hj
  have := (h7 j hj').share
  simpa [List.getD_eq_getElem?_getD, hj'] using this

/-- After a call with a box's address. -/
theorem Sim.calledE (h : Sim w0 mu0 T g st a w) {s b : Nat} {cells : List RV} {cells' : List SV} (hcl : lkb st.bx s = some cells) (hb : g.bx s = some b) {mu' : Mem} {rv : LV} {val : Value}
    (hext : Ext (fun k => k = b) w w') (hle : g.mu.le mu') (hmem : MemOK mu' w') (hold : ∀ b j, b < w.heap.size → mu' b j = g.mu b j) (hh : HeapAt mu' w' b cells')
    (hr : RetRep w.heap.size mu' w' rv val) (d : Nat) : ∃ g', Sim w0 mu0 T g' (updBox st s (cells'.map .sv)) a w' ∧ RepL g' w' d rv val := by
  have hblt := h.blt s b hb
  obtain ⟨b', hb', k1, k2, k3, c0, e0, fr0, k4, k5, k6, k7⟩ := h.boxes s cells hcl
  rw [hb] at hb'; cases hb'
  have hs' : w.heap.size ≤ w'.heap.size := hext.size
  let w1 : World := { w' with heap := w'.heap.setIfInBounds b (.cells c0 e0 fr0) }
  have hget : ∀ k, w1.heap[k]? = if k = b then some (.cells c0 e0 fr0) else w'.heap[k]? := by
    intro k
    by_cases q : k = b
    · subst q
      have : k < w'.heap.size := by omega
      simp [w1, this]
    · have q' : ¬ b = k := fun e => q e.symm
      simp [w1, Array.getElem?_setIfInBounds, q, q']
  obtain ⟨hm0, c, e, fr, r1, r2, r3, r4⟩ := hh
  have hfz : ∀ x, w1.frozen? x = w'.frozen? x := by
    intro x
    by_cases q : x.block = b
    · have h1 : w1.heap[x.block]? = w.heap[b]? := by rw [hget, if_pos q, k4]
      have h2 : w1.frozen? x = w.frozen? x := by simp only [World.frozen?]; rw [h1, q]
      rw [h2, hext.frozen x (by rw [q]; exact hblt)]
    · simp only [World.frozen?]; rw [hget, if_neg q]
  have hext1 : Ext (fun _ => False) w w1 := by
    refine ⟨hext.os, hext.tape, hext.output, by simpa [w1] using hext.size, fun k hk _ => ?_, fun x hx => (hfz x).trans (hext.frozen x hx)⟩
    rw [hget]
    by_cases q : k = b
    · subst q; rw [if_pos rfl, k4]
    · rw [if_neg q]; exact hext.block k hk q
  have hmem1 : MemOK mu' w1 := by
    intro b' j v hv
    have hne : b' ≠ b := fun q => by subst q; rw [hm0] at hv; cases hv
    obtain ⟨t1, t2⟩ := hmem b' j v hv
    refine ⟨?_, t2⟩
    rw [← t1]
    unfold World.cell?
    rw [hget, if_neg hne]
  obtain ⟨x, hx, hxl⟩ := hr
  have hr1 : RetRep w.heap.size mu' w1 rv val := ⟨x, RepL.world (fun k hk => by rw [hget, if_neg (by have : w.heap.size ≤ k := hk; omega)]) hx, fun b' p e => by simpa [w1] using hxl b' p e⟩
  obtain ⟨g', e1, e2, hsim, hrep⟩ := h.called hext1 hle hmem1 hold hr1 d
  have hb2 : g'.bx s = some b := by rw [e2]; exact hb
  have hbx3 : g'.x b = none := by
    cases hq : g'.x b with
    | none => rfl
    | some p => exact absurd hb2 (hsim.bxx s b p hq)
  refine ⟨g', hsim.rebox hcl hb2 rfl rfl rfl (by simp [w1]) (fun k hk => by rw [hget, if_neg hk]) (fun x => (hfz x).symm) r1 r2 (by simpa using r3) (fun j hj => ?_), ?_⟩
  · have hj' : j < cells'.length := by simpa using hj
    have := r4 j hj'
    rw [← e1] at this
    simpa [List.getD_eq_getElem?_getD, hj', RepR] using this
  · have hkeep : ∀ p, Keeps g' w1 g' w' p := fun p => ⟨Mem.le_refl _, fun b' e => ⟨e, by
      have hne : b' ≠ b := fun q => by subst q; rw [hbx3] at e; cases e
      rw [hget, if_neg hne], fun _ q => q⟩, rfl⟩
    exact RepL.keeps (fun i => hkeep _) (fun _ => rfl) hrep

theorem lk_newBox {d : Nat} {l : List (Nat × LV)} (hno : noL d l) (v : LV) {s : Nat} : lk ((d, v) :: unl d l) s = lk ((d, v) :: l) s := by
  have : ∀ l : List (Nat × LV), noL d l → unl d l = l := by
    intro l
    induction l with
    | nil => intro _; rfl
    | cons p l ih =>
      intro hno
      simp only [unl, List.map_cons]
      rw [hno p (List.mem_cons_self ..)]
      simp only [Bool.false_eq_true, if_false]
      congr 1
      exact ih (fun q hq => hno q (List.mem_cons_of_mem _ hq))
  rw [this l hno]

theorem step_ok {ops : Array Oper} {o : Oper} {tk : Bool} {ao : AOp} {K : St → Prop} {K' : Act → World → Prop} {Q : Exit → Act → World → Prop} (hk : compK P tk o = some ao.k) (hd : ao.dst = o.dst) (hg : compG ops o.guard = some ao.guard)
    (hgn : ∀ s b, ao.guard = some (s, b) → s < st.n) (h : Sim w0 mu0 T g st a w) (hs : AStep P st ao K) (hK : ∀ g' st' a' w', Sim w0 mu0 T g' st' a' w' → st'.n = st.n → K st' → K' a' w') :
    if Region.wanted o (yielded ops a.tmps) then o.wp P a w K' Q else K' (a.put o.dst undef) w := by
  obtain ⟨dst, gu, k⟩ := ao
  simp only at hk hd hg hgn
  subst hd
  have quiet : k.quiet = true → (∃ d, o.dst = some d ∧ d < st.n ∧ match gOf st gu, ev st k with
    | some g, some (c, lv) => (g = true → c) ∧ K ((dgr st k).putS d (gdv gu g lv))
    | some false, none => K (st.putS d (.gd false (.sv .undef)))
    | _, _ => False) → if Region.wanted o (yielded ops a.tmps) then o.wp P a w K' Q else K' (a.put o.dst undef) w := by
    intro hq hs
    obtain ⟨d, hdst, hdn, hm⟩ := hs
    split at hm
    case h_3 => exact hm.elim
    case h_2 h1 h2 =>
      rw [wanted_iff h hg h1 hgn, if_neg (by simp)]
      refine hK _ _ _ _ (show Sim w0 mu0 T g (st.putS d (.gd false (.sv .undef))) (a.put o.dst undef) w from ?_) rfl hm
      rw [hdst]
      exact h.put hdn ⟨fun q => (by cases q), fun _ => rfl⟩
    rename_i c0 cc lv h1 h2
    obtain ⟨hc, hKs⟩ := hm
    rw [wanted_iff h hg h1 hgn]
    cases c0 with
    | true =>
      rw [if_pos rfl]
      obtain ⟨val, g', w', r1, r2, r3⟩ := comp_yields h hk hq h2 (hc rfl) d
      simp only [Oper.wp, r1, Oper.upon_value]
      refine hK _ _ _ _ (show Sim w0 mu0 T g' ((dgr st k).putS d (gdv gu true lv)) (a.put o.dst val) w' from ?_) (by simp [St.putS, dgr_n]) hKs
      rw [hdst]
      refine r2.put (by rw [dgr_n]; exact hdn) ?_
      cases gu with
      | none => exact r3
      | some p => exact ⟨fun _ => r3, fun q => (by cases q)⟩
    | false =>
      rw [if_neg (by simp)]
      refine hK _ _ _ _ (show Sim w0 mu0 T g ((dgr st k).putS d (gdv gu false lv)) (a.put o.dst undef) w from ?_) (by simp [St.putS, dgr_n]) hKs
      rw [hdst]
      refine (h.dgr k).put (by rw [dgr_n]; exact hdn) ?_
      cases gu with
      | none => simp [gOf] at h1
      | some p => exact ⟨fun q => (by cases q), fun _ => rfl⟩
  have unguarded : gu = none → Region.wanted o (yielded ops a.tmps) = true := fun e => by subst e; exact wanted_iff h hg (by rfl) (fun _ _ q => by cases q)
  cases k
  case box n x =>
    simp only [AStep] at hs
    obtain ⟨rfl, d, hdst, hdn, hno, hm⟩ := hs
    split at hm
    case h_2 => exact hm.elim
    rename_i gg v hv
    obtain ⟨rfl, hnc, hkn, hKs⟩ := hm
    rw [if_pos (unguarded rfl)]
    obtain ⟨t, y, i, hop, hi, hy, hsz⟩ := compK_box hk
    obtain ⟨g', hsim⟩ := h.newBox hdn.1 hdn.2 ((rd_rep h hy hv).repCs hkn) t
    have hrun : (execOp a.eval o).run P w = .ok (.value (.pointer (some ⟨w.heap.size, 0, none⟩))) (w.alloc (.cells (a.eval y).cells t)) := by
      simp [execOp, hop, Instr.box, newVar, newRow]
    simp only [Oper.wp, hrun, Oper.upon_value, hdst]
    exact hK _ { st with sl := (d, .lptr d 0) :: st.sl, bx := (d, v.cells.map .sv) :: st.bx } _ _ (hsim.congr rfl (fun s => (lk_newBox hno _).symm) (fun _ => rfl) rfl) rfl hKs
  case alloc zero =>
    simp only [AStep] at hs
    obtain ⟨rfl, d, hdst, hdn, hno, hKs⟩ := hs
    rw [if_pos (unguarded rfl)]
    obtain ⟨t, hop, hz⟩ := compK_alloc hk
    obtain ⟨z, hz1, hz2⟩ := zeroV_run hz g.mu w
    obtain ⟨g', hsim⟩ := h.newBox hdn.1 hdn.2 hz2 t
    have hrun : (execOp a.eval o).run P w = .ok (.value (.pointer (some ⟨w.heap.size, 0, none⟩))) (w.alloc (.cells z.cells t)) := by
      simp [execOp, hop, Instr.alloc, hz1, newVar, newRow]
    simp only [Oper.wp, hrun, Oper.upon_value, hdst]
    exact hK _ { st with sl := (d, .lptr d 0) :: st.sl, bx := (d, zero.map .sv) :: st.bx } _ _ (hsim.congr rfl (fun s => (lk_newBox hno _).symm) (fun _ => rfl) rfl) rfl hKs
  case mks sz bytes zero l =>
    simp only [AStep] at hs
    rcases hs with hs | hs
    · obtain ⟨rfl, rfl, d, hdst, hdn, hno, hm⟩ := hs
      split at hm
      case h_2 => exact hm.elim
      rename_i gg k n z hv
      obtain ⟨⟨rfl, hn0, hnb, hn63⟩, hKs⟩ := hm
      rw [if_pos (unguarded rfl)]
      obtain ⟨t, y, e, i, hop, ht, hi, hsz, rfl, h0, hz, hzl, hzc, hy⟩ := compK_mks hk
      have rv := rd_rep h hy hv
      obtain ⟨m, rfl⟩ := Int.eq_ofNat_of_zero_le hn0
      obtain ⟨zz, hz1, hz2⟩ := zeroV_run hz g.mu w
      have hz0 : i.zero = some zz := by
        simp only [zeroV, hi, Option.bind_some, Option.bind_eq_some_iff] at hz
        obtain ⟨z', q1, q2⟩ := hz
        have : (zeroValue e).run P w = .ok z' w := by simp [zeroValue, typeInfo, hi, q1]
        rw [this] at hz1
        cases hz1
        exact q1
      have hrow : RepCs g.mu (List.replicate m z) (madeCells zz.cells (m * i.size)) := by
        by_cases q : m = 0
        · subst q; exact ⟨by simp [madeCells], fun j hj => by simp at hj⟩
        · have hr := zero_row (n := m) hz2 (by rw [hzl]) h0 hzc
          have hel : elemOf i.size [z] = z := by rw [hsz]; rfl
          rw [hel] at hr
          refine ⟨by rw [show (madeCells zz.cells (m * i.size)).size = _ from hr.1, hsz, Nat.mul_one], fun j hj => ?_⟩
          have hj' : j < m := by simpa using hj
          have := hr.2.2 j 0 (by simpa using hj') (by omega)
          have hcell : z.isCell = true := by simpa using hzc
          have hc0 : ((List.replicate m z).getD j .undef).cell 0 = z := by
            simp only [List.getD_eq_getElem?_getD, List.getElem?_replicate, hj', if_true, Option.getD_some, SV.cell]
            cases z <;> first | rfl | simp [SV.isCell] at hcell
          rw [hc0, hsz] at this
          simp only [Nat.mul_one, Nat.add_zero] at this
          have e2 : (List.replicate m z).getD j .undef = z := by simp [List.getD_eq_getElem?_getD, List.getElem?_replicate, hj']
          rw [e2, hsz]
          simp only [Nat.mul_one]
          exact this
      have hmb : (i.bytes : Int) * (m : Int) ≤ 281474976710656 := by rw [Int.mul_comm]; exact hnb
      have hrun : (execOp a.eval o).run P w = .ok (.value (.slice (some ⟨w.heap.size, 0, none⟩) m m)) (w.alloc (.cells (madeCells zz.cells (m * i.size)) e)) := by
        have := run_make (P := P) w t e i zz ht hi hz0 k k m m (by omega) (Int.le_refl _) hmb hn63
        simp only [execOp, hop, Sem.run_bind, rv.inv_int, this, Result.andThen_ok, Sem.run_pure]
        rfl
      obtain ⟨g', hsim⟩ := h.newArr hdn.1 hdn.2 hrow e m
      simp only [Oper.wp, hrun, Oper.upon_value, hdst]
      refine hK _ { st with sl := (d, .lsl d 1 0 m m) :: st.sl, bx := (d, List.replicate m (.sv z)) :: st.bx } _ _ (hsim.congr rfl (fun s => (lk_newBox hno _).symm) (fun _ => by simp [List.map_replicate]) rfl) rfl ?_
      simpa using hKs
    · exact quiet rfl hs
  case store n x v =>
    simp only [AStep] at hs
    obtain ⟨rfl, hdst, hm⟩ := hs
    split at hm
    case h_2 => exact hm.elim
    rename_i g1 p g2 u h1 h2
    obtain ⟨rfl, rfl, hnc, hck, hm⟩ := hm
    rw [if_pos (unguarded rfl)]
    obtain ⟨t, y, uu, i, hop, hi, hy, hu, hsz⟩ := compK_store hk
    split at hm
    case h_2 => exact hm.elim
    rename_i c st1 hst
    obtain ⟨hc, hKs⟩ := hm
    unfold storeV at hst
    split at hst
    case h_2 => cases hst
    rename_i s off
    split at hst
    case h_2 => cases hst
    rename_i cells hcl
    simp only [Option.some.injEq, Prod.mk.injEq] at hst
    obtain ⟨rfl, rfl⟩ := hst
    obtain ⟨b, hb, hv⟩ := rdl_lptr h hy h1
    have rcs := (rd_rep h hu h2).repCs (known_of_cells hck)
    obtain ⟨w', hrun, hsim⟩ := h.storeBox (P := P) hcl hb hc rcs hck
    have hr : (execOp a.eval o).run P w = .ok .skip w' := by
      have hs2 : (a.eval uu).cells.size = i.size := by rw [rcs.1, hsz]; exact hnc
      simp only [execOp, hop, Sem.run_bind, Instr.storeAt, hv, Instr.sureAddr, Sem.run_pure, Result.andThen_ok, storeVar, run_sizeOf' hi]
      rw [if_neg (by simp [hs2])]
      simp [hrun]
    simp only [Oper.wp, hr, Oper.upon_skip, hdst]
    exact hK _ _ _ _ hsim rfl hKs
  case call f args =>
    simp only [AStep] at hs
    obtain ⟨d, hdst, hdn, hm⟩ := hs
    split at hm
    case h_2 => exact hm.elim
    rename_i c0 cc l h1 h2
    obtain ⟨rv, hp, hKs⟩ := hm
    rw [wanted_iff h hg h1 hgn]
    obtain ⟨xs, ts, fn, hop, hfn, hbody, hname, hargs⟩ := compK_call hk
    cases c0 with
    | true =>
      rw [if_pos rfl]
      obtain ⟨hcc, hpure⟩ := hp rfl
      have hra := compArgs_rep h hargs h2 hcc
      have hrun : (execOp a.eval o).run P w = .ok (.enter f (xs.toList.map a.eval).toArray) w := by
        have hb' : fn.body.isNone = false := by cases hb : fn.body <;> simp [hb] at hbody ⊢
        simp only [execOp, hop, resolve, Act.eval, Deferred.ofValue, Sem.run_bind, Sem.run_pure, Result.andThen_ok, invoke, callFunc, run_program, hfn, hname, hb', Bool.false_eq_true, if_false]
        rw [show Array.map a.eval xs = (List.map a.eval xs.toList).toArray by apply Array.ext'; simp]
        simp
      simp only [Oper.wp, hrun, Oper.upon_enter]
      refine (hpure g.mu w _ h.mem hra).mono fun e w' hpost => ?_
      obtain ⟨val, mu', rfl, p1, p2, p3, p4, p5⟩ := hpost
      obtain ⟨g', _, _, q1, q2⟩ := h.called p1 p2 p3 p4 p5 d
      refine hK _ _ _ _ (show Sim w0 mu0 T g' (st.putS d (gdv gu true rv)) (a.put o.dst val) w' from ?_) rfl hKs
      rw [hdst]
      refine q1.put hdn ?_
      cases gu with
      | none => exact q2
      | some p => exact ⟨fun _ => q2, fun q => (by cases q)⟩
    | false =>
      rw [if_neg (by simp)]
      refine hK _ _ _ _ (show Sim w0 mu0 T g (st.putS d (gdv gu false rv)) (a.put o.dst undef) w from ?_) rfl hKs
      rw [hdst]
      refine h.put hdn ?_
      cases gu with
      | none => simp [gOf] at h1
      | some p => exact ⟨fun q => (by cases q), fun _ => rfl⟩
  case callN f args =>
    simp only [AStep] at hs
    obtain ⟨rfl, d, hdst, hdn, hno, hm⟩ := hs
    rw [if_pos (unguarded rfl)]
    split at hm
    case h_2 => exact hm.elim
    rename_i cc l h2
    obtain ⟨hcc, cells, hpure, hKs⟩ := hm
    obtain ⟨xs, ts, fn, hop, hfn, hbody, hname, hargs⟩ := compK_callN hk
    have hra := compArgs_rep h hargs h2 hcc
    have hrun : (execOp a.eval o).run P w = .ok (.enter f (xs.toList.map a.eval).toArray) w := by
      have hb' : fn.body.isNone = false := by cases hb : fn.body <;> simp [hb] at hbody ⊢
      simp only [execOp, hop, resolve, Act.eval, Deferred.ofValue, Sem.run_bind, Sem.run_pure, Result.andThen_ok, invoke, callFunc, run_program, hfn, hname, hb', Bool.false_eq_true, if_false]
      rw [show Array.map a.eval xs = (List.map a.eval xs.toList).toArray by apply Array.ext'; simp]
      simp
    simp only [Oper.wp, hrun, Oper.upon_enter]
    refine (hpure g.mu w _ h.mem hra).mono fun e w' hpost => ?_
    obtain ⟨b, mu', rfl, p1, p2, p3, p4, p5, p6⟩ := hpost
    obtain ⟨g', e1, e2, e3, q1, q2⟩ := h.calledX (rv := .sv .undef) (val := undef) p1 p2 p3 p4 (fun _ => none) (.undef _) (fun _ _ e => by cases e) d
    have hsz := h.ext.size
    have hhp : st.hp b = none := by
      cases hq : st.hp b with
      | none => rfl
      | some cs => have := h.used_lt (b := b) (.inr (.inr (by rw [hq]; simp))); omega
    obtain ⟨g2, hsim⟩ := q1.adopt hdn.1 hdn.2 (b0 := b) (cells := cells) (by rw [e1]; exact p6) (by omega) (e3 b p5 rfl) (fun s q => by rw [e2] at q; have := h.blt s b q; omega) hhp
    rw [hdst]
    exact hK _ { st with sl := (d, .lptr d 0) :: st.sl, bx := (d, cells.map .sv) :: st.bx } _ _ (hsim.congr rfl (fun s => (lk_newBox hno _).symm) (fun _ => rfl) rfl) rfl hKs
  case callE f x args =>
    simp only [AStep] at hs
    obtain ⟨d, hdst, hdn, hm⟩ := hs
    obtain ⟨xs, ts, fn, hop, hfn, hbody, hname, hargs⟩ := compK_callE hk
    obtain ⟨y, ys, hxs, hy, hys⟩ : ∃ y ys, xs.toList = y :: ys ∧ compO y = some x ∧ compArgs ys = some args := by
      cases hl : xs.toList with
      | nil => rw [hl] at hargs; cases hargs
      | cons y ys =>
        rw [hl] at hargs
        simp only [compArgs] at hargs
        split at hargs
        case h_2 => cases hargs
        rename_i o' l' h1 h2
        cases hargs
        exact ⟨y, ys, rfl, h1, h2⟩
    have hrun : (execOp a.eval o).run P w = .ok (.enter f (a.eval y :: ys.map a.eval).toArray) w := by
      have hb' : fn.body.isNone = false := by cases hb : fn.body <;> simp [hb] at hbody ⊢
      simp only [execOp, hop, resolve, Act.eval, Deferred.ofValue, Sem.run_bind, Sem.run_pure, Result.andThen_ok, invoke, callFunc, run_program, hfn, hname, hb', Bool.false_eq_true, if_false]
      rw [show Array.map a.eval xs = (a.eval y :: List.map a.eval ys).toArray by apply Array.ext'; simp [hxs]]
      simp
      cases y <;> simp [Act.eval]
    split at hm
    case h_3 => exact hm.elim
    · rename_i g0 gx s c l h1 h2 h3
      split at hm
      case h_2 => exact hm.elim
      rename_i cells hcl
      obtain ⟨rv, cells', hp, hKs⟩ := hm
      rw [wanted_iff h hg h1 hgn]
      cases g0 with
      | true =>
        rw [if_pos rfl]
        obtain ⟨rfl, hcc, heff⟩ := hp rfl
        obtain ⟨b, hb, hv⟩ := rdl_lptr h hy h2
        obtain ⟨b2, hb2, hbox⟩ := h.boxes s cells hcl
        rw [hb] at hb2; cases hb2
        have hra := compArgs_rep h hys h3 hcc
        simp only [Oper.wp, hrun, Oper.upon_enter]
        rw [hv]
        refine (heff g.mu w b _ h.mem hbox.heapAt hra).mono fun e w' hpost => ?_
        obtain ⟨val, mu', rfl, p1, p2, p3, p4, p5, p6⟩ := hpost
        obtain ⟨g', q1, q2⟩ := h.calledE hcl hb p1 p2 p3 p4 p5 p6 d
        refine hK _ _ _ _ (show Sim w0 mu0 T g' { st with sl := (d, gdv gu true rv) :: st.sl, bx := (s, cond true (cells'.map .sv) cells) :: st.bx } (a.put o.dst val) w' from ?_) rfl hKs
        rw [hdst]
        refine q1.put hdn ?_
        cases gu with
        | none => exact q2
        | some p => exact ⟨fun _ => q2, fun q => (by cases q)⟩
      | false =>
        rw [if_neg (by simp)]
        refine hK _ _ _ _ (show Sim w0 mu0 T g { st with sl := (d, gdv gu false rv) :: st.sl, bx := (s, cond false (cells'.map .sv) cells) :: st.bx } (a.put o.dst undef) w from ?_) rfl hKs
        rw [hdst]
        have h4 := h.put (d := d) (lv := gdv gu false rv) (val := undef) hdn (by
          cases gu with
          | none => simp [gOf] at h1
          | some p => exact ⟨fun q => (by cases q), fun _ => rfl⟩)
        exact h4.congr rfl (fun t => rfl) (fun t => by
          simp only [cond_false, lkb]
          split
          · rename_i q; subst q; exact hcl.symm
          · rfl) rfl
    · rename_i g0 gx v c l h1 h2 h3
      obtain ⟨rv, hp, hKs⟩ := hm
      rw [wanted_iff h hg h1 hgn]
      cases g0 with
      | true =>
        rw [if_pos rfl]
        obtain ⟨rfl, hcc, hpure⟩ := hp rfl
        have hra := compArgs_rep h hys h3 hcc
        have hv : Rep g.mu v (a.eval y) := rd_rep h hy (by simp [rd, h2, LV.sh?])
        have hra2 : RepArgs g.mu (v :: l) (a.eval y :: ys.map a.eval) := ⟨by simp [hra.1], fun j hj => by
          cases j with
          | zero => exact hv
          | succ j => simpa using hra.2 j (by simpa using hj)⟩
        simp only [Oper.wp, hrun, Oper.upon_enter]
        refine (hpure g.mu w _ h.mem hra2).mono fun e w' hpost => ?_
        obtain ⟨val, mu', rfl, p1, p2, p3, p4, p5⟩ := hpost
        obtain ⟨g', _, _, q1, q2⟩ := h.called p1 p2 p3 p4 p5 d
        refine hK _ _ _ _ (show Sim w0 mu0 T g' (st.putS d (gdv gu true rv)) (a.put o.dst val) w' from ?_) rfl hKs
        rw [hdst]
        refine q1.put hdn ?_
        cases gu with
        | none => exact q2
        | some p => exact ⟨fun _ => q2, fun q => (by cases q)⟩
      | false =>
        rw [if_neg (by simp)]
        refine hK _ _ _ _ (show Sim w0 mu0 T g (st.putS d (gdv gu false rv)) (a.put o.dst undef) w from ?_) rfl hKs
        rw [hdst]
        refine h.put hdn ?_
        cases gu with
        | none => simp [gOf] at h1
        | some p => exact ⟨fun q => (by cases q), fun _ => rfl⟩
  case takeLoad x => simp [AStep] at hs
  all_goals exact quiet rfl hs
end Go.Av
