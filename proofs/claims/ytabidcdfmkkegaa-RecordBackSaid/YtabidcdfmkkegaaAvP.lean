import Derived.Test.YtabidcdfmkkegaaAvEq
set_option linter.unusedSimpArgs false
namespace Go.Av
variable {P : Program} {w0 : World} {mu0 : Mem} {T : Nat → Prop} {g g' : Gh} {st st' : St} {a : Act} {w w' : World}

def LV.isL (d : Nat) : LV → Bool
  | .lptr s _ => s == d
  | .lsl s _ _ _ _ => s == d
  | .gd _ v => v.isL d
  | _ => false
def unl (d : Nat) (l : List (Nat × LV)) : List (Nat × LV) := l.map fun p => (p.1, if p.2.isL d then .sv .undef else p.2)

theorem lk_unl (d : Nat) : ∀ (l : List (Nat × LV)) (s : Nat), lk (unl d l) s = if (lk l s).isL d then .sv .undef else lk l s
  | [], s => by simp [lk, unl, LV.isL]
  | (t, v) :: l, s => by
    have := lk_unl d l s
    simp only [unl, List.map_cons, lk] at this ⊢
    split
    · rfl
    · exact this

theorem RepL.notL {d b : Nat} {s : Nat} {lv : LV} {val : Value} (hl : lv.isL d = false) (h : RepL g w s lv val) : RepL { g with bx := fun t => if t = d then some b else g.bx t } w s lv val := by
  induction lv with
  | gd c v ih => exact ⟨fun hc => ih hl (h.1 hc), h.2⟩
  | sv v => exact h
  | own sz xs => exact h
  | lptr t off =>
    obtain ⟨b', h1, h2⟩ := h
    have : t ≠ d := by simpa [LV.isL] using hl
    exact ⟨b', by simp [this, h1], h2⟩
  | lsl t z off n cap =>
    obtain ⟨b', h1, h2⟩ := h
    have : t ≠ d := by simpa [LV.isL] using hl
    exact ⟨b', by simp [this, h1], h2⟩
  | tup vs =>
    obtain ⟨us, h1, h2, h3⟩ := h
    refine ⟨us, h1, h2, fun j hj => ?_⟩
    have := h3 j hj
    cases hv : vs.getD j (.sv .undef) with
    | sv v => rw [hv] at this; exact this
    | own sz xs => rw [hv] at this; exact this
  | siter t pos => exact h

def newBox (st : St) (d : Nat) (cells : List SV) : St := { st with sl := (d, .lptr d 0) :: unl d st.sl, bx := (d, cells.map .sv) :: st.bx }

/-- A new variable of the frame's own. -/
theorem Sim.newBox (h : Sim w0 mu0 T g st a w) {d : Nat} (hd : d < st.n) (hd0 : d ≠ 0) {cells : List SV} {cs : Array Value} (hc : RepCs g.mu cells cs) (e : TypeId) :
    ∃ g', Sim w0 mu0 T g' (newBox st d cells) (a.put (some d) (.pointer (some ⟨w.heap.size, 0, none⟩))) (w.alloc (.cells cs e)) := by
  have h1 := h.newImm cs e 0 none (fun j v hj => by omega)
  generalize hg1 : g.new w.heap.size cs 0 none = g1 at h1
  have hmu : g1.mu = g.mu := by
    subst hg1
    funext b j
    simp only [Gh.new]
    by_cases q : b = w.heap.size
    · subst q
      simp
      cases hm : g.mu w.heap.size j with
      | none => rfl
      | some v => have := h.mem.lt hm; omega
    · simp [q]
  have hx : g1.x w.heap.size = none := by subst hg1; simp [Gh.new]
  have hbx : g1.bx = g.bx := by subst hg1; rfl
  have hsz := h.ext.size
  have hmn : ∀ j, g1.mu w.heap.size j = none := fun j => by
    rw [hmu]
    cases hm : g.mu w.heap.size j with
    | none => rfl
    | some v => have := h.mem.lt hm; omega
  refine ⟨{ g1 with bx := fun t => if t = d then some w.heap.size else g1.bx t }, ?_⟩
  constructor
  · simpa [Act.put, Av.newBox] using h1.size
  · simpa [Act.put] using h1.defers
  · intro s
    rw [getD_put h1.size hd]
    by_cases q : s = d
    · subst q
      simp only [Av.newBox, lk, if_true]
      exact ⟨w.heap.size, by simp, rfl⟩
    · have q' : ¬ d = s := fun e => q e.symm
      simp only [Av.newBox, lk, q', if_false, q, lk_unl]
      by_cases hl : (lk st.sl s).isL d = true
      · simp only [hl, if_true]; exact .undef _
      · have hl' : (lk st.sl s).isL d = false := by simpa using hl
        simp only [hl', Bool.false_eq_true, if_false]
        exact (h1.slots s).notL hl'
  · intro s cells' hcs
    by_cases q : d = s
    · subst q
      simp only [Av.newBox, lkb, if_true, Option.some.injEq] at hcs
      subst hcs
      refine ⟨w.heap.size, by simp, ?_, hmn, hx, cs, e, (0, 0), heap_alloc_new _, .inl rfl, by simpa using hc.1, fun j hj => ?_⟩
      · simp only []; rw [h1.okb]; intro q; omega
      · have hj' : j < cells.length := by simpa using hj
        have := hc.2 j hj'
        rw [← hmu] at this
        simpa [List.getD_eq_getElem?_getD, hj', RepR] using this
    · simp only [Av.newBox, lkb, q, if_false] at hcs
      obtain ⟨b, hb, k1, k2, k3, c, e', fr, k4, k5, k6, k7⟩ := h1.boxes s cells' hcs
      have q' : ¬ s = d := fun e => q e.symm
      refine ⟨b, by simp [q', hb], k1, k2, k3, c, e', fr, k4, k5, k6, fun j hj => ?_⟩
      have := k7 j hj
      cases hv : cells'.getD j (.sv .undef) with
      | sv v => rw [hv] at this; exact this
      | own sz xs => rw [hv] at this; exact this
  · intro s s' b e1 e2
    simp only [] at e1 e2
    split at e1 <;> split at e2
    · subst_vars; rfl
    · cases e1; rw [hbx] at e2; have := h.blt s' _ e2; omega
    · cases e2; rw [hbx] at e1; have := h.blt s _ e1; omega
    · exact h1.bxinj s s' b e1 e2
  · intro b cells' hcs
    obtain ⟨k1, k2, k3, k4⟩ := h1.heap b cells' hcs
    refine ⟨k1, k2, fun s q => ?_, k4⟩
    simp only [] at q
    split at q
    · cases q
      have := h.used_lt (b := w.heap.size) (.inr (.inr (by rw [show st.hp w.heap.size = some cells' from hcs]; simp)))
      omega
    · exact k3 s q
  · exact h1.mem
  · exact h1.mem0
  · exact h1.ext
  · exact h1.B
  · exact h1.xlt
  · intro s b q
    simp only [] at q
    split at q
    · cases q; simp
    · exact h1.blt s b q
  · intro s b p q r
    simp only [] at r
    split at r
    · cases r; rw [hx] at q; cases q
    · exact h1.bxx s b p q r
  · exact h1.okb
  · intro b hb
    have := h1.pin b hb
    simpa [Ne.symm hd0] using this

/-- A new object is one's own. -/
theorem Sim.adopt {g1 : Gh} (h1 : Sim w0 mu0 T g1 st a w) {d : Nat} (hd : d < st.n) (hd0 : d ≠ 0) {b0 : Nat} {cells : List SV} (hh : HeapAt g1.mu w b0 cells) (hB : w0.heap.size ≤ b0) (hx : g1.x b0 = none) (hbx : ∀ s, g1.bx s ≠ some b0) (hhp : st.hp b0 = none) :
    ∃ g', Sim w0 mu0 T g' (Av.newBox st d cells) (a.put (some d) (.pointer (some ⟨b0, 0, none⟩))) w := by
  obtain ⟨hmn, c0, e0, fr0, r1, r2, r3, r4⟩ := hh
  have hblt : b0 < w.heap.size := by
    apply Classical.byContradiction; intro q
    rw [Array.getElem?_eq_none (by omega)] at r1; cases r1
  refine ⟨{ g1 with bx := fun t => if t = d then some b0 else g1.bx t }, ?_⟩
  constructor
  · simpa [Act.put, Av.newBox] using h1.size
  · simpa [Act.put] using h1.defers
  · intro s
    rw [getD_put h1.size hd]
    by_cases q : s = d
    · subst q
      simp only [Av.newBox, lk, if_true]
      exact ⟨b0, by simp, rfl⟩
    · have q' : ¬ d = s := fun e => q e.symm
      simp only [Av.newBox, lk, q', if_false, q, lk_unl]
      by_cases hl : (lk st.sl s).isL d = true
      · simp only [hl, if_true]; exact .undef _
      · have hl' : (lk st.sl s).isL d = false := by simpa using hl
        simp only [hl', Bool.false_eq_true, if_false]
        exact (h1.slots s).notL hl'
  · intro s cells' hcs
    by_cases q : d = s
    · subst q
      simp only [Av.newBox, lkb, if_true, Option.some.injEq] at hcs
      subst hcs
      refine ⟨b0, by simp, ?_, hmn, hx, c0, e0, fr0, r1, r2, by simpa using r3, fun j hj => ?_⟩
      · simp only []; rw [h1.okb]; intro q; omega
      · have hj' : j < cells.length := by simpa using hj
        have := r4 j hj'
        simpa [List.getD_eq_getElem?_getD, hj', RepR] using this
    · simp only [Av.newBox, lkb, q, if_false] at hcs
      obtain ⟨b, hb, k1, k2, k3, c, e', fr, k4, k5, k6, k7⟩ := h1.boxes s cells' hcs
      have q' : ¬ s = d := fun e => q e.symm
      refine ⟨b, by simp [q', hb], k1, k2, k3, c, e', fr, k4, k5, k6, fun j hj => ?_⟩
      have := k7 j hj
      cases hv : cells'.getD j (.sv .undef) with
      | sv v => rw [hv] at this; exact this
      | own sz xs => rw [hv] at this; exact this
  · intro s s' b e1 e2
    simp only [] at e1 e2
    split at e1 <;> split at e2
    · subst_vars; rfl
    · cases e1; exact absurd e2 (hbx _)
    · cases e2; exact absurd e1 (hbx _)
    · exact h1.bxinj s s' b e1 e2
  · intro b cells' hcs
    obtain ⟨k1, k2, k3, k4⟩ := h1.heap b cells' hcs
    refine ⟨k1, k2, fun s q => ?_, k4⟩
    simp only [] at q
    split at q
    · cases q
      rw [show st.hp b0 = some cells' from hcs] at hhp; cases hhp
    · exact k3 s q
  · exact h1.mem
  · exact h1.mem0
  · exact h1.ext
  · exact h1.B
  · exact h1.xlt
  · intro s b q
    simp only [] at q
    split at q
    · cases q; exact hblt
    · exact h1.blt s b q
  · intro s b p q r
    simp only [] at r
    split at r
    · cases r; rw [hx] at q; cases q
    · exact h1.bxx s b p q r
  · exact h1.okb
  · intro b hb
    have := h1.pin b hb
    simpa [Ne.symm hd0] using this


/-- A new array of the frame's own. -/
theorem Sim.newArr (h : Sim w0 mu0 T g st a w) {d : Nat} (hd : d < st.n) (hd0 : d ≠ 0) {cells : List SV} {cs : Array Value} (hc : RepCs g.mu cells cs) (e : TypeId) (n : Nat) :
    ∃ g', Sim w0 mu0 T g' { st with sl := (d, .lsl d 1 0 n n) :: unl d st.sl, bx := (d, cells.map .sv) :: st.bx } (a.put (some d) (.slice (some ⟨w.heap.size, 0, none⟩) n n)) (w.alloc (.cells cs e)) := by
  obtain ⟨g', hs⟩ := h.newBox hd hd0 hc e
  have h0 := hs.slots d
  rw [getD_put h.size hd] at h0
  simp only [Av.newBox, lk, if_true] at h0
  obtain ⟨b, hb, hv⟩ := h0
  have hbe : b = w.heap.size := by cases hv; rfl
  subst hbe
  have h2 := hs.put (d := d) (lv := .lsl d 1 0 n n) (val := .slice (some ⟨w.heap.size, 0, none⟩) n n) hd ⟨_, hb, rfl⟩
  have e1 : (a.put (some d) (.pointer (some ⟨w.heap.size, 0, none⟩))).put (some d) (.slice (some ⟨w.heap.size, 0, none⟩) n n) = a.put (some d) (.slice (some ⟨w.heap.size, 0, none⟩) n n) := by
    simp [Act.put]
  rw [e1] at h2
  refine ⟨g', h2.congr rfl (fun t => ?_) (fun _ => rfl) rfl⟩
  simp only [Av.newBox, lk]
  split
  · rfl
  · rfl

/-! ### a box that is not written to any more -/
def LV.frz (s : Nat) (cells : List SV) : LV → LV
  | .lptr t off => if t = s then .sv (.eptr (.agg cells) off) else .lptr t off
  | .lsl t z off n cap => if t = s then (if z = 1 ∧ off + n ≤ cells.length ∧ n ≤ cap then .sv (.sl 1 ((cells.drop off).take n)) else .sv .undef) else .lsl t z off n cap
  | .gd c v => .gd c (v.frz s cells)
  | v => v
def frzSl (s : Nat) (cells : List SV) (l : List (Nat × LV)) : List (Nat × LV) := l.map fun p => (p.1, p.2.frz s cells)
def dropB (s : Nat) : List (Nat × List RV) → List (Nat × List RV)
  | [] => []
  | (t, c) :: r => if t = s then dropB s r else (t, c) :: dropB s r
theorem lkb_dropB (s : Nat) : ∀ (l : List (Nat × List RV)) (t : Nat), lkb (dropB s l) t = if t = s then none else lkb l t
  | [], t => by simp [dropB, lkb]
  | (u, c) :: r, t => by
    simp only [dropB]
    split
    · rename_i e
      rw [lkb_dropB s r t]
      by_cases q : t = s
      · simp [q]
      · have : ¬ u = t := fun e' => q (e' ▸ e)
        simp [q, lkb, this]
    · rename_i e
      simp only [lkb]
      rw [lkb_dropB s r t]
      by_cases q : u = t
      · subst q; simp [e]
      · simp [q]
theorem lk_frzSl (s : Nat) (cells : List SV) : ∀ (l : List (Nat × LV)) (t : Nat), lk (frzSl s cells l) t = (lk l t).frz s cells
  | [], t => rfl
  | (u, v) :: r, t => by
    have := lk_frzSl s cells r t
    simp only [frzSl, List.map_cons, lk] at this ⊢
    split
    · rfl
    · exact this
def shareB : List RV → List SV := fun l => l.map RV.share
def St.frz (st : St) (s : Nat) : St := match lkb st.bx s with
  | some c => { st with sl := frzSl s (shareB c) st.sl, bx := dropB s st.bx }
  | none => st
def FrzOK (st : St) (s : Nat) : Prop := s ≠ 0 ∧ match lkb st.bx s with
  | some c => (shareB c).all SV.isCell = true
  | none => False

theorem Sim.freeze (h : Sim w0 mu0 T g st a w) {s : Nat} (hf : FrzOK st s) : ∃ g', Sim w0 mu0 T g' (st.frz s) a w := by
  obtain ⟨hs0, hf⟩ := hf
  split at hf
  case h_2 => exact hf.elim
  rename_i cs hcs
  obtain ⟨b, hb, k1, k2, k3, c, e, fr, k4, k5, k6, k7⟩ := h.boxes s cs hcs
  have hnew : w0.heap.size ≤ b := by
    apply Classical.byContradiction
    intro q
    rw [h.okb] at k1
    have := h.pin b (k1 (by omega))
    exact hs0 (h.bxinj s 0 b hb this)
  have hrep : ∀ j, j < cs.length → Rep g.mu ((shareB cs).getD j .undef) (c.getD j Go.undef) := fun j hj => by
    have := (k7 j hj).share
    simpa [shareB, List.getD_eq_getElem?_getD, hj] using this
  have hcell : ∀ j, j < cs.length → ((shareB cs).getD j .undef).isCell = true := fun j hj => by
    have hj' : j < (shareB cs).length := by simpa [shareB] using hj
    rw [List.getD_eq_getElem?_getD, List.getElem?_eq_getElem hj']
    exact List.all_eq_true.1 hf _ (List.getElem_mem hj')
  let mu' : Mem := fun b' j => if b' = b then (if j < cs.length then some (c.getD j Go.undef) else none) else g.mu b' j
  have hle : g.mu.le mu' := fun b' j v hv => by
    have : b' ≠ b := fun q => by subst q; rw [k2] at hv; cases hv
    simp [mu', this, hv]
  let g' : Gh := { g with mu := mu', bx := fun t => if t = s then none else g.bx t }
  have hkeep : ∀ p, Keeps g w { g with mu := mu' } w p := fun p => ⟨hle, fun b' hx => ⟨hx, rfl, fun j hj => by
    have : b' ≠ b := fun q => by subst q; rw [k3] at hx; cases hx
    simp [mu', this, hj]⟩, rfl⟩
  have hmb : ∀ j, j < cs.length → mu' b j = some (c.getD j Go.undef) := fun j hj => by simp [mu', hj]
  have slot : ∀ (lv : LV) (t : Nat) (val : Value), RepL g w t lv val → RepL g' w t (lv.frz s (shareB cs)) val := by
    intro lv t val hr
    induction lv with
    | gd q v ih => exact ⟨fun hc => ih (hr.1 hc), hr.2⟩
    | sv v => exact Rep.mono hle hr
    | own sz xs =>
      have : OwnAt { g with mu := mu' } w (.slot t 0) sz xs val := OwnAt.keeps (hkeep _) hr
      exact this
    | lptr u off =>
      obtain ⟨b', h1, h2⟩ := hr
      simp only [LV.frz]
      split
      · rename_i q
        subst q
        rw [hb] at h1; cases h1
        subst h2
        have := Rep.eptr (mu := mu') (.agg (shareB cs)) off b 0 (fun j => c.getD j Go.undef) (fun j hj => by
          rw [Nat.zero_add]; exact hmb j (by simpa [SV.nc, SV.cells, shareB] using hj)) (fun j hj => by
          have hj' : j < cs.length := by simpa [SV.nc, SV.cells, shareB] using hj
          exact (hrep j hj').mono hle)
        rw [Nat.zero_add] at this
        exact this
      · rename_i q
        exact ⟨b', by simp [g', q, h1], h2⟩
    | lsl u z off n cap =>
      obtain ⟨b', h1, h2⟩ := hr
      simp only [LV.frz]
      split
      · rename_i q
        subst q
        rw [hb] at h1; cases h1
        subst h2
        split
        · rename_i hz
          obtain ⟨rfl, hz1, hz2⟩ := hz
          have hlen : (shareB cs).length = cs.length := by simp [shareB]
          rw [hlen] at hz1
          have hln : (((shareB cs).drop off).take n).length = n := by simp [hlen]; omega
          have hget : ∀ i, i < n → (((shareB cs).drop off).take n).getD i .undef = (shareB cs).getD (off + i) .undef := fun i hi => by
            simp [List.getD_eq_getElem?_getD, List.getElem?_take, hi]
          have h1c : ∀ i, i < n → ((((shareB cs).drop off).take n).getD i .undef).cells = [(shareB cs).getD (off + i) .undef] := fun i hi => by
            rw [hget i hi]
            have := hcell (off + i) (by omega)
            generalize (shareB cs).getD (off + i) .undef = v at this
            cases v <;> first | rfl | simp [SV.isCell] at this
          have := Rep.sl (mu := mu') 1 (((shareB cs).drop off).take n) b off cap (fun i j => c.getD (off + i) Go.undef) (by rw [hln]; exact hz2)
            (fun x hx => by
              obtain ⟨i, hi, rfl⟩ := List.mem_iff_getElem.1 hx
              rw [hln] at hi
              have := h1c i hi
              rw [List.getD_eq_getElem?_getD, List.getElem?_eq_getElem (by rw [hln]; exact hi)] at this
              simp only [Option.getD_some] at this
              rw [SV.nc, this]; rfl)
            (fun i j hi hj => by
              rw [hln] at hi
              have : j = 0 := by omega
              subst this
              simp only [Nat.mul_one, Nat.add_zero]
              exact hmb _ (by omega))
            (fun i j hi hj => by
              rw [hln] at hi
              have : j = 0 := by omega
              subst this
              rw [SV.cell, h1c i hi]
              simpa using (hrep (off + i) (by omega)).mono hle)
          rw [hln] at this
          exact this
        · exact .undef _
      · rename_i q
        exact ⟨b', by simp [g', q, h1], h2⟩
    | tup vs =>
      obtain ⟨us, h1, h2, h3⟩ := hr
      refine ⟨us, h1, h2, fun j hj => ?_⟩
      have := RepR.keeps (hkeep (.slot t j)) (h3 j hj)
      cases hv : vs.getD j (.sv .undef) with
      | sv v => rw [hv] at this; exact this
      | own sz xs => rw [hv] at this; exact this
    | siter u pos =>
      obtain ⟨b', h1, h2, h3, h4, h5⟩ := hr
      have hne : b' ≠ b := fun q => by subst q; rw [k3] at h2; cases h2
      exact ⟨b', h1, h2, h3, fun j => by simp [g', mu', hne, h4], h5⟩
  have hst : st.frz s = { st with sl := frzSl s (shareB cs) st.sl, bx := dropB s st.bx } := by simp [St.frz, hcs]
  rw [hst]
  refine ⟨g', ?_⟩
  constructor
  · exact h.size
  · exact h.defers
  · intro t
    rw [lk_frzSl]
    exact slot _ t _ (h.slots t)
  · intro t cells hc
    rw [lkb_dropB] at hc
    split at hc
    · cases hc
    rename_i q
    obtain ⟨b', hb', m1, m2, m3, c2, e2, fr2, m4, m5, m6, m7⟩ := h.boxes t cells hc
    have hne : b' ≠ b := fun e => q (h.bxinj t s b (e ▸ hb') hb)
    refine ⟨b', by simp [g', q, hb'], m1, fun j => by simp [g', mu', hne, m2], m3, c2, e2, fr2, m4, m5, m6, fun j hj => ?_⟩
    have := RepR.keeps (hkeep (.cell t j)) (m7 j hj)
    cases hv : cells.getD j (.sv .undef) with
    | sv v => rw [hv] at this; exact this
    | own sz xs => rw [hv] at this; exact this
  · intro t t' b' e1 e2
    simp only [g'] at e1 e2
    split at e1
    · cases e1
    split at e2
    · cases e2
    exact h.bxinj t t' b' e1 e2
  · intro b' cells hc
    obtain ⟨⟨m1, c2, e2, fr2, m2, m3, m4, m5⟩, m6, m7, m8⟩ := h.heap b' cells hc
    have hne : b' ≠ b := fun e => m7 s (e ▸ hb)
    refine ⟨⟨fun j => by simp [g', mu', hne, m1], c2, e2, fr2, m2, m3, m4, fun j hj => (m5 j hj).mono hle⟩, m6, fun t q => ?_, m8⟩
    simp only [g'] at q
    split at q
    · cases q
    · exact m7 t q
  · intro b' j v hv
    simp only [g', mu'] at hv
    split at hv
    · rename_i q
      subst q
      split at hv
      case isFalse => cases hv
      rename_i hj
      cases hv
      refine ⟨?_, Rep.oneCell (hrep j hj) (hcell j hj)⟩
      rw [cell_of_block k4]
      have : j < c.size := by omega
      simp [Array.getD_eq_getD_getElem?, this]
    · exact h.mem b' j v hv
  · intro b' j hb'
    have hne : b' ≠ b := by omega
    simp only [g', mu', hne, if_false]
    exact h.mem0 b' j hb'
  · exact h.ext
  · exact h.B
  · exact h.xlt
  · intro t b' e
    simp only [g'] at e
    split at e
    · cases e
    · exact h.blt t b' e
  · intro t b' p e q
    simp only [g'] at q
    split at q
    · cases q
    · exact h.bxx t b' p e q
  · exact h.okb
  · intro b' hb'
    have := h.pin b' hb'
    simp [g', Ne.symm hs0, this]

/-! ### stores -/
def setR : List RV → Nat → List SV → List RV
  | cells, _, [] => cells
  | cells, off, v :: vs => setR (cells.set off (.sv v)) (off + 1) vs
theorem setR_spec : ∀ (vs : List SV) (off : Nat) (cs : List RV), (setR cs off vs).length = cs.length ∧ ∀ j, (setR cs off vs).getD j (.sv .undef) = if off ≤ j ∧ j < off + vs.length ∧ j < cs.length then .sv (vs.getD (j - off) .undef) else cs.getD j (.sv .undef)
  | [], off, cs => ⟨rfl, fun j => by simp [setR]; intro h1 h2; omega⟩
  | v :: vs, off, cs => by
    simp only [setR]
    obtain ⟨h1, h2⟩ := setR_spec vs (off + 1) (cs.set off (.sv v))
    refine ⟨by rw [h1]; simp, fun j => ?_⟩
    rw [h2 j]
    simp only [List.length_set, List.length_cons]
    by_cases e : j = off
    · subst e
      by_cases hc : j < cs.length
      · have a1 : ¬ (j + 1 ≤ j ∧ j < j + 1 + vs.length ∧ j < cs.length) := by omega
        have a2 : j ≤ j ∧ j < j + (vs.length + 1) ∧ j < cs.length := by omega
        rw [if_neg a1, if_pos a2]
        simp [List.getD_eq_getElem?_getD, hc]
      · have a1 : ¬ (j + 1 ≤ j ∧ j < j + 1 + vs.length ∧ j < cs.length) := by omega
        have a2 : ¬ (j ≤ j ∧ j < j + (vs.length + 1) ∧ j < cs.length) := by omega
        rw [if_neg a1, if_neg a2]
        simp [List.getD_eq_getElem?_getD, hc]
    · by_cases hc : off + 1 ≤ j ∧ j < off + 1 + vs.length ∧ j < cs.length
      · have a2 : off ≤ j ∧ j < off + (vs.length + 1) ∧ j < cs.length := by omega
        rw [if_pos hc, if_pos a2, show j - off = (j - (off + 1)) + 1 by omega]
        simp
      · have a2 : ¬ (off ≤ j ∧ j < off + (vs.length + 1) ∧ j < cs.length) := by omega
        rw [if_neg hc, if_neg a2]
        have : ¬ off = j := fun q => e q.symm
        simp [List.getD_eq_getElem?_getD, List.getElem?_set, this]

/-- Cells set one by one, in a block that nothing else leans on. -/
theorem setCells_at {b o : Nat} {c : Array Value} {e : TypeId} {fr : Nat × Nat} {vs : List Value} (hb : w.heap[b]? = some (.cells c e fr)) (hf : Unfrozen c fr) (hle : o + vs.length ≤ c.size) (h1 : ∀ v ∈ vs, v.oneCell' = true) :
    (storeCells ⟨b, o, none⟩ vs).run P w = .ok () (w.setCells b o vs) ∧ ∃ c', (w.setCells b o vs).heap[b]? = some (.cells c' e fr) ∧ c'.size = c.size ∧ Unfrozen c' fr ∧
      ∀ j, c'.getD j Go.undef = if o ≤ j ∧ j < o + vs.length then vs.getD (j - o) Go.undef else c.getD j Go.undef := by
  have hcell : ∀ j, j < vs.length → (w.cell? ⟨b, o + 0 + j, none⟩).isSome = true := fun j hj => by
    have : o + 0 + j < c.size := by omega
    rw [cell_of_block hb, Array.getElem?_eq_getElem this]; rfl
  have hfro : ∀ j, j < vs.length → w.frozen? ⟨b, o + 0 + j, none⟩ = false := fun j hj => by
    have hlt : o + 0 + j < c.size := by omega
    have := hf.not _ hlt
    simp only [World.frozen?, hb]
    simp only [Bool.and_eq_false_iff, decide_eq_false_iff_not]
    omega
  have hst := run_storeCells_cells (P := P) b o vs 0 w hcell hfro h1
  simp only [Nat.add_zero] at hst hcell
  obtain ⟨_, _, _, _, _, k6⟩ := setCells_heap b vs o w
  obtain ⟨c', hb', hc'⟩ := k6 c e fr hb
  refine ⟨hst, c', hb', hc', hf.size (by omega), fun j => ?_⟩
  have hcj : (w.setCells b o vs).cell? ⟨b, j, none⟩ = c'[j]? := cell_of_block hb'
  by_cases q : o ≤ j ∧ j < o + vs.length
  · rw [if_pos q]
    have := World.cell?_setCells_in b vs o w hcell (j - o) (by omega)
    rw [show o + (j - o) = j by omega, hcj] at this
    have hlt : j - o < vs.length := by omega
    rw [Array.getD_eq_getD_getElem?, this, List.getD_eq_getElem?_getD, List.getElem?_eq_getElem hlt]
  · rw [if_neg q]
    have := World.cell?_setCells_out b vs o w ⟨b, j, none⟩ (fun _ _ => by simp; omega)
    rw [hcj, cell_of_block hb] at this
    rw [Array.getD_eq_getD_getElem?, Array.getD_eq_getD_getElem?, this]

def updBox (st : St) (s : Nat) (cells : List RV) : St := { st with bx := (s, cells) :: st.bx }

theorem Sim.storeBox (h : Sim w0 mu0 T g st a w) {s b off : Nat} {cells : List RV} {vs : List SV} {us : Array Value} (hcl : lkb st.bx s = some cells) (hb : g.bx s = some b)
    (hle : off + vs.length ≤ cells.length) (hr : RepCs g.mu vs us) (hk : vs.all SV.isCell = true) :
    ∃ w', (storeCells ⟨b, off, none⟩ us.toList).run P w = .ok () w' ∧ Sim w0 mu0 T g (updBox st s (setR cells off vs)) a w' := by
  obtain ⟨b', hb', k1, k2, k3, c, e, fr, k4, k5, k6, k7⟩ := h.boxes s cells hcl
  rw [hb] at hb'; cases hb'
  have hone : ∀ v ∈ us.toList, v.oneCell' = true := by
    intro v hv
    obtain ⟨j, hj, rfl⟩ := List.mem_iff_getElem.1 hv
    have hj' : j < us.size := by simpa using hj
    have hjv : j < vs.length := by rw [← hr.1]; exact hj'
    have := hr.2 j hjv
    rw [Array.getD_eq_getD_getElem?, Array.getElem?_eq_getElem hj', List.getD_eq_getElem?_getD, List.getElem?_eq_getElem hjv] at this
    exact Rep.oneCell this (List.all_eq_true.1 hk _ (List.getElem_mem hjv))
  have hul : us.toList.length = vs.length := by simpa using hr.1
  obtain ⟨hst, c', hb', hc', hf', hget⟩ := setCells_at (P := P) (o := off) (vs := us.toList) k4 k5 (by omega) hone
  obtain ⟨q1, q2, q3, q4, q5, _⟩ := setCells_heap b us.toList off w
  refine ⟨_, hst, ?_⟩
  have hxb : ∀ b' p, g.x b' = some p → b' ≠ b := fun b' p e1 e2 => by subst e2; rw [k3] at e1; cases e1
  have hk : ∀ p, Keeps g w g (w.setCells b off us.toList) p := fun p => ⟨Mem.le_refl _, fun b' e => ⟨e, q5 b' (hxb b' p e), fun _ q => q⟩, rfl⟩
  constructor
  · exact h.size
  · exact h.defers
  · intro t
    exact RepL.keeps (fun i => hk _) (fun _ => rfl) (h.slots t)
  · intro t cells' hcs
    by_cases q : s = t
    · subst q
      simp only [updBox, lkb, if_true, Option.some.injEq] at hcs
      subst hcs
      obtain ⟨r1, r2⟩ := setR_spec vs off cells
      refine ⟨b, hb, k1, k2, k3, c', e, fr, hb', hf', by rw [hc', r1]; exact k6, fun j hj => ?_⟩
      rw [r1] at hj
      rw [r2, hget, hul]
      by_cases q : off ≤ j ∧ j < off + vs.length
      · rw [if_pos ⟨q.1, q.2, hj⟩, if_pos q]
        have := hr.2 (j - off) (by omega)
        simpa [RepR, List.getD_eq_getElem?_getD, Array.getD_eq_getD_getElem?] using this
      · rw [if_neg (fun z => q ⟨z.1, z.2.1⟩), if_neg q]
        exact RepR.keeps (hk _) (k7 j hj)
    · simp only [updBox, lkb, q, if_false] at hcs
      obtain ⟨b', hb'', m1, m2, m3, c2, e2, fr2, m4, m5, m6, m7⟩ := h.boxes t cells' hcs
      have hne : b' ≠ b := fun e => q (h.bxinj s t b hb (e ▸ hb''))
      exact ⟨b', hb'', m1, m2, m3, c2, e2, fr2, (q5 b' hne).trans m4, m5, m6, fun j hj => RepR.keeps (hk _) (m7 j hj)⟩
  · exact h.bxinj
  · intro b' cells' hcs
    obtain ⟨⟨m1, c2, e2, fr2, m2, m3, m4, m5⟩, m6, m7, m8⟩ := h.heap b' cells' hcs
    have hne : b' ≠ b := fun e => m7 s (e ▸ hb)
    exact ⟨⟨m1, c2, e2, fr2, (q5 b' hne).trans m2, m3, m4, m5⟩, m6, m7, m8⟩
  · intro b' j v hm
    have hne : b' ≠ b := fun e => by subst e; rw [k2] at hm; cases hm
    have := h.mem b' j v hm
    exact ⟨by rw [World.cell?_setCells_out b us.toList off w ⟨b', j, none⟩ (fun e1 _ => absurd e1 hne)]; exact this.1, this.2⟩
  · exact h.mem0
  · have hbB : b < w0.heap.size → T b := by rw [h.okb] at k1; exact k1
    exact ⟨q1.trans h.ext.os, q2.trans h.ext.tape, q3.trans h.ext.output, by rw [q4]; exact h.ext.size, fun k hk' ht' => (q5 k (fun e => by subst e; exact ht' (hbB hk'))).trans (h.ext.block k hk' ht'), fun a ha => (frozen_same q5 k4 hb' a).trans (h.ext.frozen a ha)⟩
  · exact h.B
  · intro b' p e; rw [q4]; exact h.xlt b' p e
  · intro s' b' e; rw [q4]; exact h.blt s' b' e
  · exact h.bxx
  · exact h.okb
  · exact h.pin
end Go.Av
