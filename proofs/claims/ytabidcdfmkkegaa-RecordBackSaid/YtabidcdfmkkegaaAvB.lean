import Derived.Test.YtabidcdfmkkegaaAvA
namespace Go.Av
variable {w0 : World} {mu0 : Mem} {T : Nat → Prop} {g g' : Gh} {st : St} {a : Act} {w w' : World}

theorem lk_cons_same (s : Nat) (v : LV) (r : List (Nat × LV)) : lk ((s, v) :: r) s = v := by simp [lk]
theorem lk_cons_other {s t : Nat} (v : LV) (r : List (Nat × LV)) (h : s ≠ t) : lk ((s, v) :: r) t = lk r t := by simp [lk, h]
theorem lkb_cons_same (s : Nat) (v : List RV) (r : List (Nat × List RV)) : lkb ((s, v) :: r) s = some v := by simp [lkb]
theorem lkb_cons_other {s t : Nat} (v : List RV) (r : List (Nat × List RV)) (h : s ≠ t) : lkb ((s, v) :: r) t = lkb r t := by simp [lkb, h]

theorem RepL.keeps' {s : Nat} {lv : LV} {val : Value} (hmu : g.mu.le g'.mu)
    (hx : ∀ b i, g.x b = some (.slot s i) → g'.x b = some (.slot s i) ∧ w'.heap[b]? = w.heap[b]? ∧ ∀ j, g.mu b j = none → g'.mu b j = none) (hB : g'.B = g.B)
    (hbx : ∀ t, g'.bx t = g.bx t) (h : RepL g w s lv val) : RepL g' w' s lv val :=
  RepL.keeps (fun i => ⟨hmu, fun b e => hx b i e, hB⟩) hbx h

/-- The world and the ghost go on; what is in use stays. -/
theorem Sim.grow (h : Sim w0 mu0 T g st a w) (hmu : g.mu.le g'.mu)
    (hkeep : ∀ b, (g.x b ≠ none ∨ (∃ s, g.bx s = some b) ∨ st.hp b ≠ none) → w'.heap[b]? = w.heap[b]? ∧ ∀ j, g.mu b j = none → g'.mu b j = none)
    (hx : ∀ b, g.x b ≠ none → g'.x b = g.x b)
    (hxn : ∀ b, g.x b = none → g'.x b ≠ none → (∀ s, g.bx s ≠ some b) ∧ st.hp b = none ∧ b < w'.heap.size)
    (hmem : MemOK g'.mu w') (hm0 : ∀ b j, b < w0.heap.size → g'.mu b j = g.mu b j) (hext : Ext T w0 w') (hbx : ∀ t, g'.bx t = g.bx t) (hB : g'.B = g.B)
    (hsz : w.heap.size ≤ w'.heap.size) (hok : g'.okb = g.okb := by rfl) : Sim w0 mu0 T g' st a w' := by
  have hkx : ∀ b p, g.x b = some p → g'.x b = some p ∧ w'.heap[b]? = w.heap[b]? ∧ ∀ j, g.mu b j = none → g'.mu b j = none := fun b p e => by
    have hne : g.x b ≠ none := by rw [e]; simp
    obtain ⟨k1, k2⟩ := hkeep b (.inl hne)
    exact ⟨(hx b hne).trans e, k1, k2⟩
  constructor
  · exact h.size
  · exact h.defers
  · intro s
    exact RepL.keeps' hmu (fun b i e => hkx b _ e) hB hbx (h.slots s)
  · intro s cells hc
    obtain ⟨b, hb, h1, h2, h3, c, e, fr, h4, h5, h6, h7⟩ := h.boxes s cells hc
    obtain ⟨k1, k2⟩ := hkeep b (.inr (.inl ⟨s, hb⟩))
    refine ⟨b, (hbx s).trans hb, hok ▸ h1, fun j => k2 j (h2 j), ?_, c, e, fr, k1.trans h4, h5, h6, fun j hj => ?_⟩
    · cases hg : g'.x b with
      | none => rfl
      | some p => exact absurd hb ((hxn b h3 (by rw [hg]; simp)).1 s)
    · exact RepR.keeps ⟨hmu, fun b e => hkx b _ e, hB⟩ (h7 j hj)
  · intro s s' b e1 e2
    rw [hbx] at e1 e2
    exact h.bxinj s s' b e1 e2
  · intro b cells hc
    obtain ⟨⟨h1, c, e, fr, h2, h3, h4, h5⟩, h6, h7, h8⟩ := h.heap b cells hc
    obtain ⟨k1, k2⟩ := hkeep b (.inr (.inr (by rw [hc]; simp)))
    refine ⟨⟨fun j => k2 j (h1 j), c, e, fr, k1.trans h2, h3, h4, fun j hj => (h5 j hj).mono hmu⟩, ?_, fun s => by rw [hbx]; exact h7 s, h8⟩
    cases hg : g'.x b with
    | none => rfl
    | some p => exact absurd (hxn b h6 (by rw [hg]; simp)).2.1 (by rw [hc]; simp)
  · exact hmem
  · intro b j hb
    rw [hm0 b j hb]; exact h.mem0 b j hb
  · exact hext
  · exact hB.trans h.B
  · intro b p e
    by_cases hg : g.x b = none
    · exact (hxn b hg (by rw [e]; simp)).2.2
    · obtain ⟨q, hq⟩ := Option.ne_none_iff_exists'.1 hg
      exact Nat.lt_of_lt_of_le (h.xlt b q hq) hsz
  · intro s b e
    rw [hbx] at e
    exact Nat.lt_of_lt_of_le (h.blt s b e) hsz
  · intro s b p e
    rw [hbx]
    by_cases hg : g.x b = none
    · exact (hxn b hg (by rw [e]; simp)).1 s
    · obtain ⟨q, hq⟩ := Option.ne_none_iff_exists'.1 hg
      exact h.bxx s b q hq
  · exact hok.trans h.okb
  · intro b hb; rw [hbx]; exact h.pin b hb

/-- The ghost world stays but for draws. -/
theorem Sim.drew (h : Sim w0 mu0 T g st a w) : Sim w0 mu0 T g st a w.drew :=
  h.grow (g' := g) (Mem.le_refl _) (fun _ _ => ⟨rfl, fun _ e => e⟩) (fun _ _ => rfl) (fun b e1 e2 => absurd e1 e2) (fun b j v e => by simpa using h.mem b j v e) (fun _ _ _ => rfl)
    (h.ext.trans ⟨rfl, rfl, rfl, Nat.le_refl _, fun _ _ _ => rfl, fun _ _ => rfl⟩) (fun _ => rfl) rfl (Nat.le_refl _)

theorem getD_put {n d s : Nat} {v : Value} (hs : a.tmps.size = n) (hd : d < n) : (a.put (some d) v).tmps.getD s Go.undef = if s = d then v else a.tmps.getD s Go.undef := by
  simp only [Act.put, Array.getD_eq_getD_getElem?, Array.getElem?_setIfInBounds]
  by_cases h : d = s
  · subst h; simp [hs, hd]
  · have h' : ¬ s = d := fun e => h e.symm
    simp [h, h']

/-- A slot gets something. -/
theorem Sim.put (h : Sim w0 mu0 T g st a w) {d : Nat} (hd : d < st.n) {lv : LV} {val : Value} (hv : RepL g w d lv val) :
    Sim w0 mu0 T g { st with sl := (d, lv) :: st.sl } (a.put (some d) val) w := by
  constructor
  · simpa [Act.put] using h.size
  · simpa [Act.put] using h.defers
  · intro s
    simp only []
    rw [getD_put h.size hd]
    by_cases e : s = d
    · subst e; simpa [lk] using hv
    · have e' : ¬ d = s := fun x => e x.symm
      simpa [lk, e, e'] using h.slots s
  · exact h.boxes
  · exact h.bxinj
  · exact h.heap
  · exact h.mem
  · exact h.mem0
  · exact h.ext
  · exact h.B
  · exact h.xlt
  · exact h.blt
  · exact h.bxx
  · exact h.okb
  · exact h.pin

/-- Less may be known of a slot. -/
theorem Sim.weaken (h : Sim w0 mu0 T g st a w) {d : Nat} {lv : LV} (hv : RepL g w d (lk st.sl d) (a.tmps.getD d Go.undef) → RepL g w d lv (a.tmps.getD d Go.undef)) :
    Sim w0 mu0 T g { st with sl := (d, lv) :: st.sl } a w := by
  constructor
  · exact h.size
  · exact h.defers
  · intro s
    by_cases e : d = s
    · subst e; simpa [lk] using hv (h.slots d)
    · simpa [lk, e] using h.slots s
  · exact h.boxes
  · exact h.bxinj
  · exact h.heap
  · exact h.mem
  · exact h.mem0
  · exact h.ext
  · exact h.B
  · exact h.xlt
  · exact h.blt
  · exact h.bxx
  · exact h.okb
  · exact h.pin

/-- A slot's slice is shared from now on: its block is nobody's. -/
theorem Sim.disown (h : Sim w0 mu0 T g st a w) {t sz : Nat} {xs : List SV} {b off cap : Nat} (hl : lk st.sl t = .own sz xs)
    (hval : a.tmps.getD t Go.undef = .slice (some ⟨b, off, none⟩) xs.length cap) (hx : g.x b = some (.slot t 0)) :
    Sim w0 mu0 T { g with x := fun b' => if b' = b then none else g.x b' } { st with sl := (t, .sv (.sl sz xs)) :: st.sl } a w := by
  have hne : ∀ b' p, p ≠ Place.slot t 0 → g.x b' = some p → (if b' = b then none else g.x b') = some p := fun b' p hp e => by
    have : b' ≠ b := fun e' => hp (by subst e'; rw [hx] at e; cases e; rfl)
    simp [this, e]
  constructor
  · exact h.size
  · exact h.defers
  · intro s
    by_cases e : t = s
    · subst e
      have hs := h.slots t
      rw [hl] at hs
      simp only [lk, if_true]
      exact OwnAt.share (g := g) hs
    · have hs := h.slots s
      simp only [lk, e, if_false]
      exact RepL.keeps' (g := g) (g' := { g with x := fun b' => if b' = b then none else g.x b' }) (Mem.le_refl _) (fun b' i e' => ⟨hne b' _ (by intro q; cases q; exact e rfl) e', rfl, fun _ q => q⟩) rfl (fun _ => rfl) hs
  · intro s cells hc
    obtain ⟨b', hb, h1, h2, h3, c, e, fr, h4, h5, h6, h7⟩ := h.boxes s cells hc
    refine ⟨b', hb, h1, h2, by simp [h3], c, e, fr, h4, h5, h6, fun j hj => RepR.keeps (g := g) ⟨Mem.le_refl _, fun b'' e' => ⟨hne b'' _ (by intro q; cases q) e', rfl, fun _ q => q⟩, rfl⟩ (h7 j hj)⟩
  · exact h.bxinj
  · intro b' cells hc
    obtain ⟨h1, h2, h3⟩ := h.heap b' cells hc
    exact ⟨h1, by simp [h2], h3⟩
  · exact h.mem
  · exact h.mem0
  · exact h.ext
  · exact h.B
  · intro b' p e
    by_cases q : b' = b
    · simp [q] at e
    · simp [q] at e; exact h.xlt b' p e
  · exact h.blt
  · intro s b' p e
    by_cases q : b' = b
    · simp [q] at e
    · simp [q] at e; exact h.bxx s b' p e
  · exact h.okb
  · exact h.pin
end Go.Av
