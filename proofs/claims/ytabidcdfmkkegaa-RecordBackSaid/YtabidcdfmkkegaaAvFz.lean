import Derived.Test.YtabidcdfmkkegaaAvN
set_option linter.unusedSimpArgs false
namespace Go.Av
variable {P : Program} {w0 : World} {mu0 : Mem} {T : Nat → Prop} {g g' : Gh} {st st' : St} {a : Act} {w w' : World}

/-- Marks behind arrays of one's own. -/
structure Frz (B : Nat) (w w' : World) : Prop where
  os : w'.os = w.os
  tape : w'.tape = w.tape
  output : w'.output = w.output
  size : w'.heap.size = w.heap.size
  at_ : ∀ k : Nat, w'.heap[k]? = w.heap[k]? ∨ ∃ c e fr fr', w.heap[k]? = some (.cells c e fr) ∧ w'.heap[k]? = some (.cells c e fr') ∧ (Unfrozen c fr → Unfrozen c fr')
  old : ∀ k : Nat, k < B → w'.heap[k]? = w.heap[k]?

theorem Frz.cells {B : Nat} (f : Frz B w w') {k : Nat} {c : Array Value} {e : TypeId} {fr : Nat × Nat} (h : w.heap[k]? = some (.cells c e fr)) (hu : Unfrozen c fr) : ∃ fr', w'.heap[k]? = some (.cells c e fr') ∧ Unfrozen c fr' := by
  rcases f.at_ k with q | ⟨c', e', fr1, fr', h1, h2, h3⟩
  · exact ⟨fr, q.trans h, hu⟩
  · rw [h] at h1; cases h1; exact ⟨fr', h2, h3 hu⟩
theorem Frz.cell {B : Nat} (f : Frz B w w') (x : Addr) : w'.cell? x = w.cell? x := by
  unfold World.cell?
  rcases f.at_ x.block with q | ⟨c, e, fr, fr', h1, h2, h3⟩
  · rw [q]
  · rw [h1, h2]
theorem OwnAt.frz {B : Nat} (f : Frz B w w') {p : Place} {sz : Nat} {xs : List SV} {val : Value} (h : OwnAt g w p sz xs val) : OwnAt g w' p sz xs val := by
  rcases h with h | ⟨b, off, cap, h1, h2, h3, h4, ⟨c, e, fr, h5, h6, h7⟩, h8⟩
  · exact .inl h
  · obtain ⟨fr', q1, q2⟩ := f.cells h5 h7
    exact .inr ⟨b, off, cap, h1, h2, h3, h4, ⟨c, e, fr', q1, h6, q2⟩, h8⟩
theorem RepR.frz {B : Nat} (f : Frz B w w') {p : Place} {r : RV} {val : Value} (h : RepR g w p r val) : RepR g w' p r val := by
  cases r with
  | sv v => exact h
  | own sz xs => exact OwnAt.frz f h
theorem RepL.frz {B : Nat} (f : Frz B w w') {s : Nat} {lv : LV} {val : Value} (h : RepL g w s lv val) : RepL g w' s lv val := by
  induction lv with
  | gd c v ih => exact ⟨fun hc => ih (h.1 hc), h.2⟩
  | sv v => exact h
  | own sz xs => exact OwnAt.frz f h
  | lptr t off => exact h
  | lsl t z off n cap => exact h
  | tup vs =>
    obtain ⟨us, h1, h2, h3⟩ := h
    exact ⟨us, h1, h2, fun j hj => RepR.frz f (h3 j hj)⟩
  | siter t pos =>
    obtain ⟨b, h1, h2, h3, h4, h5⟩ := h
    refine ⟨b, h1, h2, h3, h4, ?_⟩
    rcases f.at_ b with q | ⟨c, e, fr, fr', q1, q2, q3⟩
    · exact q.trans h5
    · rw [h5] at q1; cases q1

theorem Sim.frz (h : Sim w0 mu0 T g st a w) (f : Frz w0.heap.size w w') : Sim w0 mu0 T g st a w' := by
  constructor
  · exact h.size
  · exact h.defers
  · intro s; exact (h.slots s).frz f
  · intro s cells hc
    obtain ⟨b, hb, k1, k2, k3, c, e, fr, k4, k5, k6, k7⟩ := h.boxes s cells hc
    obtain ⟨fr', q1, q2⟩ := f.cells k4 k5
    exact ⟨b, hb, k1, k2, k3, c, e, fr', q1, q2, k6, fun j hj => (k7 j hj).frz f⟩
  · exact h.bxinj
  · intro b cells hc
    obtain ⟨⟨m1, c, e, fr, m2, m3, m4, m5⟩, m6, m7, m8⟩ := h.heap b cells hc
    obtain ⟨fr', q1, q2⟩ := f.cells m2 m3
    exact ⟨⟨m1, c, e, fr', q1, q2, m4, m5⟩, m6, m7, m8⟩
  · intro b j v e
    obtain ⟨q1, q2⟩ := h.mem b j v e
    exact ⟨(f.cell _).trans q1, q2⟩
  · exact h.mem0
  · refine ⟨f.os.trans h.ext.os, f.tape.trans h.ext.tape, f.output.trans h.ext.output, by rw [f.size]; exact h.ext.size, fun k hk ht => (f.old k hk).trans (h.ext.block k hk ht), fun x hx => ?_⟩
    rw [← h.ext.frozen x hx]
    simp only [World.frozen?]
    rw [f.old _ hx]
  · exact h.B
  · intro b p e; rw [f.size]; exact h.xlt b p e
  · intro s b e; rw [f.size]; exact h.blt s b e
  · exact h.bxx
  · exact h.okb
  · exact h.pin

theorem frz_freeze {b : Nat} {c : Array Value} {e : TypeId} {fr : Nat × Nat} {B : Nat} (hB : B ≤ b) (h : w.heap[b]? = some (.cells c e fr)) : Frz B w (w.freeze ⟨b, c.size, none⟩ 1) := by
  have hg : ∀ k : Nat, (w.freeze ⟨b, c.size, none⟩ 1).heap[k]? = if b = k then some (.cells c e (if fr.1 == fr.2 then (c.size, c.size + 1) else (min fr.1 c.size, max fr.2 (c.size + 1)))) else w.heap[k]? := by
    intro k
    simp only [World.freeze, if_neg (show ¬ (1 : Nat) = 0 by decide), Array.getElem?_modify]
    by_cases q : b = k
    · subst q; simp [h]
    · simp [q]
  refine ⟨by simp [World.freeze], by simp [World.freeze], by simp [World.freeze], by simp [World.freeze], fun k => ?_, fun k hk => by rw [hg, if_neg (by omega)]⟩
  rw [hg]
  by_cases q : b = k
  · subst q
    refine .inr ⟨c, e, fr, _, h, if_pos rfl, fun hu => ?_⟩
    by_cases q2 : fr.1 = fr.2
    · simp [q2, Unfrozen]
    · rcases hu with hu | hu
      · exact absurd hu q2
      · simp [q2, Unfrozen]; omega
  · exact .inl (if_neg q)
end Go.Av
