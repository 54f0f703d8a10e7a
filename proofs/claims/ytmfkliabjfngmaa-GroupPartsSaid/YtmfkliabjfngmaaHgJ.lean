/- Group: slices.Insert as a step of a walk. -/
import Derived.Test.YtmfkliabjfngmaaMGaK

set_option linter.unusedSimpArgs false
set_option linter.unusedVariables false
set_option maxRecDepth 1000000
set_option maxHeartbeats 4000000
open Go.RowKit Go.Lib Go.Sort
namespace Go.Proofs.Ytmfkliabjfngmaa
open Go.Av

/-- What a call that takes a row over leaves behind. -/
def StepPost (B : Nat) (mu : Mem) (W : World) (F : List Mb) (e : Ending) (W' : World) : Prop :=
  ∃ p c mu', e = .returned (.slice p F.length c) ∧ (∀ k, k < B → W'.heap[k]? = W.heap[k]?) ∧ W'.os = W.os ∧ W'.tape = W.tape ∧ W'.output = W.output ∧ W.heap.size ≤ W'.heap.size ∧ Gr B mu mu' W' ∧ Rep mu' (.sl 3 (ML F)) (.slice p F.length c)
theorem step_post {mu mu1 : Mem} {W W' : World} {B : Nat} {ob : Option Nat} (hob : ∀ b, ob = some b → B ≤ b) (hB : B ≤ W.heap.size) (hle : mu.le mu1) (hlo : ∀ b j, b < B → mu1 b j = mu b j) (hm : MemOK mu1 W) (hn : ∀ b j, ob = some b → mu1 b j = none)
    (hx : Ext (fun k => ob = some k) W W') {b off cap : Nat} {c : Array Value} {e : TypeId} {fr : Nat × Nat} {F : List Mb} (hb : W'.heap[b]? = some (.cells c e fr)) (hbB : B ≤ b) (hbn : ∀ j, mu1 b j = none) (hc : F.length ≤ cap) (hr : RowM c off F) :
    StepPost B mu W F (.returned (.slice (some ⟨b, off, none⟩) F.length cap)) W' := by
  have hm' : MemOK mu1 W' := fun b' j v hv => by
    obtain ⟨q1, q2⟩ := hm b' j v hv
    refine ⟨?_, q2⟩
    rw [← q1]
    exact World.cell?_of_block (hx.block b' (hm.lt hv) (fun q => by rw [hn b' j q] at hv; cases hv))
  obtain ⟨k1, k2, k3, k4⟩ := memRow_spec hm' hb hbn hr
  exact ⟨_, _, _, rfl, fun k hk => hx.block k (by omega) (fun q => by have := hob k q; omega), hx.os, hx.tape, hx.output, hx.size, ⟨Mem.le_trans hle k2, k1, fun b' j hb' => (k3 b' j (by omega)).trans (hlo b' j hb')⟩, k4 cap hc⟩
theorem insert_step {mu : Mem} {W : World} (hm : MemOK mu W) {l : List Mb} {ob : Option Nat} {val : Value} (hv : ArrV mu W 3 (ML l) val ob) {B : Nat} (hob : ∀ b, ob = some b → B ≤ b) (hB : B ≤ W.heap.size) (hl : l.length ≤ 999) {i : Nat} (hi : i ≤ l.length) {vb : Nat} {m : Mb} {tv : TypeId}
    (hvb : ∀ b, ob = some b → vb ≠ b) (hvB : B ≤ vb) (hvn : ∀ j, mu vb j = none) (hx : W.heap[vb]? = some (.cells (encM m).toArray tv (0, 0))) :
    Calls Try.prog 57 #[val, .int .i64 i, .slice (some ⟨vb, 0, none⟩) 1 1] W (StepPost B mu W (insM l i m)) := by
  have hrv : RowM (encM m).toArray 0 [m] := fun k hk q hq => by
    obtain rfl : k = 0 := by simpa using hk
    match q, hq with
    | 0, _ => rfl
    | 1, _ => rfl
    | 2, _ => rfl
  obtain ⟨k1, k2, k3, k4⟩ := memRow_spec hm hx hvn hrv
  have hxr := k4 1 (Nat.le_refl _)
  generalize memRow mu vb 0 [m].length (encM m).toArray = mu1 at k1 k2 k3 hxr
  have hlo : ∀ b j, b < B → mu1 b j = mu b j := fun b j hb => k3 b j (by omega)
  have hil := insM_length l i m hi
  rcases hv with ⟨rfl, hnil, rfl⟩ | ⟨b, rfl, off, cap, c, e, fr, rfl, hmu, hb, hfr, hcap, hsz, hrep⟩
  · obtain rfl : l = [] := by simpa [ML] using hnil
    obtain rfl : i = 0 := by simpa using hi
    refine (ins_end_grow (mu := mu1) (q := none) (cap := 0) (l := []) k1 (.slnil 3) (by simp) (by simp) hxr).mono ?_
    rintro e' W' ⟨b, nc, c, fr, rfl, h1, h2, h3, h4, h5, h6, h7⟩
    exact step_post (ob := none) (fun _ q => by cases q) hB k2 hlo k1 (fun _ _ q => by cases q) (h2.mono fun _ q => by cases q) h3 (by omega) (fun j => by
      cases q : mu1 b j with
      | none => rfl
      | some v => have := k1.lt q; omega) h5 h7
  · rw [ML_length] at hcap ⊢
    have hrow := row_of_arr hcap hsz hrep
    have hne := hvb b rfl
    have hmu1 : ∀ j, mu1 b j = none := fun j => (k3 b j (fun q => hne q.symm)).trans (hmu j)
    have hn1 : ∀ b' j, some b = some b' → mu1 b' j = none := fun b' j q => by cases q; exact hmu1 j
    by_cases hE : i = l.length
    · subst hE
      by_cases hr : l.length + 1 ≤ cap
      · refine (ins_end_room k1 hmu1 hb hfr hr hsz hrow (by omega) hxr).mono ?_
        rintro e' W' ⟨rfl, rfl⟩
        have hsz3 : (l.length + 1) * 3 ≤ cap * 3 := Nat.mul_le_mul_right _ hr
        obtain ⟨_, c2, z1, z2, z3, z4⟩ := setCells_at (P := Try.prog) (o := off + l.length * 3) (vs := encM m) hb hfr (by show off + l.length * 3 + 3 ≤ _; omega) (fun v hv => by
          simp only [encM, List.mem_cons, List.not_mem_nil, or_false] at hv
          rcases hv with rfl | rfl | rfl <;> rfl)
        obtain ⟨u1, u2, u3, u4, u5, _⟩ := setCells_heap b (encM m) (off + l.length * 3) W
        rw [← hil]
        refine step_post (ob := some b) hob hB k2 hlo k1 hn1 ⟨u1, u2, u3, by rw [u4]; exact Nat.le_refl _, fun k _ hk => u5 k (fun q => hk (by rw [q]))⟩ z1 (hob b rfl) hmu1 (by rw [hil]; exact hr) ?_
        refine rowM_ins (Nat.le_refl _) (by rw [z2]; omega) (fun k hk q hq => ?_) (fun q hq => ?_) (fun k hk q hq => by omega)
        · rw [z4, if_neg (by show ¬ (_ ∧ _ < off + l.length * 3 + 3); omega), Array.getD_eq_getD_getElem?, hrow k hk q hq]; rfl
        · rw [z4, if_pos (by show _ ∧ _ < off + l.length * 3 + 3; omega), show off + l.length * 3 + q - (off + l.length * 3) = q by omega]
      · obtain ⟨j1, j2, j3, j4⟩ := memRow_spec k1 hb hmu1 hrow
        refine (ins_end_grow (q := some ⟨b, off, none⟩) j1 (j4 cap hcap) hr (by omega) (hxr.mono j2)).mono ?_
        rw [← insM_end]
        rintro e' W' ⟨b', nc, c', fr', rfl, h1, h2, h3, h4, h5, h6, h7⟩
        exact step_post (ob := some b) hob hB k2 hlo k1 hn1 (h2.mono fun _ q => by cases q) h3 (by omega) (fun j => by
          cases q : mu1 b' j with
          | none => rfl
          | some v => have := k1.lt q; omega) h5 h7
    · have hi2 : i < l.length := by omega
      by_cases hr : l.length + 1 ≤ cap
      · refine (ins_mid_room hb hfr hr hsz hrow (by omega) i hi2 hne hx).mono ?_
        rintro e' W' ⟨rfl, rfl⟩
        have hsz3 : (l.length + 1) * 3 ≤ cap * 3 := Nat.mul_le_mul_right _ hr
        have hbd : W.drew.heap[b]? = some (.cells c e fr) := hb
        have hfd : (flatM (l.drop i)).length = (l.length - i) * 3 := by simp
        obtain ⟨_, c1, y1, y2, y3, y4⟩ := setCells_at (P := Try.prog) (o := off + (i + 1) * 3) (vs := flatM (l.drop i)) hbd hfr (by rw [hfd]; omega) (flatM_one _)
        obtain ⟨x1, x2, x3, x4, x5, _⟩ := setCells_heap b (flatM (l.drop i)) (off + (i + 1) * 3) W.drew
        obtain ⟨_, c2, z1, z2, z3, z4⟩ := setCells_at (P := Try.prog) (o := off + i * 3) (vs := encM m) y1 y3 (by show off + i * 3 + 3 ≤ _; omega) (fun v hv => by
          simp only [encM, List.mem_cons, List.not_mem_nil, or_false] at hv
          rcases hv with rfl | rfl | rfl <;> rfl)
        obtain ⟨u1, u2, u3, u4, u5, _⟩ := setCells_heap b (encM m) (off + i * 3) (W.drew.setCells b (off + (i + 1) * 3) (flatM (l.drop i)))
        rw [← hil]
        refine step_post (ob := some b) hob hB k2 hlo k1 hn1 ⟨u1.trans x1, u2.trans x2, u3.trans x3, by rw [u4, x4]; exact Nat.le_refl _, fun k _ hk => (u5 k (fun q => hk (by rw [q]))).trans (x5 k (fun q => hk (by rw [q])))⟩ z1 (hob b rfl) hmu1 (by rw [hil]; exact hr) ?_
        refine rowM_ins hi (by rw [z2, y2]; omega) (fun k hk q hq => ?_) (fun q hq => ?_) (fun k hk q hq => ?_)
        · rw [z4, if_neg (by show ¬ (_ ∧ _ < off + i * 3 + 3); omega), y4, if_neg (by rw [hfd]; omega), Array.getD_eq_getD_getElem?, hrow k (by omega) q hq]; rfl
        · rw [z4, if_pos (by show _ ∧ _ < off + i * 3 + 3; omega), show off + i * 3 + q - (off + i * 3) = q by omega]
        · rw [z4, if_neg (by show ¬ (_ ∧ _ < off + i * 3 + 3); omega), y4, if_pos (by rw [hfd]; omega), show off + (i + 1 + k) * 3 + q - (off + (i + 1) * 3) = k * 3 + q by omega, flatM_getD _ (by simp; omega) hq]
          simp [List.getD_eq_getElem?_getD]
      · refine (ins_mid_grow hb hcap hr hsz hrow (by omega) i hi2 hx).mono ?_
        rintro e' W' ⟨b', nc, c', fr', rfl, h1, h2, h3, h4, h5, h6, h7⟩
        exact step_post (ob := some b) hob hB k2 hlo k1 hn1 (h2.mono fun _ q => by cases q) h3 (by omega) (fun j => by
          cases q : mu1 b' j with
          | none => rfl
          | some v => have := k1.lt q; omega) h5 h7
theorem lts_asymm {a b : ByteArray} (h : lts a b = true) : lts b a = false := by
  cases q : lts b a with
  | false => rfl
  | true => exact absurd (List.lt_trans ((lts_iff a b).1 h) ((lts_iff b a).1 q)) (List.lt_irrefl _)
theorem lts_tri {a b : ByteArray} (h : lts a b = false) (k : lts b a = false) : a = b := by
  have h1 : ¬ bk a < bk b := fun q => by rw [(lts_iff a b).2 q] at h; cases h
  have h2 : ¬ bk b < bk a := fun q => by rw [(lts_iff b a).2 q] at k; cases k
  exact bk_inj (List.le_antisymm (List.not_lt.1 h2) (List.not_lt.1 h1))
theorem idx_pos' (id : ByteArray) : ∀ (l : List Mb) (k : Nat), (∀ m ∈ l, m.id ≠ id) → (if idxM (fun m => lts id m.id) l k < 0 then ((k + l.length : Nat) : Int) else idxM (fun m => lts id m.id) l k) = ((k + posM id l : Nat) : Int)
  | [], k, _ => by simp [idxM, posM]
  | m :: l, k, h => by
    have hm := h m (List.mem_cons_self ..)
    by_cases q : lts id m.id = true
    · have q2 := lts_asymm q
      simp only [idxM, q, if_true, posM, q2]
      simp
      omega
    · have q1 : lts id m.id = false := by simpa using q
      have q2 : lts m.id id = true := by
        cases r : lts m.id id with
        | true => rfl
        | false => exact absurd (lts_tri r q1) hm
      have ih := idx_pos' id l (k + 1) (fun x hx => h x (List.mem_cons_of_mem _ hx))
      simp only [idxM, q1, posM, q2, if_true]
      simp only [Bool.false_eq_true, if_false]
      rw [List.length_cons, show k + (l.length + 1) = k + 1 + l.length by omega, ih]
      congr 1; omega
theorem idx_neg (p : Mb → Bool) : ∀ (l : List Mb) (k : Nat), idxM p l k < 0 → ∀ m ∈ l, p m = false
  | [], _, _, _, h => by simp at h
  | x :: l, k, hk, m, hm => by
    simp only [idxM] at hk
    split at hk
    · omega
    · rename_i q
      rcases List.mem_cons.1 hm with rfl | hm
      · simpa using q
      · exact idx_neg p l (k + 1) hk m hm
theorem idx_pos (id : ByteArray) (l : List Mb) (h : placeP id l < 0) : (if idxM (fun m => lts id m.id) l 0 < 0 then (l.length : Int) else idxM (fun m => lts id m.id) l 0) = posM id l := by
  have h1 := idx_neg _ l 0 h
  have := idx_pos' id l 0 (fun m hm => by simpa using h1 m hm)
  simpa using this
theorem alloc_self (w : World) (o : Obj) : (w.alloc o).heap[w.heap.size]? = some o := by rw [alloc_get, if_pos rfl]
/-- A cloned row, made in a world that has grown. -/
structure JC (mu : Mem) (w6 W : World) (mu' : Mem) (W' : World) (l : List Mb) (val : Value) (ob : Option Nat) : Prop where
  ext : Ext (fun _ => False) W W'
  gr : Gr w6.heap.size mu mu' W'
  gr2 : ∀ b j, b < W.heap.size → mu' b j = mu b j
  arr : ArrV mu' W' 3 (ML l) val ob
  own : ∀ b, ob = some b → W.heap.size ≤ b
  le : w6.heap.size ≤ W.heap.size
  ok : MemOK mu w6
theorem clone_J {mu : Mem} {w6 W : World} (hm : MemOK mu w6) (he : Ext (fun _ => False) w6 W) {l : List Mb} {v : Value} (hv : Rep mu (.sl 3 (ML l)) v) (hl : l.length ≤ 1000) :
    Calls Try.prog 58 #[v] W fun e W' => ∃ val mu' ob, e = .returned val ∧ Ext (fun _ => False) w6 W' ∧ JC mu w6 W mu' W' l val ob := by
  have hmW : MemOK mu W := fun b' j v hv => by
    obtain ⟨q1, q2⟩ := hm b' j v hv
    exact ⟨by rw [← q1]; exact World.cell?_of_block (he.block b' (hm.lt hv) id), q2⟩
  refine (clone_arr hmW hv hl).mono ?_
  rintro e W' ⟨val, mu', ob, rfl, hx, hg, ha, ho⟩
  exact ⟨val, mu', ob, rfl, he.trans hx, hx, ⟨hg.le, hg.ok, fun b j hb => hg.low b j (Nat.lt_of_lt_of_le hb he.size)⟩, hg.low, ha, ho, he.size, hm⟩
theorem ext_drew (w : World) : Ext (fun _ => False) w w.drew := ⟨rfl, rfl, rfl, Nat.le_refl _, fun _ _ _ => rfl⟩
theorem ext_alloc1 (w : World) (o : Obj) : Ext (fun _ => False) w (w.alloc o) := ⟨rfl, rfl, rfl, by simp, fun k hk _ => by rw [alloc_get, if_neg (by omega)]⟩
theorem insert_A {mu mu' : Mem} {w6 W w7 : World} {l : List Mb} {val : Value} {ob : Option Nat} (h : JC mu w6 W mu' w7 l val ob) {vb : Nat} {m : Mb} {tv : TypeId} (hW : W.heap[vb]? = some (.cells (encM m).toArray tv (0, 0))) (hvb : w6.heap.size ≤ vb) (hl : l.length ≤ 999) {i : Nat} (hi : i ≤ l.length) :
    Calls Try.prog 57 #[val, .int .i64 i, .slice (some ⟨vb, 0, none⟩) 1 1] w7 (StepPost w6.heap.size mu' w7 (insM l i m)) := by
  have hlt : vb < W.heap.size := (Array.getElem?_eq_some_iff.1 hW).1
  refine insert_step h.gr.ok h.arr (fun b q => Nat.le_trans h.le (h.own b q)) (Nat.le_trans h.le h.ext.size) hl hi (fun b q => by have := h.own b q; omega) hvb (fun j => ?_) ((h.ext.block vb hlt id).trans hW)
  rw [h.gr2 vb j hlt]
  cases q : mu vb j with
  | none => rfl
  | some v => have := h.ok.lt q; omega
theorem insert_B {mu mu' : Mem} {w6 W w7 : World} {l : List Mb} {val : Value} {ob : Option Nat} (h : JC mu w6 W mu' w7 l val ob) (m : Mb) (tv : TypeId) (hl : l.length ≤ 999) {i : Nat} (hi : i ≤ l.length) :
    Calls Try.prog 57 #[val, .int .i64 i, .slice (some ⟨w7.heap.size, 0, none⟩) 1 1] (w7.alloc (.cells (encM m).toArray tv)) (StepPost w6.heap.size mu' (w7.alloc (.cells (encM m).toArray tv)) (insM l i m)) := by
  have hs : w6.heap.size ≤ w7.heap.size := Nat.le_trans h.le h.ext.size
  have hob : ∀ b, ob = some b → b < w7.heap.size := fun b q => by
    rcases h.arr with ⟨q2, _⟩ | ⟨b', q2, off, cap, c, e, fr, rfl, hmu, hb, _⟩
    · rw [q2] at q; cases q
    · rw [q2] at q; cases q
      exact (Array.getElem?_eq_some_iff.1 hb).1
  have ha : ArrV mu' (w7.alloc (.cells (encM m).toArray tv)) 3 (ML l) val ob := by
    rcases h.arr with q | ⟨b', q2, off, cap, c, e, fr, hv, hmu, hb, hr⟩
    · exact .inl q
    · exact .inr ⟨b', q2, off, cap, c, e, fr, hv, hmu, ((ext_alloc1 w7 _).block b' (Array.getElem?_eq_some_iff.1 hb).1 id).trans hb, hr⟩
  refine insert_step (h.gr.ok.alloc _) ha (fun b q => Nat.le_trans h.le (h.own b q)) (by simp; omega) hl hi (fun b q => by have := hob b q; omega) hs (fun j => ?_) (by rw [alloc_get, if_pos rfl])
  cases q : mu' w7.heap.size j with
  | none => rfl
  | some v => have := h.gr.ok.lt q; omega
end Go.Proofs.Ytmfkliabjfngmaa
