import Derived.Test.YtikidcgnbcibpaaAvRf

set_option linter.unusedVariables false
set_option linter.unusedSimpArgs false
open Go.RowKit
namespace Go.Av
theorem repArgs1 {mu : Mem} {v : SV} {x : Value} (h : Rep mu v x) : RepArgs mu [v] [x] := ⟨rfl, fun j hj => by
  have h0 : j = 0 := by simpa using hj
  subst h0
  exact h⟩
theorem alloc_get (w : World) (o : Obj) (k : Nat) : (w.alloc o).heap[k]? = if k = w.heap.size then some o else w.heap[k]? := by
  by_cases q : k = w.heap.size
  · subst q; rw [if_pos rfl]; exact World.alloc_heap_new w o
  · rw [if_neg q]
    by_cases q2 : k < w.heap.size
    · exact Below.heap_alloc w o k q2
    · rw [Array.getElem?_eq_none (by simp; omega), Array.getElem?_eq_none (by omega)]
theorem rep_sl_inv {mu : Mem} {sz : Nat} {xs : List SV} {e : SV} {k : Nat} {val : Value} (h : Rep mu (.eptr e k) val) : ∃ b off, val = .pointer (some ⟨b, off + k, none⟩) ∧ ∃ vals : Nat → Value, (∀ j, j < e.nc → mu b (off + j) = some (vals j)) ∧ (∀ j, j < e.nc → Rep mu (e.cell j) (vals j)) := by
  cases h with
  | eptr _ _ b off vals k1 k2 => exact ⟨b, off, rfl, vals, k1, k2⟩
theorem back_fn {mu : Mem} {f : FuncId} {sz : Nat} {xs : List SV} {val : Value} (h : Rep mu (.fn f [] [.eptr (.agg [.sl sz xs]) 0]) val) :
    ∃ b off sv, val = .func (.func f) #[] #[.pointer (some ⟨b, off, none⟩)] ∧ mu b off = some sv ∧ Rep mu (.sl sz xs) sv := by
  cases h with
  | fn _ _ _ vf vc h1 h2 h3 h4 =>
    obtain rfl : vf = [] := List.length_eq_zero_iff.1 h1
    obtain ⟨v, rfl⟩ : ∃ v, vc = [v] := by
      cases vc with
      | nil => simp at h2
      | cons v r => cases r with
        | nil => exact ⟨v, rfl⟩
        | cons _ _ => simp at h2
    have h5 := h4 0 (by simp)
    obtain ⟨b, off, e, vals, k1, k2⟩ := rep_sl_inv (sz := 0) (xs := []) h5
    have e1 := k1 0 (by simp [SV.nc, SV.cells])
    have e2 := k2 0 (by simp [SV.nc, SV.cells])
    have e3 : v = .pointer (some ⟨b, off + 0, none⟩) := e
    subst e3
    exact ⟨b, off, vals 0, rfl, e1, e2⟩

theorem ext_putObj {w0 W : World} (h : Ext (fun _ => False) w0 W) {l : Nat} (o : Obj) (hl : w0.heap.size ≤ l) : Ext (fun _ => False) w0 (W.putObj l o) :=
  ⟨h.os, h.tape, h.output, by simpa [World.putObj] using h.size, fun k hk _ => (World.putObj_heap_other (by omega)).trans (h.block k hk id)⟩
theorem ext_alloc {w0 W : World} (h : Ext (fun _ => False) w0 W) (o : Obj) : Ext (fun _ => False) w0 (W.alloc o) :=
  ⟨h.os, h.tape, h.output, by have := h.size; simp; omega, fun k hk _ => by rw [alloc_get, if_neg (by have := h.size; omega)]; exact h.block k hk id⟩

theorem set_get {W : World} {b : Nat} {c : Array Value} {e : TypeId} {fr : Nat × Nat} (h : W.heap[b]? = some (.cells c e fr)) (j : Nat) (v : Value) : (W.setCell ⟨b, j, none⟩ v).heap[b]? = some (.cells (c.setIfInBounds j v) e fr) := by
  obtain ⟨hlt, hk⟩ := Array.getElem?_eq_some_iff.1 h
  show (W.heap.modify b _)[b]? = _
  rw [Array.getElem?_eq_getElem (by rw [Array.size_modify]; exact hlt), Array.getElem_modify_self, hk]
  rfl
theorem set_other (W : World) (b j : Nat) (v : Value) {k : Nat} (h : k ≠ b) : (W.setCell ⟨b, j, none⟩ v).heap[k]? = W.heap[k]? := Below.heap_setCell _ _ _ k h
theorem ext_set {w0 W : World} (h : Ext (fun _ => False) w0 W) {b j : Nat} (v : Value) (hb : w0.heap.size ≤ b) : Ext (fun _ => False) w0 (W.setCell ⟨b, j, none⟩ v) :=
  ⟨h.os, h.tape, h.output, Nat.le_trans h.size (KeepsWalks.setCell W _ v).size, fun k hk _ => (set_other W b j v (by omega)).trans (h.block k hk id)⟩
theorem mem_set {W : World} {mu : Mem} (h : MemOK mu W) {b j : Nat} (v : Value) (hb : ∀ j, mu b j = none) : MemOK mu (W.setCell ⟨b, j, none⟩ v) := by
  intro b' j' v' e
  obtain ⟨q1, q2⟩ := h b' j' v' e
  refine ⟨?_, q2⟩
  rw [← q1]
  refine World.cell?_of_block (set_other W b j v ?_)
  intro q
  have q' : b' = b := q
  subst q'
  rw [hb] at e; cases e


theorem MemOK.sub {mu mu' : Mem} {w : World} (h : mu.le mu') (k : MemOK mu' w) : MemOK mu w := fun b j v e => k b j v (h b j v e)
end Go.Av
