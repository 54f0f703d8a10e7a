import Derived.Test.YtifemhfpcichfaaMZrA
import Derived.Test.YtifemhfpcichfaaAvAA
import Derived.Test.YtifemhfpcichfaaAvL3

set_option linter.unusedVariables false
set_option linter.unusedSimpArgs false

/- Zone: stores into the device; more that only looks. -/

set_option linter.unusedSimpArgs false
set_option linter.unusedVariables false
set_option maxHeartbeats 4000000
set_option maxRecDepth 1000000
namespace Go.Proofs.Ytifemhfpcichfaa
open Go.RowKit
open Go.Av

theorem blk_same {w : World} {b j : Nat} {c : Array Value} {te : TypeId} {fr : Nat × Nat} (h : w.heap[b]? = some (.cells c te fr)) (v : Value) : (w.setCell ⟨b, j, none⟩ v).heap[b]? = some (.cells (c.setIfInBounds j v) te fr) := by
  simp [World.setCell, Array.getElem?_modify, h]
theorem blk_other {w : World} {b j k : Nat} (h : k ≠ b) (v : Value) : (w.setCell ⟨b, j, none⟩ v).heap[k]? = w.heap[k]? := by
  simp [World.setCell, Array.getElem?_modify, Ne.symm h]
/-- The blocks of a device. -/
def EQ (q : Dp) (k : Nat) : Prop := k = q.p ∨ k = q.za ∨ k = q.mb
theorem extQ_set {q : Dp} {w w1 : World} (h : Ext (EQ q) w w1) {b : Nat} (hb : EQ q b ∨ w.heap.size ≤ b) (j : Nat) (v : Value) : Ext (EQ q) w (w1.setCell ⟨b, j, none⟩ v) :=
  ⟨h.os, h.tape, h.output, by have := h.size; simp [World.setCell]; omega, fun k hk ht => (blk_other (fun e => by subst e; rcases hb with hb | hb; exact ht hb; omega) v).trans (h.block k hk ht)⟩
theorem extQ {q : Dp} {w w1 : World} (h : Ext (fun _ => False) w w1) : Ext (EQ q) w w1 := h.mono fun _ k => absurd k id
theorem DevAt.alloc {w : World} {q : Dp} {d : Dv} (h : DevAt w q d) (o : Obj) : DevAt (w.alloc o) q d := h.ext (ext_alloc1 w o)
theorem DevAt.drew {w : World} {q : Dp} {d : Dv} (h : DevAt w q d) : DevAt w.drew q d := h.ext (ext_drew w)
theorem DevAt.lt {w : World} {q : Dp} {d : Dv} (h : DevAt w q d) : q.p < w.heap.size ∧ q.za < w.heap.size ∧ q.mb < w.heap.size := by
  obtain ⟨c, te, fr, h1, _⟩ := h.bz
  obtain ⟨es, cl, m1, _⟩ := h.bm
  exact ⟨(Array.getElem?_eq_some_iff.1 h.bp).1, (Array.getElem?_eq_some_iff.1 h1).1, (Array.getElem?_eq_some_iff.1 m1).1⟩
theorem DevAt.setO {w : World} {q : Dp} {d : Dv} (h : DevAt w q d) {b : Nat} (hb : ¬ EQ q b) (j : Nat) (v : Value) : DevAt (w.setCell ⟨b, j, none⟩ v) q d := by
  obtain ⟨c, te, fr, h1, h2, h3, h4⟩ := h.bz
  have n1 : q.p ≠ b := fun e => hb (.inl e.symm)
  have n2 : q.za ≠ b := fun e => hb (.inr (.inl e.symm))
  have n3 : q.mb ≠ b := fun e => hb (.inr (.inr e.symm))
  exact ⟨(blk_other n1 v).trans h.bp, ⟨c, te, fr, (blk_other n2 v).trans h1, h2, h3, h4⟩, h.bm.setCell (a := ⟨b, j, none⟩) n3 v, h.ne1, h.ne2, h.ne3, h.len⟩
theorem DevAt.setP {w : World} {q : Dp} {d : Dv} (h : DevAt w q d) (j : Nat) (v : Value) (d' : Dv) (he : (devCells q d).set j v = devCells q d') (hz : d'.zs = d.zs) (hn : d'.n = d.n) (hD : d'.D = d.D) : DevAt (w.setCell ⟨q.p, j, none⟩ v) q d' := by
  obtain ⟨c, te, fr, h1, h2, h3, h4⟩ := h.bz
  refine ⟨?_, ⟨c, te, fr, (blk_other h.ne1.symm v).trans h1, h2, by rw [hz]; exact h3, by rw [hz]; exact h4⟩, ?_, h.ne1, h.ne2, h.ne3, by rw [hz]; exact h.len⟩
  · rw [blk_same h.bp, ← he]
    simp
  · rw [hn, hD]; exact h.bm.setCell (a := ⟨q.p, j, none⟩) h.ne2.symm v
theorem DevAt.setZ {w : World} {q : Dp} {d : Dv} (h : DevAt w q d) {i : Nat} (hi : i < d.zs.length) {k : Nat} (hk : k < 3) (v : Value) (z : Zn) (he : (encZ (d.zs.getD i z0)).set k v = encZ z) : DevAt (w.setCell ⟨q.za, i * 3 + k, none⟩ v) q { d with zs := d.zs.set i z } := by
  obtain ⟨c, te, fr, h1, h2, h3, h4⟩ := h.bz
  refine ⟨?_, ⟨c.setIfInBounds (i * 3 + k) v, te, fr, blk_same h1 v, h2.size (by simp), by simpa using h3, fun m hm r hr => ?_⟩, h.bm.setCell (a := ⟨q.za, i * 3 + k, none⟩) h.ne3.symm v, h.ne1, h.ne2, h.ne3, by simpa using h.len⟩
  · rw [blk_other h.ne1, h.bp]
    simp [devCells]
  · simp only [List.length_set] at hm
    by_cases e : m = i
    · subst e
      have e2 : (d.zs.set m z).getD m z0 = z := by rw [List.getD_eq_getElem?_getD, List.getElem?_set_self hm]; rfl
      rw [e2, ← he]
      by_cases e3 : r = k
      · subst e3
        have e4 : ((encZ (d.zs.getD m z0)).set r v).getD r Go.undef = v := by
          have hL : (encZ (d.zs.getD m z0)).length = 3 := rfl
          generalize encZ (d.zs.getD m z0) = L at hL
          rw [List.getD_eq_getElem?_getD, List.getElem?_set_self (by omega)]; rfl
        rw [Array.getElem?_setIfInBounds_self_of_lt (by omega), e4]
      · have e4 : ((encZ (d.zs.getD m z0)).set k v).getD r Go.undef = (encZ (d.zs.getD m z0)).getD r Go.undef := by
          generalize encZ (d.zs.getD m z0) = L
          rw [List.getD_eq_getElem?_getD, List.getElem?_set_ne (fun q => e3 q.symm), List.getD_eq_getElem?_getD]
        rw [Array.getElem?_setIfInBounds_ne (by omega), h4 m hm r hr, e4]
    · have e2 : (d.zs.set i z).getD m z0 = d.zs.getD m z0 := by rw [List.getD_eq_getElem?_getD, List.getElem?_set_ne (fun q => e q.symm), List.getD_eq_getElem?_getD]
      rw [e2, Array.getElem?_setIfInBounds_ne (by omega)]
      exact h4 m hm r hr
def wrD (d : Dv) (z : Int) : Int := if hasZ d z = true then (d.zs.getD z.toNat z0).wr else 0
def loD (d : Dv) (z : Int) : Int := if hasZ d z = true then (d.zs.getD z.toNat z0).lo else 0
theorem written_raw {w : World} {q : Dp} {d : Dv} (h : DevAt w q d) (z : Int) : Calls Try.prog 17 #[.pointer (some ⟨q.p, 0, none⟩), .int .i64 z] w fun e w' => e = .returned (.int .i64 (wrD d z)) ∧ w' = w := by
  have HH := asideI (has_raw h z)
  obtain ⟨⟨a0, a1, a2, a3, a4, a5, a6⟩, b0, b1, b2, b3, b4, b5, b6⟩ := h.cells
  unfold wrD
  cases hb : hasZ d z with
  | false =>
    rw [hb] at HH
    rw [if_neg (by simp)]
    go_enter Try.func17, Try.ntmps17
    go_wp2_with (first
      | (go_at_call 52; refine HH.out.mono ?_; rintro e w2 ⟨rfl, h2⟩; obtain rfl := h2.symm; simp only [])
      | go_in)
    go_ret
    exact ⟨rfl, rfl⟩
  | true =>
    obtain ⟨hz0, hz1⟩ := hasZ_iff hb
    rw [hb] at HH
    obtain ⟨i, rfl⟩ : ∃ i : Nat, z = i := ⟨z.toNat, by omega⟩
    have hi : i < d.zs.length := by omega
    have hlen := h.len
    obtain ⟨⟨c0, c1, c2⟩, e0, e1, e2⟩ := h.zcells hi
    have hti : ((i : Int)).toNat = i := by omega
    rw [if_pos rfl, hti]
    clear h hb
    go_enter Try.func17, Try.ntmps17
    go_wp2_with (first
      | (go_at_call 52; refine HH.out.mono ?_; rintro e w2 ⟨rfl, h2⟩; obtain rfl := h2.symm; simp only [])
      | go_in)
    go_ret
    exact ⟨rfl, rfl⟩
theorem loose_raw {w : World} {q : Dp} {d : Dv} (h : DevAt w q d) (z : Int) : Calls Try.prog 18 #[.pointer (some ⟨q.p, 0, none⟩), .int .i64 z] w fun e w' => e = .returned (.int .i64 (loD d z)) ∧ w' = w := by
  have HH := asideI (has_raw h z)
  obtain ⟨⟨a0, a1, a2, a3, a4, a5, a6⟩, b0, b1, b2, b3, b4, b5, b6⟩ := h.cells
  unfold loD
  cases hb : hasZ d z with
  | false =>
    rw [hb] at HH
    rw [if_neg (by simp)]
    go_enter Try.func18, Try.ntmps18
    go_wp2_with (first
      | (go_at_call 52; refine HH.out.mono ?_; rintro e w2 ⟨rfl, h2⟩; obtain rfl := h2.symm; simp only [])
      | go_in)
    go_ret
    exact ⟨rfl, rfl⟩
  | true =>
    obtain ⟨hz0, hz1⟩ := hasZ_iff hb
    rw [hb] at HH
    obtain ⟨i, rfl⟩ : ∃ i : Nat, z = i := ⟨z.toNat, by omega⟩
    have hi : i < d.zs.length := by omega
    have hlen := h.len
    obtain ⟨⟨c0, c1, c2⟩, e0, e1, e2⟩ := h.zcells hi
    have hti : ((i : Int)).toNat = i := by omega
    rw [if_pos rfl, hti]
    clear h hb
    go_enter Try.func18, Try.ntmps18
    go_wp2_with (first
      | (go_at_call 52; refine HH.out.mono ?_; rintro e w2 ⟨rfl, h2⟩; obtain rfl := h2.symm; simp only [])
      | go_in)
    go_ret
    exact ⟨rfl, rfl⟩
theorem down_raw {w : World} {q : Dp} {d : Dv} (h : DevAt w q d) : Calls Try.prog 22 #[.pointer (some ⟨q.p, 0, none⟩)] w fun e w' => e = .returned (.bool d.down) ∧ w' = w := by
  obtain ⟨⟨a0, a1, a2, a3, a4, a5, a6⟩, b0, b1, b2, b3, b4, b5, b6⟩ := h.cells
  go_enter Try.func22, Try.ntmps22
  go_wp2
  go_ret
  exact ⟨rfl, rfl⟩
theorem ops_raw {w : World} {q : Dp} {d : Dv} (h : DevAt w q d) : Calls Try.prog 35 #[.pointer (some ⟨q.p, 0, none⟩)] w fun e w' => e = .returned (.int .i64 d.ops) ∧ w' = w := by
  obtain ⟨⟨a0, a1, a2, a3, a4, a5, a6⟩, b0, b1, b2, b3, b4, b5, b6⟩ := h.cells
  go_enter Try.func35, Try.ntmps35
  go_wp2
  go_ret
  exact ⟨rfl, rfl⟩
theorem zones_raw {w : World} {q : Dp} {d : Dv} (h : DevAt w q d) : Calls Try.prog 56 #[.pointer (some ⟨q.p, 0, none⟩)] w fun e w' => e = .returned (.int .i64 d.zs.length) ∧ w' = w := by
  obtain ⟨⟨a0, a1, a2, a3, a4, a5, a6⟩, b0, b1, b2, b3, b4, b5, b6⟩ := h.cells
  go_enter Try.func56, Try.ntmps56
  go_wp2
  go_ret
  exact ⟨rfl, rfl⟩
/-- How many of the first zones are open. -/
def openN (nb : Int) (l : List Zn) : Nat := (l.filter fun z => decide (stZ nb z = 1)).length
theorem openN_le (nb : Int) (l : List Zn) : openN nb l ≤ l.length := List.length_filter_le _ _
theorem openN_succ (nb : Int) (l : List Zn) {k : Nat} (hk : k < l.length) : openN nb (l.take (k + 1)) = openN nb (l.take k) + (if stZ nb (l.getD k z0) = 1 then 1 else 0) := by
  unfold openN
  rw [List.take_succ_eq_append_getElem hk, List.filter_append, List.length_append, List.getD_eq_getElem?_getD, List.getElem?_eq_getElem hk]
  congr 1
  simp only [Option.getD_some]
  by_cases h : stZ nb l[k] = 1 <;> simp [h]
theorem opened_raw {w : World} {q : Dp} {d : Dv} (h : DevAt w q d) : Calls Try.prog 50 #[.pointer (some ⟨q.p, 0, none⟩)] w fun e w' => e = .returned (.int .i64 (openN d.nb d.zs)) ∧ Ext (fun _ => False) w w' := by
  have HD := asideI h
  have hlen := h.len
  have hlz : (d.zs.length : Int) ≤ 1000 := by omega
  clear h
  go_enter Try.func50, Try.ntmps50
  go_wp2_with (first
    | (go_at_call 56; refine (zones_raw HD.out).mono ?_; rintro e w2 ⟨rfl, h2⟩; obtain rfl := h2.symm; simp only [])
    | go_in)
  go_loopg [3, 7] d.zs.length (fun gg s3 s7 wr => ∃ (k : Nat), s3 = .int .i64 (openN d.nb (d.zs.take k)) ∧ s7 = .int .i64 k ∧ k ≤ d.zs.length ∧ d.zs.length - k ≤ gg ∧ Aside (Ext (fun _ => False) w wr))
  case atStart => exact ⟨0, by simp [openN], rfl, by omega, by omega, Ext.refl _ _⟩
  case round =>
    obtain ⟨k, rfl, rfl, hk, hgg, H2⟩ := hrel
    by_cases hlt : k < d.zs.length
    · have hltz : (k : Int) < (d.zs.length : Int) := by omega
      have hs := openN_succ d.nb d.zs hlt
      have hst : stD d k = stZ d.nb (d.zs.getD k z0) := by
        unfold stD
        rw [if_pos (by simp [hasZ]; omega)]
        rfl
      have hS := asideI (state_raw (HD.out.ext H2.out) k)
      rw [hst] at hS
      generalize stZ d.nb (d.zs.getD k z0) = s at hS hs
      have hle := openN_le d.nb (d.zs.take k)
      have hle2 : (d.zs.take k).length ≤ 1000 := by simp; omega
      generalize openN d.nb (d.zs.take k) = m at *
      by_cases h1 : s = 1
      · subst h1
        have hwm : IntKind.i64.wrap ((m : Int) + 1) = (m : Int) + 1 := by rw [IntKind.wrap_i64]; omega
        go_wp2_with (first
          | (go_at_call 21; refine hS.out.mono ?_; rintro e w2 ⟨rfl, hx⟩; have HX := asideI hx; clear hx; simp only [])
          | go_in)
        go_roundg (d.zs.length - (k + 1))
        case measure => omega
        case rel => exact ⟨k + 1, by rw [hs]; simp, by simp, by omega, by omega, Ext.trans H2.out HX.out⟩
      · have h1b : (s == 1) = false := by simpa using h1
        go_wp2_with (first
          | (go_at_call 21; refine hS.out.mono ?_; rintro e w2 ⟨rfl, hx⟩; have HX := asideI hx; clear hx; simp only [])
          | go_in)
        go_roundg (d.zs.length - (k + 1))
        case measure => omega
        case rel => exact ⟨k + 1, by rw [hs, if_neg h1]; rfl, by simp, by omega, by omega, Ext.trans H2.out HX.out⟩
    · obtain rfl : k = d.zs.length := by omega
      go_wp2
      go_ret
      refine ⟨?_, H2.out⟩
      rw [List.take_length]
      rfl
end Go.Proofs.Ytifemhfpcichfaa

/- Zone: the document's put, packed. -/


set_option linter.unusedSimpArgs false
set_option linter.unusedVariables false
set_option maxHeartbeats 4000000
set_option maxRecDepth 1000000
namespace Go.Proofs.Ytifemhfpcichfaa
open Go.RowKit
open Go.Av

theorem put_raw {mu : Mem} {w : World} (hm : MemOK mu w) {xs : List SV} {v : Value} (hv : Rep mu (.sl 3 xs) v) (i : Nat) (hi : i < xs.length) (hl : xs.length ≤ 1000) (n ops fails : Int) (down done fin : Bool) (pu : Option Addr) (nu cu : Nat) (lo : Int) :
    Calls Try.prog 62 #[.agg #[v, .int .i64 n, .bool down, .int .i64 ops, .int .i64 fails, .bool done], .int .i64 i, .agg #[.slice pu nu cu, .int .i64 lo, .bool fin]] w fun e w' => ∃ b cap c,
      e = .returned (.agg #[.slice (some ⟨b, 0, none⟩) xs.length cap, .int .i64 n, .bool down, .int .i64 ops, .int .i64 fails, .bool done]) ∧ Ext (fun _ => False) w w' ∧ w.heap.size ≤ b ∧ xs.length ≤ cap ∧ cap * 3 ≤ c.size ∧ RowV mu c xs ∧
      w'.heap[b]? = some (.cells (((c.setIfInBounds (i * 3) (.slice pu nu cu)).setIfInBounds (i * 3 + 1) (.int .i64 lo)).setIfInBounds (i * 3 + 2) (.bool fin)) 110 (0, 0)) := by
  have HM : Aside (MemOK mu w) := hm
  have HV : Aside (Rep mu (.sl 3 xs) v) := hv
  clear hm hv
  have hiz : (i : Int) < (xs.length : Int) := by omega
  obtain ⟨b, cap, c, w2, hrun, hge, hx, hb, hcap, hsz, hrow⟩ := append_rowV (P := Try.prog) (W := ((w.alloc (.cells #[v, .int .i64 n, .bool down, .int .i64 ops, .int .i64 fails, .bool done] 29)).alloc (.cells #[.slice pu nu cu, .int .i64 lo, .bool fin] 110)).alloc (.cells #[.slice none 0 0, .int .i64 0, .bool false, .int .i64 0, .int .i64 0, .bool false] 29)) (((HM.out.alloc _).alloc _).alloc _) HV.out (by omega) hl (t := 27) (e := 110) (i := (Try.prog.info? 110).get!) (z := .agg #[.slice none 0 0, .int .i64 0, .bool false]) (by kernel_rfl) (by kernel_rfl) (by kernel_rfl) (by decide +kernel) (by kernel_rfl) (by kernel_rfl) 27
  have hge2 : w.heap.size + 1 + 1 + 1 ≤ b := by simpa using hge
  have x0 : w2.heap[w.heap.size]? = some (.cells #[v, .int .i64 n, .bool down, .int .i64 ops, .int .i64 fails, .bool done] 29) := by
    rw [hx.block _ (by simp; omega) id, alloc_get, if_neg (by simp; omega), alloc_get, if_neg (by simp), alloc_get, if_pos rfl]
  have x1 : w2.heap[w.heap.size + 1]? = some (.cells #[.slice pu nu cu, .int .i64 lo, .bool fin] 110) := by
    rw [hx.block _ (by simp) id, alloc_get, if_neg (by simp), alloc_get, if_pos (by simp)]
  have x2 : w2.heap[w.heap.size + 1 + 1]? = some (.cells #[.slice none 0 0, .int .i64 0, .bool false, .int .i64 0, .int .i64 0, .bool false] 29) := by
    rw [hx.block _ (by simp) id, alloc_get, if_pos (by simp)]
  have c0 : w2.cell? ⟨w.heap.size, 0, none⟩ = some v := by simp [World.cell?, x0]
  have c1 : w2.cell? ⟨w.heap.size, 1, none⟩ = some (.int .i64 n) := by simp [World.cell?, x0]
  have c2 : w2.cell? ⟨w.heap.size, 2, none⟩ = some (.bool down) := by simp [World.cell?, x0]
  have c3 : w2.cell? ⟨w.heap.size, 3, none⟩ = some (.int .i64 ops) := by simp [World.cell?, x0]
  have c4 : w2.cell? ⟨w.heap.size, 4, none⟩ = some (.int .i64 fails) := by simp [World.cell?, x0]
  have c5 : w2.cell? ⟨w.heap.size, 5, none⟩ = some (.bool done) := by simp [World.cell?, x0]
  have f0 : w2.frozen? ⟨w.heap.size, 0, none⟩ = false := by simp [World.frozen?, x0]
  have d0 : w2.cell? ⟨w.heap.size + 1, 0, none⟩ = some (.slice pu nu cu) := by simp [World.cell?, x1]
  have d1 : w2.cell? ⟨w.heap.size + 1, 1, none⟩ = some (.int .i64 lo) := by simp [World.cell?, x1]
  have d2 : w2.cell? ⟨w.heap.size + 1, 2, none⟩ = some (.bool fin) := by simp [World.cell?, x1]
  have e0 : w2.cell? ⟨w.heap.size + 1 + 1, 0, none⟩ = some (.slice none 0 0) := by simp [World.cell?, x2]
  have e1 : w2.cell? ⟨w.heap.size + 1 + 1, 1, none⟩ = some (.int .i64 0) := by simp [World.cell?, x2]
  have e2 : w2.cell? ⟨w.heap.size + 1 + 1, 2, none⟩ = some (.bool false) := by simp [World.cell?, x2]
  have e3 : w2.cell? ⟨w.heap.size + 1 + 1, 3, none⟩ = some (.int .i64 0) := by simp [World.cell?, x2]
  have e4 : w2.cell? ⟨w.heap.size + 1 + 1, 4, none⟩ = some (.int .i64 0) := by simp [World.cell?, x2]
  have e5 : w2.cell? ⟨w.heap.size + 1 + 1, 5, none⟩ = some (.bool false) := by simp [World.cell?, x2]
  have g0 : w2.frozen? ⟨w.heap.size + 1 + 1, 0, none⟩ = false := by simp [World.frozen?, x2]
  have g1 : w2.frozen? ⟨w.heap.size + 1 + 1, 1, none⟩ = false := by simp [World.frozen?, x2]
  have g2 : w2.frozen? ⟨w.heap.size + 1 + 1, 2, none⟩ = false := by simp [World.frozen?, x2]
  have g3 : w2.frozen? ⟨w.heap.size + 1 + 1, 3, none⟩ = false := by simp [World.frozen?, x2]
  have g4 : w2.frozen? ⟨w.heap.size + 1 + 1, 4, none⟩ = false := by simp [World.frozen?, x2]
  have g5 : w2.frozen? ⟨w.heap.size + 1 + 1, 5, none⟩ = false := by simp [World.frozen?, x2]
  have hii : i * 3 + 2 < c.size := by have : (i + 1) * 3 ≤ cap * 3 := Nat.mul_le_mul_right _ (by omega); omega
  obtain ⟨y0, r0', _, _⟩ := hrow i 0 hi (by omega)
  obtain ⟨y1, r1', _, _⟩ := hrow i 1 hi (by omega)
  obtain ⟨y2, r2', _, _⟩ := hrow i 2 hi (by omega)
  have r0 : w2.cell? ⟨b, i * 3, none⟩ = some y0 := by rw [cell_of_block hb]; exact r0'
  have r1 : w2.cell? ⟨b, i * 3 + 1, none⟩ = some y1 := by rw [cell_of_block hb]; exact r1'
  have r2 : w2.cell? ⟨b, i * 3 + 2, none⟩ = some y2 := by rw [cell_of_block hb]; exact r2'
  have h0 : w2.frozen? ⟨b, i * 3, none⟩ = false := by simp [World.frozen?, hb]
  have h1 : w2.frozen? ⟨b, i * 3 + 1, none⟩ = false := by simp [World.frozen?, hb]
  have h2 : w2.frozen? ⟨b, i * 3 + 2, none⟩ = false := by simp [World.frozen?, hb]
  have HB : Aside (w2.heap[b]? = some (.cells c 110 (0, 0))) := hb
  have HX : Aside (Ext (fun _ => False) _ w2) := hx
  have HROW : Aside (RowV mu c xs) := hrow
  have HRUN : Aside _ := hrun
  clear hb hx hrow hrun r0' r1' r2'
  have X2 : Aside _ := x2
  have X0 : Aside _ := x0
  clear x0 x1 x2
  go_enter Try.func62, Try.ntmps62
  go_wp2_with (first
    | (refine at_app _ rfl _ _ 27 rfl (v := .slice none 0 0) (u := v) rfl rfl HRUN.out ?_)
    | go_in)
  have nb : b ≠ w.heap.size := by omega
  have nb2 : b ≠ w.heap.size + 1 + 1 := by omega
  have nn : w.heap.size + 1 + 1 ≠ w.heap.size := by omega
  have E1 := (blk_other (j := i * 3 + 2) (Ne.symm nb2) (.bool fin)).trans ((blk_other (j := i * 3 + 1) (Ne.symm nb2) (.int .i64 lo)).trans ((blk_other (j := i * 3) (Ne.symm nb2) (.slice pu nu cu)).trans ((blk_other (j := 0) nn (.slice (some ⟨b, 0, none⟩) xs.length cap)).trans X2.out)))
  have G1 := blk_same (j := 5) (blk_same (j := 4) (blk_same (j := 3) (blk_same (j := 2) (blk_same (j := 1) (blk_same (j := 0) E1 (.slice (some ⟨b, 0, none⟩) xs.length cap)) (.int .i64 n)) (.bool down)) (.int .i64 ops)) (.int .i64 fails)) (.bool done)
  have B0 := blk_same (j := i * 3 + 2) (blk_same (j := i * 3 + 1) (blk_same (j := i * 3) ((blk_other (j := 0) nb (.slice (some ⟨b, 0, none⟩) xs.length cap)).trans HB.out) (.slice pu nu cu)) (.int .i64 lo)) (.bool fin)
  have B1 := (blk_other (j := 5) nb2 (.bool done)).trans ((blk_other (j := 4) nb2 (.int .i64 fails)).trans ((blk_other (j := 3) nb2 (.int .i64 ops)).trans ((blk_other (j := 2) nb2 (.bool down)).trans ((blk_other (j := 1) nb2 (.int .i64 n)).trans ((blk_other (j := 0) nb2 (.slice (some ⟨b, 0, none⟩) xs.length cap)).trans B0)))))
  refine bodyPost_ret (results_cell_row rfl _ _ (w.heap.size + 1 + 1) _ _ _ _ rfl G1 (show Try.prog.underlying 29 = some (Try.prog.underlying 29).get! by kernel_rfl) (by kernel_rfl) (by kernel_rfl)) rfl ?_
  refine ⟨b, cap, c, rfl, ?_, by omega, hcap, hsz, HROW.out, B1⟩
  have hx : Ext (fun _ => False) w w2 := ⟨HX.out.os, HX.out.tape, HX.out.output, by have := HX.out.size; simp at this; omega, fun k hk _ => by
      rw [HX.out.block k (by simp; omega) id, alloc_get, if_neg (by simp; omega), alloc_get, if_neg (by simp; omega), alloc_get, if_neg (by omega)]⟩
  have hs : ∀ {W : World} {b' : Nat}, Ext (fun _ => False) w W → w.heap.size ≤ b' → ∀ j v, Ext (fun _ => False) w (W.setCell ⟨b', j, none⟩ v) := fun h hb j v => ext_set h v hb
  exact hs (hs (hs (hs (hs (hs (hs (hs (hs (hs hx (by omega) _ _) (by omega) _ _) (by omega) _ _) (by omega) _ _) (by omega) _ _) (by omega) _ _) (by omega) _ _) (by omega) _ _) (by omega) _ _) (by omega) _ _
theorem rep_dev {mu : Mem} {d : RDv} {x : Value} (h : Rep mu d.sv x) : ∃ v, x = .agg #[v, .int .i64 d.n, .bool d.down, .int .i64 d.ops, .int .i64 d.fails, .bool d.done] ∧ Rep mu (.sl 3 (ZL d.z)) v := by
  cases h with
  | agg _ vs h1 h2 =>
    have h3 : vs.length = 6 := by rw [h1]; rfl
    match vs, h3 with
    | [a, b, c, e, f, g], _ =>
      have k0 : Rep mu (.sl 3 (ZL d.z)) a := h2 0 (by simp [RDv.cells])
      have k1 : b = .int .i64 d.n := Rep.inv_int (h2 1 (by simp [RDv.cells]))
      have k2 : c = .bool d.down := Rep.inv_bool (h2 2 (by simp [RDv.cells]))
      have k3 : e = .int .i64 d.ops := Rep.inv_int (h2 3 (by simp [RDv.cells]))
      have k4 : f = .int .i64 d.fails := Rep.inv_int (h2 4 (by simp [RDv.cells]))
      have k5 : g = .bool d.done := Rep.inv_bool (h2 5 (by simp [RDv.cells]))
      exact ⟨a, by rw [k1, k2, k3, k4, k5], k0⟩
theorem rep_bSV {mu : Mem} {l : Option (List ByteArray)} {u : Value} (h : Rep mu (bSV l) u) : ∃ p n c, u = .slice p n c := by
  cases l with
  | none => exact ⟨none, 0, 0, Rep.inv_nils h⟩
  | some l =>
    rcases h.inv_sl with ⟨⟨p, cap, rfl, _⟩, _⟩ | ⟨b, off, cap, vals, rfl, _⟩
    · exact ⟨_, _, _, rfl⟩
    · exact ⟨_, _, _, rfl⟩
theorem rep_zn {mu : Mem} {z : RZ} {x : Value} (h : Rep mu z.sv x) : ∃ p n c, x = .agg #[.slice p n c, .int .i64 z.lo, .bool z.fin] ∧ Rep mu (bSV z.b) (.slice p n c) := by
  cases h with
  | agg _ vs h1 h2 =>
    have h3 : vs.length = 3 := by rw [h1]; rfl
    match vs, h3 with
    | [a, b, c], _ =>
      have k0 : Rep mu (bSV z.b) a := h2 0 (by simp [RZ.cells])
      have k1 : b = .int .i64 z.lo := Rep.inv_int (h2 1 (by simp [RZ.cells]))
      have k2 : c = .bool z.fin := Rep.inv_bool (h2 2 (by simp [RZ.cells]))
      obtain ⟨p, n, cc, rfl⟩ := rep_bSV k0
      exact ⟨p, n, cc, by rw [k1, k2], k0⟩
theorem ZL_nc (l : List RZ) : ∀ x ∈ ZL l, x.nc = 3 := by
  intro x hx
  obtain ⟨z, _, rfl⟩ := List.mem_map.1 hx
  rfl
theorem ret_dev {mu : Mem} {w w' : World} {b cap : Nat} {c : Array Value} {te : TypeId} {l : List RZ} (n ops fails : Int) (down done : Bool) (hm : MemOK mu w) (hx : Ext (fun _ => False) w w') (hge : w.heap.size ≤ b) (hb : w'.heap[b]? = some (.cells c te (0, 0))) (hc : l.length ≤ cap) (hr : RowV mu c (ZL l)) :
    ∃ val mu', Ending.returned (.agg #[.slice (some ⟨b, 0, none⟩) l.length cap, .int .i64 n, .bool down, .int .i64 ops, .int .i64 fails, .bool done]) = .returned val ∧ Ext (fun _ => False) w w' ∧ mu.le mu' ∧ MemOK mu' w' ∧ (∀ b j, b < w.heap.size → mu' b j = mu b j) ∧ RetRep w.heap.size mu' w' (.sv (RDv.sv ⟨l, n, down, ops, fails, done⟩)) val := by
  have hm' : MemOK mu w' := fun b' j v hv => by
    obtain ⟨q1, q2⟩ := hm b' j v hv
    refine ⟨?_, q2⟩
    rw [← q1]
    exact World.cell?_of_block (hx.block b' (hm.lt hv) id)
  have hn : ∀ j, mu b j = none := fun j => by
    cases q : mu b j with
    | none => rfl
    | some v => have := hm.lt q; omega
  obtain ⟨k1, k2, k3, k4⟩ := memRow_spec hm' hb hn hr (ZL_nc l)
  rw [ZL_length] at k1 k2 k3 k4
  refine ⟨_, _, rfl, hx, k2, k1, fun b' j hlt => k3 b' j (by omega), fun _ => none, ?_, fun _ _ q => by cases q⟩
  exact .agg _ [.slice (some ⟨b, 0, none⟩) l.length cap, .int .i64 n, .bool down, .int .i64 ops, .int .i64 fails, .bool done] rfl (fun j hj => by
    match j, hj with
    | 0, _ => exact k4 cap hc
    | 1, _ => exact .int _ _
    | 2, _ => exact .bool _
    | 3, _ => exact .int _ _
    | 4, _ => exact .int _ _
    | 5, _ => exact .bool _)
theorem RowV.set {mu : Mem} {c : Array Value} {l : List RZ} (h : RowV mu c (ZL l)) {i : Nat} (hi : i < l.length) (x : RZ) {p : Option Addr} {n cu : Nat} (hx : Rep mu (bSV x.b) (.slice p n cu)) (hc : i * 3 + 2 < c.size) :
    RowV mu (((c.setIfInBounds (i * 3) (.slice p n cu)).setIfInBounds (i * 3 + 1) (.int .i64 x.lo)).setIfInBounds (i * 3 + 2) (.bool x.fin)) (ZL (l.set i x)) := by
  intro j q hj hq
  have hj' : j < l.length := by simpa using hj
  by_cases e : j = i
  · subst e
    have hg : (ZL (l.set j x)).getD j .undef = x.sv := by simp [ZL, List.getD_eq_getElem?_getD, hj']
    rw [hg]
    match q, hq with
    | 0, _ => exact ⟨.slice p n cu, by simp [Array.getElem?_setIfInBounds]; omega, rfl, hx⟩
    | 1, _ => exact ⟨.int .i64 x.lo, by simp [Array.getElem?_setIfInBounds]; omega, rfl, .int _ _⟩
    | 2, _ => exact ⟨.bool x.fin, by simp [Array.getElem?_setIfInBounds]; omega, rfl, .bool _⟩
  · have hg : (ZL (l.set i x)).getD j .undef = (ZL l).getD j .undef := by
      simp only [ZL, List.getD_eq_getElem?_getD, List.getElem?_map]
      rw [List.getElem?_set_ne (fun q => e q.symm)]
    rw [hg]
    obtain ⟨v, h1, h2, h3⟩ := h j q (by simpa using hj') hq
    refine ⟨v, ?_, h2, h3⟩
    rw [Array.getElem?_setIfInBounds_ne (by omega), Array.getElem?_setIfInBounds_ne (by omega), Array.getElem?_setIfInBounds_ne (by omega)]
    exact h1
theorem put_pure (d : RDv) (z : Nat) (x : RZ) (hz : z < d.z.length) (hl : d.z.length ≤ 1000) : Pure Try.prog 62 [d.sv, .int .i64 z, x.sv] (.sv (rput d z x).sv) := by
  intro mu w vs hm hra
  obtain ⟨y, a, b, rfl⟩ : ∃ y a b, vs = [y, a, b] := by
    match vs, hra.1 with
    | [y, a, b], _ => exact ⟨y, a, b, rfl⟩
  obtain ⟨v, rfl, hv⟩ := rep_dev (hra.2 0 (by simp))
  obtain rfl : a = .int .i64 z := Rep.inv_int (hra.2 1 (by simp))
  obtain ⟨p, n, cu, rfl, hu⟩ := rep_zn (show Rep mu x.sv b from hra.2 2 (by simp))
  refine (put_raw hm hv z (by simpa using hz) (by simpa using hl) d.n d.ops d.fails d.down d.done x.fin p n cu x.lo).mono ?_
  rintro e w' ⟨b, cap, c, rfl, hx, hge, hcap, hsz, hrow, hb⟩
  rw [ZL_length] at hcap
  have hc2 : z * 3 + 2 < c.size := by have : (z + 1) * 3 ≤ cap * 3 := Nat.mul_le_mul_right _ (by omega); omega
  have := ret_dev (l := d.z.set z x) d.n d.ops d.fails d.down d.done hm hx hge hb (by rw [List.length_set]; exact hcap) (hrow.set hz x hu hc2)
  rw [List.length_set] at this
  rw [ZL_length]
  exact this
end Go.Proofs.Ytifemhfpcichfaa

/- Zone: the document's functions. -/


set_option linter.unusedSimpArgs false
set_option linter.unusedVariables false
set_option maxHeartbeats 8000000
namespace Go.Proofs.Ytifemhfpcichfaa

open Go.Av

def rsta (n : Int) (z : RZ) : Int := if z.fin = true then 2 else if ((bl z.b).length : Int) = n then 2 else if (bl z.b).length = 0 then 0 else 1
def rstate (d : RDv) (z : Int) : Int := if z < 0 then 0 else if (d.z.length : Int) ≤ z then 0 else rsta d.n (d.z.getD z.toNat rz0)
theorem rstate_pure (d : RDv) (z : Int) : Pure Try.prog 64 [d.sv, .int .i64 z] (.sv (.int .i64 (rstate d z))) := by
  refine pure_go R0_ok Try.func64 Try.ntmps64 comp64 cres64 (by decide) (by simp [RDv.sv, RDv.cells]) ?_
  unfold rstate
  by_cases h1 : z < 0
  · simp [ac64, ar64, R0, RDv.sv, RDv.cells, h1]
  · by_cases h2 : (d.z.length : Int) ≤ z
    · simp [ac64, ar64, R0, RDv.sv, RDv.cells, h1, h2]
    · obtain ⟨i, rfl⟩ : ∃ i : Nat, z = i := ⟨z.toNat, by omega⟩
      have hi : i < d.z.length := by omega
      have hiz : (i : Int) < d.z.length := by omega
      have hg := ZL_get d.z hi
      have hiA : i < (ZL d.z).length := by simpa using hi
      have hg2 : (ZL d.z)[i] = (d.z.getD i rz0).sv := by rw [← hg, List.getElem?_eq_getElem hiA]; rfl
      rw [show ((i : Nat) : Int).toNat = i by omega]
      generalize d.z.getD i rz0 = r at *
      obtain ⟨b, lo, fin⟩ := r
      unfold rsta
      cases fin with
      | true =>
        cases b with
        | none => simp [ac64, ar64, R0, RDv.sv, RDv.cells, h1, h2, hg, hg2, hi, hiz, RZ.sv, RZ.cells, bSV]
        | some b => simp [ac64, ar64, R0, RDv.sv, RDv.cells, h1, h2, hg, hg2, hi, hiz, RZ.sv, RZ.cells, bSV]
      | false =>
        cases b with
        | none =>
          by_cases hn : (0 : Int) = d.n
          · have hn' : d.n = 0 := hn.symm
            simp [ac64, ar64, R0, RDv.sv, RDv.cells, h1, h2, hg, hg2, hi, hiz, RZ.sv, RZ.cells, bSV, bl, hn']
          · have hn' : ¬ d.n = 0 := fun q => hn q.symm
            simp [ac64, ar64, R0, RDv.sv, RDv.cells, h1, h2, hg, hg2, hi, hiz, RZ.sv, RZ.cells, bSV, bl, hn, hn']
        | some b =>
          by_cases hn : (b.length : Int) = d.n
          · simp [ac64, ar64, R0, RDv.sv, RDv.cells, h1, h2, hg, hg2, hi, hiz, RZ.sv, RZ.cells, bSV, bl, hn]
          · by_cases hb : b = []
            · subst hb
              have hn' : ¬ d.n = 0 := fun q => hn (by simpa using q.symm)
              simp [ac64, ar64, R0, RDv.sv, RDv.cells, h1, h2, hg, hg2, hi, hiz, RZ.sv, RZ.cells, bSV, bl, hn']
            · have hb0 : ¬ ((b.length : Int) = 0) := by
                intro q; apply hb; exact List.eq_nil_of_length_eq_zero (by omega)
              have hnb : ((b.length : Int) == d.n) = false := by simpa using hn
              simp [ac64, ar64, R0, RDv.sv, RDv.cells, h1, h2, hg, hg2, hi, hiz, RZ.sv, RZ.cells, bSV, bl, hn, hnb, hb, hb0]
def rstepD (d x : RDv) : RDv × Int :=
  if d.fails = 0 then (if d.done = true then ({ x with down := true, ops := IntKind.i64.wrap (d.ops + 1), fails := -1 }, 10) else ({ d with down := true, ops := IntKind.i64.wrap (d.ops + 1), fails := -1 }, 10))
  else ({ x with ops := IntKind.i64.wrap (d.ops + 1), fails := if 0 ≤ d.fails then IntKind.i64.wrap (d.fails - 1) else d.fails }, 0)
theorem wm1 : IntKind.i64.wrap (-1) = -1 := by rw [IntKind.wrap_i64]; omega
theorem rstep_pure (d x : RDv) : Pure Try.prog 59 [d.sv, x.sv] (.tup [.sv (rstepD d x).1.sv, .sv (.int .i64 (rstepD d x).2)]) := by
  refine pure_go R0_ok Try.func59 Try.ntmps59 comp59 cres59 (by decide) (by simp [RDv.sv, RDv.cells]) ?_
  unfold rstepD
  by_cases h0 : d.fails = 0
  · cases h1 : d.done with
    | true => simp [ac59, ar59, R0, RDv.sv, RDv.cells, h0, h1, wm1]
    | false => simp [ac59, ar59, R0, RDv.sv, RDv.cells, h0, h1, wm1]
  · have h0b : (d.fails == 0) = false := by simpa using h0
    by_cases h2 : 0 ≤ d.fails
    · simp [ac59, ar59, R0, RDv.sv, RDv.cells, h0, h0b, h2]
    · simp [ac59, ar59, R0, RDv.sv, RDv.cells, h0, h0b, h2]
end Go.Proofs.Ytifemhfpcichfaa

/- Zone: one oracle for what the document's functions call; safe, Opened. -/


set_option linter.unusedSimpArgs false
set_option linter.unusedVariables false
set_option maxHeartbeats 8000000
namespace Go.Proofs.Ytifemhfpcichfaa

open Go.Av

theorem bSV_inj (a b : Option (List ByteArray)) (h : bSV a = bSV b) : a = b := by
  cases a <;> cases b <;> simp [bSV] at h ⊢
  exact map_inj (fun x y e => by simpa using e) _ _ h
theorem RZ.sv_inj (a b : RZ) (h : a.sv = b.sv) : a = b := by
  cases a; cases b
  simp [RZ.sv, RZ.cells] at h
  simp [bSV_inj _ _ h.1, h.2.1, h.2.2]
theorem ZL_inj (a b : List RZ) (h : ZL a = ZL b) : a = b := map_inj RZ.sv_inj _ _ h
theorem RDv.sv_inj (a b : RDv) (h : a.sv = b.sv) : a = b := by
  cases a; cases b
  simp [RDv.sv, RDv.cells] at h
  simp [ZL_inj _ _ h.1, h.2.1, h.2.2.1, h.2.2.2.1, h.2.2.2.2.1, h.2.2.2.2.2]
def eD (d : RDv) : List SV := [d.sv]
theorem eD_inj (a b : RDv) (h : eD a = eD b) : a = b := by simp [eD] at h; exact RDv.sv_inj _ _ h
def eDI (p : RDv × Int) : List SV := [p.1.sv, .int .i64 p.2]
theorem eDI_inj (a b : RDv × Int) (h : eDI a = eDI b) : a = b := by simp [eDI] at h; exact Prod.ext (RDv.sv_inj _ _ h.1) h.2
def eDD (p : RDv × RDv) : List SV := [p.1.sv, p.2.sv]
theorem eDD_inj (a b : RDv × RDv) (h : eDD a = eDD b) : a = b := by simp [eDD] at h; exact Prod.ext (RDv.sv_inj _ _ h.1) (RDv.sv_inj _ _ h.2)
def ePut (p : RDv × Int × RZ) : List SV := [p.1.sv, .int .i64 p.2.1, p.2.2.sv]
theorem ePut_inj (a b : RDv × Int × RZ) (h : ePut a = ePut b) : a = b := by simp [ePut] at h; exact Prod.ext (RDv.sv_inj _ _ h.1) (Prod.ext h.2.1 (RZ.sv_inj _ _ h.2.2))
noncomputable def RzAp (f : FuncId) (l : List SV) : Option (Prop × LV) :=
  match f with
  | 61 => row eDI (fun p => (True, .sv (.int .i64 (rat p.1 p.2)))) l
  | 64 => row eDI (fun p => (True, .sv (.int .i64 (rstate p.1 p.2)))) l
  | 62 => row ePut (fun p => (0 ≤ p.2.1 ∧ p.2.1 < p.1.z.length ∧ p.1.z.length ≤ 1000, .sv (rput p.1 p.2.1.toNat p.2.2).sv)) l
  | 59 => row eDD (fun p => (True, .tup [.sv (rstepD p.1 p.2).1.sv, .sv (.int .i64 (rstepD p.1 p.2).2)])) l
  | _ => none
noncomputable def RzA : Orc := { p := RzAp }
theorem RzA_ok : RzA.ok Try.prog := by
  refine ⟨fun f l c rv h hc => ?_, fun _ _ _ _ _ _ h => (by cases h), fun _ _ _ _ h => (by cases h), fun f h => (by cases h), fun _ _ _ _ _ _ h => (by cases h), fun _ _ _ _ _ _ _ h => (by cases h)⟩
  change RzAp f l = _ at h
  unfold RzAp at h
  split at h
  · exact row_ok h hc (fun x _ => rat_pure x.1 x.2)
  · exact row_ok h hc (fun x _ => rstate_pure x.1 x.2)
  · refine row_ok h hc (fun x hp => ?_)
    obtain ⟨g, i, m⟩ := x
    obtain ⟨h2, h3, h4⟩ := hp
    simp only at h2 h3 h4
    have e : ((i.toNat : Nat) : Int) = i := Int.toNat_of_nonneg h2
    have := put_pure g i.toNat m (by omega) h4
    rw [e] at this; exact this
  · exact row_ok h hc (fun x _ => rstep_pure x.1 x.2)
  · cases h
theorem RzA_61 (l : List RZ) (n o f z : Int) (dn k : Bool) : RzA.p 61 [.agg [.sl 3 (ZL l), .int .i64 n, .bool dn, .int .i64 o, .int .i64 f, .bool k], .int .i64 z] = some (True, .sv (.int .i64 (rat ⟨l, n, dn, o, f, k⟩ z))) := row_eq eDI_inj _ (⟨l, n, dn, o, f, k⟩, z)
theorem RzA_64 (l : List RZ) (n o f z : Int) (dn k : Bool) : RzA.p 64 [.agg [.sl 3 (ZL l), .int .i64 n, .bool dn, .int .i64 o, .int .i64 f, .bool k], .int .i64 z] = some (True, .sv (.int .i64 (rstate ⟨l, n, dn, o, f, k⟩ z))) := row_eq eDI_inj _ (⟨l, n, dn, o, f, k⟩, z)
theorem RzA_62 (l : List RZ) (n o f z : Int) (dn k : Bool) (b : Option (List ByteArray)) (lo : Int) (fin : Bool) : RzA.p 62 [.agg [.sl 3 (ZL l), .int .i64 n, .bool dn, .int .i64 o, .int .i64 f, .bool k], .int .i64 z, .agg [bSV b, .int .i64 lo, .bool fin]] = some (0 ≤ z ∧ z < l.length ∧ l.length ≤ 1000, .sv (.agg [.sl 3 (ZL (l.set z.toNat ⟨b, lo, fin⟩)), .int .i64 n, .bool dn, .int .i64 o, .int .i64 f, .bool k])) := row_eq ePut_inj _ (⟨l, n, dn, o, f, k⟩, z, ⟨b, lo, fin⟩)
theorem RzA_nofz : RzA.nofz = false := rfl
/-- Opened. -/
def ropen (d : RDv) : Nat → Nat
  | 0 => 0
  | k + 1 => ropen d k + if rstate d k = 1 then 1 else 0
theorem ropen_le (d : RDv) : ∀ k, ropen d k ≤ k
  | 0 => by simp [ropen]
  | k + 1 => by have := ropen_le d k; simp only [ropen]; split <;> omega
theorem ropen_pure (d : RDv) (hl : d.z.length ≤ 1000) : Pure Try.prog 65 [d.sv] (.sv (.int .i64 (ropen d d.z.length))) := by
  refine pure_go RzA_ok Try.func65 Try.ntmps65 comp65 cres65 (by decide) (by simp [RDv.sv, RDv.cells]) ?_
  obtain ⟨l, n, dn, o, f, k⟩ := d
  simp only at *
  simp [ac65, ar65, RDv.sv, RDv.cells, RzA_nofz]
  refine awpR_loop (α := Nat) (fun i => i ≤ l.length) (fun i => { n := 19, sl := [(1, .lptr 1 0), (2, .sv (.int .i64 0)), (3, .sv (.int .i64 (ropen ⟨l, n, dn, o, f, k⟩ i))), (4, .sv (.int .i64 i))], bx := [(1, [.sv (.sl 3 (ZL l)), .sv (.int .i64 n), .sv (.bool dn), .sv (.int .i64 o), .sv (.int .i64 f), .sv (.bool k)])], hp := fun _ => none })
    (fun i => l.length - i) 0 (by omega) (by simp [ropen]) ?_
  intro i hi
  by_cases h : i < l.length
  · have h1 : (i : Int) < l.length := by omega
    have hw : IntKind.i64.wrap ((i : Int) + 1) = ((i + 1 : Nat) : Int) := by rw [IntKind.wrap_i64]; omega
    have hc := RzA_64 l n o f i dn k
    have hle := ropen_le ⟨l, n, dn, o, f, k⟩ i
    by_cases hs : rstate ⟨l, n, dn, o, f, k⟩ i = 1
    · have hw2 : IntKind.i64.wrap ((ropen ⟨l, n, dn, o, f, k⟩ i : Int) + 1) = ((ropen ⟨l, n, dn, o, f, k⟩ i + 1 : Nat) : Int) := by rw [IntKind.wrap_i64]; omega
      have hst : ropen ⟨l, n, dn, o, f, k⟩ (i + 1) = ropen ⟨l, n, dn, o, f, k⟩ i + 1 := by simp [ropen, hs]
      generalize ropen ⟨l, n, dn, o, f, k⟩ i = m at *
      simp [h1, hc, hs, hw, hw2, RzA_nofz]
      exact ⟨i + 1, by omega, by omega, by omega⟩
    · have hsb : (rstate ⟨l, n, dn, o, f, k⟩ i == 1) = false := by simpa using hs
      have hst : ropen ⟨l, n, dn, o, f, k⟩ (i + 1) = ropen ⟨l, n, dn, o, f, k⟩ i := by simp [ropen, hs]
      generalize ropen ⟨l, n, dn, o, f, k⟩ i = m at *
      simp [h1, hc, hs, hsb, hw, RzA_nofz]
      exact ⟨i + 1, by omega, by omega, by omega⟩
  · have h1 : ¬ (i : Int) < l.length := by omega
    obtain rfl : i = l.length := by omega
    simp [h1]
end Go.Proofs.Ytifemhfpcichfaa

/- Zone: safe, Flush, Reset, Finish, Fail, New of the document. -/

set_option linter.unusedSimpArgs false
set_option linter.unusedVariables false
set_option maxHeartbeats 8000000
namespace Go.Proofs.Ytifemhfpcichfaa

open Go.Av

theorem rat_cases (d : RDv) (z : Int) : (rat d z = 10) ∨ (rat d z = 11) ∨ (rat d z = 0 ∧ d.down = false ∧ 0 ≤ z ∧ z < d.z.length) := by
  unfold rat
  cases h : d.down with
  | true => simp
  | false =>
    by_cases h1 : z < 0 ∨ (d.z.length : Int) ≤ z
    · simp [h1]
    · right; right; simp [h1]; omega
def rfail (d : RDv) (a : Int) (b : Bool) : RDv × Int := if d.down = true then (d, 10) else if a < 0 then (d, 2) else ({ d with fails := a, done := b }, 0)
theorem rfail_pure (d : RDv) (a : Int) (b : Bool) : Pure Try.prog 40 [d.sv, .int .i64 a, .bool b] (.tup [.sv (rfail d a b).1.sv, .sv (.int .i64 (rfail d a b).2)]) := by
  refine pure_go R0_ok Try.func40 Try.ntmps40 comp40 cres40 (by decide) (by simp [RDv.sv, RDv.cells]) ?_
  unfold rfail
  cases h : d.down with
  | true => simp [ac40, ar40, R0, RDv.sv, RDv.cells, h]
  | false =>
    by_cases h1 : a < 0
    · simp [ac40, ar40, R0, RDv.sv, RDv.cells, h, h1]
    · simp [ac40, ar40, R0, RDv.sv, RDv.cells, h, h1]
def rreset (d : RDv) (z : Int) : RDv × Int := if rat d z ≠ 0 then (d, rat d z) else rstepD d (rput d z.toNat rz0)
theorem RzA_62n (l : List RZ) (n o f z : Int) (dn k : Bool) : RzA.p 62 [.agg [.sl 3 (ZL l), .int .i64 n, .bool dn, .int .i64 o, .int .i64 f, .bool k], .int .i64 z, .agg [.nils, .int .i64 0, .bool false]] = some (0 ≤ z ∧ z < l.length ∧ l.length ≤ 1000, .sv (.agg [.sl 3 (ZL (l.set z.toNat rz0)), .int .i64 n, .bool dn, .int .i64 o, .int .i64 f, .bool k])) := RzA_62 l n o f z dn k none 0 false
theorem RzA_59 (l m : List RZ) (n o f n' o' f' : Int) (dn k dn' k' : Bool) : RzA.p 59 [.agg [.sl 3 (ZL l), .int .i64 n, .bool dn, .int .i64 o, .int .i64 f, .bool k], .agg [.sl 3 (ZL m), .int .i64 n', .bool dn', .int .i64 o', .int .i64 f', .bool k']] = some (True, .tup [.sv (.agg (rstepD ⟨l, n, dn, o, f, k⟩ ⟨m, n', dn', o', f', k'⟩).1.cells), .sv (.int .i64 (rstepD ⟨l, n, dn, o, f, k⟩ ⟨m, n', dn', o', f', k'⟩).2)]) := row_eq eDD_inj _ (⟨l, n, dn, o, f, k⟩, ⟨m, n', dn', o', f', k'⟩)
theorem rreset_pure (d : RDv) (z : Int) (hl : d.z.length ≤ 1000) : Pure Try.prog 37 [d.sv, .int .i64 z] (.tup [.sv (rreset d z).1.sv, .sv (.int .i64 (rreset d z).2)]) := by
  refine pure_go RzA_ok Try.func37 Try.ntmps37 comp37 cres37 (by decide) (by simp [RDv.sv, RDv.cells]) ?_
  obtain ⟨l, n, dn, o, f, k⟩ := d
  simp only at hl
  unfold rreset
  have h61 := RzA_61 l n o f z dn k
  rcases rat_cases ⟨l, n, dn, o, f, k⟩ z with h | h | ⟨h, h1, h2, h3⟩
  · rw [h] at h61
    simp [ac37, ar37, RDv.sv, RDv.cells, h, h61, RzA_nofz]
  · rw [h] at h61
    simp [ac37, ar37, RDv.sv, RDv.cells, h, h61, RzA_nofz]
  · rw [h] at h61
    simp only at h1 h3
    have h62 := RzA_62n l n o f z dn k
    have h59 := RzA_59 l (l.set z.toNat rz0) n o f n o f dn k dn k
    simp only [rput]
    generalize rstepD ⟨l, n, dn, o, f, k⟩ ⟨l.set z.toNat rz0, n, dn, o, f, k⟩ = r at *
    obtain ⟨⟨l', n', dn', o', f', k'⟩, e⟩ := r
    simp only [RDv.cells] at h59
    simp [ac37, ar37, RDv.sv, RDv.cells, h, h61, h62, h59, h2, h3, hl, RzA_nofz]
end Go.Proofs.Ytifemhfpcichfaa

/- Zone: Finish, safe, Flush, New of the document. -/

set_option linter.unusedSimpArgs false
set_option linter.unusedVariables false
set_option maxHeartbeats 8000000
namespace Go.Proofs.Ytifemhfpcichfaa

open Go.Av

theorem bSV_cases (l : Option (List ByteArray)) : bSV l = .nils ∨ ∃ xs, bSV l = .sl 1 xs := by
  cases l with
  | none => exact .inl rfl
  | some l => exact .inr ⟨_, rfl⟩
def rfinish (d : RDv) (z : Int) : RDv × Int := if rat d z ≠ 0 then (d, rat d z) else rstepD d (rput d z.toNat ⟨(d.z.getD z.toNat rz0).b, (d.z.getD z.toNat rz0).lo, true⟩)
theorem rfinish_pure (d : RDv) (z : Int) (hl : d.z.length ≤ 1000) : Pure Try.prog 38 [d.sv, .int .i64 z] (.tup [.sv (rfinish d z).1.sv, .sv (.int .i64 (rfinish d z).2)]) := by
  refine pure_go RzA_ok Try.func38 Try.ntmps38 comp38 cres38 (by decide) (by simp [RDv.sv, RDv.cells]) ?_
  obtain ⟨l, n, dn, o, f, k⟩ := d
  simp only at hl
  unfold rfinish
  have h61 := RzA_61 l n o f z dn k
  rcases rat_cases ⟨l, n, dn, o, f, k⟩ z with h | h | ⟨h, h1, h2, h3⟩
  · rw [h] at h61
    simp [ac38, ar38, RDv.sv, RDv.cells, h, h61, RzA_nofz]
  · rw [h] at h61
    simp [ac38, ar38, RDv.sv, RDv.cells, h, h61, RzA_nofz]
  · rw [h] at h61
    simp only at h1 h3
    obtain ⟨i, rfl⟩ : ∃ i : Nat, z = i := ⟨z.toNat, by omega⟩
    have hi : i < l.length := by omega
    rw [show ((i : Nat) : Int).toNat = i by omega]
    have hg := ZL_get l hi
    have hiA : i < (ZL l).length := by simpa using hi
    have hg2 : (ZL l)[i] = (l.getD i rz0).sv := by rw [← hg, List.getElem?_eq_getElem hiA]; rfl
    generalize l.getD i rz0 = r at *
    obtain ⟨b, lo, fin⟩ := r
    have h62 := RzA_62 l n o f i dn k b lo true
    rw [show ((i : Nat) : Int).toNat = i by omega] at h62
    have h59 := RzA_59 l (l.set i ⟨b, lo, true⟩) n o f n o f dn k dn k
    simp only [rput]
    generalize rstepD ⟨l, n, dn, o, f, k⟩ ⟨l.set i ⟨b, lo, true⟩, n, dn, o, f, k⟩ = r at *
    obtain ⟨⟨l', n', dn', o', f', k'⟩, e⟩ := r
    simp only [RDv.cells] at h59
    rcases bSV_cases b with e1 | ⟨xs, e1⟩
    · rw [e1] at h62
      simp [ac38, ar38, RDv.sv, RDv.cells, h, h61, h62, h59, h2, h3, hl, hi, hg, hg2, RZ.sv, RZ.cells, e1, RzA_nofz]
    · rw [e1] at h62
      simp [ac38, ar38, RDv.sv, RDv.cells, h, h61, h62, h59, h2, h3, hl, hi, hg, hg2, RZ.sv, RZ.cells, e1, RzA_nofz]
def rsz (z : RZ) : RZ := ⟨z.b, 0, z.fin⟩
def rsafeTo (l : List RZ) (k : Nat) : List RZ := (l.take k).map rsz ++ l.drop k
theorem rsafeTo_len (l : List RZ) (k : Nat) : (rsafeTo l k).length = l.length := by simp [rsafeTo]; omega
theorem rsafeTo_get (l : List RZ) {k : Nat} (hk : k < l.length) : (rsafeTo l k).getD k rz0 = l.getD k rz0 := by
  unfold rsafeTo
  rw [List.getD_eq_getElem?_getD, List.getElem?_append_right (by simp; omega)]
  simp [Nat.min_eq_left (Nat.le_of_lt hk), List.getD_eq_getElem?_getD]
theorem rsafeTo_set (l : List RZ) {k : Nat} (hk : k < l.length) : (rsafeTo l k).set k (rsz (l.getD k rz0)) = rsafeTo l (k + 1) := by
  unfold rsafeTo
  have h1 : ((l.take k).map rsz).length = k := by simp; omega
  rw [List.set_append_right _ _ (by omega), h1, Nat.sub_self, List.drop_eq_getElem_cons hk, List.set_cons_zero, List.take_succ_eq_append_getElem hk, List.map_append, List.append_assoc]
  simp [List.getD_eq_getElem?_getD, List.getElem?_eq_getElem hk]
theorem rsafeTo_end (l : List RZ) : rsafeTo l l.length = l.map rsz := by simp [rsafeTo]
def rsafeD (d : RDv) : RDv := { d with z := d.z.map rsz }
theorem rsafe_pure (d : RDv) (hl : d.z.length ≤ 1000) : Pure Try.prog 60 [d.sv] (.sv (rsafeD d).sv) := by
  refine pure_go RzA_ok Try.func60 Try.ntmps60 comp60 cres60 (by decide) (by simp [RDv.sv, RDv.cells]) ?_
  obtain ⟨l, n, dn, o, f, k⟩ := d
  simp only at *
  simp [ac60, ar60, RDv.sv, RDv.cells, RzA_nofz]
  refine awpR_loop (α := Nat) (fun i => i ≤ l.length) (fun i => { n := 23, sl := [(1, .lptr 1 0), (2, .lptr 2 0), (3, .sv (.int .i64 i))], bx := [(1, [.sv (.sl 3 (ZL (rsafeTo l i))), .sv (.int .i64 n), .sv (.bool dn), .sv (.int .i64 o), .sv (.int .i64 f), .sv (.bool k)]), (2, [.sv .nils, .sv (.int .i64 0), .sv (.bool false), .sv (.int .i64 0), .sv (.int .i64 0), .sv (.bool false)])], hp := fun _ => none })
    (fun i => l.length - i) 0 (by omega) (by simp [rsafeTo]) ?_
  intro i hi
  have hlen := rsafeTo_len l i
  by_cases h : i < l.length
  · have h1 : (i : Int) < l.length := by omega
    have hw : IntKind.i64.wrap ((i : Int) + 1) = ((i + 1 : Nat) : Int) := by rw [IntKind.wrap_i64]; omega
    have hi2 : i < (rsafeTo l i).length := by omega
    have hg := ZL_get (rsafeTo l i) hi2
    have hiA : i < (ZL (rsafeTo l i)).length := by simpa using hi2
    rw [rsafeTo_get l h] at hg
    have hg2 : (ZL (rsafeTo l i))[i] = (l.getD i rz0).sv := by rw [← hg, List.getElem?_eq_getElem hiA]; rfl
    have hs := rsafeTo_set l h
    generalize l.getD i rz0 = r at *
    obtain ⟨b, lo, fin⟩ := r
    have h62 := RzA_62 (rsafeTo l i) n o f i dn k b 0 fin
    rw [show ((i : Nat) : Int).toNat = i by omega, show (rsafeTo l i).set i ⟨b, 0, fin⟩ = rsafeTo l (i + 1) from hs, hlen] at h62
    rcases bSV_cases b with e1 | ⟨xs, e1⟩
    · rw [e1] at h62
      simp [h1, h, hlen, hg, hg2, hl, RZ.sv, RZ.cells, e1, h62, hw, RzA_nofz]
      exact ⟨i + 1, by omega, by omega, by simp, rfl⟩
    · rw [e1] at h62
      simp [h1, h, hlen, hg, hg2, hl, RZ.sv, RZ.cells, e1, h62, hw, RzA_nofz]
      exact ⟨i + 1, by omega, by omega, by simp, rfl⟩
  · have h1 : ¬ (i : Int) < l.length := by omega
    obtain rfl : i = l.length := by omega
    have he := rsafeTo_end l
    simp [h1, hlen, he, rsafeD]
end Go.Proofs.Ytifemhfpcichfaa

/- Zone: Flush, New, next of the document. -/

set_option linter.unusedSimpArgs false
set_option linter.unusedVariables false
set_option maxHeartbeats 8000000
namespace Go.Proofs.Ytifemhfpcichfaa

open Go.Av

/-- A fate: nothing, or bytes. -/
def FL (l : List UInt8) : List SV := l.map fun b => SV.int .u8 b.toNat
@[simp] theorem FL_length (l : List UInt8) : (FL l).length = l.length := by simp [FL]
def fSV : Option (List UInt8) → SV
  | none => .nils
  | some l => .sl 1 (FL l)
theorem FL_inj (a b : List UInt8) (h : FL a = FL b) : a = b := map_inj (fun x y e => by simp at e; exact UInt8.toNat_inj.1 (by omega)) _ _ h
theorem fSV_inj (a b : Option (List UInt8)) (h : fSV a = fSV b) : a = b := by
  cases a <;> cases b <;> simp [fSV] at h ⊢
  exact FL_inj _ _ h
def rnxt : Option (List UInt8) → Int × Option (List UInt8)
  | some (b :: r) => (b.toNat, some r)
  | _ => (0, none)
theorem rnext_pure (f : Option (List UInt8)) : Pure Try.prog 63 [fSV f] (.tup [.sv (.int .i64 (rnxt f).1), .sv (fSV (rnxt f).2)]) := by
  cases f with
  | none =>
    refine pure_go R0_ok Try.func63 Try.ntmps63 comp63 cres63 (by decide) (by simp [fSV]) ?_
    simp [ac63, ar63, R0, fSV, rnxt]
  | some l =>
    cases l with
    | nil =>
      refine pure_go R0_ok Try.func63 Try.ntmps63 comp63 cres63 (by decide) (by simp [fSV]) ?_
      simp [ac63, ar63, R0, fSV, rnxt, FL]
    | cons b r =>
      refine pure_go R0_ok Try.func63 Try.ntmps63 comp63 cres63 (by decide) (by simp [fSV]) ?_
      have hb := b.toNat_lt
      have hw : IntKind.i64.wrap (b.toNat : Int) = b.toNat := by rw [IntKind.wrap_i64]; omega
      have h1 : ¬ ((r.length : Int) + 1 = 0) := by omega
      have h2 : (((r.length : Int) + 1) == 0) = false := by simpa using h1
      have h3 : (0 : Int) < (r.length : Int) + 1 := by omega
      have h4 : (1 : Int) ≤ (r.length : Int) + 1 := by omega
      simp [ac63, ar63, R0, fSV, rnxt, FL, hw, h1, h2, h3, h4]
      exact List.take_of_length_le (by simp)
def eF (f : Option (List UInt8)) : List SV := [fSV f]
theorem eF_inj (a b : Option (List UInt8)) (h : eF a = eF b) : a = b := by simp [eF] at h; exact fSV_inj _ _ h
noncomputable def RzBp (f : FuncId) (l : List SV) : Option (Prop × LV) :=
  match f with
  | 60 => row eD (fun d => (d.z.length ≤ 1000, .sv (rsafeD d).sv)) l
  | 65 => row eD (fun d => (d.z.length ≤ 1000, .sv (.int .i64 (ropen d d.z.length)))) l
  | 63 => row eF (fun f => (True, .tup [.sv (.int .i64 (rnxt f).1), .sv (fSV (rnxt f).2)])) l
  | f => RzAp f l
noncomputable def RzB : Orc := { p := RzBp }
theorem RzB_ok : RzB.ok Try.prog := by
  refine ⟨fun f l c rv h hc => ?_, fun _ _ _ _ _ _ h => (by cases h), fun _ _ _ _ h => (by cases h), fun f h => (by cases h), fun _ _ _ _ _ _ h => (by cases h), fun _ _ _ _ _ _ _ h => (by cases h)⟩
  change RzBp f l = _ at h
  unfold RzBp at h
  split at h
  · exact row_ok h hc (fun x hp => rsafe_pure x hp)
  · exact row_ok h hc (fun x hp => ropen_pure x hp)
  · exact row_ok h hc (fun x _ => rnext_pure x)
  · exact RzA_ok.1 _ _ _ _ h hc
theorem RzB_60 (l : List RZ) (n o f : Int) (dn k : Bool) : RzB.p 60 [.agg [.sl 3 (ZL l), .int .i64 n, .bool dn, .int .i64 o, .int .i64 f, .bool k]] = some (l.length ≤ 1000, .sv (.agg [.sl 3 (ZL (l.map rsz)), .int .i64 n, .bool dn, .int .i64 o, .int .i64 f, .bool k])) := row_eq eD_inj _ (⟨l, n, dn, o, f, k⟩)
theorem RzB_65 (l : List RZ) (n o f : Int) (dn k : Bool) : RzB.p 65 [.agg [.sl 3 (ZL l), .int .i64 n, .bool dn, .int .i64 o, .int .i64 f, .bool k]] = some (l.length ≤ 1000, .sv (.int .i64 (ropen ⟨l, n, dn, o, f, k⟩ l.length))) := row_eq eD_inj _ (⟨l, n, dn, o, f, k⟩)
theorem RzB_63 (f : Option (List UInt8)) : RzB.p 63 [fSV f] = some (True, .tup [.sv (.int .i64 (rnxt f).1), .sv (fSV (rnxt f).2)]) := row_eq eF_inj _ f
theorem RzB_59 (l : List SV) : RzB.p 59 l = RzA.p 59 l := rfl
theorem RzB_61 (l : List SV) : RzB.p 61 l = RzA.p 61 l := rfl
theorem RzB_62 (l : List SV) : RzB.p 62 l = RzA.p 62 l := rfl
theorem RzB_64 (l : List SV) : RzB.p 64 l = RzA.p 64 l := rfl
theorem RzB_nofz : RzB.nofz = false := rfl
def rflush (d : RDv) : RDv × Int := if d.down = true then (d, 10) else rstepD d (rsafeD d)
theorem rflush_pure (d : RDv) (hl : d.z.length ≤ 1000) : Pure Try.prog 36 [d.sv] (.tup [.sv (rflush d).1.sv, .sv (.int .i64 (rflush d).2)]) := by
  refine pure_go RzB_ok Try.func36 Try.ntmps36 comp36 cres36 (by decide) (by simp [RDv.sv, RDv.cells]) ?_
  obtain ⟨l, n, dn, o, f, k⟩ := d
  simp only at hl
  unfold rflush
  cases dn with
  | true => simp [ac36, ar36, RDv.sv, RDv.cells, RzB_nofz]
  | false =>
    have h60 := RzB_60 l n o f false k
    have h59 := RzA_59 l (l.map rsz) n o f n o f false k false k
    simp only [rsafeD]
    generalize rstepD ⟨l, n, false, o, f, k⟩ ⟨l.map rsz, n, false, o, f, k⟩ = r at *
    obtain ⟨⟨l', n', dn', o', f', k'⟩, e⟩ := r
    simp only [RDv.cells] at h59
    simp [ac36, ar36, RDv.sv, RDv.cells, h60, RzB_59, h59, hl, RzB_nofz]
end Go.Proofs.Ytifemhfpcichfaa

/- Zone: safe, cut. -/

set_option linter.unusedSimpArgs false
set_option linter.unusedVariables false
set_option maxHeartbeats 4000000
set_option maxRecDepth 1000000
namespace Go.Proofs.Ytifemhfpcichfaa
open Go.RowKit
open Go.Av

/-- Where the same device lies behind a call. -/
def EffD (q : Dp) (w w' : World) (d' : Dv) : Prop := DevAt w' q d' ∧ Ext (EQ q) w w'
theorem EffD.refl {q : Dp} {w : World} {d : Dv} (h : DevAt w q d) : EffD q w w d := ⟨h, Ext.refl _ _⟩
theorem EffD.trans {q : Dp} {a b c : World} {d d' : Dv} (h : EffD q a b d) (k : EffD q b c d') : EffD q a c d' := ⟨k.1, h.2.trans k.2⟩
def safeZ (z : Zn) : Zn := ⟨z.wr, 0, z.fin⟩
def safeD (d : Dv) : Dv := { d with zs := d.zs.map safeZ }
def safeTo (l : List Zn) (k : Nat) : List Zn := (l.take k).map safeZ ++ l.drop k
theorem safeTo_len (l : List Zn) (k : Nat) : (safeTo l k).length = l.length := by simp [safeTo]; omega
theorem safeTo_get (l : List Zn) {k : Nat} (hk : k < l.length) : (safeTo l k).getD k z0 = l.getD k z0 := by
  unfold safeTo
  rw [List.getD_eq_getElem?_getD, List.getElem?_append_right (by simp; omega)]
  simp [Nat.min_eq_left (Nat.le_of_lt hk), List.getD_eq_getElem?_getD]
theorem safeTo_set (l : List Zn) {k : Nat} (hk : k < l.length) : (safeTo l k).set k (safeZ (l.getD k z0)) = safeTo l (k + 1) := by
  unfold safeTo
  have h1 : ((l.take k).map safeZ).length = k := by simp; omega
  rw [List.set_append_right _ _ (by omega), h1, Nat.sub_self, List.drop_eq_getElem_cons hk, List.set_cons_zero, List.take_succ_eq_append_getElem hk, List.map_append, List.append_assoc]
  simp [List.getD_eq_getElem?_getD, List.getElem?_eq_getElem hk]
theorem safeTo_end (l : List Zn) : safeTo l l.length = l.map safeZ := by simp [safeTo]
theorem safe_raw {w : World} {q : Dp} {d : Dv} (h : DevAt w q d) : Calls Try.prog 45 #[.pointer (some ⟨q.p, 0, none⟩)] w fun e w' => e = .returned (.tuple #[]) ∧ EffD q w w' (safeD d) := by
  have HD := asideI h
  obtain ⟨⟨a0, a1, a2, a3, a4, a5, a6⟩, b0, b1, b2, b3, b4, b5, b6⟩ := h.cells
  have hlen := h.len
  clear h
  go_enter Try.func45, Try.ntmps45
  go_wp2
  go_loopg [8] d.zs.length (fun gg s8 wr => ∃ (k : Nat), s8 = .int .i64 k ∧ k ≤ d.zs.length ∧ d.zs.length - k ≤ gg ∧ Aside (EffD q w wr { d with zs := safeTo d.zs k }))
  case atStart => exact ⟨0, rfl, by omega, by omega, (show EffD q w w { d with zs := safeTo d.zs 0 } from by rw [show safeTo d.zs 0 = d.zs by simp [safeTo]]; exact EffD.refl HD.out)⟩
  case round =>
    obtain ⟨k, rfl, hk, hgg, H2⟩ := hrel
    clear a0 a1 a2 a3 a4 a5 a6 b0 b1 b2 b3 b4 b5 b6
    by_cases hlt : k < d.zs.length
    · have hltz : (k : Int) < (d.zs.length : Int) := by omega
      have hw : IntKind.i64.wrap ((k : Int) + 1) = (k : Int) + 1 := by rw [IntKind.wrap_i64]; omega
      obtain ⟨⟨a0, a1, a2, a3, a4, a5, a6⟩, b0, b1, b2, b3, b4, b5, b6⟩ := H2.out.1.cells
      obtain ⟨⟨c0, c1, c2⟩, e0, e1, e2⟩ := H2.out.1.zcells (i := k) (by simpa [safeTo_len] using hlt)
      simp only [safeTo_len, safeTo_get d.zs hlt] at a0 c0 c1 c2
      go_wp2
      go_roundg (d.zs.length - (k + 1))
      case measure => omega
      case rel =>
        refine ⟨k + 1, by simp, by omega, by omega, ?_, extQ_set H2.out.2 (.inl (.inr (.inl rfl))) _ _⟩
        have := H2.out.1.setZ (i := k) (k := 1) (by simpa [safeTo_len] using hlt) (by omega) (.int .i64 0) (safeZ (d.zs.getD k z0)) (by simp only [safeTo_get d.zs hlt]; rfl)
        simpa only [safeTo_set d.zs hlt] using this
    · obtain rfl : k = d.zs.length := by omega
      go_wp2
      go_end0
      refine ⟨rfl, ?_⟩
      have := H2.out
      rw [safeTo_end] at this
      exact this
end Go.Proofs.Ytifemhfpcichfaa

/- Zone: a place as a key. -/

set_option linter.unusedSimpArgs false
set_option linter.unusedVariables false
set_option maxHeartbeats 4000000
set_option maxRecDepth 1000000
namespace Go.Proofs.Ytifemhfpcichfaa
open Go.RowKit
open Go.Av Go.Maps

theorem row88 : 88 < Try.prog.types.size := by decide +kernel
theorem wide88 : (match Try.prog.underlying 88 with | some (.array _ _) | some (.struct _) => true | _ => false) = true := by kernel_rfl
theorem laidOut : laidOutB Try.prog = true := by decide +kernel
theorem K88 : Keyed Try.prog 88 := Keyed.of_law (deep_law_laid laidOut (m := 3) (by omega) row88 (by kernel_rfl) wide88)
noncomputable def F88 : Array Field := match Try.prog.underlying 88 with | some (.struct fs) => fs | _ => #[]
theorem und88 : Try.prog.underlying 88 = some (.struct #[F88[0]!, F88[1]!]) := by kernel_rfl
theorem f88a : F88[0]!.type = 3 ∧ F88[0]!.offset = 0 ∧ (F88[0]!.name != "_") = true := ⟨by kernel_rfl, by kernel_rfl, by kernel_rfl⟩
theorem f88b : F88[1]!.type = 3 ∧ F88[1]!.offset = 1 ∧ (F88[1]!.name != "_") = true := ⟨by kernel_rfl, by kernel_rfl, by kernel_rfl⟩
theorem und3 : Try.prog.underlying 3 = some (.int .i64) := by kernel_rfl
theorem cells88 : Try.prog.cellsOf 88 = 2 := by kernel_rfl
theorem cells3 : Try.prog.cellsOf 3 = 1 := by kernel_rfl
theorem kt88 : Try.prog.keyType 88 = true := by kernel_rfl
def kv (a b : Int) : Value := .agg #[.int .i64 a, .int .i64 b]
def I64 (n : Int) : Prop := -9223372036854775808 ≤ n ∧ n < 9223372036854775808
theorem i64_wf {n : Int} (h : I64 n) : (Lit.int .i64 n).wf = true := by
  simp [Lit.wf, IntKind.min, IntKind.max, IntKind.signed, IntKind.bits]
  exact ⟨by have := h.1; omega, by have := h.2; omega⟩
def kl (a b : Int) : Lit := .string (keyBytes [.int .i64 a, .int .i64 b])
theorem key88 {a b : Int} (ha : I64 a) (hb : I64 b) : keyOf Try.prog 88 (kv a b) = some (kl a b) := by
  obtain ⟨n, hn⟩ : ∃ n, Try.prog.types.size + 1 = n + 1 + 1 := ⟨Try.prog.types.size - 1, by have := row88; omega⟩
  have h3 : ∀ (m : Nat) (x : Int), I64 x → Try.prog.keyLits (m + 1) 3 [.int .i64 x] = some [.int .i64 x] := fun m x hx => by
    simp [Program.keyLits, und3, i64_wf hx]
  obtain ⟨t1, o1, n1⟩ := f88a
  obtain ⟨t2, o2, n2⟩ := f88b
  have n1' : F88[0]!.name ≠ "_" := by simpa using n1
  have n2' : F88[1]!.name ≠ "_" := by simpa using n2
  have hl : Try.prog.keyLits (n + 1 + 1) 88 [.int .i64 a, .int .i64 b] = some [.int .i64 a, .int .i64 b] := by
    unfold Program.keyLits
    simp only [und88]
    simp [cells88, cells3, t1, t2, o1, o2, h3 _ _ ha, h3 _ _ hb, n1', n2']
  have hf : (kv a b).formed Try.prog 88 = true := by simp [Value.formed, und88, cells88, kv]
  unfold keyOf
  rw [und88]
  simp only [kt88, hf, Bool.and_self, if_true, hn]
  show (Try.prog.keyLits (n + 1 + 1) 88 [.int .i64 a, .int .i64 b]).map _ = _
  rw [hl]
  rfl
theorem kl_inj {a b a' b' : Int} (ha : I64 a) (hb : I64 b) (ha' : I64 a') (hb' : I64 b') (h : kl a b = kl a' b') : a = a' ∧ b = b' := by
  have h1 := key88 ha hb
  have h2 := key88 ha' hb'
  rw [h] at h1
  have := K88.inj h1 h2
  simpa [kv] using this
theorem kl_key (a b : Int) : WideAt.IsKeyLit (kl a b) := trivial
end Go.Proofs.Ytifemhfpcichfaa
