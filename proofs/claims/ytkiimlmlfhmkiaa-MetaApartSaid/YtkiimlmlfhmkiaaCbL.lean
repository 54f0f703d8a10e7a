import Derived.Test.YtkiimlmlfhmkiaaCbK
import Derived.Test.YtkiimlmlfhmkiaaAvRg
import Derived.Lib.SlKept
import Derived.Lib.SliceRun
import Derived.Shelf.RegionOpenPlain
import Derived.WalkKit
import Derived.Deep.LoopGhost
import Derived.Deep.Draws
import Derived.Lib.Walk
import Derived.Sort.WalkB12

set_option linter.unusedSimpArgs false
set_option linter.unusedVariables false
set_option maxRecDepth 100000
set_option maxHeartbeats 4000000
open Go.RowKit Go.Lib Go.Sort
namespace Go.Proofs.Ytkiimlmlfhmkiaa
open Go.Av

instance : Inhabited Rec := ⟨rec0⟩
def encL (r : Rec) : List Value := [.int .i64 r.dl, .int .i64 r.tm, .bool r.kd, .string r.key, .bool r.dd, .string r.val]
def RowR (c : Array Value) (off : Nat) (dk : Array Rec) : Prop := ∀ m, m < dk.size → ∀ q, q < 6 → c[off + m * 6 + q]? = some ((encL dk[m]!).getD q Go.undef)

theorem zeroCells_spec (cs : Array Value) (n : Nat) (h : ∀ v ∈ cs, v.oneCell' = true) (hcs : 0 < cs.size) : (Builtin.zeroCells cs n).toList.length = n * cs.size ∧ ∀ v ∈ (Builtin.zeroCells cs n).toList, v.oneCell' = true := by
  refine ⟨by simp [Builtin.zeroCells], fun v hv => ?_⟩
  simp only [Builtin.zeroCells, Array.toList_map, List.mem_map] at hv
  obtain ⟨i, _, rfl⟩ := hv
  have hlt : i % cs.size < cs.size := Nat.mod_lt _ hcs
  rw [getElem!_pos cs _ hlt]
  exact h _ (Array.getElem_mem hlt)
theorem run_clear_k {P : Program} (w : World) (t e ty : TypeId) (z : Value) (ht : P.underlying t = some (.slice e)) (hv : ∀ w, (zeroValue e).run P w = .ok z w) (h1 : ∀ v ∈ z.cells, v.oneCell' = true) (hz : 0 < z.cells.size) (b o n cap : Nat) (hn : 0 < n)
    {c : Array Value} {te : TypeId} {fr : Nat × Nat} (hb : w.heap[b]? = some (.cells c te fr)) (hf : Unfrozen c fr) (hle : o + n * z.cells.size ≤ c.size) :
    (Builtin.clear_ #[t] ty #[.slice (some ⟨b, o, none⟩) n cap]).run P w = .ok (.tuple #[]) (w.setCells b o (Builtin.zeroCells z.cells n).toList) := by
  obtain ⟨e1, e2⟩ := zeroCells_spec z.cells n h1 hz
  have hst := (setCells_at (P := P) (o := o) (vs := (Builtin.zeroCells z.cells n).toList) hb hf (by rw [e1]; exact hle) e2).1
  obtain ⟨m, rfl⟩ : ∃ m, n = m + 1 := ⟨n - 1, by omega⟩
  simp [Builtin.clear_, run_underlying ht, hv, hst]
theorem RowR.set {c c2 : Array Value} {off i : Nat} {dk : Array Rec} {r : Rec} (h : RowR c off dk) (hi : i < dk.size) (hsz : c2.size = c.size) (hget : ∀ j, c2.getD j Go.undef = if off + i * 6 ≤ j ∧ j < off + i * 6 + (encL r).length then (encL r).getD (j - (off + i * 6)) Go.undef else c.getD j Go.undef) :
    RowR c2 off (dk.setIfInBounds i r) := by
  intro m hm q hq
  rw [Array.size_setIfInBounds] at hm
  have hold := h m hm q hq
  have hlt : off + m * 6 + q < c.size := (Array.getElem?_eq_some_iff.1 hold).1
  have hg := hget (off + m * 6 + q)
  have e0 : c2[off + m * 6 + q]? = some (c2.getD (off + m * 6 + q) Go.undef) := by
    rw [Array.getD_eq_getD_getElem?, Array.getElem?_eq_getElem (by omega)]; rfl
  have hlen : (encL r).length = 6 := rfl
  rw [e0, hg]
  by_cases e : m = i
  · subst e
    rw [if_pos (by omega), getElem!_set_same dk m r hi]
    congr 2; omega
  · have : ¬ (off + i * 6 ≤ off + m * 6 + q ∧ off + m * 6 + q < off + i * 6 + (encL r).length) := by
      rw [hlen]
      rcases Nat.lt_or_ge m i with z | z <;> omega
    rw [if_neg this, getElem!_set_other dk i m r e, Array.getD_eq_getD_getElem?, hold]
    rfl
theorem del_raw (pf : FuncId) (lb : Array Value) (p : Rec → Bool) (eg : ∀ args w, (callFunc pf args).run Try.prog w = .ok (.enter pf args) w) (mu : Mem) (hcall : ∀ (W : World) (r : Rec), MemOK mu W → Calls Try.prog pf (#[.agg (encL r).toArray] ++ lb) W fun e' w' => e' = .returned (.bool (p r)) ∧ Ext (fun _ => False) W w' ∧ MemOK mu w')
    (d : Array Rec) (hl : d.size ≤ 1000) (w : World) (blk off cap : Nat) (c : Array Value) (e : TypeId) (fr : Nat × Nat) (hm : MemOK mu w) (hmu : ∀ j, mu blk j = none) (hb : w.heap[blk]? = some (.cells c e fr)) (hfr : Unfrozen c fr)
    (hcap : d.size ≤ cap) (hsz : off + cap * 6 ≤ c.size) (hrow : RowR c off d)
    (hIF : Calls Try.prog 101 #[.slice (some ⟨blk, off, none⟩) d.size cap, .func (.func pf) #[] lb] w fun e' w' => e' = .returned (.int .i64 (idxP p d.toList 0)) ∧ Ext (fun _ => False) w w' ∧ MemOK mu w') :
    Calls Try.prog 83 #[.slice (some ⟨blk, off, none⟩) d.size cap, .func (.func pf) #[] lb] w fun e' w' => e' = .returned (.slice (some ⟨blk, off, none⟩) (d.toList.filter fun r => !p r).length cap) ∧ Ext (fun k => k = blk) w w' ∧ MemOK mu w' ∧
      ∃ c' fr', w'.heap[blk]? = some (.cells c' e fr') ∧ Unfrozen c' fr' ∧ c'.size = c.size ∧ RowR c' off (d.toList.filter fun r => !p r).toArray := by
  rcases idxP_spec p d.toList 0 with ⟨h1, hall⟩ | ⟨k0, hk0, h1, ht, hall⟩
  · rw [h1] at hIF
    go_enter Try.func83, Try.ntmps83
    go_wp2_with (go_at_call 101; refine hIF.mono ?_; rintro e1 w1 ⟨rfl, hx1, hm1⟩)
    go_ret
    have hfil : d.toList.filter (fun r => !p r) = d.toList := List.filter_eq_self.2 (fun r hr => by rw [hall r hr]; rfl)
    rw [hfil]
    have hlt : blk < w.heap.size := (Array.getElem?_eq_some_iff.1 hb).1
    refine ⟨by simp, hx1.mono (fun _ q => q.elim), hm1, c, fr, (hx1.block blk hlt id).trans hb, hfr, rfl, ?_⟩
    simpa using hrow
  · rw [Nat.zero_add] at h1
    rw [h1] at hIF
    go_enter Try.func83, Try.ntmps83
    go_wp2_with (go_at_call 101; refine hIF.mono ?_; rintro e1 w1 ⟨rfl, hx1, hm1⟩)
    have hk0' : k0 < d.size := by simpa using hk0
    obtain ⟨kp, HK⟩ : ∃ kp : Nat → Bool, Hid (kp = fun j => !p d[j]!) := ⟨_, rfl⟩
    have tl : ∀ j, j < d.size → d.toList.getD j rec0 = d[j]! := fun j hj => by
      rw [getElem!_pos d j hj, List.getD_eq_getElem?_getD]; simp [hj]
    have hkeep : ∀ j, j < k0 → kp j = true := fun j hj => by rw [HK.out]; show (!p d[j]!) = true; rw [← tl j (by omega), hall j hj]; rfl
    have hdrop : kp k0 = false := by rw [HK.out]; show (!p d[k0]!) = false; rw [← tl k0 hk0', ht]; rfl
    have hlt0 : blk < w.heap.size := (Array.getElem?_eq_some_iff.1 hb).1
    have hst : Aside (Ext (fun k => k = blk) w w1 ∧ MemOK mu w1 ∧ ∃ c', w1.heap[blk]? = some (.cells c' e fr) ∧ Unfrozen c' fr ∧ c'.size = c.size ∧ RowR c' off d) :=
      ⟨hx1.mono (fun _ q => q.elim), hm1, c, (hx1.block blk hlt0 id).trans hb, hfr, rfl, hrow⟩
    have HC : Aside _ := hcall
    clear hcall hIF hall ht h1 tl hrow hm1 hx1 hb hfr hm
    go_loopg [5, 6, 7] d.size (fun gg s5 s6 _ wr => ∃ (i j : Nat) (dk : Array Rec), s5 = .int .i64 i ∧ s6 = .int .i64 j ∧ j ≤ d.size ∧ d.size - j ≤ gg ∧ Aside (KeptInv kp d j i dk) ∧ Aside (Ext (fun k => k = blk) w wr ∧ MemOK mu wr ∧ ∃ c', wr.heap[blk]? = some (.cells c' e fr) ∧ Unfrozen c' fr ∧ c'.size = c.size ∧ RowR c' off dk))
    case atStart => exact ⟨k0, k0 + 1, d, rfl, by congr 1; unfold wrap64; omega, by omega, by omega, KeptInv.start hkeep hdrop, hst⟩
    case round =>
      obtain ⟨i, j, dk, rfl, rfl, hjd, hgg, I2, H2⟩ := hrel
      have hI := I2.out
      obtain ⟨x1, m1, c', k1, k2, k3, k4⟩ := H2.out
      have hij := hI.lt
      have hds := hI.size
      by_cases hlt : j < d.size
      · have hltz : (j : Int) < (d.size : Int) := by omega
        obtain ⟨r, hr⟩ : ∃ r, Aside (r = d[j]!) := ⟨_, rfl⟩
        have hrow := k4 j (by omega)
        rw [hI.high j (by omega), ← hr.out] at hrow
        have cj0 : wr.cell? ⟨blk, off + j * 6, none⟩ = some (.int .i64 r.dl) := by rw [cell_of_block k1]; exact hrow 0 (by omega)
        have cj1 : wr.cell? ⟨blk, off + j * 6 + 1, none⟩ = some (.int .i64 r.tm) := by rw [cell_of_block k1]; exact hrow 1 (by omega)
        have cj2 : wr.cell? ⟨blk, off + j * 6 + 2, none⟩ = some (.bool r.kd) := by rw [cell_of_block k1]; exact hrow 2 (by omega)
        have cj3 : wr.cell? ⟨blk, off + j * 6 + 3, none⟩ = some (.string r.key) := by rw [cell_of_block k1]; exact hrow 3 (by omega)
        have cj4 : wr.cell? ⟨blk, off + j * 6 + 4, none⟩ = some (.bool r.dd) := by rw [cell_of_block k1]; exact hrow 4 (by omega)
        have cj5 : wr.cell? ⟨blk, off + j * 6 + 5, none⟩ = some (.string r.val) := by rw [cell_of_block k1]; exact hrow 5 (by omega)
        have HX : Aside (Ext (fun k => k = blk) w wr) := x1
        have HM : Aside (MemOK mu wr) := m1
        have HK1 : Aside (wr.heap[blk]? = some (.cells c' e fr)) := k1
        have HK4 : Aside (RowR c' off dk) := k4
        clear x1 m1 k1 k4 hI hrow
        go_wp2
        refine (HC.out _ r ((HM.out).alloc _)).mono ?_
        rintro e2 w2 ⟨rfl, x2, m2⟩
        obtain ⟨X, hX⟩ : ∃ X : Obj, X = .cells #[.int .i64 r.dl, .int .i64 r.tm, .bool r.kd, .string r.key, .bool r.dd, .string r.val] 65 := ⟨_, rfl⟩
        rw [← hX] at x2
        have hblt : blk < wr.heap.size := (Array.getElem?_eq_some_iff.1 HK1.out).1
        have b2 : w2.heap[blk]? = some (.cells c' e fr) := by
          rw [x2.block _ (by simp; omega) id, alloc_get, if_neg (by omega)]; exact HK1.out
        have q2 : w2.heap[wr.heap.size]? = some X := by
          rw [x2.block _ (by simp) id, alloc_get, if_pos rfl]
        have y2 : Aside (Ext (fun k => k = blk) w w2) := by
          have := x2
          refine HX.out.trans ⟨x2.os, x2.tape, x2.output, by have := x2.size; simp at this; omega, fun k hk _ => ?_⟩
          rw [x2.block _ (by simp; omega) id, alloc_get, if_neg (by omega)]
        have hlen : (encL r).length = 6 := rfl
        have hone : ∀ v ∈ encL r, v.oneCell' = true := by
          intro v hv
          simp only [encL, List.mem_cons, List.not_mem_nil, or_false] at hv
          rcases hv with rfl | rfl | rfl | rfl | rfl | rfl <;> rfl
        obtain ⟨hst2, c2, z1, z2, z3, z4⟩ := setCells_at (P := Try.prog) (o := off + i * 6) (vs := encL r) b2 k2 (by rw [hlen]; omega) hone
        subst hX
        have d0 : w2.cell? ⟨wr.heap.size, 0, none⟩ = some (.int .i64 r.dl) := by simp [World.cell?, q2]
        have d1 : w2.cell? ⟨wr.heap.size, 1, none⟩ = some (.int .i64 r.tm) := by simp [World.cell?, q2]
        have d2 : w2.cell? ⟨wr.heap.size, 2, none⟩ = some (.bool r.kd) := by simp [World.cell?, q2]
        have d3 : w2.cell? ⟨wr.heap.size, 3, none⟩ = some (.string r.key) := by simp [World.cell?, q2]
        have d4 : w2.cell? ⟨wr.heap.size, 4, none⟩ = some (.bool r.dd) := by simp [World.cell?, q2]
        have d5 : w2.cell? ⟨wr.heap.size, 5, none⟩ = some (.string r.val) := by simp [World.cell?, q2]
        have Z : Aside (Ext (fun _ => False) (wr.alloc (.cells #[.int .i64 r.dl, .int .i64 r.tm, .bool r.kd, .string r.key, .bool r.dd, .string r.val] 65)) w2 ∧ MemOK mu w2 ∧ w2.heap[blk]? = some (.cells c' e fr)) := ⟨x2, m2, b2⟩
        have Z2 : Aside ((w2.setCells blk (off + i * 6) (encL r)).heap[blk]? = some (.cells c2 e fr) ∧ c2.size = c'.size ∧ Unfrozen c2 fr ∧ ∀ j, c2.getD j Go.undef = if off + i * 6 ≤ j ∧ j < off + i * 6 + (encL r).length then (encL r).getD (j - (off + i * 6)) Go.undef else c'.getD j Go.undef) := ⟨z1, z2, z3, z4⟩
        have hcs : ∀ q, q < 6 → ∃ v, w2.cell? ⟨blk, off + i * 6 + q, none⟩ = some v ∧ w2.frozen? ⟨blk, off + i * 6 + q, none⟩ = false := by
          intro q hq
          have hlt : off + i * 6 + q < c'.size := by omega
          refine ⟨c'[off + i * 6 + q], by rw [cell_of_block b2]; simp [hlt], ?_⟩
          have := k2.not _ hlt
          simp only [World.frozen?, b2]
          simp; omega
        obtain ⟨o0, s0, f0⟩ := hcs 0 (by omega)
        obtain ⟨o1, s1, f1⟩ := hcs 1 (by omega)
        obtain ⟨o2, s2, f2⟩ := hcs 2 (by omega)
        obtain ⟨o3, s3, f3⟩ := hcs 3 (by omega)
        obtain ⟨o4, s4, f4⟩ := hcs 4 (by omega)
        obtain ⟨o5, s5, f5⟩ := hcs 5 (by omega)
        rw [Nat.add_zero] at s0 f0
        clear x2 m2 b2 q2 z1 z2 z3 z4 hone hcs hst2
        cases hq : p r with
        | true =>
          go_wp2
          go_roundg (d.size - (j + 1))
          case measure => omega
          case rel =>
            exact ⟨i, j + 1, dk, rfl, by go_num, by omega, Nat.le_refl _, I2.out.skip (by rw [HK.out]; show (!p d[j]!) = false; rw [← hr.out, hq]; rfl), y2.out, Z.out.2.1, c', Z.out.2.2, k2, k3, HK4.out⟩
        | false =>
          go_wp2
          go_roundg (d.size - (j + 1))
          case measure => omega
          case rel =>
            obtain ⟨z1, z2, z3, z4⟩ := Z2.out
            obtain ⟨g1, g2, g3, g4, g5, _⟩ := setCells_heap blk (encL r) (off + i * 6) w2
            have hI := I2.out
            refine ⟨i + 1, j + 1, dk.setIfInBounds i r, by go_num, by go_num, by omega, Nat.le_refl _, (show Aside _ from ?_), (show Aside (Ext (fun k => k = blk) w (w2.setCells blk (off + i * 6) (encL r)) ∧ MemOK mu (w2.setCells blk (off + i * 6) (encL r)) ∧ ∃ c', (w2.setCells blk (off + i * 6) (encL r)).heap[blk]? = some (Obj.cells c' e fr) ∧ Unfrozen c' fr ∧ c'.size = c.size ∧ RowR c' off (dk.setIfInBounds i r)) from ?_)⟩
            · have := hI.keep hlt (by rw [HK.out]; show (!p d[j]!) = true; rw [← hr.out, hq]; rfl)
              rwa [← hr.out] at this
            · refine ⟨y2.out.trans ⟨g1, g2, g3, by rw [g4]; exact Nat.le_refl _, fun k _ hk => g5 k hk⟩, ?_, c2, z1, z3, by rw [z2, k3], HK4.out.set (by omega) z2 z4⟩
              intro b' j' v hv
              have hne : b' ≠ blk := fun q => by subst q; rw [hmu] at hv; cases hv
              obtain ⟨t1, t2⟩ := Z.out.2.1 b' j' v hv
              exact ⟨by rw [World.cell?_setCells_out blk _ _ _ ⟨b', j', none⟩ (fun e1 _ => absurd e1 hne)]; exact t1, t2⟩
      · obtain rfl : j = d.size := by omega
        have hid : i < d.size := hij
        have hu50 : Try.prog.underlying 50 = some (.slice 65) := by kernel_rfl
        have hz65 : ∀ w, (zeroValue 65).run Try.prog w = .ok (.agg (encL rec0).toArray) w := Try.zeroValue65
        have hce : (Value.agg (encL rec0).toArray).cells = (encL rec0).toArray := rfl
        have hone : ∀ v ∈ (Value.agg (encL rec0).toArray).cells, v.oneCell' = true := by
          intro v hv
          rw [hce] at hv
          simp only [encL, List.mem_toArray, List.mem_cons, List.not_mem_nil, or_false] at hv
          rcases hv with rfl | rfl | rfl | rfl | rfl | rfl <;> rfl
        have hsz6 : (Value.agg (encL rec0).toArray).cells.size = 6 := rfl
        have hcl : ∀ ty, (Builtin.clear_ #[50] ty #[.slice (some ⟨blk, off + i * 6, none⟩) (d.size - i) (cap - i)]).run Try.prog wr = .ok (.tuple #[]) (wr.setCells blk (off + i * 6) (Builtin.zeroCells (Value.agg (encL rec0).toArray).cells (d.size - i)).toList) := fun ty =>
          run_clear_k wr 50 65 ty _ hu50 hz65 hone (by rw [hsz6]; omega) blk (off + i * 6) (d.size - i) (cap - i) (by omega) k1 k2 (by rw [hsz6, k3]; omega)
        obtain ⟨v1, v2⟩ := zeroCells_spec _ (d.size - i) hone (by rw [hsz6]; omega)
        rw [hsz6] at v1
        have HX : Aside (Ext (fun k => k = blk) w wr) := x1
        have HM : Aside (MemOK mu wr) := m1
        have HK1 : Aside (wr.heap[blk]? = some (.cells c' e fr)) := k1
        have HK4 : Aside (RowR c' off dk) := k4
        clear x1 m1 k1 k4 hI hz65 hone hsz6 hce
        generalize (Builtin.zeroCells (Value.agg (encL rec0).toArray).cells (d.size - i)).toList = zs at hcl v1 v2
        go_wp2
        go_ret
        have hI := I2.out
        have hfil : (d.toList.filter fun r => !p r) = keptUpTo kp d d.size := by rw [HK.out]; exact (keptUpTo_filter (fun x => !p x) d).symm
        rw [hfil]
        obtain ⟨_, c3, z1, z2, z3, z4⟩ := setCells_at (P := Try.prog) (o := off + i * 6) (vs := zs) HK1.out k2 (by rw [v1, k3]; omega) v2
        obtain ⟨g1, g2, g3, g4, g5, _⟩ := setCells_heap blk zs (off + i * 6) wr
        refine ⟨by rw [hI.len]; rfl, HX.out.trans ⟨g1, g2, g3, by rw [g4]; exact Nat.le_refl _, fun k _ hk => g5 k hk⟩, ?_, c3, fr, z1, z3, by rw [z2, k3], ?_⟩
        · intro b' j' v hv
          have hne : b' ≠ blk := fun q => by subst q; rw [hmu] at hv; cases hv
          obtain ⟨t1, t2⟩ := HM.out b' j' v hv
          exact ⟨by rw [World.cell?_setCells_out blk _ _ _ ⟨b', j', none⟩ (fun e1 _ => absurd e1 hne)]; exact t1, t2⟩
        · intro m hm q hq
          have hm' : m < i := by simpa [hI.len] using hm
          have hold := HK4.out m (by omega) q hq
          have hlt2 : off + m * 6 + q < c'.size := (Array.getElem?_eq_some_iff.1 hold).1
          have e0 : c3[off + m * 6 + q]? = some (c3.getD (off + m * 6 + q) Go.undef) := by
            rw [Array.getD_eq_getD_getElem?, Array.getElem?_eq_getElem (by omega)]; rfl
          have hl := hI.low m hm'
          have e1 : (keptUpTo kp d d.size).toArray[m]! = dk[m]! := by
            rw [getElem!_pos _ m (by simpa using hm)]
            have : m < (keptUpTo kp d d.size).length := by simpa using hm
            rw [List.getElem?_eq_getElem this] at hl
            simpa using hl
          rw [e0, z4, if_neg (by omega), Array.getD_eq_getD_getElem?, hold, e1]
          rfl
end Go.Proofs.Ytkiimlmlfhmkiaa
