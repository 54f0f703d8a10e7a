import Derived.Test.YtflcdbfcipkhkaaMDbG
import Derived.Test.YtflcdbfcipkhkaaAvRg
import Derived.Lib.SlKept
import Derived.Lib.SliceRun
import Derived.Shelf.RegionOpenPlain
import Derived.WalkKit
import Derived.Deep.LoopGhost
import Derived.Deep.Draws
import Derived.Lib.Walk
import Derived.Sort.WalkB12
import Derived.Test.YtflcdbfcipkhkaaDnA
import Derived.Test.YtflcdbfcipkhkaaAvL3
import Derived.Test.YtflcdbfcipkhkaaAvAD
import Derived.Test.YtflcdbfcipkhkaaDsA

set_option linter.unusedVariables false
set_option linter.unusedSimpArgs false

set_option linter.unusedSimpArgs false
set_option linter.unusedVariables false
set_option maxRecDepth 100000
set_option maxHeartbeats 4000000
open Go.RowKit Go.Lib Go.Sort
namespace Go.Proofs.Ytflcdbfcipkhkaa
open Go.Av

instance : Inhabited Rec := ⟨rec0⟩
def encL (r : Rec) : List Value := [.int .i64 r.dl, .int .i64 r.tm, .bool r.kd, .string r.key, .bool r.dd, .string r.val]
def RowR (c : Array Value) (off : Nat) (dk : Array Rec) : Prop := ∀ m, m < dk.size → ∀ q, q < 6 → c[off + m * 6 + q]? = some ((encL dk[m]!).getD q Go.undef)

theorem zeroCells_spec (cs : Array Value) (n : Nat) (h : ∀ v ∈ cs, v.oneCell' = true) (hcs : 0 < cs.size) : (Builtin.zeroCells cs n).toList.length = n * cs.size ∧ ∀ v ∈ (Builtin.zeroCells cs n).toList, v.oneCell' = true := by
  refine ⟨by simp [Builtin.zeroCells], fun v hv => ?_⟩
  simp only [Builtin.zeroCells, Array.toList_map, List.mem_map] at hv
  obtain ⟨i, _, rfl⟩ := hv
  have hlt : i % cs.size < cs.size := Nat.mod_lt _ hcs
  rw [getElem!_pos cs _ hlt]
  exact h _ (Array.getElem_mem hlt)
theorem run_clear_k {P : Program} (w : World) (t e ty : TypeId) (z : Value) (ht : P.underlying t = some (.slice e)) (hv : ∀ w, (zeroValue e).run P w = .ok z w) (h1 : ∀ v ∈ z.cells, v.oneCell' = true) (hz : 0 < z.cells.size) (b o n cap : Nat) (hn : 0 < n)
    {c : Array Value} {te : TypeId} {fr : Nat × Nat} (hb : w.heap[b]? = some (.cells c te fr)) (hf : Unfrozen c fr) (hle : o + n * z.cells.size ≤ c.size) :
    (Builtin.clear_ #[t] ty #[.slice (some ⟨b, o, none⟩) n cap]).run P w = .ok (.tuple #[]) (w.setCells b o (Builtin.zeroCells z.cells n).toList) := by
  obtain ⟨e1, e2⟩ := zeroCells_spec z.cells n h1 hz
  have hst := (setCells_at (P := P) (o := o) (vs := (Builtin.zeroCells z.cells n).toList) hb hf (by rw [e1]; exact hle) e2).1
  obtain ⟨m, rfl⟩ : ∃ m, n = m + 1 := ⟨n - 1, by omega⟩
  simp [Builtin.clear_, run_underlying ht, hv, hst]
theorem RowR.set {c c2 : Array Value} {off i : Nat} {dk : Array Rec} {r : Rec} (h : RowR c off dk) (hi : i < dk.size) (hsz : c2.size = c.size) (hget : ∀ j, c2.getD j Go.undef = if off + i * 6 ≤ j ∧ j < off + i * 6 + (encL r).length then (encL r).getD (j - (off + i * 6)) Go.undef else c.getD j Go.undef) :
    RowR c2 off (dk.setIfInBounds i r) := by
  intro m hm q hq
  rw [Array.size_setIfInBounds] at hm
  have hold := h m hm q hq
  have hlt : off + m * 6 + q < c.size := (Array.getElem?_eq_some_iff.1 hold).1
  have hg := hget (off + m * 6 + q)
  have e0 : c2[off + m * 6 + q]? = some (c2.getD (off + m * 6 + q) Go.undef) := by
    rw [Array.getD_eq_getD_getElem?, Array.getElem?_eq_getElem (by omega)]; rfl
  have hlen : (encL r).length = 6 := rfl
  rw [e0, hg]
  by_cases e : m = i
  · subst e
    rw [if_pos (by omega), getElem!_set_same dk m r hi]
    congr 2; omega
  · have : ¬ (off + i * 6 ≤ off + m * 6 + q ∧ off + m * 6 + q < off + i * 6 + (encL r).length) := by
      rw [hlen]
      rcases Nat.lt_or_ge m i with z | z <;> omega
    rw [if_neg this, getElem!_set_other dk i m r e, Array.getD_eq_getD_getElem?, hold]
    rfl
theorem del_raw (pf : FuncId) (lb : Array Value) (p : Rec → Bool) (eg : ∀ args w, (callFunc pf args).run Try.prog w = .ok (.enter pf args) w) (mu : Mem) (hcall : ∀ (W : World) (r : Rec), MemOK mu W → Calls Try.prog pf (#[.agg (encL r).toArray] ++ lb) W fun e' w' => e' = .returned (.bool (p r)) ∧ Ext (fun _ => False) W w' ∧ MemOK mu w')
    (d : Array Rec) (hl : d.size ≤ 1000) (w : World) (blk off cap : Nat) (c : Array Value) (e : TypeId) (fr : Nat × Nat) (hm : MemOK mu w) (hmu : ∀ j, mu blk j = none) (hb : w.heap[blk]? = some (.cells c e fr)) (hfr : Unfrozen c fr)
    (hcap : d.size ≤ cap) (hsz : off + cap * 6 ≤ c.size) (hrow : RowR c off d)
    (hIF : Calls Try.prog 157 #[.slice (some ⟨blk, off, none⟩) d.size cap, .func (.func pf) #[] lb] w fun e' w' => e' = .returned (.int .i64 (idxP p d.toList 0)) ∧ Ext (fun _ => False) w w' ∧ MemOK mu w') :
    Calls Try.prog 141 #[.slice (some ⟨blk, off, none⟩) d.size cap, .func (.func pf) #[] lb] w fun e' w' => e' = .returned (.slice (some ⟨blk, off, none⟩) (d.toList.filter fun r => !p r).length cap) ∧ Ext (fun k => k = blk) w w' ∧ MemOK mu w' ∧
      ∃ c' fr', w'.heap[blk]? = some (.cells c' e fr') ∧ Unfrozen c' fr' ∧ c'.size = c.size ∧ RowR c' off (d.toList.filter fun r => !p r).toArray := by
  rcases idxP_spec p d.toList 0 with ⟨h1, hall⟩ | ⟨k0, hk0, h1, ht, hall⟩
  · rw [h1] at hIF
    go_enter Try.func141, Try.ntmps141
    go_wp2_with (go_at_call 157; refine hIF.mono ?_; rintro e1 w1 ⟨rfl, hx1, hm1⟩)
    go_ret
    have hfil : d.toList.filter (fun r => !p r) = d.toList := List.filter_eq_self.2 (fun r hr => by rw [hall r hr]; rfl)
    rw [hfil]
    have hlt : blk < w.heap.size := (Array.getElem?_eq_some_iff.1 hb).1
    refine ⟨by simp, hx1.mono (fun _ q => q.elim), hm1, c, fr, (hx1.block blk hlt id).trans hb, hfr, rfl, ?_⟩
    simpa using hrow
  · rw [Nat.zero_add] at h1
    rw [h1] at hIF
    go_enter Try.func141, Try.ntmps141
    go_wp2_with (go_at_call 157; refine hIF.mono ?_; rintro e1 w1 ⟨rfl, hx1, hm1⟩)
    have hk0' : k0 < d.size := by simpa using hk0
    obtain ⟨kp, HK⟩ : ∃ kp : Nat → Bool, Hid (kp = fun j => !p d[j]!) := ⟨_, rfl⟩
    have tl : ∀ j, j < d.size → d.toList.getD j rec0 = d[j]! := fun j hj => by
      rw [getElem!_pos d j hj, List.getD_eq_getElem?_getD]; simp [hj]
    have hkeep : ∀ j, j < k0 → kp j = true := fun j hj => by rw [HK.out]; show (!p d[j]!) = true; rw [← tl j (by omega), hall j hj]; rfl
    have hdrop : kp k0 = false := by rw [HK.out]; show (!p d[k0]!) = false; rw [← tl k0 hk0', ht]; rfl
    have hlt0 : blk < w.heap.size := (Array.getElem?_eq_some_iff.1 hb).1
    have hst : Aside (Ext (fun k => k = blk) w w1 ∧ MemOK mu w1 ∧ ∃ c', w1.heap[blk]? = some (.cells c' e fr) ∧ Unfrozen c' fr ∧ c'.size = c.size ∧ RowR c' off d) :=
      ⟨hx1.mono (fun _ q => q.elim), hm1, c, (hx1.block blk hlt0 id).trans hb, hfr, rfl, hrow⟩
    have HC : Aside _ := hcall
    clear hcall hIF hall ht h1 tl hrow hm1 hx1 hb hfr hm
    go_loopg [5, 6, 7] d.size (fun gg s5 s6 _ wr => ∃ (i j : Nat) (dk : Array Rec), s5 = .int .i64 i ∧ s6 = .int .i64 j ∧ j ≤ d.size ∧ d.size - j ≤ gg ∧ Aside (KeptInv kp d j i dk) ∧ Aside (Ext (fun k => k = blk) w wr ∧ MemOK mu wr ∧ ∃ c', wr.heap[blk]? = some (.cells c' e fr) ∧ Unfrozen c' fr ∧ c'.size = c.size ∧ RowR c' off dk))
    case atStart => exact ⟨k0, k0 + 1, d, rfl, by congr 1; unfold wrap64; omega, by omega, by omega, KeptInv.start hkeep hdrop, hst⟩
    case round =>
      obtain ⟨i, j, dk, rfl, rfl, hjd, hgg, I2, H2⟩ := hrel
      have hI := I2.out
      obtain ⟨x1, m1, c', k1, k2, k3, k4⟩ := H2.out
      have hij := hI.lt
      have hds := hI.size
      by_cases hlt : j < d.size
      · have hltz : (j : Int) < (d.size : Int) := by omega
        obtain ⟨r, hr⟩ : ∃ r, Aside (r = d[j]!) := ⟨_, rfl⟩
        have hrow := k4 j (by omega)
        rw [hI.high j (by omega), ← hr.out] at hrow
        have cj0 : wr.cell? ⟨blk, off + j * 6, none⟩ = some (.int .i64 r.dl) := by rw [cell_of_block k1]; exact hrow 0 (by omega)
        have cj1 : wr.cell? ⟨blk, off + j * 6 + 1, none⟩ = some (.int .i64 r.tm) := by rw [cell_of_block k1]; exact hrow 1 (by omega)
        have cj2 : wr.cell? ⟨blk, off + j * 6 + 2, none⟩ = some (.bool r.kd) := by rw [cell_of_block k1]; exact hrow 2 (by omega)
        have cj3 : wr.cell? ⟨blk, off + j * 6 + 3, none⟩ = some (.string r.key) := by rw [cell_of_block k1]; exact hrow 3 (by omega)
        have cj4 : wr.cell? ⟨blk, off + j * 6 + 4, none⟩ = some (.bool r.dd) := by rw [cell_of_block k1]; exact hrow 4 (by omega)
        have cj5 : wr.cell? ⟨blk, off + j * 6 + 5, none⟩ = some (.string r.val) := by rw [cell_of_block k1]; exact hrow 5 (by omega)
        have HX : Aside (Ext (fun k => k = blk) w wr) := x1
        have HM : Aside (MemOK mu wr) := m1
        have HK1 : Aside (wr.heap[blk]? = some (.cells c' e fr)) := k1
        have HK4 : Aside (RowR c' off dk) := k4
        clear x1 m1 k1 k4 hI hrow
        go_wp2
        refine (HC.out _ r ((HM.out).alloc _)).mono ?_
        rintro e2 w2 ⟨rfl, x2, m2⟩
        obtain ⟨X, hX⟩ : ∃ X : Obj, X = .cells #[.int .i64 r.dl, .int .i64 r.tm, .bool r.kd, .string r.key, .bool r.dd, .string r.val] 111 := ⟨_, rfl⟩
        rw [← hX] at x2
        have hblt : blk < wr.heap.size := (Array.getElem?_eq_some_iff.1 HK1.out).1
        have b2 : w2.heap[blk]? = some (.cells c' e fr) := by
          rw [x2.block _ (by simp; omega) id, alloc_get, if_neg (by omega)]; exact HK1.out
        have q2 : w2.heap[wr.heap.size]? = some X := by
          rw [x2.block _ (by simp) id, alloc_get, if_pos rfl]
        have y2 : Aside (Ext (fun k => k = blk) w w2) := by
          have := x2
          refine HX.out.trans ⟨x2.os, x2.tape, x2.output, by have := x2.size; simp at this; omega, fun k hk _ => ?_⟩
          rw [x2.block _ (by simp; omega) id, alloc_get, if_neg (by omega)]
        have hlen : (encL r).length = 6 := rfl
        have hone : ∀ v ∈ encL r, v.oneCell' = true := by
          intro v hv
          simp only [encL, List.mem_cons, List.not_mem_nil, or_false] at hv
          rcases hv with rfl | rfl | rfl | rfl | rfl | rfl <;> rfl
        obtain ⟨hst2, c2, z1, z2, z3, z4⟩ := setCells_at (P := Try.prog) (o := off + i * 6) (vs := encL r) b2 k2 (by rw [hlen]; omega) hone
        subst hX
        have d0 : w2.cell? ⟨wr.heap.size, 0, none⟩ = some (.int .i64 r.dl) := by simp [World.cell?, q2]
        have d1 : w2.cell? ⟨wr.heap.size, 1, none⟩ = some (.int .i64 r.tm) := by simp [World.cell?, q2]
        have d2 : w2.cell? ⟨wr.heap.size, 2, none⟩ = some (.bool r.kd) := by simp [World.cell?, q2]
        have d3 : w2.cell? ⟨wr.heap.size, 3, none⟩ = some (.string r.key) := by simp [World.cell?, q2]
        have d4 : w2.cell? ⟨wr.heap.size, 4, none⟩ = some (.bool r.dd) := by simp [World.cell?, q2]
        have d5 : w2.cell? ⟨wr.heap.size, 5, none⟩ = some (.string r.val) := by simp [World.cell?, q2]
        have Z : Aside (Ext (fun _ => False) (wr.alloc (.cells #[.int .i64 r.dl, .int .i64 r.tm, .bool r.kd, .string r.key, .bool r.dd, .string r.val] 111)) w2 ∧ MemOK mu w2 ∧ w2.heap[blk]? = some (.cells c' e fr)) := ⟨x2, m2, b2⟩
        have Z2 : Aside ((w2.setCells blk (off + i * 6) (encL r)).heap[blk]? = some (.cells c2 e fr) ∧ c2.size = c'.size ∧ Unfrozen c2 fr ∧ ∀ j, c2.getD j Go.undef = if off + i * 6 ≤ j ∧ j < off + i * 6 + (encL r).length then (encL r).getD (j - (off + i * 6)) Go.undef else c'.getD j Go.undef) := ⟨z1, z2, z3, z4⟩
        have hcs : ∀ q, q < 6 → ∃ v, w2.cell? ⟨blk, off + i * 6 + q, none⟩ = some v ∧ w2.frozen? ⟨blk, off + i * 6 + q, none⟩ = false := by
          intro q hq
          have hlt : off + i * 6 + q < c'.size := by omega
          refine ⟨c'[off + i * 6 + q], by rw [cell_of_block b2]; simp [hlt], ?_⟩
          have := k2.not _ hlt
          simp only [World.frozen?, b2]
          simp; omega
        obtain ⟨o0, s0, f0⟩ := hcs 0 (by omega)
        obtain ⟨o1, s1, f1⟩ := hcs 1 (by omega)
        obtain ⟨o2, s2, f2⟩ := hcs 2 (by omega)
        obtain ⟨o3, s3, f3⟩ := hcs 3 (by omega)
        obtain ⟨o4, s4, f4⟩ := hcs 4 (by omega)
        obtain ⟨o5, s5, f5⟩ := hcs 5 (by omega)
        rw [Nat.add_zero] at s0 f0
        clear x2 m2 b2 q2 z1 z2 z3 z4 hone hcs hst2
        cases hq : p r with
        | true =>
          go_wp2
          go_roundg (d.size - (j + 1))
          case measure => omega
          case rel =>
            exact ⟨i, j + 1, dk, rfl, by go_num, by omega, Nat.le_refl _, I2.out.skip (by rw [HK.out]; show (!p d[j]!) = false; rw [← hr.out, hq]; rfl), y2.out, Z.out.2.1, c', Z.out.2.2, k2, k3, HK4.out⟩
        | false =>
          go_wp2
          go_roundg (d.size - (j + 1))
          case measure => omega
          case rel =>
            obtain ⟨z1, z2, z3, z4⟩ := Z2.out
            obtain ⟨g1, g2, g3, g4, g5, _⟩ := setCells_heap blk (encL r) (off + i * 6) w2
            have hI := I2.out
            refine ⟨i + 1, j + 1, dk.setIfInBounds i r, by go_num, by go_num, by omega, Nat.le_refl _, (show Aside _ from ?_), (show Aside (Ext (fun k => k = blk) w (w2.setCells blk (off + i * 6) (encL r)) ∧ MemOK mu (w2.setCells blk (off + i * 6) (encL r)) ∧ ∃ c', (w2.setCells blk (off + i * 6) (encL r)).heap[blk]? = some (Obj.cells c' e fr) ∧ Unfrozen c' fr ∧ c'.size = c.size ∧ RowR c' off (dk.setIfInBounds i r)) from ?_)⟩
            · have := hI.keep hlt (by rw [HK.out]; show (!p d[j]!) = true; rw [← hr.out, hq]; rfl)
              rwa [← hr.out] at this
            · refine ⟨y2.out.trans ⟨g1, g2, g3, by rw [g4]; exact Nat.le_refl _, fun k _ hk => g5 k hk⟩, ?_, c2, z1, z3, by rw [z2, k3], HK4.out.set (by omega) z2 z4⟩
              intro b' j' v hv
              have hne : b' ≠ blk := fun q => by subst q; rw [hmu] at hv; cases hv
              obtain ⟨t1, t2⟩ := Z.out.2.1 b' j' v hv
              exact ⟨by rw [World.cell?_setCells_out blk _ _ _ ⟨b', j', none⟩ (fun e1 _ => absurd e1 hne)]; exact t1, t2⟩
      · obtain rfl : j = d.size := by omega
        have hid : i < d.size := hij
        have hu50 : Try.prog.underlying 43 = some (.slice 111) := by kernel_rfl
        have hz65 : ∀ w, (zeroValue 111).run Try.prog w = .ok (.agg (encL rec0).toArray) w := Try.zeroValue111
        have hce : (Value.agg (encL rec0).toArray).cells = (encL rec0).toArray := rfl
        have hone : ∀ v ∈ (Value.agg (encL rec0).toArray).cells, v.oneCell' = true := by
          intro v hv
          rw [hce] at hv
          simp only [encL, List.mem_toArray, List.mem_cons, List.not_mem_nil, or_false] at hv
          rcases hv with rfl | rfl | rfl | rfl | rfl | rfl <;> rfl
        have hsz6 : (Value.agg (encL rec0).toArray).cells.size = 6 := rfl
        have hcl : ∀ ty, (Builtin.clear_ #[43] ty #[.slice (some ⟨blk, off + i * 6, none⟩) (d.size - i) (cap - i)]).run Try.prog wr = .ok (.tuple #[]) (wr.setCells blk (off + i * 6) (Builtin.zeroCells (Value.agg (encL rec0).toArray).cells (d.size - i)).toList) := fun ty =>
          run_clear_k wr 43 111 ty _ hu50 hz65 hone (by rw [hsz6]; omega) blk (off + i * 6) (d.size - i) (cap - i) (by omega) k1 k2 (by rw [hsz6, k3]; omega)
        obtain ⟨v1, v2⟩ := zeroCells_spec _ (d.size - i) hone (by rw [hsz6]; omega)
        rw [hsz6] at v1
        have HX : Aside (Ext (fun k => k = blk) w wr) := x1
        have HM : Aside (MemOK mu wr) := m1
        have HK1 : Aside (wr.heap[blk]? = some (.cells c' e fr)) := k1
        have HK4 : Aside (RowR c' off dk) := k4
        clear x1 m1 k1 k4 hI hz65 hone hsz6 hce
        generalize (Builtin.zeroCells (Value.agg (encL rec0).toArray).cells (d.size - i)).toList = zs at hcl v1 v2
        go_wp2
        go_ret
        have hI := I2.out
        have hfil : (d.toList.filter fun r => !p r) = keptUpTo kp d d.size := by rw [HK.out]; exact (keptUpTo_filter (fun x => !p x) d).symm
        rw [hfil]
        obtain ⟨_, c3, z1, z2, z3, z4⟩ := setCells_at (P := Try.prog) (o := off + i * 6) (vs := zs) HK1.out k2 (by rw [v1, k3]; omega) v2
        obtain ⟨g1, g2, g3, g4, g5, _⟩ := setCells_heap blk zs (off + i * 6) wr
        refine ⟨by rw [hI.len]; rfl, HX.out.trans ⟨g1, g2, g3, by rw [g4]; exact Nat.le_refl _, fun k _ hk => g5 k hk⟩, ?_, c3, fr, z1, z3, by rw [z2, k3], ?_⟩
        · intro b' j' v hv
          have hne : b' ≠ blk := fun q => by subst q; rw [hmu] at hv; cases hv
          obtain ⟨t1, t2⟩ := HM.out b' j' v hv
          exact ⟨by rw [World.cell?_setCells_out blk _ _ _ ⟨b', j', none⟩ (fun e1 _ => absurd e1 hne)]; exact t1, t2⟩
        · intro m hm q hq
          have hm' : m < i := by simpa [hI.len] using hm
          have hold := HK4.out m (by omega) q hq
          have hlt2 : off + m * 6 + q < c'.size := (Array.getElem?_eq_some_iff.1 hold).1
          have e0 : c3[off + m * 6 + q]? = some (c3.getD (off + m * 6 + q) Go.undef) := by
            rw [Array.getD_eq_getD_getElem?, Array.getElem?_eq_getElem (by omega)]; rfl
          have hl := hI.low m hm'
          have e1 : (keptUpTo kp d d.size).toArray[m]! = dk[m]! := by
            rw [getElem!_pos _ m (by simpa using hm)]
            have : m < (keptUpTo kp d d.size).length := by simpa using hm
            rw [List.getElem?_eq_getElem this] at hl
            simpa using hl
          rw [e0, z4, if_neg (by omega), Array.getD_eq_getD_getElem?, hold, e1]
          rfl
end Go.Proofs.Ytflcdbfcipkhkaa

set_option linter.unusedSimpArgs false
set_option linter.unusedVariables false
set_option maxRecDepth 100000
set_option maxHeartbeats 4000000
open Go.RowKit Go.Lib
namespace Go.Proofs.Ytflcdbfcipkhkaa
open Go.Av

theorem enters_okFn {P : Program} {f : FuncId} (h : okFn P f) : ∀ args w, (callFunc f args).run P w = .ok (.enter f args) w := by
  intro args w
  obtain ⟨fn, h1, h2, h3⟩ := h
  have hb' : fn.body.isNone = false := by cases hb : fn.body <;> simp [hb] at h2 ⊢
  simp only [callFunc, run_program, Sem.run_bind, Sem.run_pure, Result.andThen_ok, h1, h3, hb', Bool.false_eq_true, if_false]
theorem rep_encL (mu : Mem) (r : Rec) : ∀ q, q < 6 → Rep mu (r.sv.cell q) ((encL r).getD q Go.undef) := by
  intro q hq
  match q, hq with
  | 0, _ => exact .int _ _
  | 1, _ => exact .int _ _
  | 2, _ => exact .bool _
  | 3, _ => exact .str _
  | 4, _ => exact .bool _
  | 5, _ => exact .str _
theorem rep_encL_inv {mu : Mem} {r : Rec} {q : Nat} (hq : q < 6) {v : Value} (h : Rep mu (r.sv.cell q) v) : v = (encL r).getD q Go.undef := by
  match q, hq, h with
  | 0, _, h => exact Rep.inv_int h
  | 1, _, h => exact Rep.inv_int h
  | 2, _, h => exact Rep.inv_bool h
  | 3, _, h => exact Rep.inv_str h
  | 4, _, h => exact Rep.inv_bool h
  | 5, _, h => exact Rep.inv_str h
theorem rep_rec (mu : Mem) (r : Rec) : Rep mu r.sv (.agg (encL r).toArray) := by
  refine .agg _ (encL r) rfl (fun j hj => ?_)
  have hj' : j < 6 := hj
  exact rep_encL mu r j hj'
theorem repArgs_cons {mu : Mem} {v : SV} {x : Value} {l : List SV} {vs : List Value} (h : Rep mu v x) (k : RepArgs mu l vs) : RepArgs mu (v :: l) (x :: vs) := by
  refine ⟨by simp [k.1], fun j hj => ?_⟩
  cases j with
  | zero => exact h
  | succ j => exact k.2 j (by simpa using hj)
theorem RepArgs.mono {mu mu' : Mem} (h : mu.le mu') {l : List SV} {vs : List Value} (k : RepArgs mu l vs) : RepArgs mu' l vs := ⟨k.1, fun j hj => (k.2 j hj).mono h⟩

theorem del_pure (pf : FuncId) (caps : List SV) (p : Rec → Bool) (hf : okFn Try.prog pf) (hp : ∀ r : Rec, Pure Try.prog pf (r.sv :: caps) (.sv (.bool (p r)))) (l : List Rec) (hl : l.length ≤ 1000) :
    PureD Try.prog 141 6 (RL l) [.fn pf [] caps] (.own 6 (RL (l.filter fun r => !p r))) := by
  intro mu w ob val vs hm harr hra
  obtain ⟨vf, rfl⟩ : ∃ vf, vs = [vf] := by
    match vs, hra.1 with
    | [a], _ => exact ⟨a, rfl⟩
  have hvf : Rep mu (.fn pf [] caps) vf := hra.2 0 (by simp)
  obtain ⟨vc, rfl, hvc⟩ : ∃ vc : List Value, vf = .func (.func pf) #[] vc.toArray ∧ RepArgs mu caps vc := by
    cases hvf with
    | fn _ _ _ vf vc h1 h2 h3 h4 =>
      obtain rfl : vf = [] := List.length_eq_zero_iff.1 h1
      exact ⟨vc, rfl, h2, h4⟩
  have eg := enters_okFn hf
  have hcall : ∀ (W : World) (r : Rec), MemOK mu W → Calls Try.prog pf (#[.agg (encL r).toArray] ++ vc.toArray) W fun e' w' => e' = .returned (.bool (p r)) ∧ Ext (fun _ => False) W w' ∧ MemOK mu w' := by
    intro W r hW
    have := hp r mu W (.agg (encL r).toArray :: vc) hW (repArgs_cons (rep_rec mu r) hvc)
    rw [show (#[Value.agg (encL r).toArray] ++ vc.toArray) = (.agg (encL r).toArray :: vc).toArray by simp]
    refine this.mono ?_
    rintro e' w' ⟨val', mu', rfl, q1, q2, q3, q4, ⟨_, q5, _⟩⟩
    exact ⟨by rw [Rep.inv_bool q5], q1, MemOK.sub q2 q3⟩
  rcases harr with ⟨rfl, hnil, rfl⟩ | ⟨b, rfl, off, cap, c, e, fr, rfl, hmu, hb, hfr, hcap, hsz, hrep⟩
  · have hl0 : l = [] := by cases l <;> simp [RL] at hnil ⊢
    subst hl0
    have hIF := idx_pure pf caps p hf hp [] (by simp) mu w [.slice none 0 0, .func (.func pf) #[] vc.toArray] hm (repArgs_cons (.slnil 6) (repArgs1 hvf))
    have hIF' : Calls Try.prog 157 #[.slice none 0 0, .func (.func pf) #[] vc.toArray] w fun e' w' => e' = .returned (.int .i64 (-1)) ∧ Ext (fun _ => False) w w' ∧ MemOK mu w' := by
      refine hIF.mono ?_
      rintro e' w' ⟨val', mu', rfl, q1, q2, q3, q4, ⟨_, q5, _⟩⟩
      exact ⟨by rw [Rep.inv_int q5]; rfl, q1, MemOK.sub q2 q3⟩
    clear hIF hcall
    have key : Calls Try.prog 141 #[.slice none 0 0, .func (.func pf) #[] vc.toArray] w fun e' w' => e' = .returned (.slice none 0 0) ∧ Ext (fun _ => False) w w' ∧ MemOK mu w' := by
      go_enter Try.func141, Try.ntmps141
      go_wp2_with (go_at_call 157; refine hIF'.mono ?_; rintro e1 w1 ⟨rfl, hx1, hm1⟩)
      go_ret
      exact ⟨rfl, hx1, hm1⟩
    refine key.mono ?_
    rintro e' w' ⟨rfl, q1, q2⟩
    exact ⟨_, mu, rfl, q1.mono (fun _ q => q.elim), Mem.le_refl _, q2, fun _ _ _ _ => rfl, fun _ => none, .inl ⟨.slnil 6, rfl⟩, fun _ _ q => by cases q⟩
  · have hln : (RL l).length = l.length := by simp
    rw [hln] at hcap
    have hrow : RowR c off l.toArray := by
      intro m hm' q hq
      have hm2 : m < l.length := by simpa using hm'
      have h1 := hrep m q (by simpa using hm2) hq
      have e1 : (RL l).getD m .undef = l[m].sv := by simp [RL, List.getD_eq_getElem?_getD, hm2]
      rw [e1] at h1
      have h2 := rep_encL_inv hq h1
      have e2 : l.toArray[m]! = l[m] := by rw [getElem!_pos _ m hm']; simp
      have hlt : off + m * 6 + q < c.size := by omega
      rw [e2, ← h2, Array.getD_eq_getD_getElem?, Array.getElem?_eq_getElem hlt]
      rfl
    have hblt : b < w.heap.size := (Array.getElem?_eq_some_iff.1 hb).1
    -- the search ahead, with the row in the memory
    have hone : ∀ r : Rec, ∀ q, q < 6 → ((encL r).getD q Go.undef).oneCell' = true := by
      intro r q hq
      match q, hq with
      | 0, _ => rfl
      | 1, _ => rfl
      | 2, _ => rfl
      | 3, _ => rfl
      | 4, _ => rfl
      | 5, _ => rfl
    have mkmem : ∀ (W : World) (c2 : Array Value) (fr2 : Nat × Nat) (F : List Rec), MemOK mu W → W.heap[b]? = some (.cells c2 e fr2) → RowR c2 off F.toArray →
        MemOK (fun b' j => if b' = b ∧ off ≤ j ∧ j < off + F.length * 6 then c2[j]? else mu b' j) W ∧ mu.le (fun b' j => if b' = b ∧ off ≤ j ∧ j < off + F.length * 6 then c2[j]? else mu b' j) ∧
        ∀ i q, i < F.length → q < 6 → (fun b' j => if b' = b ∧ off ≤ j ∧ j < off + F.length * 6 then c2[j]? else mu b' j) b (off + i * 6 + q) = some ((encL (F.getD i rec0)).getD q Go.undef) := by
      intro W c2 fr2 F hW hWb hR
      have hget : ∀ i q, i < F.length → q < 6 → c2[off + i * 6 + q]? = some ((encL (F.getD i rec0)).getD q Go.undef) := by
        intro i q hi hq
        have := hR i (by simpa using hi) q hq
        rw [this]
        congr 3
        rw [getElem!_pos _ i (by simpa using hi)]
        simp [List.getD_eq_getElem?_getD, hi]
      refine ⟨?_, ?_, ?_⟩
      · intro b' j v hv
        simp only at hv
        split at hv
        · rename_i q
          obtain ⟨rfl, q1, q2⟩ := q
          have hi : (j - off) / 6 < F.length := by omega
          have := hget ((j - off) / 6) ((j - off) % 6) hi (by omega)
          rw [show off + (j - off) / 6 * 6 + (j - off) % 6 = j by omega] at this
          rw [this] at hv
          cases hv
          exact ⟨by rw [cell_of_block hWb]; exact this, hone _ _ (by omega)⟩
        · exact hW b' j v hv
      · intro b' j v hv
        have hne : b' ≠ b := fun q => by subst q; rw [hmu] at hv; cases hv
        simp only
        rw [if_neg (fun q => hne q.1)]
        exact hv
      · intro i q hi hq
        simp only
        rw [if_pos ⟨trivial, by omega, by omega⟩]
        exact hget i q hi hq
    have repF : ∀ (mu2 : Mem) (F : List Rec) (cap : Nat), F.length ≤ cap → (∀ i q, i < F.length → q < 6 → mu2 b (off + i * 6 + q) = some ((encL (F.getD i rec0)).getD q Go.undef)) → Rep mu2 (.sl 6 (RL F)) (.slice (some ⟨b, off, none⟩) F.length cap) := by
      intro mu2 F cap hc h
      have hF : (RL F).length = F.length := by simp
      have := Rep.sl (mu := mu2) 6 (RL F) b off cap (fun i q => (encL (F.getD i rec0)).getD q Go.undef) (by omega) (fun x hx => by
          simp only [RL, List.mem_map] at hx
          obtain ⟨r, _, rfl⟩ := hx
          rfl) (fun i q hi hq => h i q (by omega) hq) (fun i q hi hq => by
          have hi' : i < F.length := by omega
          have e1 : (RL F).getD i .undef = (F.getD i rec0).sv := by simp [RL, List.getD_eq_getElem?_getD, hi']
          rw [e1]
          exact rep_encL mu2 _ q hq)
      rwa [hF] at this
    have hIF : Calls Try.prog 157 #[.slice (some ⟨b, off, none⟩) l.toArray.size cap, .func (.func pf) #[] vc.toArray] w fun e' w' => e' = .returned (.int .i64 (idxP p l.toArray.toList 0)) ∧ Ext (fun _ => False) w w' ∧ MemOK mu w' := by
      obtain ⟨m1, m2, m3⟩ := mkmem w c fr l hm hb hrow
      have := idx_pure pf caps p hf hp l (by omega) _ w [.slice (some ⟨b, off, none⟩) l.length cap, .func (.func pf) #[] vc.toArray] m1 (repArgs_cons (repF _ l cap hcap m3) (repArgs1 (hvf.mono m2)))
      refine this.mono ?_
      rintro e' w' ⟨val', mu', rfl, q1, q2, q3, q4, ⟨_, q5, _⟩⟩
      exact ⟨by rw [Rep.inv_int q5], q1, MemOK.sub (Mem.le_trans m2 q2) q3⟩
    have hsz' : off + cap * 6 ≤ c.size := hsz
    have := del_raw pf vc.toArray p eg mu hcall l.toArray (by simpa using hl) w b off cap c e fr hm hmu hb hfr (by simpa using hcap) hsz' hrow hIF
    simp only [List.size_toArray] at this
    rw [hln]
    refine this.mono ?_
    rintro e' w' ⟨rfl, q1, q2, c', fr', q3, q4, q5, q6⟩
    have hfl : (l.filter fun r => !p r).length ≤ l.length := List.length_filter_le _ _
    obtain ⟨m1, m2, m3⟩ := mkmem w' c' fr' (l.filter fun r => !p r) q2 q3 q6
    refine ⟨_, _, rfl, q1.mono (fun k q => by rw [q]), m2, m1, ?_, fun k => if k = b then some (.slot 0 0) else none, .inr ⟨b, off, cap, ?_, ?_, by simp, fun _ => rfl, ⟨c', e, fr', q3, by rw [q5]; exact hsz', q4⟩, ?_⟩, ?_⟩
    · intro b' j hb' hne
      have hne' : b' ≠ b := fun q => hne (by rw [q])
      rw [if_neg (fun q => hne' q.1)]
    · simp
    · exact repF _ _ cap (by omega) m3
    · intro j hj
      rw [RL_length] at hj
      show (if b = b ∧ off ≤ j ∧ j < off + (l.filter fun r => !p r).length * 6 then c'[j]? else mu b j) = none
      rw [if_neg (by omega)]
      exact hmu j
    · intro b' p' hp'
      simp only at hp'
      split at hp'
      · rename_i q; subst q
        exact (Array.getElem?_eq_some_iff.1 q3).1
      · cases hp'

/-! ### From -/
def caps143 (b : Bat) (off : Int) : List SV := [.eptr b.sv 0, .eptr (.agg [.int .i64 off]) 0]
theorem ok143 : okFn Try.prog 143 := ⟨_, Try.func143, rfl, rfl⟩
theorem from_pure (b : Bat) (off : Int) (hl : b.rs.length ≤ 1000) : Pure Try.prog 110 [b.sv, .int .i64 off] (.own 6 (RL (fromR b off))) := by
  have hF : fromR b off = b.rs.filter fun r => !decide (atW b r < off) := by
    unfold fromR
    congr 1
    funext r
    by_cases q : off ≤ atW b r
    · have : ¬ atW b r < off := by omega
      simp [q, this]
    · have : atW b r < off := by omega
      simp [q, this]
  rw [hF]
  let R : Orc := {
    p := fun f l => match f, l with
      | 142, [.sl 6 xs] => some (xs = RL (unRL xs) ∧ xs.length ≤ 1000, .arr 6 xs)
      | _, _ => none
    d := fun f sz xs l => match f, sz, l with
      | 141, 6, [.fn 143 [] [.eptr (.agg [.int .i64 a, .int .i64 bb, .int .i64 c, .int .i64 d, .int .i64 e, .sl 6 ys]) 0, .eptr (.agg [.int .i64 o]) 0]] => some (xs = RL (unRL xs) ∧ ys = RL (unRL ys) ∧ xs.length ≤ 1000, .own 6 (RL ((unRL xs).filter fun r => !decide (atW ⟨a, bb, c, d, e, unRL ys⟩ r < o))))
      | _, _, _ => none }
  have hR : R.ok Try.prog := by
    refine ⟨fun f l c rv h hc => ?_, fun _ _ _ _ _ _ h => (by cases h), fun _ _ _ _ h => (by cases h), fun _ h => (by cases h), fun f sz xs l c rv h hc => ?_, fun _ _ _ _ _ _ _ h => (by cases h)⟩
    · simp only [R] at h
      split at h <;> cases h
      rename_i xs
      obtain ⟨h1, h2⟩ := hc
      have := clone_recs (unRL xs) (by rw [h1] at h2; simpa using h2)
      rw [← h1] at this
      exact this.arr (by rw [h1]; exact RL_flat _)
    · simp only [R] at h
      split at h <;> cases h
      rename_i a bb cc d e ys o
      obtain ⟨h1, h2, h3⟩ := hc
      have := del_pure 143 (caps143 ⟨a, bb, cc, d, e, unRL ys⟩ o) (fun r => decide (atW ⟨a, bb, cc, d, e, unRL ys⟩ r < o)) ok143 (fun r => f85_pure ⟨a, bb, cc, d, e, unRL ys⟩ o r) (unRL xs) (by rw [h1] at h3; simpa using h3)
      simp only [caps143, Bat.sv, Bat.cells] at this
      rw [← h1, ← h2] at this
      exact this
  have hp : R.p 142 [.sl 6 (RL b.rs)] = some (RL b.rs = RL (unRL (RL b.rs)) ∧ (RL b.rs).length ≤ 1000, .arr 6 (RL b.rs)) := rfl
  have hd : R.d 141 6 (RL b.rs) [.fn 143 [] [.eptr (.agg [.int .i64 b.ba, .int .i64 b.ct, .int .i64 b.pr, .int .i64 b.ep, .int .i64 b.sq, .sl 6 (RL b.rs)]) 0, .eptr (.agg [.int .i64 off]) 0]] = some (RL b.rs = RL b.rs ∧ RL b.rs = RL b.rs ∧ (RL b.rs).length ≤ 1000, .own 6 (RL (b.rs.filter fun r => !decide (atW b r < off)))) := by
    show some (RL b.rs = RL (unRL (RL b.rs)) ∧ RL b.rs = RL (unRL (RL b.rs)) ∧ (RL b.rs).length ≤ 1000, LV.own 6 (RL ((unRL (RL b.rs)).filter fun r => !decide (atW ⟨b.ba, b.ct, b.pr, b.ep, b.sq, unRL (RL b.rs)⟩ r < off)))) = _
    rw [unRL_RL]
  rw [unRL_RL] at hp
  have hnf : R.nofz = false := rfl
  generalize R = R' at hR hp hd hnf
  refine pure_go hR Try.func110 Try.ntmps110 comp110 cres110 (by decide) (by simp) ?_
  simp [ac110, ar110, Bat.sv, Bat.cells, hp, hd, hnf, hl]
end Go.Proofs.Ytflcdbfcipkhkaa

/- What Segment needs of the lists of batches (blocks of the Wire texts). -/






set_option linter.unusedSimpArgs false
set_option linter.unusedVariables false
set_option maxHeartbeats 8000000
namespace Go.Proofs.Ytflcdbfcipkhkaa
open Go.Av

theorem Bat.ext' {a b : Bat} (h1 : a.ba = b.ba) (h2 : a.ct = b.ct) (h3 : a.pr = b.pr) (h4 : a.ep = b.ep) (h5 : a.sq = b.sq) (h6 : a.rs = b.rs) : a = b := by
  cases a; cases b; simp_all
def nrc : SV → SV
  | .nils => .sl 6 []
  | c => c
def nrm : SV → SV
  | .agg l => .agg (l.map nrc)
  | v => v
theorem nrc_rep {mu : Mem} {x : SV} {v : Value} (h : Rep mu x v) : Rep mu (nrc x) v := by
  cases x <;> try exact h
  rw [h.inv_nils]
  exact .slnil 6
theorem nrm_rep {mu : Mem} {x : SV} {v : Value} (h : Rep mu x v) : Rep mu (nrm x) v := by
  cases x <;> try exact h
  rename_i l
  cases h with
  | agg cs vs h1 h2 =>
    refine .agg _ vs (by simpa using h1) (fun j hj => ?_)
    have hj' : j < l.length := by simpa using hj
    have e : (l.map nrc).getD j .undef = nrc (l.getD j .undef) := by simp [List.getD_eq_getElem?_getD, hj']
    rw [e]
    exact nrc_rep (h2 j hj')
theorem pure_nrm {P : Program} {f : FuncId} {rv : LV} {l : List SV} (p : Pure P f (l.map nrm) rv) : Pure P f l rv := fun mu w vs hm hr =>
  p mu w vs hm ⟨by simpa using hr.1, fun j hj => by
    have hj' : j < l.length := by simpa using hj
    have e : (l.map nrm).getD j .undef = nrm (l.getD j .undef) := by simp [List.getD_eq_getElem?_getD, hj']
    rw [e]
    exact nrm_rep (hr.2 j hj')⟩
noncomputable def rowN {α : Type} (enc : α → List SV) (F : α → Prop × LV) (l : List SV) : Option (Prop × LV) := row enc F (l.map nrm)
theorem rowN_ok {P : Program} {α : Type} {enc : α → List SV} {F : α → Prop × LV} {f : FuncId} {l : List SV} {c : Prop} {rv : LV} (h : rowN enc F l = some (c, rv)) (hc : c) (hp : ∀ a, (F a).1 → Pure P f (enc a) (F a).2) : Pure P f l rv :=
  pure_nrm (row_ok h hc hp)
theorem rowN_eq {α : Type} {enc : α → List SV} (hinj : ∀ a b, enc a = enc b → a = b) (F : α → Prop × LV) (a : α) {l : List SV} (h : l.map nrm = enc a) : rowN enc F l = some (F a) := by
  unfold rowN
  rw [h]
  exact row_eq hinj F a

theorem Bat.sv_inj (a b : Bat) (h : a.sv = b.sv) : a = b := by
  obtain ⟨a1, a2, a3, a4, a5, a6⟩ := a
  obtain ⟨b1, b2, b3, b4, b5, b6⟩ := b
  simp only [Bat.sv, Bat.cells, SV.agg.injEq, List.cons.injEq, SV.int.injEq, SV.sl.injEq, true_and, and_true] at h
  obtain ⟨rfl, rfl, rfl, rfl, rfl, h⟩ := h
  have : a6 = b6 := map_inj (fun x y e => by
    obtain ⟨x1, x2, x3, x4, x5, x6⟩ := x
    obtain ⟨y1, y2, y3, y4, y5, y6⟩ := y
    simpa [Rec.sv, Rec.cells] using e) _ _ h
  rw [this]
def eBB (p : Bat × Bat) : List SV := [p.1.sv, p.2.sv]
theorem eBB_inj (a b : Bat × Bat) (h : eBB a = eBB b) : a = b := by simp [eBB] at h; exact Prod.ext (Bat.sv_inj _ _ h.1) (Bat.sv_inj _ _ h.2)
abbrev bsv (b : Bat) : SV := .agg [.int .i64 b.ba, .int .i64 b.ct, .int .i64 b.pr, .int .i64 b.ep, .int .i64 b.sq, .sl 6 (RL b.rs)]
noncomputable def RwAp (f : FuncId) (l : List SV) : Option (Prop × LV) :=
  match f with
  | 69 => rowN eBB (fun p => (p.1.rs.length < 4611686018427387904, .sv (.bool (batS p.1 p.2)))) l
  | 89 => rowN eBB (fun p => (p.1.rs.length < 4611686018427387904, .sv (.bool (batS p.1 p.2)))) l
  | _ => none
noncomputable def RwA : Orc := { p := RwAp }
theorem RwA_ok : RwA.ok Try.prog := by
  refine ⟨fun f l c rv h hc => ?_, fun _ _ _ _ _ _ h => (by cases h), fun _ _ _ _ h => (by cases h), fun _ h => (by cases h), fun _ _ _ _ _ _ h => (by cases h), fun _ _ _ _ _ _ _ h => (by cases h)⟩
  change RwAp f l = _ at h
  unfold RwAp at h
  split at h
  · exact rowN_ok h hc (fun p hp => same_pure p.1 p.2 hp)
  · exact rowN_ok h hc (fun p hp => rsame_bat p.1 p.2 hp)
  · cases h
theorem RwA_69 (a b : Bat) : RwA.p 69 [bsv a, bsv b] = some (a.rs.length < 4611686018427387904, .sv (.bool (batS a b))) := rowN_eq eBB_inj _ (a, b) rfl
theorem RwA_89 (a b : Bat) : RwA.p 89 [bsv a, bsv b] = some (a.rs.length < 4611686018427387904, .sv (.bool (batS a b))) := rowN_eq eBB_inj _ (a, b) rfl
def eB (b : Bat) : List SV := [b.sv]
theorem eB_inj (a b : Bat) (h : eB a = eB b) : a = b := by simp [eB] at h; exact Bat.sv_inj _ _ h
theorem bs_inj {a b : List Nat} (h : bs a = bs b) : a = b := by
  have := congrArg nsOf h
  simpa using this
instance : DecidableEq Bat := fun a b => if h : batS a b = true then isTrue ((batS_iff a b).1 h) else isFalse (fun e => h ((batS_iff a b).2 e))
theorem batS_dec (a b : Bat) : batS a b = decide (a = b) := by
  rw [Bool.eq_iff_iff, batS_iff]; simp
def BL (l : List Bat) : List SV := l.map Bat.sv
def TL (l : List ByteArray) : List SV := l.map SV.str
@[simp] theorem BL_length (l : List Bat) : (BL l).length = l.length := by simp [BL]
@[simp] theorem TL_length (l : List ByteArray) : (TL l).length = l.length := by simp [TL]
theorem BL_inj (a b : List Bat) (h : BL a = BL b) : a = b := map_inj Bat.sv_inj _ _ h
theorem TL_inj (a b : List ByteArray) (h : TL a = TL b) : a = b := map_inj (fun x y e => by simpa using e) _ _ h
theorem BL_get (l : List Bat) {i : Nat} (h : i < l.length) : (BL l)[i]?.getD .undef = (l.getD i bat0).sv := by simp [BL, List.getD_eq_getElem?_getD, h]
theorem TL_get (l : List ByteArray) {i : Nat} (h : i < l.length) : (TL l)[i]?.getD .undef = .str (l.getD i ⟨#[]⟩) := by simp [TL, List.getD_eq_getElem?_getD, h]
theorem take_eq {α : Type} {a b : List α} {i : Nat} (d : α) (ha : i < a.length) (hb : i < b.length) (h : a.take i = b.take i) (e : a.getD i d = b.getD i d) : a.take (i + 1) = b.take (i + 1) := by
  rw [List.take_succ_eq_append_getElem ha, List.take_succ_eq_append_getElem hb, h]
  simp only [List.getD_eq_getElem?_getD, List.getElem?_eq_getElem ha, List.getElem?_eq_getElem hb, Option.getD_some] at e
  rw [e]
theorem ne_of_get {α : Type} {a b : List α} {i : Nat} (d : α) (e : a.getD i d ≠ b.getD i d) : a ≠ b := fun h => e (by rw [h])
theorem wrap_succ {i n : Nat} (h : i < n) (hn : n < 4611686018427387904) : IntKind.i64.wrap ((i : Int) + 1) = ((i + 1 : Nat) : Int) := by rw [IntKind.wrap_i64]; omega

theorem ok69 : okFn Try.prog 69 := ⟨_, Try.func69, rfl, rfl⟩
noncomputable def RwE : Orc := { RwA with fv := fun f => f == 69 }
theorem RwE_ok : RwE.ok Try.prog := by
  refine ⟨RwA_ok.p, fun _ _ _ _ _ _ h => (by cases h), fun _ _ _ _ h => (by cases h), fun f h => ?_, fun _ _ _ _ _ _ h => (by cases h), fun _ _ _ _ _ _ _ h => (by cases h)⟩
  have : f = 69 := by simpa [RwE] using h
  subst this; exact ok69
theorem RwE_69 (a b : Bat) : RwE.p 69 [bsv a, bsv b] = some (a.rs.length < 4611686018427387904, .sv (.bool (batS a b))) := RwA_69 a b
def smallB (l : List Bat) : Prop := ∀ b ∈ l, b.rs.length < 4611686018427387904
theorem eqBats (a b : List Bat) (hl : a.length < 4611686018427387904) (hs : smallB a) : Pure Try.prog 94 [.sl 6 (BL a), .sl 6 (BL b), .fn 69 [] []] (.sv (.bool (decide (a = b)))) := by
  have e := RwE_69
  have hR := RwE_ok
  have hfv : RwE.fv 69 = true := rfl
  have hnf : RwE.nofz = false := rfl
  generalize RwE = R at hR e hfv hnf
  refine pure_go hR Try.func94 Try.ntmps94 comp94 cres94 (by decide) (by simp) ?_
  by_cases h0 : a.length = b.length
  case neg =>
    have h0' : ¬ (a.length : Int) = b.length := by omega
    have hne : a ≠ b := fun e => h0 (by rw [e])
    simp [ac94, ar94, h0', hne, hnf]
  have h0' : (a.length : Int) = b.length := by omega
  simp [ac94, ar94, h0', hnf]
  refine awpR_loop (α := Nat) (fun i => i ≤ a.length ∧ a.take i = b.take i) (fun i => { n := 32, sl := [(1, .sv (.sl 6 (BL b))), (2, .sv (.fn 69 [] [])), (15, .sv (.sl 6 (BL a))), (16, .sv (.int .i64 b.length)), (17, .sv (.int .i64 i))], bx := [], hp := fun _ => none })
    (fun i => a.length - i) 0 ⟨by omega, by simp⟩ (by simp) ?_
  rintro i ⟨hi, ha⟩
  by_cases h : i < a.length
  · have hlt : (i : Int) < b.length := by omega
    have hb : i < b.length := by omega
    have hw := wrap_succ h hl
    have hg1 := BL_get a h
    have hg2 := BL_get b hb
    have hn := take_eq bat0 h hb ha
    have hz := @ne_of_get _ a b i bat0
    have e1 : (BL a)[i]'(by simpa using h) = (a.getD i bat0).sv := by rw [← hg1, List.getElem?_eq_getElem]; rfl
    have e2 : (BL b)[i]'(by simpa using hb) = (b.getD i bat0).sv := by rw [← hg2, List.getElem?_eq_getElem]; rfl
    have hsx : (a.getD i bat0).rs.length < 4611686018427387904 := by
      rw [List.getD_eq_getElem?_getD, List.getElem?_eq_getElem h]; exact hs _ (List.getElem_mem h)
    generalize a.getD i bat0 = x at *
    generalize b.getD i bat0 = y at *
    have e := e x y
    rw [batS_dec] at e
    by_cases q : x = y
    · have q2 := hn q
      simp [hlt, h, hb, hg1, hg2, e1, e2, Bat.sv, Bat.cells, e, hsx, hfv, hw, hnf]
      refine ⟨fun z => absurd q z, fun _ => ⟨i + 1, ⟨by omega, q2⟩, by omega, by omega⟩⟩
    · have q2 := hz q
      simp [hlt, h, hb, hg1, hg2, e1, e2, Bat.sv, Bat.cells, e, hsx, hfv, q2, hnf]
      try exact fun z => absurd z q
  · obtain rfl : i = a.length := by omega
    have hlt : ¬ ((a.length : Nat) : Int) < b.length := by omega
    have : a = b := by
      rw [List.take_length, h0, List.take_length] at ha
      exact ha
    simp [hlt, this]
theorem rsameAll (a b : List Bat) (hl : a.length < 4611686018427387904) (hs : smallB a) : Pure Try.prog 49 [.sl 6 (BL a), .sl 6 (BL b)] (.sv (.bool (decide (a = b)))) := by
  have e := RwA_89
  have hR := RwA_ok
  generalize RwA = R at hR e
  refine pure_go hR Try.func49 Try.ntmps49 comp49 cres49 (by decide) (by simp) ?_
  by_cases h0 : a.length = b.length
  case neg =>
    have h0' : ¬ (a.length : Int) = b.length := by omega
    have hne : a ≠ b := fun e => h0 (by rw [e])
    simp [ac49, ar49, h0', hne]
  have h0' : (a.length : Int) = b.length := by omega
  simp [ac49, ar49, h0']
  refine awpR_loop (α := Nat) (fun i => i ≤ a.length ∧ a.take i = b.take i) (fun i => { n := 27, sl := [(0, .sv (.sl 6 (BL a))), (1, .sv (.sl 6 (BL b))), (5, .sv (.int .i64 i))], bx := [], hp := fun _ => none })
    (fun i => a.length - i) 0 ⟨by omega, by simp⟩ (by simp) ?_
  rintro i ⟨hi, ha⟩
  by_cases h : i < a.length
  · have hlt : (i : Int) < a.length := by omega
    have hlb : (i : Int) < b.length := by omega
    have hb : i < b.length := by omega
    have hw := wrap_succ h hl
    have hg1 := BL_get a h
    have hg2 := BL_get b hb
    have hn := take_eq bat0 h hb ha
    have hz := @ne_of_get _ a b i bat0
    have e1 : (BL a)[i]'(by simpa using h) = (a.getD i bat0).sv := by rw [← hg1, List.getElem?_eq_getElem]; rfl
    have e2 : (BL b)[i]'(by simpa using hb) = (b.getD i bat0).sv := by rw [← hg2, List.getElem?_eq_getElem]; rfl
    have hsx : (a.getD i bat0).rs.length < 4611686018427387904 := by
      rw [List.getD_eq_getElem?_getD, List.getElem?_eq_getElem h]; exact hs _ (List.getElem_mem h)
    generalize a.getD i bat0 = x at *
    generalize b.getD i bat0 = y at *
    have e := e x y
    rw [batS_dec] at e
    by_cases q : x = y
    · have q2 := hn q
      simp [hlt, hlb, h, hb, hg1, hg2, e1, e2, Bat.sv, Bat.cells, e, hsx, hw]
      refine ⟨fun z => absurd q z, fun _ => ⟨i + 1, ⟨by omega, q2⟩, by omega, by omega⟩⟩
    · have q2 := hz q
      simp [hlt, hlb, h, hb, hg1, hg2, e1, e2, Bat.sv, Bat.cells, e, hsx, q2]
      try exact fun z => absurd z q
  · obtain rfl : i = a.length := by omega
    have hlt : ¬ ((a.length : Nat) : Int) < a.length := by omega
    have : a = b := by
      rw [List.take_length, h0, List.take_length] at ha
      exact ha
    simp [hlt, this]
def lightA (l : List Bat) (n : Int) : Bool := decide ((l.length : Int) ≤ n) && l.all lightB
theorem all_dropB (l : List Bat) {i : Nat} (h : i < l.length) : (l.drop i).all lightB = (lightB (l.getD i bat0) && (l.drop (i + 1)).all lightB) := by
  rw [List.drop_eq_getElem_cons h, List.all_cons, List.getD_eq_getElem?_getD, List.getElem?_eq_getElem h]
  rfl
noncomputable def R90 : Orc := { p := fun f l => match f with
    | 64 => row eB (fun b => (True, .sv (.bool (lightB b)))) l
    | _ => none }
theorem R90_ok : R90.ok Try.prog := by
  refine ⟨fun f l c rv h hc => ?_, fun _ _ _ _ _ _ h => (by cases h), fun _ _ _ _ h => (by cases h), fun _ h => (by cases h), fun _ _ _ _ _ _ h => (by cases h), fun _ _ _ _ _ _ _ h => (by cases h)⟩
  simp only [R90] at h
  split at h
  · exact row_ok h hc (fun b _ => light_bat b)
  · cases h
theorem R90_64 (b : Bat) : R90.p 64 [bsv b] = some (True, .sv (.bool (lightB b))) := row_eq eB_inj _ b
theorem lightAll (l : List Bat) (n : Int) (hn : n < 4611686018427387904) : Pure Try.prog 90 [.sl 6 (BL l), .int .i64 n] (.sv (.bool (lightA l n))) := by
  have e := R90_64
  have hR := R90_ok
  generalize R90 = R at hR e
  refine pure_go hR Try.func90 Try.ntmps90 comp90 cres90 (by decide) (by simp) ?_
  unfold lightA
  by_cases h0 : (l.length : Int) ≤ n
  case neg =>
    have h0' : n < (l.length : Int) := by omega
    simp [ac90, ar90, h0, h0']
  have h0' : ¬ n < (l.length : Int) := by omega
  have hl : l.length < 4611686018427387904 := by omega
  simp [ac90, ar90, h0, h0']
  refine awpR_loop (α := Nat) (fun i => i ≤ l.length ∧ l.all lightB = (l.drop i).all lightB) (fun i => { n := 22, sl := [(0, .sv (.sl 6 (BL l))), (5, .sv (.int .i64 i))], bx := [], hp := fun _ => none })
    (fun i => l.length - i) 0 ⟨by omega, by simp⟩ (by simp) ?_
  rintro i ⟨hi, ha⟩
  by_cases h : i < l.length
  · have hlt : (i : Int) < l.length := by omega
    have hw := wrap_succ h hl
    have hg1 := BL_get l h
    have e1 : (BL l)[i]'(by simpa using h) = (l.getD i bat0).sv := by rw [← hg1, List.getElem?_eq_getElem]; rfl
    rw [all_dropB l h] at ha
    generalize l.getD i bat0 = x at *
    have e := e x
    cases q : lightB x with
    | true =>
      rw [q] at e ha
      rw [Bool.true_and] at ha
      simp [hlt, h, hg1, e1, Bat.sv, Bat.cells, e, q, hw]
      refine ⟨i + 1, ⟨by omega, ha⟩, by omega, by omega⟩
    | false =>
      rw [q] at e ha
      rw [Bool.false_and] at ha
      rw [ha]
      simp [hlt, h, hg1, e1, Bat.sv, Bat.cells, e, q]
  · obtain rfl : i = l.length := by omega
    have hlt : ¬ ((l.length : Nat) : Int) < l.length := by omega
    rw [List.drop_length] at ha
    rw [ha]
    simp [hlt]
theorem WkCs_rep {mu : Mem} : ∀ {l m : List SV}, WkCs l m → ∀ {v : Value}, Rep mu (.agg l) v → Rep mu (.agg m) v := by
  intro l m h v hr
  exact WkA.rep (x := .agg l) (y := .agg m) h hr
def WkM (a b : SV) : Prop := ∀ (mu : Mem) (v : Value), Rep mu a v → Rep mu b v
theorem WkM.refl (a : SV) : WkM a a := fun _ _ h => h
theorem wkM_C {a b : SV} (h : WkC a b) : WkM a b := fun _ _ hr => h.rep hr
theorem wkM_Cs {l m : List SV} (h : WkCs l m) : WkM (.agg l) (.agg m) := fun _ _ hr => WkCs_rep h hr
theorem wkM_agg {l m : List SV} (hl : l.length = m.length) (h : ∀ j, j < l.length → WkM (l.getD j .undef) (m.getD j .undef)) : WkM (.agg l) (.agg m) := by
  intro mu v hr
  cases hr with
  | agg cs vs h1 h2 => exact .agg m vs (by omega) (fun j hj => h j (by omega) mu _ (h2 j (by omega)))
theorem wkM_nils (z : Nat) : WkM .nils (.sl z []) := fun mu v h => by rw [h.inv_nils]; exact .slnil z
theorem pure_wkM {P : Program} {f : FuncId} {rv : LV} {l m : List SV} (hl : l.length = m.length) (h : ∀ j, j < l.length → WkM (l.getD j .undef) (m.getD j .undef)) (p : Pure P f m rv) : Pure P f l rv :=
  fun mu w vs hm hr => p mu w vs hm ⟨by rw [hr.1]; exact hl, fun j hj => h j (by omega) mu _ (hr.2 j (by omega))⟩
abbrev shB : Sh := .st [.int .i64, .int .i64, .int .i64, .int .i64, .int .i64, .sl (.st [.int .i64, .int .i64, .bool, .str, .bool, .str])]
theorem has_batL {l : List SV} (h : shB.has l) : ∃ b : Bat, b.ok ∧ WkCs l b.cells := by
  obtain ⟨b, hb, l', e, hl⟩ := has_bat (v := .agg l) ⟨l, rfl, h⟩
  cases e
  exact ⟨b, hb, hl⟩
theorem WkCs_len : ∀ {l m : List SV}, WkCs l m → l.length = m.length
  | [], [], _ => rfl
  | a :: l, b :: m, h => by simp [WkCs_len h.2]
  | [], _ :: _, h => h.elim
  | _ :: _, [], h => h.elim
theorem WkCs_get : ∀ {l m : List SV}, WkCs l m → ∀ j, WkC (l.getD j .undef) (m.getD j .undef)
  | [], [], _, j => by simp [WkC]
  | a :: l, b :: m, h, 0 => h.1
  | a :: l, b :: m, h, j + 1 => by simpa using WkCs_get h.2 j
  | [], _ :: _, h, _ => h.elim
  | _ :: _, [], h, _ => h.elim
def WkBs : List SV → List Bat → Prop
  | [], [] => True
  | x :: xs, b :: l => (∃ c, x = .agg c ∧ WkCs c b.cells) ∧ WkBs xs l
  | _, _ => False
theorem WkBs_len : ∀ {xs : List SV} {l : List Bat}, WkBs xs l → xs.length = l.length
  | [], [], _ => rfl
  | a :: l, b :: m, h => by simp [WkBs_len h.2]
  | [], _ :: _, h => h.elim
  | _ :: _, [], h => h.elim
theorem WkBs_get : ∀ {xs : List SV} {l : List Bat}, WkBs xs l → ∀ i, i < xs.length → ∃ c, xs.getD i .undef = .agg c ∧ WkCs c (l.getD i bat0).cells
  | a :: l, b :: m, h, 0, _ => by obtain ⟨c, h1, h2⟩ := h.1; exact ⟨c, by simpa using h1, by simpa using h2⟩
  | a :: l, b :: m, h, i + 1, hi => by simpa using WkBs_get h.2 i (by simpa using hi)
  | [], [], _, i, hi => by simp at hi
  | [], _ :: _, h, _, _ => h.elim
  | _ :: _, [], h, _, _ => h.elim
theorem wkM_bats {xs : List SV} {l : List Bat} (h : WkBs xs l) : WkM (.sl 6 xs) (.sl 6 (BL l)) := by
  intro mu v hr
  have hlen := WkBs_len h
  rcases hr.inv_sl with ⟨⟨p, cap, e1, e2⟩, e3⟩ | ⟨b, off, cap, vals, rfl, h1, h2, h3, h4⟩
  · subst e3
    have : l = [] := List.length_eq_zero_iff.1 (by simpa using hlen.symm)
    subst this
    exact hr
  · have e : xs.length = (BL l).length := by simp [hlen]
    rw [e]
    refine .sl 6 (BL l) b off cap vals (by omega) (fun x hx => ?_) (fun i j hi hj => h3 i j (by omega) hj) (fun i j hi hj => ?_)
    · simp only [BL, List.mem_map] at hx
      obtain ⟨y, _, rfl⟩ := hx
      rfl
    · have hi' : i < l.length := by simpa using hi
      obtain ⟨c, k1, k2⟩ := WkBs_get h i (by omega)
      have k3 := h4 i j (by omega) hj
      rw [k1] at k3
      rw [show (BL l).getD i .undef = (l.getD i bat0).sv by rw [List.getD_eq_getElem?_getD]; exact BL_get l hi']
      exact (WkCs_get k2 j).rep k3
theorem has_bats : ∀ {xs : List SV}, (∀ x ∈ xs, x = mkE x.cells ∧ shB.has x.cells) → ∃ l : List Bat, (∀ b ∈ l, b.ok) ∧ WkBs xs l
  | [], _ => ⟨[], fun b h => (by cases h), trivial⟩
  | x :: xs, h => by
    obtain ⟨l, hl, hw⟩ := has_bats (xs := xs) (fun y hy => h y (by simp [hy]))
    obtain ⟨he, hx⟩ := h x (by simp)
    obtain ⟨b, hb, hk⟩ := has_batL hx
    refine ⟨b :: l, fun y hy => ?_, ⟨x.cells, ?_, hk⟩, hw⟩
    · rcases List.mem_cons.1 hy with rfl | hy
      · exact hb
      · exact hl y hy
    · have h6 := WkCs_len hk
      have h6' : x.cells.length = 6 := h6
      match hc : x.cells, h6' with
      | [_, _, _, _, _, _], _ => rw [hc] at he; exact he
end Go.Proofs.Ytflcdbfcipkhkaa

/- Segment: what a segment is; the batch's contracts in one oracle; what is fetched. -/




set_option linter.unusedSimpArgs false
set_option linter.unusedVariables false
set_option maxHeartbeats 8000000
namespace Go.Proofs.Ytflcdbfcipkhkaa
open Go.Av

structure Seg where
  ba : Int
  ls : List Bat
def Seg.cells (s : Seg) : List SV := [.int .i64 s.ba, .sl 6 (BL s.ls)]
def Seg.sv (s : Seg) : SV := .agg s.cells
theorem Seg.sv_inj (a b : Seg) (h : a.sv = b.sv) : a = b := by
  cases a; cases b
  simp [Seg.sv, Seg.cells] at h
  simp [h.1, BL_inj _ _ h.2]
def okB (l : List Bat) : Prop := l.length ≤ 1000 ∧ ∀ b ∈ l, b.ok ∧ b.rs.length ≤ 1000
theorem okB_get {l : List Bat} (h : okB l) {i : Nat} (hi : i < l.length) : (l.getD i bat0).ok ∧ (l.getD i bat0).rs.length ≤ 1000 := by
  rw [List.getD_eq_getElem?_getD, List.getElem?_eq_getElem hi]
  exact h.2 _ (List.getElem_mem hi)
theorem BL_snoc (l : List Bat) (b : Bat) : BL (l ++ [b]) = BL l ++ [b.sv] := by simp [BL]
def nxB (b : Bat) : Int := IntKind.i64.wrap (b.ba + b.ct)
def fromB (b : Bat) (off : Int) : Bat := { b with rs := fromR b off }
def nwB (b : Bat) : Int := newL (-1) b.rs
def eBI (p : Bat × Int) : List SV := [p.1.sv, .int .i64 p.2]
theorem eBI_inj (a b : Bat × Int) (h : eBI a = eBI b) : a = b := by simp [eBI] at h; exact Prod.ext (Bat.sv_inj _ _ h.1) h.2
noncomputable def RsBp (f : FuncId) (l : List SV) : Option (Prop × LV) :=
  match f with
  | 67 => row eB (fun b => (b.ok, .sv (.int .i64 (batE b)))) l
  | 107 => row eB (fun b => (b.ok, .sv (.int .i64 (batE b)))) l
  | 70 => row eB (fun b => (True, .sv (.int .i64 (nxB b)))) l
  | 111 => row eB (fun b => (True, .sv (.int .i64 (nxB b)))) l
  | 115 => row eB (fun b => (b.rs.length ≤ 1000, .sv (.int .i64 (nwB b)))) l
  | 116 => row eB (fun b => (b.rs.length ≤ 1000, .sv (.int .i64 (nwB b)))) l
  | 84 => row eB (fun b => (b.ok, .tup [.own 1 (bs (putB b)), .sv (.int .i64 (batE b))])) l
  | 87 => row eB (fun b => (b.ok, .tup [.own 1 (bs (putB b)), .sv (.int .i64 (batE b))])) l
  | 110 => row eBI (fun p => (p.1.rs.length ≤ 1000, .own 6 (RL (fromR p.1 p.2)))) l
  | 112 => row eBI (fun p => (p.1.rs.length ≤ 1000, .own 6 (RL (fromR p.1 p.2)))) l
  | _ => none
noncomputable def RsB : Orc := { p := RsBp }
theorem RsB_ok : RsB.ok Try.prog := by
  refine ⟨fun f l c rv h hc => ?_, fun _ _ _ _ _ _ h => (by cases h), fun _ _ _ _ h => (by cases h), fun _ h => (by cases h), fun _ _ _ _ _ _ h => (by cases h), fun _ _ _ _ _ _ _ h => (by cases h)⟩
  change RsBp f l = _ at h
  unfold RsBp at h
  split at h
  · exact row_ok h hc (fun x hp => check_bat x hp)
  · exact row_ok h hc (fun x hp => rcheck_bat x hp)
  · exact row_ok h hc (fun x hp => next_pure x)
  · exact row_ok h hc (fun x hp => rnext_pure x)
  · exact row_ok h hc (fun x hp => newest_pure x (by have := hp; simp only at this; omega))
  · exact row_ok h hc (fun x hp => rnewest_pure x (by have := hp; simp only at this; omega))
  · exact row_ok h hc (fun x hp => put_bat x hp)
  · exact row_ok h hc (fun x hp => rput_bat x hp)
  · exact row_ok h hc (fun x hp => from_pure x.1 x.2 hp)
  · exact row_ok h hc (fun x hp => rfrom_pure x.1 x.2 hp)
  · cases h
theorem RsB_67 (b : Bat) : RsB.p 67 [bsv b] = some (b.ok, .sv (.int .i64 (batE b))) := row_eq eB_inj _ b
theorem RsB_107 (b : Bat) : RsB.p 107 [bsv b] = some (b.ok, .sv (.int .i64 (batE b))) := row_eq eB_inj _ b
theorem RsB_70 (b : Bat) : RsB.p 70 [bsv b] = some (True, .sv (.int .i64 (nxB b))) := row_eq eB_inj _ b
theorem RsB_111 (b : Bat) : RsB.p 111 [bsv b] = some (True, .sv (.int .i64 (nxB b))) := row_eq eB_inj _ b
theorem RsB_115 (b : Bat) : RsB.p 115 [bsv b] = some (b.rs.length ≤ 1000, .sv (.int .i64 (nwB b))) := row_eq eB_inj _ b
theorem RsB_116 (b : Bat) : RsB.p 116 [bsv b] = some (b.rs.length ≤ 1000, .sv (.int .i64 (nwB b))) := row_eq eB_inj _ b
theorem RsB_84 (b : Bat) : RsB.p 84 [bsv b] = some (b.ok, .tup [.own 1 (bs (putB b)), .sv (.int .i64 (batE b))]) := row_eq eB_inj _ b
theorem RsB_87 (b : Bat) : RsB.p 87 [bsv b] = some (b.ok, .tup [.own 1 (bs (putB b)), .sv (.int .i64 (batE b))]) := row_eq eB_inj _ b
theorem RsB_110 (b : Bat) (n : Int) : RsB.p 110 [bsv b, .int .i64 n] = some (b.rs.length ≤ 1000, .own 6 (RL (fromR b n))) := row_eq eBI_inj _ (b, n)
theorem RsB_112 (b : Bat) (n : Int) : RsB.p 112 [bsv b, .int .i64 n] = some (b.rs.length ≤ 1000, .own 6 (RL (fromR b n))) := row_eq eBI_inj _ (b, n)

/-- What is fetched. -/
def fetL (off most : Int) : List Bat → List Bat → List Bat
  | [], acc => acc
  | b :: l, acc => if most ≤ acc.length then acc else if nxB b ≤ off then fetL off most l acc else fetL off most l (acc ++ [fromB b off])
theorem fetL_drop (off most : Int) (l acc : List Bat) {i : Nat} (h : i < l.length) : fetL off most (l.drop i) acc = if most ≤ acc.length then acc else if nxB (l.getD i bat0) ≤ off then fetL off most (l.drop (i + 1)) acc else fetL off most (l.drop (i + 1)) (acc ++ [fromB (l.getD i bat0) off]) := by
  rw [List.drop_eq_getElem_cons h, fetL, List.getD_eq_getElem?_getD, List.getElem?_eq_getElem h]
  rfl
theorem fetch_pure (s : Seg) (off most : Int) (hs : okB s.ls) : Pure Try.prog 50 [s.sv, .int .i64 off, .int .i64 most] (.own 6 (BL (fetL off most s.ls []))) := by
  have e1 := RsB_70
  have e2 := RsB_110
  have hR := RsB_ok
  generalize RsB = R at hR e1 e2
  refine pure_go hR Try.func50 Try.ntmps50 comp50 cres50 (by decide) (by simp) ?_
  obtain ⟨ba, l⟩ := s
  simp only at hs
  have hl : l.length ≤ 1000 := hs.1
  simp [ac50, ar50, Seg.sv, Seg.cells]
  refine awpR_loop (α := Nat × List Bat) (fun p => p.1 ≤ l.length ∧ p.2.length ≤ p.1 ∧ fetL off most l [] = fetL off most (l.drop p.1) p.2) (fun p => { n := 35, sl := [(1, .sv (.int .i64 off)), (2, .sv (.int .i64 most)), (3, .lptr 3 0), (7, .own 6 (BL p.2)), (11, .sv (.sl 6 (BL l))), (12, .sv (.int .i64 l.length)), (13, .sv (.int .i64 p.1))], bx := [(3, [.sv (.int .i64 ba), .sv (.sl 6 (BL l))])], hp := fun _ => none })
    (fun p => l.length - p.1) (0, []) ⟨by simp, by simp, by simp⟩ (by simp [BL]) ?_
  rintro ⟨i, acc⟩ ⟨hi, hac, ha⟩
  simp only at hi hac ha ⊢
  by_cases h : i < l.length
  · have hlt : (i : Int) < l.length := by omega
    have hw := wrap_succ h (show l.length < 4611686018427387904 by omega)
    have hg := BL_get l h
    have hge : (BL l)[i]'(by simpa using h) = (l.getD i bat0).sv := by rw [← hg, List.getElem?_eq_getElem]; rfl
    obtain ⟨ho, hr⟩ := okB_get hs h
    rw [fetL_drop off most l acc h] at ha
    generalize l.getD i bat0 = x at *
    have e1 := e1 x
    have e2 := e2 x off
    by_cases hm : most ≤ acc.length
    · rw [if_pos hm] at ha
      rw [ha]
      simp [hlt, h, hg, hge, Bat.sv, Bat.cells, hm, hw]
    · rw [if_neg hm] at ha
      by_cases hn : nxB x ≤ off
      · rw [if_pos hn] at ha
        simp [hlt, h, hg, hge, Bat.sv, Bat.cells, hm, hw, e1, hn]
        refine ⟨i + 1, acc, ⟨by omega, by omega, ha⟩, by omega, rfl, by omega⟩
      · rw [if_neg hn] at ha
        simp [hlt, h, hg, hge, Bat.sv, Bat.cells, hm, hw, e1, e2, hn, hr]
        refine ⟨by omega, i + 1, acc ++ [fromB x off], ⟨by omega, by simp; omega, ha⟩, by omega, ?_, by omega⟩
        simp [BL_snoc, fromB, Bat.sv, Bat.cells]
  · obtain rfl : i = l.length := by omega
    have hlt : ¬ ((l.length : Nat) : Int) < l.length := by omega
    rw [List.drop_length, fetL] at ha
    rw [ha]
    simp [hlt]
end Go.Proofs.Ytflcdbfcipkhkaa

/- Segment: what fits a segment. -/


set_option linter.unusedSimpArgs false
set_option linter.unusedVariables false
set_option maxHeartbeats 4000000
namespace Go.Proofs.Ytflcdbfcipkhkaa
open Go.Av

theorem has_seg {v : SV} (h : (Sh.st [.int .i64, .sl shB]).hasV v) : ∃ s : Seg, I64 s.ba ∧ (∀ b ∈ s.ls, b.ok) ∧ WkM v s.sv := by
  obtain ⟨l, rfl, h⟩ := h
  have h' : Sh.hasL [.int .i64, .sl shB] l := h
  simp only [Sh.hasL] at h'
  obtain ⟨_, _, rfl, ⟨ba, rfl, w1⟩, x, _, rfl, hx, rfl⟩ := h'
  obtain ⟨x', bts, hxe, hbo, hbw⟩ : ∃ (x' : SV) (bts : List Bat), x = [x'] ∧ (∀ b ∈ bts, b.ok) ∧ WkM x' (.sl 6 (BL bts)) := by
    rcases hx with rfl | ⟨xs, rfl, _, hx⟩
    · exact ⟨.nils, [], rfl, fun b h => (by cases h), wkM_nils 6⟩
    · obtain ⟨l, h1, h2⟩ := has_bats hx
      exact ⟨_, l, rfl, h1, wkM_bats h2⟩
  subst hxe
  refine ⟨⟨ba, bts⟩, wf64 w1, hbo, wkM_agg rfl (fun j hj => ?_)⟩
  match j, hj with
  | 0, _ => exact WkM.refl _
  | 1, _ => exact hbw
theorem has_i64 {v : SV} (h : Sh.hasV (.int .i64) v) : ∃ n, v = .int .i64 n ∧ I64 n := by
  obtain ⟨n, e, w⟩ := (h : (Sh.int .i64).has [v])
  cases e
  exact ⟨n, rfl, wf64 w⟩
end Go.Proofs.Ytflcdbfcipkhkaa
