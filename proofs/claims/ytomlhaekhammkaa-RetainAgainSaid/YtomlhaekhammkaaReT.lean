import Derived.Test.YtomlhaekhammkaaReA
import Derived.Test.YtomlhaekhammkaaIxIt
import Derived.Test.YtomlhaekhammkaaAvRg
import Derived.Shelf.RegionOpen
import Derived.RangeFuncCalls

set_option maxRecDepth 100000
set_option maxHeartbeats 2000000
open Go.RowKit
namespace Go.Proofs.Ytomlhaekhammkaa
open Go.Av
attribute [local go_sem] Oper.semAt_some

abbrev Seg := Int × Int × Int × Int
/-- A segment: base, next, newest, blocks. -/
def sgV (e : Seg) : SV := .agg [.int .i64 e.1, .int .i64 e.2.1, .int .i64 e.2.2.1, .int .i64 e.2.2.2]
def blk (n : Int) : Int := max 0 (min n 1099511627776)
def tot : List Seg → Int
  | [] => 0
  | s :: r => blk s.2.2.2 + tot r

theorem f64_pure (xs : List SV) : Pure Try.prog 64 [.sl 4 xs] (.sv (.fn 73 [] [.eptr (.agg [.sl 4 xs]) 0])) := by
  refine pure_go R0_ok Try.func64 Try.ntmps64 comp64 cres64 (by decide) (by simp) ?_
  simp [ac64, ar64, R0]
theorem f47_pure (s : Seg) : Pure Try.prog 47 [sgV s] (.sv (.int .i64 (blk s.2.2.2))) := by
  refine pure_go R0_ok Try.func47 Try.ntmps47 comp47 cres47 (by decide) (by simp) ?_
  simp [ac47, ar47, R0, sgV]
  unfold blk
  omega

theorem mk46 (w : World) (n : Nat) (hn : n ≤ 1000) : (Instr.makeSlice 87 (.int .i64 n) (.int .i64 n)).run Try.prog w = .ok (.slice (some ⟨w.heap.size, 0, none⟩) n n) (w.alloc (.cells (Array.replicate n (.int .i64 0)) 3)) := by
  obtain ⟨i, hi, hz, hs, hb⟩ : ∃ i, Try.prog.info? 3 = some i ∧ i.zero = some (.int .i64 0) ∧ i.size = 1 ∧ i.bytes = 8 := ⟨_, rfl, rfl, rfl, rfl⟩
  have ht : Try.prog.underlying 87 = some (.slice 3) := by kernel_rfl
  have := run_make (P := Try.prog) w 87 3 i (.int .i64 0) ht hi hz .i64 .i64 n n (by omega) (Int.le_refl _) (by rw [hb]; omega) (by omega)
  rw [hs] at this
  simp only [Int.toNat_natCast, Nat.mul_one] at this
  rw [this]
  have hc : madeCells (Value.cells (.int .i64 0)) n = Array.replicate n (.int .i64 0) := by
    apply Array.ext
    · simp [madeCells]
    · intro j h1 h2
      have hcs : Value.cells (.int .i64 0) = #[.int .i64 0] := rfl
      simp [madeCells, hcs, Nat.mod_one]
  rw [hc]

/-- What stands in the result behind k rounds. -/
def arrK (l : List Seg) (k : Nat) : Array Value := ((List.range l.length).map fun i => Value.int .i64 (if l.length - k ≤ i then tot (l.drop i) else 0)).toArray
theorem arrK_zero (l : List Seg) : arrK l 0 = Array.replicate l.length (.int .i64 0) := by
  apply Array.ext
  · simp [arrK]
  · intro j h1 h2
    have : j < l.length := by simpa [arrK] using h1
    simp [arrK]; omega
theorem arrK_succ (l : List Seg) (k : Nat) (hk : k < l.length) : (arrK l k).setIfInBounds (l.length - 1 - k) (.int .i64 (tot (l.drop (l.length - 1 - k)))) = arrK l (k + 1) := by
  apply Array.ext
  · simp [arrK]
  · intro j h1 h2
    have hj : j < l.length := by simpa [arrK] using h2
    rw [Array.getElem_setIfInBounds (by simpa using h1)]
    by_cases q : l.length - 1 - k = j
    · subst q
      rw [if_pos rfl]
      simp only [arrK, List.getElem_toArray, List.getElem_map, List.getElem_range]
      rw [if_pos (by omega)]
    · rw [if_neg q]
      simp only [arrK, List.getElem_toArray, List.getElem_map, List.getElem_range]
      by_cases q2 : l.length - k ≤ j
      · rw [if_pos q2, if_pos (by omega)]
      · rw [if_neg q2, if_neg (by omega)]
theorem blk_le (n : Int) : 0 ≤ blk n ∧ blk n ≤ 1099511627776 := by unfold blk; omega
theorem tot_le : ∀ l : List Seg, 0 ≤ tot l ∧ tot l ≤ l.length * 1099511627776
  | [] => by simp [tot]
  | s :: r => by have := tot_le r; have := blk_le s.2.2.2; simp only [tot, List.length_cons]; omega
theorem tot_drop (l : List Seg) {i : Nat} (hi : i < l.length) : tot (l.drop i) = blk (l.getD i (0, 0, 0, 0)).2.2.2 + tot (l.drop (i + 1)) := by
  rw [List.drop_eq_getElem_cons hi]
  simp [tot, List.getD_eq_getElem?_getD, hi]
theorem memDrew {mu : Mem} {w : World} (h : MemOK mu w) : MemOK mu w.drew := fun b j v e => by simpa using h b j v e

theorem f46_raw (l : List Seg) (hlen : l.length ≤ 1000) (mu : Mem) (w : World) (vx : Value) (hm : MemOK mu w) (hx : Rep mu (.sl 4 (l.map sgV)) vx) :
    CallsIn (FW none) 0 Try.prog 46 #[vx] w fun e w' => ∃ mu', mu.le mu' ∧ MemOK mu' w' ∧ (∀ b j, b < w.heap.size → mu' b j = mu b j) ∧ Ext (fun _ => False) w w' ∧
      e = .returned (.slice (some ⟨w.heap.size, 0, none⟩) l.length l.length) ∧ w'.heap[w.heap.size]? = some (.cells (arrK l l.length) 3 (0, 0)) := by
  obtain ⟨p, cap, rfl⟩ : ∃ p cap, vx = .slice p l.length cap := by
    generalize hs : SV.sl 4 (l.map sgV) = v at hx
    cases hx with
    | slnil sz => cases l <;> simp at hs; exact ⟨none, 0, rfl⟩
    | sle sz a cap => cases l <;> simp at hs; exact ⟨some a, cap, rfl⟩
    | sl sz xs b off cap vals h1 => cases hs; exact ⟨some ⟨b, off, none⟩, cap, by simp⟩
    | _ => cases hs
  have hmk := fun w => mk46 w l.length hlen
  have hmx : Try.prog.follows .mixedOrders = true := by kernel_rfl
  refine callsIn_of_wp_marks Try.func46 rfl trivial ?_ rfl
  simp only [Try.ntmps46, List.size_toArray, List.length_cons, List.length_nil, Nat.reduceAdd, Nat.reduceSub, Array.replicate_succ, Array.replicate_zero, List.push_toArray, List.append_toArray, List.nil_append, List.cons_append]
  gi_wp2
  have hra : RepArgs mu [.sl 4 (l.map sgV)] [.slice p l.length cap] := repArgs1 hx
  refine ⟨trivial, rfl, (callsIn_FW (f64_pure (l.map sgV) mu _ [_] (((hm.alloc _).alloc _).alloc _) hra)).mono ?_⟩
  rintro e w5 ⟨val, mu5, rfl, hext5, hle5, hm5, hold5, ⟨_, hret5, _⟩⟩
  obtain ⟨Bs, so, sv5, rfl, hBs5, hsv5⟩ := back_fn hret5
  clear hret5
  have hsz5 := hext5.size
  simp only [World.size_alloc] at hsz5
  have e2 : w5.heap[w.heap.size]? = some (.cells (arrK l 0) 3 (0, 0)) := by
    rw [hext5.block _ (by simp; omega) id]; simp only [alloc_get, World.size_alloc]; rw [if_neg (by omega), if_neg (by omega), if_pos trivial, arrK_zero]
  have e3 : w5.heap[w.heap.size + 1]? = some (.cells #[.slice (some ⟨w.heap.size, 0, none⟩) l.length l.length] 87 (0, 0)) := by
    rw [hext5.block _ (by simp) id]; simp only [alloc_get, World.size_alloc]; rw [if_neg (by omega), if_pos trivial]
  have e4 : w5.heap[w.heap.size + 1 + 1]? = some (.cells #[.int .i64 0] 3 (0, 0)) := by
    rw [hext5.block _ (by simp) id]; simp only [alloc_get, World.size_alloc]; rw [if_pos trivial]
  have ex0 : Ext (fun _ => False) w w5 := (ext_alloc (ext_alloc (ext_alloc (Ext.refl _ w) _) _) _).trans hext5
  have hold : ∀ b j, b < w.heap.size → mu5 b j = mu b j := fun b j hb => hold5 b j (by simp; omega)
  have hnone : ∀ b j, w.heap.size ≤ b → b < w.heap.size + 1 + 1 + 1 → mu5 b j = none := fun b j h1 h2 => by
    rw [hold5 b j (by simp; omega)]
    cases hq : mu b j with
    | none => rfl
    | some v => have := hm.lt hq; omega
  clear hext5 hold5
  obtain ⟨vals, hnc, hvals, hit⟩ := back73_it (mu := mu5) (xs := l.map sgV) (by simp; omega) hBs5 hsv5
  simp only [List.length_map] at hvals hit
  have hvl : ∀ k, k < l.length → vals k 0 = .int .i64 (l.getD k (0, 0, 0, 0)).1 ∧ vals k 1 = .int .i64 (l.getD k (0, 0, 0, 0)).2.1 ∧ vals k 2 = .int .i64 (l.getD k (0, 0, 0, 0)).2.2.1 ∧ vals k 3 = .int .i64 (l.getD k (0, 0, 0, 0)).2.2.2 := by
    intro k hk
    have e : (l.map sgV).getD k .undef = sgV (l.getD k (0, 0, 0, 0)) := by simp [List.getD_eq_getElem?_getD, hk]
    have q0 := hvals k 0 hk (by omega)
    have q1 := hvals k 1 hk (by omega)
    have q2 := hvals k 2 hk (by omega)
    have q3 := hvals k 3 hk (by omega)
    rw [e] at q0 q1 q2 q3
    exact ⟨Rep.inv_int q0, Rep.inv_int q1, Rep.inv_int q2, Rep.inv_int q3⟩
  gi_wp2
  refine rf_law (mu := mu5) rfl ⟨_, Try.func73, rfl, rfl⟩ (fun k => rfl) hit
    (fun k W => MemOK mu5 W ∧ Ext (fun _ => False) w W ∧ w5.heap.size ≤ W.heap.size ∧ W.heap[w.heap.size]? = some (.cells (arrK l k) 3 (0, 0)) ∧
      W.heap[w.heap.size + 1]? = some (.cells #[.slice (some ⟨w.heap.size, 0, none⟩) l.length l.length] 87 (0, 0)) ∧ W.heap[w.heap.size + 1 + 1]? = some (.cells #[.int .i64 (tot (l.drop (l.length - k)))] 3 (0, 0)))
    (fun c W => False)
    (fun k W h => h.1) ?_ (fun _ _ _ _ _ h => h.elim) ?_ ?_ ?_ (fun _ _ _ h => h.elim)
  · rintro k W L o o' ⟨h1, h2, h3, h4, h5, h6⟩ hL ho hc
    exact ⟨h1.putObj ho hc, ext_putObj h2 _ (by omega), by simpa [World.putObj] using h3, (World.putObj_heap_other (by omega)).trans h4, (World.putObj_heap_other (by omega)).trans h5, (World.putObj_heap_other (by omega)).trans h6⟩
  · intro o1 o2
    refine ⟨(hm5.alloc _).alloc _, ext_alloc (ext_alloc ex0 _) _, by simp; omega, ?_, ?_, ?_⟩
    · rw [alloc_get, if_neg (by simp; omega), alloc_get, if_neg (by omega)]; exact e2
    · rw [alloc_get, if_neg (by simp; omega), alloc_get, if_neg (by omega)]; exact e3
    · rw [alloc_get, if_neg (by simp; omega), alloc_get, if_neg (by omega)]; simpa [tot] using e4
  · rintro L k W ⟨h1, h2, h3, h4, h5, h6⟩ hk hL ⟨rc, hrc⟩
    obtain ⟨s, hs⟩ : ∃ s, l.getD (l.length - 1 - k) (0, 0, 0, 0) = s := ⟨_, rfl⟩
    obtain ⟨v0, v1, v2, v3⟩ := hvl (l.length - 1 - k) (by omega)
    simp only [v0, v1, v2, v3, hs]
    simp
    gi_wp2
    refine ⟨KeepsOthers.alloc _ _, fun rc2 => ?_⟩
    have hLW : L < W.heap.size := (Array.getElem?_eq_some_iff.1 hrc).1
    obtain ⟨X, hX⟩ : ∃ X : Obj, X = .cells #[.int .i64 s.1, .int .i64 s.2.1, .int .i64 s.2.2.1, .int .i64 s.2.2.2] 32 := ⟨_, rfl⟩
    rw [← hX]
    have k6 : ((W.alloc X).putObj L (.loop rc2)).heap[W.heap.size]? = some X := by
      rw [World.putObj_heap_other (by omega), alloc_get, if_pos rfl]
    have kk : ∀ b, b < W.heap.size → b ≠ L → ((W.alloc X).putObj L (.loop rc2)).heap[b]? = W.heap[b]? := fun b hb hbL => by
      rw [World.putObj_heap_other (by omega), alloc_get, if_neg (by omega)]
    have k2 := (kk _ (by omega) (by omega)).trans h4
    have k3 := (kk _ (by omega) (by omega)).trans h5
    have k4 := (kk _ (by omega) (by omega)).trans h6
    have km : MemOK mu5 ((W.alloc X).putObj L (.loop rc2)) := (h1.alloc _).putObj (o := .loop rc) (by rw [alloc_get, if_neg (by omega)]; exact hrc) rfl
    have ke : Ext (fun _ => False) w ((W.alloc X).putObj L (.loop rc2)) := ext_putObj (ext_alloc h2 _) _ (by omega)
    have ks : w5.heap.size ≤ ((W.alloc X).putObj L (.loop rc2)).heap.size := by simp [World.putObj]; omega
    generalize ((W.alloc X).putObj L (.loop rc2)) = W2 at k6 k2 k3 k4 km ke ks ⊢
    subst hX
    have hszW : W.heap.size < W2.heap.size := (Array.getElem?_eq_some_iff.1 k6).1
    have c60 : W2.cell? ⟨W.heap.size, 0, none⟩ = some (.int .i64 s.1) := by simp [World.cell?, k6]
    have c61 : W2.cell? ⟨W.heap.size, 1, none⟩ = some (.int .i64 s.2.1) := by simp [World.cell?, k6]
    have c62 : W2.cell? ⟨W.heap.size, 2, none⟩ = some (.int .i64 s.2.2.1) := by simp [World.cell?, k6]
    have c63 : W2.cell? ⟨W.heap.size, 3, none⟩ = some (.int .i64 s.2.2.2) := by simp [World.cell?, k6]
    have c4 : W2.cell? ⟨w.heap.size + 1 + 1, 0, none⟩ = some (.int .i64 (tot (l.drop (l.length - k)))) := by simp [World.cell?, k4]
    have hblk := blk_le s.2.2.2
    have htot := tot_le (l.drop (l.length - k))
    have htl : tot (l.drop (l.length - k)) ≤ 1000 * 1099511627776 := by
      have : (l.drop (l.length - k)).length ≤ 1000 := by simp; omega
      have h3 := htot.2
      have : ((l.drop (l.length - k)).length : Int) ≤ 1000 := by omega
      omega
    gi_wp2
    gi_region_with_o (
      refine ⟨trivial, rfl, (callsIn_FW (f47_pure s mu5 _ [_] (memDrew km) (repArgs1 (.agg _ [_, _, _, _] rfl (fun j hj => by
        match j, hj with
        | 0, _ => exact .int _ _
        | 1, _ => exact .int _ _
        | 2, _ => exact .int _ _
        | 3, _ => exact .int _ _))))).mono ?_⟩
      rintro e w6 ⟨val6, mu6, rfl, hext6, hle6, hm6, hold6, ⟨_, hret6, _⟩⟩
      obtain rfl : val6 = .int .i64 (blk s.2.2.2) := Rep.inv_int hret6
      have g4 : w6.heap[w.heap.size + 1 + 1]? = some (.cells #[.int .i64 (tot (l.drop (l.length - k)))] 3 (0, 0)) := (hext6.block _ (by show _ < W2.heap.size; omega) id).trans k4
      have d4 : w6.cell? ⟨w.heap.size + 1 + 1, 0, none⟩ = some (.int .i64 (tot (l.drop (l.length - k)))) := by simp [World.cell?, g4]
      have z4 : w6.frozen? ⟨w.heap.size + 1 + 1, 0, none⟩ = false := by simp [World.frozen?, g4])
    all_goals
      have hsum : IntKind.i64.wrap (tot (l.drop (l.length - k)) + blk s.2.2.2) = tot (l.drop (l.length - 1 - k)) := by
        rw [tot_drop l (i := l.length - 1 - k) (by omega), hs, show l.length - 1 - k + 1 = l.length - k by omega, IntKind.wrap_i64]
        have := htot.1
        omega
      have hm6' : MemOK mu5 w6 := MemOK.sub hle6 hm6
      have he6 : Ext (fun _ => False) w w6 := ke.trans ⟨hext6.os, hext6.tape, hext6.output, hext6.size, hext6.block⟩
      have hk6 : KeepsOthers W2 w6 := (KeepsOthers.drew W2).trans (hext6.others (fun _ q => q.elim))
      have j2 : w6.heap[w.heap.size]? = some (.cells (arrK l k) 3 (0, 0)) := (hext6.block _ (by show _ < W2.heap.size; omega) id).trans k2
      have j3 : w6.heap[w.heap.size + 1]? = some (.cells #[.slice (some ⟨w.heap.size, 0, none⟩) l.length l.length] 87 (0, 0)) := (hext6.block _ (by show _ < W2.heap.size; omega) id).trans k3
      have hs6 : w5.heap.size ≤ w6.heap.size := by have := hext6.size; have : W2.heap.size ≤ w6.heap.size := this; omega
      rw [hsum]
      have i4 : (w6.setCell ⟨w.heap.size + 1 + 1, 0, none⟩ (.int .i64 (tot (l.drop (l.length - 1 - k))))).heap[w.heap.size + 1 + 1]? = some (.cells #[.int .i64 (tot (l.drop (l.length - 1 - k)))] 3 (0, 0)) := by
        rw [set_get g4]; rfl
      have i3 := (set_other w6 (w.heap.size + 1 + 1) 0 (.int .i64 (tot (l.drop (l.length - 1 - k)))) (k := w.heap.size + 1) (by omega)).trans j3
      have i2 := (set_other w6 (w.heap.size + 1 + 1) 0 (.int .i64 (tot (l.drop (l.length - 1 - k)))) (k := w.heap.size) (by omega)).trans j2
      have im : MemOK mu5 (w6.setCell ⟨w.heap.size + 1 + 1, 0, none⟩ (.int .i64 (tot (l.drop (l.length - 1 - k))))) := mem_set hm6' _ (fun j => hnone _ j (by omega) (by omega))
      have ie : Ext (fun _ => False) w (w6.setCell ⟨w.heap.size + 1 + 1, 0, none⟩ (.int .i64 (tot (l.drop (l.length - 1 - k))))) := ext_set he6 _ (by omega)
      have ik : KeepsOthers W2 (w6.setCell ⟨w.heap.size + 1 + 1, 0, none⟩ (.int .i64 (tot (l.drop (l.length - 1 - k))))) := hk6.trans (KeepsOthers.setCell _ _ _)
      have is : w5.heap.size ≤ (w6.setCell ⟨w.heap.size + 1 + 1, 0, none⟩ (.int .i64 (tot (l.drop (l.length - 1 - k))))).heap.size := Nat.le_trans hs6 (KeepsWalks.setCell w6 _ _).size
      generalize (w6.setCell ⟨w.heap.size + 1 + 1, 0, none⟩ (.int .i64 (tot (l.drop (l.length - 1 - k))))) = W3 at i4 i3 i2 im ie ik is ⊢
      have o3 : W3.cell? ⟨w.heap.size + 1, 0, none⟩ = some (.slice (some ⟨w.heap.size, 0, none⟩) l.length l.length) := by simp [World.cell?, i3]
      have o4 : W3.cell? ⟨w.heap.size + 1 + 1, 0, none⟩ = some (.int .i64 (tot (l.drop (l.length - 1 - k)))) := by simp [World.cell?, i4]
      have hasz : l.length - 1 - k < (arrK l k).size := by simp [arrK]; omega
      obtain ⟨vo, hvo⟩ : ∃ v, W3.cell? ⟨w.heap.size, l.length - 1 - k, none⟩ = some v := ⟨(arrK l k)[l.length - 1 - k], by simp [World.cell?, i2, hasz]⟩
      have zo : W3.frozen? ⟨w.heap.size, l.length - 1 - k, none⟩ = false := by simp [World.frozen?, i2]
      have hge : (0 : Int) ≤ (l.length : Int) - 1 - k := by omega
      have hlt : (l.length : Int) - 1 - k < l.length := by omega
      have htn : ((l.length : Int) - 1 - k).toNat = l.length - 1 - k := by omega
      gi_wp2
    all_goals
      refine ⟨ik.trans (KeepsOthers.setCell _ _ _), mem_set im _ (fun j => hnone _ j (by omega) (by omega)), ext_set ie _ (Nat.le_refl _), Nat.le_trans is (KeepsWalks.setCell W3 _ _).size, ?_, (set_other _ _ _ _ (by omega)).trans i3, ?_⟩
      · rw [set_get i2, arrK_succ l k hk]
      · rw [set_other _ _ _ _ (by omega), i4, show l.length - 1 - k = l.length - (k + 1) by omega]
  · rintro D W ⟨h1, h2, h3, h4, h5, h6⟩ hD hDo
    have o3 : W.cell? ⟨w.heap.size + 1, 0, none⟩ = some (.slice (some ⟨w.heap.size, 0, none⟩) l.length l.length) := by simp [World.cell?, h5]
    simp
    gi_wp2
    refine ⟨by simp, .inl ⟨_, _, rfl, run_takeDeferred hDo, ?_⟩⟩
    exact ⟨_, results_tmp rfl _ _ _, mu5, hle5, h1.putObj hDo rfl, hold, ext_putObj h2 _ (by omega), rfl, (World.putObj_heap_other (by omega)).trans h4⟩

/-- What `behind` tells: of each segment the blocks of it and all behind it. -/
def sufs (l : List Seg) : List SV := (List.range l.length).map fun i => .int .i64 (tot (l.drop i))
theorem arrK_get (l : List Seg) {i : Nat} (hi : i < l.length) : (arrK l l.length)[i]? = some (.int .i64 (tot (l.drop i))) := by
  simp [arrK, hi]

theorem f46_pure (l : List Seg) (hlen : l.length ≤ 1000) : Pure Try.prog 46 [.sl 4 (l.map sgV)] (.sv (.sl 1 (sufs l))) := by
  intro mu w vs hm hr
  obtain ⟨a, rfl⟩ : ∃ a, vs = [a] := by
    match vs, hr.1 with
    | [a], _ => exact ⟨a, rfl⟩
  refine (calls_of_FW (f46_raw l hlen mu w a hm (hr.2 0 (by simp)))).mono ?_
  rintro e w' ⟨mu', k1, k2, k3, k4, rfl, k5⟩
  have hsz : (arrK l l.length).size = l.length := by simp [arrK]
  have hn : ∀ j, mu' w.heap.size j ≠ none → ∃ v, mu' w.heap.size j = some v := fun j h => Option.ne_none_iff_exists'.1 h
  refine ⟨_, fun b j => if b = w.heap.size ∧ j < l.length then (arrK l l.length)[j]? else mu' b j, rfl, k4, ?_, ?_, ?_, fun _ => none, ?_, fun b p q => by cases q⟩
  · intro b j v e
    have hb : b < w.heap.size := hm.lt e
    simp only []
    rw [if_neg (by omega)]
    exact k1 b j v e
  · intro b j v e
    simp only [] at e
    split at e
    · rename_i q
      obtain ⟨rfl, q2⟩ := q
      rw [arrK_get l q2] at e
      cases e
      refine ⟨?_, rfl⟩
      simp only [World.cell?, k5]
      simp [arrK_get l q2]
    · exact k2 b j v e
  · intro b j hb
    simp only []
    rw [if_neg (by omega)]
    exact k3 b j hb
  · have hl2 : (sufs l).length = l.length := by simp [sufs]
    have := Rep.sl (mu := fun b j => if b = w.heap.size ∧ j < l.length then (arrK l l.length)[j]? else mu' b j) 1 (sufs l) w.heap.size 0 l.length (fun i _ => .int .i64 (tot (l.drop i))) (by omega) (fun x hx => by
        obtain ⟨i, _, rfl⟩ := List.mem_map.1 hx; rfl)
      (fun i j hi hj => by
        have hj0 : j = 0 := by omega
        subst hj0
        rw [hl2] at hi
        simp only [Nat.zero_add, Nat.mul_one, Nat.add_zero]
        rw [if_pos ⟨trivial, hi⟩, arrK_get l hi])
      (fun i j hi hj => by
        have hj0 : j = 0 := by omega
        subst hj0
        rw [hl2] at hi
        have e : (sufs l).getD i .undef = .int .i64 (tot (l.drop i)) := by simp [sufs, List.getD_eq_getElem?_getD, hi]
        rw [e]
        exact .int _ _)
    rw [hl2] at this
    exact this
end Go.Proofs.Ytomlhaekhammkaa
