import Derived.Test.YtomlhaekhammkaaIxA
import Derived.Test.YtomlhaekhammkaaIxIt
import Derived.Test.YtomlhaekhammkaaAvRg

set_option maxRecDepth 100000
set_option maxHeartbeats 2000000
open Go.RowKit
namespace Go.Proofs.Ytomlhaekhammkaa
open Go.Av
attribute [local go_sem] Oper.semAt_some

def iV (n : Int) : SV := .int .i64 n
/-- An entry: offset, time, place. -/
def eV (e : Int × Int × Int) : SV := .agg [iV e.1, iV e.2.1, iV e.2.2]
def xV (every count : Int) (l : List SV) : SV := .agg [iV every, iV count, .sl 3 l]

theorem f58_pure (xs : List SV) : Pure Try.prog 58 [.sl 3 xs] (.sv (.fn 68 [] [.eptr (.agg [.sl 3 xs]) 0])) := by
  refine pure_go R0_ok Try.func58 Try.ntmps58 comp58 cres58 (by decide) (by simp) ?_
  simp [ac58, ar58, R0]

def tOf (l : List (Int × Int × Int)) (k : Nat) : Int := (l.getD (l.length - 1 - k) (0, 0, 0)).2.1
/-- What a call of ByTime leaves. -/
def byT (time : Int) (l : List (Int × Int × Int)) : (Int × Int × Int) × Bool := match l.reverse.find? (fun e => e.2.1 < time) with
  | some e => (e, true)
  | none => ((0, 0, 0), false)

theorem byT_none {time : Int} {l : List (Int × Int × Int)} (h : ∀ i, i < l.length → ¬ tOf l i < time) : byT time l = ((0, 0, 0), false) := by
  unfold byT
  rw [List.find?_eq_none.2]
  intro x hx
  obtain ⟨i, hi, rfl⟩ := List.mem_iff_getElem.1 hx
  have hi' : i < l.length := by simpa using hi
  have := h i hi'
  simp only [tOf, List.getD_eq_getElem?_getD, List.getElem?_eq_getElem (show l.length - 1 - i < l.length by omega), Option.getD_some] at this
  simpa using this
theorem byT_some {time : Int} {l : List (Int × Int × Int)} {k : Nat} (hk : k < l.length) (h : ∀ i, i < k → ¬ tOf l i < time) (h2 : tOf l k < time) : byT time l = (l.getD (l.length - 1 - k) (0, 0, 0), true) := by
  have hf : l.reverse.find? (fun e => decide (e.2.1 < time)) = some (l.getD (l.length - 1 - k) (0, 0, 0)) := by
    rw [List.find?_eq_some_iff_getElem]
    have e2 : l.getD (l.length - 1 - k) (0, 0, 0) = l[l.length - 1 - k]'(by omega) := by simp [List.getD_eq_getElem?_getD, List.getElem?_eq_getElem (show l.length - 1 - k < l.length by omega)]
    refine ⟨by simpa [tOf] using h2, k, by simpa using hk, ?_, fun j hj => ?_⟩
    · rw [e2]; simp
    · have := h j hj
      simp only [tOf, List.getD_eq_getElem?_getD, List.getElem?_eq_getElem (show l.length - 1 - j < l.length by omega), Option.getD_some] at this
      simpa using this
  unfold byT
  rw [hf]

theorem xV_inv {mu : Mem} {every count : Int} {l : List SV} {vx : Value} (h : Rep mu (xV every count l) vx) : ∃ sv, vx = .agg #[.int .i64 every, .int .i64 count, sv] ∧ Rep mu (.sl 3 l) sv := by
  cases h with
  | agg cs vs h1 h2 =>
    obtain ⟨a, b, c, rfl⟩ : ∃ a b c, vs = [a, b, c] := by
      match vs, h1 with
      | [a, b, c], _ => exact ⟨a, b, c, rfl⟩
    have q0 := h2 0 (by simp)
    have q1 := h2 1 (by simp)
    have q2 := h2 2 (by simp)
    have e0 : a = .int .i64 every := Rep.inv_int q0
    have e1 : b = .int .i64 count := Rep.inv_int q1
    subst e0 e1
    exact ⟨c, rfl, q2⟩

theorem f37_raw (every count time : Int) (l : List (Int × Int × Int)) (hlen : l.length ≤ 1000000) (mu : Mem) (w : World) (vx : Value) (hm : MemOK mu w) (hx : Rep mu (xV every count (l.map eV)) vx) :
    CallsIn (FW none) 0 Try.prog 37 #[vx, .int .i64 time] w fun e w' => ∃ mu', mu.le mu' ∧ MemOK mu' w' ∧ (∀ b j, b < w.heap.size → mu' b j = mu b j) ∧ Ext (fun _ => False) w w' ∧
      e = .returned (.tuple #[.agg #[.int .i64 (byT time l).1.1, .int .i64 (byT time l).1.2.1, .int .i64 (byT time l).1.2.2], .bool (byT time l).2]) := by
  obtain ⟨sv, rfl, hsv⟩ := xV_inv hx
  refine callsIn_of_wp_marks Try.func37 rfl trivial ?_ rfl
  simp only [Try.ntmps37, List.size_toArray, List.length_cons, List.length_nil, Nat.reduceAdd, Nat.reduceSub, Array.replicate_succ, Array.replicate_zero, List.push_toArray, List.append_toArray, List.nil_append, List.cons_append]
  gi_wp2
  have hra : RepArgs mu [.sl 3 (l.map eV)] [sv] := repArgs1 hsv
  refine ⟨trivial, rfl, (callsIn_FW (f58_pure (l.map eV) mu _ [sv] ((((hm.alloc _).alloc _).alloc _).alloc _) hra)).mono ?_⟩
  rintro e w5 ⟨val, mu5, rfl, hext5, hle5, hm5, hold5, ⟨_, hret5, _⟩⟩
  obtain ⟨Bs, so, sv5, rfl, hBs5, hsv5⟩ := back_fn hret5
  clear hret5
  have hsz5 := hext5.size
  simp only [World.size_alloc] at hsz5
  have e3 : w5.heap[w.heap.size + 1]? = some (.cells #[.int .i64 time] 3 (0, 0)) := by
    rw [hext5.block _ (by simp) id]; simp only [alloc_get, World.size_alloc]; rw [if_neg (by omega), if_neg (by omega), if_pos trivial]
  have e4 : w5.heap[w.heap.size + 1 + 1]? = some (.cells #[.int .i64 0, .int .i64 0, .int .i64 0] 63 (0, 0)) := by
    rw [hext5.block _ (by simp) id]; simp only [alloc_get, World.size_alloc]; rw [if_neg (by omega), if_pos trivial]
  have e5 : w5.heap[w.heap.size + 1 + 1 + 1]? = some (.cells #[.bool false] 4 (0, 0)) := by
    rw [hext5.block _ (by simp) id]; simp only [alloc_get, World.size_alloc]; rw [if_pos trivial]
  have ex0 : Ext (fun _ => False) w w5 := (ext_alloc (ext_alloc (ext_alloc (ext_alloc (Ext.refl _ w) _) _) _) _).trans hext5
  have hold : ∀ b j, b < w.heap.size → mu5 b j = mu b j := fun b j hb => hold5 b j (by simp; omega)
  have hnone : ∀ b j, w.heap.size ≤ b → b < w.heap.size + 1 + 1 + 1 + 1 → mu5 b j = none := fun b j h1 h2 => by
    rw [hold5 b j (by simp; omega)]
    cases hq : mu b j with
    | none => rfl
    | some v => have := hm.lt hq; omega
  clear hext5 hold5
  obtain ⟨vals, hnc, hvals, hit⟩ := back68_it (mu := mu5) (xs := l.map eV) (by simpa using hlen) hBs5 hsv5
  simp only [List.length_map] at hvals hit
  have hvl : ∀ k, k < l.length → vals k 0 = .int .i64 (l.getD k (0, 0, 0)).1 ∧ vals k 1 = .int .i64 (l.getD k (0, 0, 0)).2.1 ∧ vals k 2 = .int .i64 (l.getD k (0, 0, 0)).2.2 := by
    intro k hk
    have e : (l.map eV).getD k .undef = eV (l.getD k (0, 0, 0)) := by simp [List.getD_eq_getElem?_getD, hk]
    have q0 := hvals k 0 hk (by omega)
    have q1 := hvals k 1 hk (by omega)
    have q2 := hvals k 2 hk (by omega)
    rw [e] at q0 q1 q2
    exact ⟨Rep.inv_int q0, Rep.inv_int q1, Rep.inv_int q2⟩
  have hval1 : ∀ k, k < l.length → vals (l.length - 1 - k) 1 = .int .i64 (tOf l k) := fun k hk => (hvl (l.length - 1 - k) (by omega)).2.1
  gi_wp2
  refine rf_law (mu := mu5) rfl ⟨_, Try.func68, rfl, rfl⟩ (fun k => rfl) hit
    (fun k W => MemOK mu5 W ∧ Ext (fun _ => False) w W ∧ w5.heap.size ≤ W.heap.size ∧ W.heap[w.heap.size + 1]? = some (.cells #[.int .i64 time] 3 (0, 0)) ∧ W.heap[w.heap.size + 1 + 1]? = some (.cells #[.int .i64 0, .int .i64 0, .int .i64 0] 63 (0, 0)) ∧
      W.heap[w.heap.size + 1 + 1 + 1]? = some (.cells #[.bool false] 4 (0, 0)) ∧ ∀ i, i < k → ¬ tOf l i < time)
    (fun c W => c = .ret ∧ MemOK mu5 W ∧ Ext (fun _ => False) w W ∧ ∃ k, k < l.length ∧ (∀ i, i < k → ¬ tOf l i < time) ∧ tOf l k < time ∧
      W.heap[w.heap.size + 1 + 1]? = some (.cells #[vals (l.length - 1 - k) 0, vals (l.length - 1 - k) 1, vals (l.length - 1 - k) 2] 63 (0, 0)) ∧ W.heap[w.heap.size + 1 + 1 + 1]? = some (.cells #[.bool true] 4 (0, 0)))
    (fun k W h => h.1) ?_ ?_ ?_ ?_ ?_ ?_
  · rintro k W L o o' ⟨h1, h2, h3, h4, h5, h6, h7⟩ hL ho hc
    exact ⟨h1.putObj ho hc, ext_putObj h2 _ (by omega), by simpa [World.putObj] using h3, (World.putObj_heap_other (by omega)).trans h4, (World.putObj_heap_other (by omega)).trans h5, (World.putObj_heap_other (by omega)).trans h6, h7⟩
  · rintro c W L o o' ⟨hc, h1, h2, k, h3, h4, h5, h6, h7⟩ hL ho hcc
    exact ⟨hc, h1.putObj ho hcc, ext_putObj h2 _ (by omega), k, h3, h4, h5, (World.putObj_heap_other (by omega)).trans h6, (World.putObj_heap_other (by omega)).trans h7⟩
  · intro o1 o2
    refine ⟨(hm5.alloc _).alloc _, ext_alloc (ext_alloc ex0 _) _, by simp; omega, ?_, ?_, ?_, fun i hi => by omega⟩
    all_goals (rw [alloc_get, if_neg (by simp; omega), alloc_get, if_neg (by omega)]; assumption)
  · rintro L k W ⟨h1, h2, h3, h4, h5, h6, h7⟩ hk hL ⟨rc, hrc⟩
    obtain ⟨n0, hn0⟩ : ∃ n, vals (l.length - 1 - k) 0 = .int .i64 n := ⟨_, (hvl (l.length - 1 - k) (by omega)).1⟩
    obtain ⟨n2, hn2⟩ : ∃ n, vals (l.length - 1 - k) 2 = .int .i64 n := ⟨_, (hvl (l.length - 1 - k) (by omega)).2.2⟩
    have hn1 := hval1 k hk
    simp only [hn0, hn1, hn2]
    simp
    gi_wp2
    refine ⟨KeepsOthers.alloc _ _, fun rc2 => ?_⟩
    have hLW : L < W.heap.size := (Array.getElem?_eq_some_iff.1 hrc).1
    have k7 : ((W.alloc (.cells #[.int .i64 n0, .int .i64 (tOf l k), .int .i64 n2] 63)).putObj L (.loop rc2)).heap[W.heap.size]? = some (.cells #[.int .i64 n0, .int .i64 (tOf l k), .int .i64 n2] 63 (0, 0)) := by
      rw [World.putObj_heap_other (by omega), alloc_get, if_pos rfl]
    have kk : ∀ b, b < W.heap.size → b ≠ L → ((W.alloc (.cells #[.int .i64 n0, .int .i64 (tOf l k), .int .i64 n2] 63)).putObj L (.loop rc2)).heap[b]? = W.heap[b]? := fun b hb hbL => by
      rw [World.putObj_heap_other (by omega), alloc_get, if_neg (by omega)]
    have k3 := (kk _ (by omega) (by omega)).trans h4
    have k4 := (kk _ (by omega) (by omega)).trans h5
    have k5 := (kk _ (by omega) (by omega)).trans h6
    have km : MemOK mu5 ((W.alloc (.cells #[.int .i64 n0, .int .i64 (tOf l k), .int .i64 n2] 63)).putObj L (.loop rc2)) := (h1.alloc _).putObj (o := .loop rc) (by rw [alloc_get, if_neg (by omega)]; exact hrc) rfl
    have ke : Ext (fun _ => False) w ((W.alloc (.cells #[.int .i64 n0, .int .i64 (tOf l k), .int .i64 n2] 63)).putObj L (.loop rc2)) := ext_putObj (ext_alloc h2 _) _ (by omega)
    have ks : w5.heap.size ≤ ((W.alloc (.cells #[.int .i64 n0, .int .i64 (tOf l k), .int .i64 n2] 63)).putObj L (.loop rc2)).heap.size := by simp [World.putObj]; omega
    generalize ((W.alloc (.cells #[.int .i64 n0, .int .i64 (tOf l k), .int .i64 n2] 63)).putObj L (.loop rc2)) = W2 at k7 k3 k4 k5 km ke ks ⊢
    have c70 : W2.cell? ⟨W.heap.size, 0, none⟩ = some (.int .i64 n0) := by simp [World.cell?, k7]
    have c71 : W2.cell? ⟨W.heap.size, 1, none⟩ = some (.int .i64 (tOf l k)) := by simp [World.cell?, k7]
    have c72 : W2.cell? ⟨W.heap.size, 2, none⟩ = some (.int .i64 n2) := by simp [World.cell?, k7]
    have c3 : W2.cell? ⟨w.heap.size + 1, 0, none⟩ = some (.int .i64 time) := by simp [World.cell?, k3]
    have f4 : ∀ j, W2.frozen? ⟨w.heap.size + 1 + 1, j, none⟩ = false := fun j => by simp [World.frozen?, k4]
    have f5 : ∀ j, W2.frozen? ⟨w.heap.size + 1 + 1 + 1, j, none⟩ = false := fun j => by simp [World.frozen?, k5]
    have c40 : W2.cell? ⟨w.heap.size + 1 + 1, 0, none⟩ = some (.int .i64 0) := by simp [World.cell?, k4]
    have c41 : W2.cell? ⟨w.heap.size + 1 + 1, 1, none⟩ = some (.int .i64 0) := by simp [World.cell?, k4]
    have c42 : W2.cell? ⟨w.heap.size + 1 + 1, 2, none⟩ = some (.int .i64 0) := by simp [World.cell?, k4]
    have c50 : W2.cell? ⟨w.heap.size + 1 + 1 + 1, 0, none⟩ = some (.bool false) := by simp [World.cell?, k5]
    by_cases hlt : tOf l k < time
    · gi_wp2
      have q4 : ((((W2.setCell ⟨w.heap.size + 1 + 1, 0, none⟩ (.int .i64 n0)).setCell ⟨w.heap.size + 1 + 1, 1, none⟩ (.int .i64 (tOf l k))).setCell ⟨w.heap.size + 1 + 1, 2, none⟩ (.int .i64 n2)).setCell ⟨w.heap.size + 1 + 1 + 1, 0, none⟩ (.bool true)).heap[w.heap.size + 1 + 1]? =
          some (.cells #[.int .i64 n0, .int .i64 (tOf l k), .int .i64 n2] 63 (0, 0)) := by
        rw [set_other _ _ _ _ (by omega), set_get (set_get (set_get k4 _ _) _ _) _ _]; rfl
      have q5 : ((((W2.setCell ⟨w.heap.size + 1 + 1, 0, none⟩ (.int .i64 n0)).setCell ⟨w.heap.size + 1 + 1, 1, none⟩ (.int .i64 (tOf l k))).setCell ⟨w.heap.size + 1 + 1, 2, none⟩ (.int .i64 n2)).setCell ⟨w.heap.size + 1 + 1 + 1, 0, none⟩ (.bool true)).heap[w.heap.size + 1 + 1 + 1]? =
          some (.cells #[.bool true] 4 (0, 0)) := by
        rw [set_get (((set_other _ _ _ _ (by omega)).trans ((set_other _ _ _ _ (by omega)).trans (set_other _ _ _ _ (by omega)))).trans k5) _ _]; rfl
      refine ⟨(((KeepsOthers.setCell _ _ _).trans (KeepsOthers.setCell _ _ _)).trans (KeepsOthers.setCell _ _ _)).trans (KeepsOthers.setCell _ _ _), rfl, ?_, ?_, k, hk, by simpa using h7, hlt, ?_, q5⟩
      · exact mem_set (mem_set (mem_set (mem_set km _ (fun j => hnone _ j (by omega) (by omega))) _ (fun j => hnone _ j (by omega) (by omega))) _ (fun j => hnone _ j (by omega) (by omega))) _ (fun j => hnone _ j (by omega) (by omega))
      · exact ext_set (ext_set (ext_set (ext_set ke _ (by omega)) _ (by omega)) _ (by omega)) _ (by omega)
      · rw [hn0, hn1, hn2]; exact q4
    · gi_wp2
      refine ⟨KeepsOthers.refl _, km, ke, ks, k3, k4, k5, fun i hi => ?_⟩
      by_cases q : i = k
      · subst q; omega
      · have := h7 i (by omega); omega
  · rintro D W ⟨h1, h2, h3, h4, h5, h6, h7⟩ hD hDo
    have f4 : ∀ j, W.frozen? ⟨w.heap.size + 1 + 1, j, none⟩ = false := fun j => by simp [World.frozen?, h5]
    have f5 : ∀ j, W.frozen? ⟨w.heap.size + 1 + 1 + 1, j, none⟩ = false := fun j => by simp [World.frozen?, h6]
    have c40 : W.cell? ⟨w.heap.size + 1 + 1, 0, none⟩ = some (.int .i64 0) := by simp [World.cell?, h5]
    have c41 : W.cell? ⟨w.heap.size + 1 + 1, 1, none⟩ = some (.int .i64 0) := by simp [World.cell?, h5]
    have c42 : W.cell? ⟨w.heap.size + 1 + 1, 2, none⟩ = some (.int .i64 0) := by simp [World.cell?, h5]
    have c50 : W.cell? ⟨w.heap.size + 1 + 1 + 1, 0, none⟩ = some (.bool false) := by simp [World.cell?, h6]
    simp
    gi_wp2
    have q4 : ((((W.setCell ⟨w.heap.size + 1 + 1, 0, none⟩ (.int .i64 0)).setCell ⟨w.heap.size + 1 + 1, 1, none⟩ (.int .i64 0)).setCell ⟨w.heap.size + 1 + 1, 2, none⟩ (.int .i64 0)).setCell ⟨w.heap.size + 1 + 1 + 1, 0, none⟩ (.bool false)).heap[w.heap.size + 1 + 1]? =
        some (.cells #[.int .i64 0, .int .i64 0, .int .i64 0] 63 (0, 0)) := by
      rw [set_other _ _ _ _ (by omega), set_get (set_get (set_get h5 _ _) _ _) _ _]; rfl
    have q5 : ((((W.setCell ⟨w.heap.size + 1 + 1, 0, none⟩ (.int .i64 0)).setCell ⟨w.heap.size + 1 + 1, 1, none⟩ (.int .i64 0)).setCell ⟨w.heap.size + 1 + 1, 2, none⟩ (.int .i64 0)).setCell ⟨w.heap.size + 1 + 1 + 1, 0, none⟩ (.bool false)).heap[w.heap.size + 1 + 1 + 1]? =
        some (.cells #[.bool false] 4 (0, 0)) := by
      rw [set_get (((set_other _ _ _ _ (by omega)).trans ((set_other _ _ _ _ (by omega)).trans (set_other _ _ _ _ (by omega)))).trans h6) _ _]; rfl
    have qD : ((((W.setCell ⟨w.heap.size + 1 + 1, 0, none⟩ (.int .i64 0)).setCell ⟨w.heap.size + 1 + 1, 1, none⟩ (.int .i64 0)).setCell ⟨w.heap.size + 1 + 1, 2, none⟩ (.int .i64 0)).setCell ⟨w.heap.size + 1 + 1 + 1, 0, none⟩ (.bool false)).heap[D]? = some (.deferred (some [])) :=
      ((((set_other _ _ _ _ (by omega)).trans ((set_other _ _ _ _ (by omega)).trans ((set_other _ _ _ _ (by omega)).trans (set_other _ _ _ _ (by omega)))))).trans hDo)
    have qm : MemOK mu5 ((((W.setCell ⟨w.heap.size + 1 + 1, 0, none⟩ (.int .i64 0)).setCell ⟨w.heap.size + 1 + 1, 1, none⟩ (.int .i64 0)).setCell ⟨w.heap.size + 1 + 1, 2, none⟩ (.int .i64 0)).setCell ⟨w.heap.size + 1 + 1 + 1, 0, none⟩ (.bool false)) :=
      mem_set (mem_set (mem_set (mem_set h1 _ (fun j => hnone _ j (by omega) (by omega))) _ (fun j => hnone _ j (by omega) (by omega))) _ (fun j => hnone _ j (by omega) (by omega))) _ (fun j => hnone _ j (by omega) (by omega))
    have qe : Ext (fun _ => False) w ((((W.setCell ⟨w.heap.size + 1 + 1, 0, none⟩ (.int .i64 0)).setCell ⟨w.heap.size + 1 + 1, 1, none⟩ (.int .i64 0)).setCell ⟨w.heap.size + 1 + 1, 2, none⟩ (.int .i64 0)).setCell ⟨w.heap.size + 1 + 1 + 1, 0, none⟩ (.bool false)) :=
      ext_set (ext_set (ext_set (ext_set h2 _ (by omega)) _ (by omega)) _ (by omega)) _ (by omega)
    generalize ((((W.setCell ⟨w.heap.size + 1 + 1, 0, none⟩ (.int .i64 0)).setCell ⟨w.heap.size + 1 + 1, 1, none⟩ (.int .i64 0)).setCell ⟨w.heap.size + 1 + 1, 2, none⟩ (.int .i64 0)).setCell ⟨w.heap.size + 1 + 1 + 1, 0, none⟩ (.bool false)) = Wf at q4 q5 qD qm qe ⊢
    refine ⟨by simp, .inl ⟨_, _, rfl, run_takeDeferred qD, ?_⟩⟩
    have r4 := (World.putObj_heap_other (o := .deferred none) (show w.heap.size + 1 + 1 ≠ D by omega)).trans q4
    have r5 := (World.putObj_heap_other (o := .deferred none) (show w.heap.size + 1 + 1 + 1 ≠ D by omega)).trans q5
    refine ⟨_, ?_, mu5, hle5, qm.putObj qD rfl, hold, ext_putObj qe _ (by omega), rfl⟩
    rw [byT_none (by simpa using h7)]
    simp [results, Try.f37, go_sem, World.cell?, r4, r5]
  · rintro D c W ⟨rfl, h1, h2, k, h3, h4, h5, h6, h7⟩ hD hDo
    gi_wp2
    refine ⟨by simp, .inl ⟨_, _, rfl, run_takeDeferred hDo, ?_⟩⟩
    have r4 := (World.putObj_heap_other (o := .deferred none) (show w.heap.size + 1 + 1 ≠ D by omega)).trans h6
    have r5 := (World.putObj_heap_other (o := .deferred none) (show w.heap.size + 1 + 1 + 1 ≠ D by omega)).trans h7
    obtain ⟨v0, v1, v2⟩ := hvl (l.length - 1 - k) (by omega)
    rw [v0, v1, v2] at r4
    refine ⟨_, ?_, mu5, hle5, h1.putObj hDo rfl, hold, ext_putObj h2 _ (by omega), rfl⟩
    rw [byT_some h3 (by simpa using h4) h5]
    simp [results, Try.f37, go_sem, World.cell?, r4, r5]

theorem f37_pure (every count time : Int) (l : List (Int × Int × Int)) (hlen : l.length ≤ 1000000) :
    Pure Try.prog 37 [xV every count (l.map eV), iV time] (.tup [.sv (eV (byT time l).1), .sv (.bool (byT time l).2)]) := by
  intro mu w vs hm hr
  obtain ⟨a, b, rfl⟩ : ∃ a b, vs = [a, b] := by
    match vs, hr.1 with
    | [a, b], _ => exact ⟨a, b, rfl⟩
  have h0 := hr.2 0 (by simp)
  have h1 := hr.2 1 (by simp)
  have e1 : b = .int .i64 time := Rep.inv_int h1
  subst e1
  refine (calls_of_FW (f37_raw every count time l hlen mu w a hm h0)).mono ?_
  rintro e w' ⟨mu', k1, k2, k3, k4, rfl⟩
  refine ⟨_, mu', rfl, k4, k1, k2, k3, fun _ => none, ?_, fun b p q => by cases q⟩
  refine ⟨_, rfl, rfl, fun j hj => ?_⟩
  match j, hj with
  | 0, _ =>
    refine .agg _ [_, _, _] rfl (fun i hi => ?_)
    match i, hi with
    | 0, _ => exact .int _ _
    | 1, _ => exact .int _ _
    | 2, _ => exact .int _ _
  | 1, _ => exact .bool _
end Go.Proofs.Ytomlhaekhammkaa
