import Derived.Test.YtmfkliabjfngmaaMGgF
import Derived.Deep.LoopGhost
import Derived.Deep.Draws
import Derived.Deep.RegionWith
import Derived.Lib.SlKept
import Derived.Lib.SliceRun
import Derived.Shelf.RegionOpenPlain
import Derived.WalkKit
import Derived.Lib.Walk
import Derived.Sort.WalkB12
import Derived.Deep.RegionLaw

set_option linter.unusedVariables false
set_option linter.unusedSimpArgs false

/- Group: turn as a contract. -/




set_option linter.unusedSimpArgs false
set_option linter.unusedVariables false
set_option maxHeartbeats 4000000
set_option maxRecDepth 100000
namespace Go.Proofs.Ytmfkliabjfngmaa

open Go.Av Go.RowKit

theorem clone_raw0 {mu : Mem} {w : World} (hm : MemOK mu w) {v : Value} (hv : Rep mu (.sl 3 (ML [])) v) :
    Calls Try.prog 58 #[v] w fun e w' => ∃ p cap mu', e = .returned (.slice p 0 cap) ∧ Ext (fun _ => False) w w' ∧ mu.le mu' ∧ MemOK mu' w' ∧ (∀ b j, b < w.heap.size → mu' b j = mu b j) ∧ Rep mu' (.sl 3 (ML [])) (.slice p 0 cap) := by
  have h := clone_pure [] (by simp) mu w [v] hm (repArgs1 hv)
  refine h.mono ?_
  rintro e w' ⟨val, mu', rfl, q1, q2, q3, q4, x, q5, q6⟩
  have hr : Rep mu' (.sl 3 (ML [])) val := OwnAt.share q5
  rcases hr.inv_sl with ⟨⟨p, cap, rfl, _⟩, hx⟩ | ⟨b, off, cap, vals, rfl, h1, h2, h3, h4⟩
  · exact ⟨p, cap, mu', rfl, q1, q2, q3, q4, hr⟩
  · exact ⟨_, cap, mu', rfl, q1, q2, q3, q4, hr⟩
theorem turn_raw0 {mu : Mem} {w : World} (hm : MemOK mu w) (ge ph : Int) (vg : Value) {v : Value} (hv : Rep mu (.sl 3 (ML [])) v) :
    Calls Try.prog 56 #[.agg #[.int .i64 ge, .int .u8 ph, vg], v] w fun e w' => ∃ p cap mu',
      e = .returned (.agg #[.int .i64 (IntKind.i64.wrap (ge + 1)), .int .u8 (phaseP []), .slice p 0 cap]) ∧ Ext (fun _ => False) w w' ∧ mu.le mu' ∧ MemOK mu' w' ∧ (∀ b j, b < w.heap.size → mu' b j = mu b j) ∧ Rep mu' (.sl 3 (ML [])) (.slice p 0 cap) := by
  have HM : Aside (MemOK mu w) := hm
  have HV : Aside (Rep mu (.sl 3 (ML [])) v) := hv
  clear hm hv
  go_enter Try.func56, Try.ntmps56
  go_wp2_with (first
    | (go_at_call 58
       refine (clone_raw0 ((HM.out.alloc _).alloc _) HV.out).mono ?_
       rintro e w2 ⟨p, cap, mu', rfl, hx, hle, hm2, hag, hrep⟩
       have q0 : w2.heap[w.heap.size]? = some (.cells #[.int .i64 ge, .int .u8 ph, vg] 43) := by
         rw [hx.block _ (by simp; omega) id, alloc_get, if_neg (by simp), alloc_get, if_pos rfl]
       have q1 : w2.heap[w.heap.size + 1]? = some (.cells #[.int .i64 0, .int .u8 0, .slice none 0 0] 43) := by
         rw [hx.block _ (by simp) id, alloc_get, if_pos (by simp)]
       have HQ0 : Aside (w2.heap[w.heap.size]? = some (.cells #[.int .i64 ge, .int .u8 ph, vg] 43)) := q0
       have HQ1 : Aside (w2.heap[w.heap.size + 1]? = some (.cells #[.int .i64 0, .int .u8 0, .slice none 0 0] 43)) := q1
       have HI : Aside (Ext (fun _ => False) w w2 ∧ mu.le mu' ∧ MemOK mu' w2 ∧ (∀ b j, b < w.heap.size → mu' b j = mu b j) ∧ (∀ j, mu' w.heap.size j = none ∧ mu' (w.heap.size + 1) j = none) ∧ Rep mu' (.sl 3 (ML [])) (.slice p 0 cap)) :=
         ⟨⟨hx.os, hx.tape, hx.output, by have := hx.size; simp at this; omega, fun k hk _ => by
           rw [hx.block k (by simp; omega) id, alloc_get, if_neg (by simp; omega), alloc_get, if_neg (by omega)]⟩, hle, hm2, fun b j hb => hag b j (by simp; omega),
           fun j => ⟨(hag _ j (by simp; omega)).trans (by cases q : mu w.heap.size j with
              | none => rfl
              | some v => have := HM.out.lt q; omega), (hag _ j (by simp)).trans (by cases q : mu (w.heap.size + 1) j with
              | none => rfl
              | some v => have := HM.out.lt q; omega)⟩, hrep⟩
       clear hx hle hm2 hag hrep q0 q1
       simp only [])
    | go_in)
  have hz : ¬ (0 : Int) < 0 := by omega
  go_loopg [5, 10] 0 (fun gg _ s10 wr => s10 = .int .i64 0 ∧ wr = w2)
  case atStart => exact ⟨rfl, rfl⟩
  case round =>
    obtain ⟨rfl, rfl⟩ := hrel
    have d0 : wr.cell? ⟨w.heap.size, 0, none⟩ = some (.int .i64 ge) := by simp [World.cell?, HQ0.out]
    have HPH : Aside (Calls Try.prog 65 #[.slice p 0 cap] wr.drew fun e w' => e = .returned (.int .u8 (phaseP [])) ∧ Ext (fun _ => False) wr.drew w' ∧ MemOK mu' w') := by
      refine (phase_pure [] (by simp) mu' wr.drew [_] HI.out.2.2.1 (repArgs1 HI.out.2.2.2.2.2)).mono ?_
      rintro e w' ⟨val, mu2, rfl, q1, q2, q3, q4, x, q5, q6⟩
      exact ⟨by rw [Rep.inv_int q5], q1, MemOK.sub q2 q3⟩
    go_wp2
    go_region_with (
        go_at_call 65
        refine HPH.out.mono ?_
        rintro e w4 ⟨rfl, hx4, hm4⟩
        have p1 : w4.heap[w.heap.size + 1]? = some (.cells #[.int .i64 0, .int .u8 0, .slice none 0 0] 43) := (hx4.block _ (Array.getElem?_eq_some_iff.1 HQ1.out).1 id).trans HQ1.out
        have d0' : w4.cell? ⟨w.heap.size, 0, none⟩ = some (.int .i64 ge) := (by
          have p0 : w4.heap[w.heap.size]? = some (.cells #[.int .i64 ge, .int .u8 ph, vg] 43) := (hx4.block _ (Array.getElem?_eq_some_iff.1 HQ0.out).1 id).trans HQ0.out
          simp [World.cell?, p0])
        have e0 : w4.cell? ⟨w.heap.size + 1, 0, none⟩ = some (.int .i64 0) := (by simp [World.cell?, p1])
        have e1 : w4.cell? ⟨w.heap.size + 1, 1, none⟩ = some (.int .u8 0) := (by simp [World.cell?, p1])
        have e2 : w4.cell? ⟨w.heap.size + 1, 2, none⟩ = some (.slice none 0 0) := (by simp [World.cell?, p1])
        have e0f : w4.frozen? ⟨w.heap.size + 1, 0, none⟩ = false := (by simp [World.frozen?, p1])
        have e1f : w4.frozen? ⟨w.heap.size + 1, 1, none⟩ = false := (by simp [World.frozen?, p1])
        have e2f : w4.frozen? ⟨w.heap.size + 1, 2, none⟩ = false := (by simp [World.frozen?, p1])
        have P1 : Aside (w4.heap[w.heap.size + 1]? = some (.cells #[.int .i64 0, .int .u8 0, .slice none 0 0] 43)) := p1
        have HX4 : Aside (Ext (fun _ => False) wr.drew w4 ∧ MemOK mu' w4) := ⟨hx4, hm4⟩
        clear p1 hx4 hm4)
    all_goals go_wp2
    all_goals (
        have G1 := blk_same (j := 2) (blk_same (j := 1) (blk_same (j := 0) P1.out (.int .i64 (IntKind.i64.wrap (ge + 1)))) (.int .u8 (phaseP []))) (.slice p 0 cap)
        obtain ⟨i1, i2, i3, i4, i5, i6⟩ := HI.out
        refine bodyPost_ret (results_cell_row rfl _ _ (w.heap.size + 1) _ _ _ _ rfl G1 (show Try.prog.underlying 43 = some (Try.prog.underlying 43).get! by kernel_rfl) (by kernel_rfl) (by kernel_rfl)) rfl ?_
        refine ⟨p, cap, mu', rfl, ?_, i2, ?_, i4, i6⟩
        · have hx : Ext (fun _ => False) w w4 := i1.trans (Ext.trans (b := wr.drew) ⟨rfl, rfl, rfl, Nat.le_refl _, fun _ _ _ => rfl⟩ HX4.out.1)
          exact ext_set (ext_set (ext_set hx (by omega) _ _) (by omega) _ _) (by omega) _ _
        · intro b' j' v' hv'
          obtain ⟨t1, t2⟩ := HX4.out.2 b' j' v' hv'
          have hne : b' ≠ w.heap.size + 1 := fun q => by subst q; rw [(i5 j').2] at hv'; cases hv'
          refine ⟨?_, t2⟩
          rw [← t1]
          exact World.cell?_of_block ((blk_other hne _).trans ((blk_other hne _).trans (blk_other hne _))))
theorem turn_pure (g : Grp) (l : List Mb) (hl : l.length ≤ 1000) : Pure Try.prog 56 [g.sv, .sl 3 (ML l)] (.sv (Grp.sv ⟨IntKind.i64.wrap (g.ge + 1), phaseP (offM l), offM l⟩)) := by
  intro mu w vs hm hra
  obtain ⟨x, a, rfl⟩ : ∃ x a, vs = [x, a] := by
    match vs, hra.1 with
    | [x, a], _ => exact ⟨x, a, rfl⟩
  obtain ⟨v, rfl, hv⟩ := rep_grp (hra.2 0 (by simp))
  have ha : Rep mu (.sl 3 (ML l)) a := hra.2 1 (by simp)
  have hll : (offM l).length = l.length := by simp [offM]
  by_cases h0 : 0 < l.length
  · refine (turn_raw hm g.ge g.ph v ha h0 hl).mono ?_
    rintro e w' ⟨b, off, cap, c, te, fr, rfl, hx, hge, hb, hcap, hrow⟩
    have := ret_grp (l := offM l) (IntKind.i64.wrap (g.ge + 1)) (phaseP (offM l)) hm hx hge hb (by rw [hll]; exact hcap) hrow
    rw [hll] at this
    exact this
  · obtain rfl : l = [] := List.length_eq_zero_iff.1 (by omega)
    refine (turn_raw0 hm g.ge g.ph v ha).mono ?_
    rintro e w' ⟨p, cap, mu', rfl, q1, q2, q3, q4, q5⟩
    refine ⟨_, mu', rfl, q1, q2, q3, q4, fun _ => none, ?_, fun _ _ q => by cases q⟩
    exact .agg _ [.int .i64 (IntKind.i64.wrap (g.ge + 1)), .int .u8 (phaseP []), .slice p 0 cap] rfl (fun j hj => by
      match j, hj with
      | 0, _ => exact .int _ _
      | 1, _ => exact .int _ _
      | 2, _ => exact q5)
end Go.Proofs.Ytmfkliabjfngmaa

/- Group: slices.DeleteFunc at Member, walked raw. -/









set_option linter.unusedSimpArgs false
set_option linter.unusedVariables false
set_option maxRecDepth 100000
set_option maxHeartbeats 4000000
namespace Go.Proofs.Ytmfkliabjfngmaa
open Go.RowKit Go.Lib Go.Sort
open Go.Av

instance : Inhabited Mb := ⟨mb0⟩
def RowA (c : Array Value) (off : Nat) (dk : Array Mb) : Prop := ∀ m, m < dk.size → ∀ q, q < 3 → c[off + m * 3 + q]? = some ((encM dk[m]!).getD q Go.undef)
theorem idxM_spec (p : Mb → Bool) : ∀ (l : List Mb) (i : Nat), idxM p l i = -1 ∧ (∀ r ∈ l, p r = false) ∨ ∃ k, k < l.length ∧ idxM p l i = ((i + k : Nat) : Int) ∧ p (l.getD k mb0) = true ∧ ∀ j, j < k → p (l.getD j mb0) = false
  | [], i => .inl ⟨rfl, fun r h => by cases h⟩
  | r :: l, i => by
    cases hq : p r with
    | true => exact .inr ⟨0, by simp, by simp [idxM, hq], by simpa using hq, fun j hj => absurd hj (Nat.not_lt_zero _)⟩
    | false =>
      rcases idxM_spec p l (i + 1) with ⟨h1, h2⟩ | ⟨k, h1, h2, h3, h4⟩
      · exact .inl ⟨by simp [idxM, hq, h1], fun x hx => by rcases List.mem_cons.1 hx with rfl | hx; exact hq; exact h2 x hx⟩
      · refine .inr ⟨k + 1, by simpa using h1, by simp [idxM, hq, h2]; omega, by simpa using h3, fun j hj => ?_⟩
        cases j with
        | zero => simpa using hq
        | succ j => simpa using h4 j (by omega)
theorem zeroCells_spec (cs : Array Value) (n : Nat) (h : ∀ v ∈ cs, v.oneCell' = true) (hcs : 0 < cs.size) : (Builtin.zeroCells cs n).toList.length = n * cs.size ∧ ∀ v ∈ (Builtin.zeroCells cs n).toList, v.oneCell' = true := by
  refine ⟨by simp [Builtin.zeroCells], fun v hv => ?_⟩
  simp only [Builtin.zeroCells, Array.toList_map, List.mem_map] at hv
  obtain ⟨i, _, rfl⟩ := hv
  have hlt : i % cs.size < cs.size := Nat.mod_lt _ hcs
  rw [getElem!_pos cs _ hlt]
  exact h _ (Array.getElem_mem hlt)
theorem run_clear_k {P : Program} (w : World) (t e ty : TypeId) (z : Value) (ht : P.underlying t = some (.slice e)) (hv : ∀ w, (zeroValue e).run P w = .ok z w) (h1 : ∀ v ∈ z.cells, v.oneCell' = true) (hz : 0 < z.cells.size) (b o n cap : Nat) (hn : 0 < n)
    {c : Array Value} {te : TypeId} {fr : Nat × Nat} (hb : w.heap[b]? = some (.cells c te fr)) (hf : Unfrozen c fr) (hle : o + n * z.cells.size ≤ c.size) :
    (Builtin.clear_ #[t] ty #[.slice (some ⟨b, o, none⟩) n cap]).run P w = .ok (.tuple #[]) (w.setCells b o (Builtin.zeroCells z.cells n).toList) := by
  obtain ⟨e1, e2⟩ := zeroCells_spec z.cells n h1 hz
  have hst := (setCells_at (P := P) (o := o) (vs := (Builtin.zeroCells z.cells n).toList) hb hf (by rw [e1]; exact hle) e2).1
  obtain ⟨m, rfl⟩ : ∃ m, n = m + 1 := ⟨n - 1, by omega⟩
  simp [Builtin.clear_, run_underlying ht, hv, hst]
theorem RowA.set {c c2 : Array Value} {off i : Nat} {dk : Array Mb} {r : Mb} (h : RowA c off dk) (hi : i < dk.size) (hsz : c2.size = c.size) (hget : ∀ j, c2.getD j Go.undef = if off + i * 3 ≤ j ∧ j < off + i * 3 + (encM r).length then (encM r).getD (j - (off + i * 3)) Go.undef else c.getD j Go.undef) :
    RowA c2 off (dk.setIfInBounds i r) := by
  intro m hm q hq
  rw [Array.size_setIfInBounds] at hm
  have hold := h m hm q hq
  have hlt : off + m * 3 + q < c.size := (Array.getElem?_eq_some_iff.1 hold).1
  have hg := hget (off + m * 3 + q)
  have e0 : c2[off + m * 3 + q]? = some (c2.getD (off + m * 3 + q) Go.undef) := by
    rw [Array.getD_eq_getD_getElem?, Array.getElem?_eq_getElem (by omega)]; rfl
  have hlen : (encM r).length = 3 := rfl
  rw [e0, hg]
  by_cases e : m = i
  · subst e
    rw [if_pos (by omega), getElem!_set_same dk m r hi]
    congr 2; omega
  · have : ¬ (off + i * 3 ≤ off + m * 3 + q ∧ off + m * 3 + q < off + i * 3 + (encM r).length) := by
      rw [hlen]
      rcases Nat.lt_or_ge m i with z | z <;> omega
    rw [if_neg this, getElem!_set_other dk i m r e, Array.getD_eq_getD_getElem?, hold]
    rfl
theorem del_raw (pf : FuncId) (lb : Array Value) (p : Mb → Bool) (eg : ∀ args w, (callFunc pf args).run Try.prog w = .ok (.enter pf args) w) (mu : Mem) (hcall : ∀ (W : World) (r : Mb), MemOK mu W → Calls Try.prog pf (#[.agg (encM r).toArray] ++ lb) W fun e' w' => e' = .returned (.bool (p r)) ∧ Ext (fun _ => False) W w' ∧ MemOK mu w')
    (d : Array Mb) (hl : d.size ≤ 1000) (w : World) (blk off cap : Nat) (c : Array Value) (e : TypeId) (fr : Nat × Nat) (hm : MemOK mu w) (hmu : ∀ j, mu blk j = none) (hb : w.heap[blk]? = some (.cells c e fr)) (hfr : Unfrozen c fr)
    (hcap : d.size ≤ cap) (hsz : off + cap * 3 ≤ c.size) (hrow : RowA c off d)
    (hIF : Calls Try.prog 54 #[.slice (some ⟨blk, off, none⟩) d.size cap, .func (.func pf) #[] lb] w fun e' w' => e' = .returned (.int .i64 (idxM p d.toList 0)) ∧ Ext (fun _ => False) w w' ∧ MemOK mu w') :
    Calls Try.prog 63 #[.slice (some ⟨blk, off, none⟩) d.size cap, .func (.func pf) #[] lb] w fun e' w' => e' = .returned (.slice (some ⟨blk, off, none⟩) (d.toList.filter fun r => !p r).length cap) ∧ Ext (fun k => k = blk) w w' ∧ MemOK mu w' ∧
      ∃ c' fr', w'.heap[blk]? = some (.cells c' e fr') ∧ Unfrozen c' fr' ∧ c'.size = c.size ∧ RowA c' off (d.toList.filter fun r => !p r).toArray := by
  rcases idxM_spec p d.toList 0 with ⟨h1, hall⟩ | ⟨k0, hk0, h1, ht, hall⟩
  · rw [h1] at hIF
    go_enter Try.func63, Try.ntmps63
    go_wp2_with (go_at_call 54; refine hIF.mono ?_; rintro e1 w1 ⟨rfl, hx1, hm1⟩)
    go_ret
    have hfil : d.toList.filter (fun r => !p r) = d.toList := List.filter_eq_self.2 (fun r hr => by rw [hall r hr]; rfl)
    rw [hfil]
    have hlt : blk < w.heap.size := (Array.getElem?_eq_some_iff.1 hb).1
    refine ⟨by simp, hx1.mono (fun _ q => q.elim), hm1, c, fr, (hx1.block blk hlt id).trans hb, hfr, rfl, ?_⟩
    simpa using hrow
  · rw [Nat.zero_add] at h1
    rw [h1] at hIF
    go_enter Try.func63, Try.ntmps63
    go_wp2_with (go_at_call 54; refine hIF.mono ?_; rintro e1 w1 ⟨rfl, hx1, hm1⟩)
    have hk0' : k0 < d.size := by simpa using hk0
    obtain ⟨kp, HK⟩ : ∃ kp : Nat → Bool, Hid (kp = fun j => !p d[j]!) := ⟨_, rfl⟩
    have tl : ∀ j, j < d.size → d.toList.getD j mb0 = d[j]! := fun j hj => by
      rw [getElem!_pos d j hj, List.getD_eq_getElem?_getD]; simp [hj]
    have hkeep : ∀ j, j < k0 → kp j = true := fun j hj => by rw [HK.out]; show (!p d[j]!) = true; rw [← tl j (by omega), hall j hj]; rfl
    have hdrop : kp k0 = false := by rw [HK.out]; show (!p d[k0]!) = false; rw [← tl k0 hk0', ht]; rfl
    have hlt0 : blk < w.heap.size := (Array.getElem?_eq_some_iff.1 hb).1
    have hst : Aside (Ext (fun k => k = blk) w w1 ∧ MemOK mu w1 ∧ ∃ c', w1.heap[blk]? = some (.cells c' e fr) ∧ Unfrozen c' fr ∧ c'.size = c.size ∧ RowA c' off d) :=
      ⟨hx1.mono (fun _ q => q.elim), hm1, c, (hx1.block blk hlt0 id).trans hb, hfr, rfl, hrow⟩
    have HC : Aside _ := hcall
    clear hcall hIF hall ht h1 tl hrow hm1 hx1 hb hfr hm
    go_loopg [5, 6, 7] d.size (fun gg s5 s6 _ wr => ∃ (i j : Nat) (dk : Array Mb), s5 = .int .i64 i ∧ s6 = .int .i64 j ∧ j ≤ d.size ∧ d.size - j ≤ gg ∧ Aside (KeptInv kp d j i dk) ∧ Aside (Ext (fun k => k = blk) w wr ∧ MemOK mu wr ∧ ∃ c', wr.heap[blk]? = some (.cells c' e fr) ∧ Unfrozen c' fr ∧ c'.size = c.size ∧ RowA c' off dk))
    case atStart => exact ⟨k0, k0 + 1, d, rfl, by congr 1; unfold wrap64; omega, by omega, by omega, KeptInv.start hkeep hdrop, hst⟩
    case round =>
      obtain ⟨i, j, dk, rfl, rfl, hjd, hgg, I2, H2⟩ := hrel
      have hI := I2.out
      obtain ⟨x1, m1, c', k1, k2, k3, k4⟩ := H2.out
      have hij := hI.lt
      have hds := hI.size
      by_cases hlt : j < d.size
      · have hltz : (j : Int) < (d.size : Int) := by omega
        obtain ⟨r, hr⟩ : ∃ r, Aside (r = d[j]!) := ⟨_, rfl⟩
        have hrow := k4 j (by omega)
        rw [hI.high j (by omega), ← hr.out] at hrow
        have cj0 : wr.cell? ⟨blk, off + j * 3, none⟩ = some (.string r.id) := by rw [cell_of_block k1]; exact hrow 0 (by omega)
        have cj1 : wr.cell? ⟨blk, off + j * 3 + 1, none⟩ = some (.int .i64 r.sn) := by rw [cell_of_block k1]; exact hrow 1 (by omega)
        have cj2 : wr.cell? ⟨blk, off + j * 3 + 2, none⟩ = some (.bool r.sy) := by rw [cell_of_block k1]; exact hrow 2 (by omega)
        have HX : Aside (Ext (fun k => k = blk) w wr) := x1
        have HM : Aside (MemOK mu wr) := m1
        have HK1 : Aside (wr.heap[blk]? = some (.cells c' e fr)) := k1
        have HK4 : Aside (RowA c' off dk) := k4
        clear x1 m1 k1 k4 hI hrow
        go_wp2
        refine (HC.out _ r ((HM.out).alloc _)).mono ?_
        rintro e2 w2 ⟨rfl, x2, m2⟩
        obtain ⟨X, hX⟩ : ∃ X : Obj, X = .cells #[.string r.id, .int .i64 r.sn, .bool r.sy] 61 := ⟨_, rfl⟩
        rw [← hX] at x2
        have hblt : blk < wr.heap.size := (Array.getElem?_eq_some_iff.1 HK1.out).1
        have b2 : w2.heap[blk]? = some (.cells c' e fr) := by
          rw [x2.block _ (by simp; omega) id, alloc_get, if_neg (by omega)]; exact HK1.out
        have q2 : w2.heap[wr.heap.size]? = some X := by
          rw [x2.block _ (by simp) id, alloc_get, if_pos rfl]
        have y2 : Aside (Ext (fun k => k = blk) w w2) := by
          have := x2
          refine HX.out.trans ⟨x2.os, x2.tape, x2.output, by have := x2.size; simp at this; omega, fun k hk _ => ?_⟩
          rw [x2.block _ (by simp; omega) id, alloc_get, if_neg (by omega)]
        have hlen : (encM r).length = 3 := rfl
        have hone : ∀ v ∈ encM r, v.oneCell' = true := by
          intro v hv
          simp only [encM, List.mem_cons, List.not_mem_nil, or_false] at hv
          rcases hv with rfl | rfl | rfl <;> rfl
        obtain ⟨hst2, c2, z1, z2, z3, z4⟩ := setCells_at (P := Try.prog) (o := off + i * 3) (vs := encM r) b2 k2 (by rw [hlen]; omega) hone
        subst hX
        have d0 : w2.cell? ⟨wr.heap.size, 0, none⟩ = some (.string r.id) := by simp [World.cell?, q2]
        have d1 : w2.cell? ⟨wr.heap.size, 1, none⟩ = some (.int .i64 r.sn) := by simp [World.cell?, q2]
        have d2 : w2.cell? ⟨wr.heap.size, 2, none⟩ = some (.bool r.sy) := by simp [World.cell?, q2]
        have Z : Aside (Ext (fun _ => False) (wr.alloc (.cells #[.string r.id, .int .i64 r.sn, .bool r.sy] 61)) w2 ∧ MemOK mu w2 ∧ w2.heap[blk]? = some (.cells c' e fr)) := ⟨x2, m2, b2⟩
        have Z2 : Aside ((w2.setCells blk (off + i * 3) (encM r)).heap[blk]? = some (.cells c2 e fr) ∧ c2.size = c'.size ∧ Unfrozen c2 fr ∧ ∀ j, c2.getD j Go.undef = if off + i * 3 ≤ j ∧ j < off + i * 3 + (encM r).length then (encM r).getD (j - (off + i * 3)) Go.undef else c'.getD j Go.undef) := ⟨z1, z2, z3, z4⟩
        have hcs : ∀ q, q < 3 → ∃ v, w2.cell? ⟨blk, off + i * 3 + q, none⟩ = some v ∧ w2.frozen? ⟨blk, off + i * 3 + q, none⟩ = false := by
          intro q hq
          have hlt : off + i * 3 + q < c'.size := by omega
          refine ⟨c'[off + i * 3 + q], by rw [cell_of_block b2]; simp [hlt], ?_⟩
          have := k2.not _ hlt
          simp only [World.frozen?, b2]
          simp; omega
        obtain ⟨o0, s0, f0⟩ := hcs 0 (by omega)
        obtain ⟨o1, s1, f1⟩ := hcs 1 (by omega)
        obtain ⟨o2, s2, f2⟩ := hcs 2 (by omega)
        rw [Nat.add_zero] at s0 f0
        clear x2 m2 b2 q2 z1 z2 z3 z4 hone hcs hst2
        cases hq : p r with
        | true =>
          go_wp2
          go_roundg (d.size - (j + 1))
          case measure => omega
          case rel =>
            exact ⟨i, j + 1, dk, rfl, by go_num, by omega, Nat.le_refl _, I2.out.skip (by rw [HK.out]; show (!p d[j]!) = false; rw [← hr.out, hq]; rfl), y2.out, Z.out.2.1, c', Z.out.2.2, k2, k3, HK4.out⟩
        | false =>
          go_wp2
          go_roundg (d.size - (j + 1))
          case measure => omega
          case rel =>
            obtain ⟨z1, z2, z3, z4⟩ := Z2.out
            obtain ⟨g1, g2, g3, g4, g5, _⟩ := setCells_heap blk (encM r) (off + i * 3) w2
            have hI := I2.out
            refine ⟨i + 1, j + 1, dk.setIfInBounds i r, by go_num, by go_num, by omega, Nat.le_refl _, (show Aside _ from ?_), (show Aside (Ext (fun k => k = blk) w (w2.setCells blk (off + i * 3) (encM r)) ∧ MemOK mu (w2.setCells blk (off + i * 3) (encM r)) ∧ ∃ c', (w2.setCells blk (off + i * 3) (encM r)).heap[blk]? = some (Obj.cells c' e fr) ∧ Unfrozen c' fr ∧ c'.size = c.size ∧ RowA c' off (dk.setIfInBounds i r)) from ?_)⟩
            · have := hI.keep hlt (by rw [HK.out]; show (!p d[j]!) = true; rw [← hr.out, hq]; rfl)
              rwa [← hr.out] at this
            · refine ⟨y2.out.trans ⟨g1, g2, g3, by rw [g4]; exact Nat.le_refl _, fun k _ hk => g5 k hk⟩, ?_, c2, z1, z3, by rw [z2, k3], HK4.out.set (by omega) z2 z4⟩
              intro b' j' v hv
              have hne : b' ≠ blk := fun q => by subst q; rw [hmu] at hv; cases hv
              obtain ⟨t1, t2⟩ := Z.out.2.1 b' j' v hv
              exact ⟨by rw [World.cell?_setCells_out blk _ _ _ ⟨b', j', none⟩ (fun e1 _ => absurd e1 hne)]; exact t1, t2⟩
      · obtain rfl : j = d.size := by omega
        have hid : i < d.size := hij
        have hu50 : Try.prog.underlying 41 = some (.slice 61) := by kernel_rfl
        have hz65 : ∀ w, (zeroValue 61).run Try.prog w = .ok (.agg (encM mb0).toArray) w := Try.zeroValue61
        have hce : (Value.agg (encM mb0).toArray).cells = (encM mb0).toArray := rfl
        have hone : ∀ v ∈ (Value.agg (encM mb0).toArray).cells, v.oneCell' = true := by
          intro v hv
          rw [hce] at hv
          simp only [encM, List.mem_toArray, List.mem_cons, List.not_mem_nil, or_false] at hv
          rcases hv with rfl | rfl | rfl <;> rfl
        have hsz6 : (Value.agg (encM mb0).toArray).cells.size = 3 := rfl
        have hcl : ∀ ty, (Builtin.clear_ #[41] ty #[.slice (some ⟨blk, off + i * 3, none⟩) (d.size - i) (cap - i)]).run Try.prog wr = .ok (.tuple #[]) (wr.setCells blk (off + i * 3) (Builtin.zeroCells (Value.agg (encM mb0).toArray).cells (d.size - i)).toList) := fun ty =>
          run_clear_k wr 41 61 ty _ hu50 hz65 hone (by rw [hsz6]; omega) blk (off + i * 3) (d.size - i) (cap - i) (by omega) k1 k2 (by rw [hsz6, k3]; omega)
        obtain ⟨v1, v2⟩ := zeroCells_spec _ (d.size - i) hone (by rw [hsz6]; omega)
        rw [hsz6] at v1
        have HX : Aside (Ext (fun k => k = blk) w wr) := x1
        have HM : Aside (MemOK mu wr) := m1
        have HK1 : Aside (wr.heap[blk]? = some (.cells c' e fr)) := k1
        have HK4 : Aside (RowA c' off dk) := k4
        clear x1 m1 k1 k4 hI hz65 hone hsz6 hce
        generalize (Builtin.zeroCells (Value.agg (encM mb0).toArray).cells (d.size - i)).toList = zs at hcl v1 v2
        go_wp2
        go_ret
        have hI := I2.out
        have hfil : (d.toList.filter fun r => !p r) = keptUpTo kp d d.size := by rw [HK.out]; exact (keptUpTo_filter (fun x => !p x) d).symm
        rw [hfil]
        obtain ⟨_, c3, z1, z2, z3, z4⟩ := setCells_at (P := Try.prog) (o := off + i * 3) (vs := zs) HK1.out k2 (by rw [v1, k3]; omega) v2
        obtain ⟨g1, g2, g3, g4, g5, _⟩ := setCells_heap blk zs (off + i * 3) wr
        refine ⟨by rw [hI.len]; rfl, HX.out.trans ⟨g1, g2, g3, by rw [g4]; exact Nat.le_refl _, fun k _ hk => g5 k hk⟩, ?_, c3, fr, z1, z3, by rw [z2, k3], ?_⟩
        · intro b' j' v hv
          have hne : b' ≠ blk := fun q => by subst q; rw [hmu] at hv; cases hv
          obtain ⟨t1, t2⟩ := HM.out b' j' v hv
          exact ⟨by rw [World.cell?_setCells_out blk _ _ _ ⟨b', j', none⟩ (fun e1 _ => absurd e1 hne)]; exact t1, t2⟩
        · intro m hm q hq
          have hm' : m < i := by simpa [hI.len] using hm
          have hold := HK4.out m (by omega) q hq
          have hlt2 : off + m * 3 + q < c'.size := (Array.getElem?_eq_some_iff.1 hold).1
          have e0 : c3[off + m * 3 + q]? = some (c3.getD (off + m * 3 + q) Go.undef) := by
            rw [Array.getD_eq_getD_getElem?, Array.getElem?_eq_getElem (by omega)]; rfl
          have hl := hI.low m hm'
          have e1 : (keptUpTo kp d d.size).toArray[m]! = dk[m]! := by
            rw [getElem!_pos _ m (by simpa using hm)]
            have : m < (keptUpTo kp d d.size).length := by simpa using hm
            rw [List.getElem?_eq_getElem this] at hl
            simpa using hl
          rw [e0, z4, if_neg (by omega), Array.getD_eq_getD_getElem?, hold, e1]
          rfl
theorem rep_rec (mu : Mem) (r : Mb) : Rep mu r.sv (.agg (encM r).toArray) := by
  refine .agg _ (encM r) rfl (fun j hj => ?_)
  have hj' : j < 3 := hj
  exact rep_encM mu r j hj'
theorem repArgs_cons {mu : Mem} {v : SV} {x : Value} {l : List SV} {vs : List Value} (h : Rep mu v x) (k : RepArgs mu l vs) : RepArgs mu (v :: l) (x :: vs) := by
  refine ⟨by simp [k.1], fun j hj => ?_⟩
  cases j with
  | zero => exact h
  | succ j => exact k.2 j (by simpa using hj)
theorem RepArgs.mono {mu mu' : Mem} (h : mu.le mu') {l : List SV} {vs : List Value} (k : RepArgs mu l vs) : RepArgs mu' l vs := ⟨k.1, fun j hj => (k.2 j hj).mono h⟩

theorem del_pure (pf : FuncId) (caps : List SV) (p : Mb → Bool) (hf : okFn Try.prog pf) (hp : ∀ r : Mb, Pure Try.prog pf (r.sv :: caps) (.sv (.bool (p r)))) (l : List Mb) (hl : l.length ≤ 1000) :
    PureD Try.prog 63 3 (ML l) [.fn pf [] caps] (.own 3 (ML (l.filter fun r => !p r))) := by
  intro mu w ob val vs hm harr hra
  obtain ⟨vf, rfl⟩ : ∃ vf, vs = [vf] := by
    match vs, hra.1 with
    | [a], _ => exact ⟨a, rfl⟩
  have hvf : Rep mu (.fn pf [] caps) vf := hra.2 0 (by simp)
  obtain ⟨vc, rfl, hvc⟩ : ∃ vc : List Value, vf = .func (.func pf) #[] vc.toArray ∧ RepArgs mu caps vc := by
    cases hvf with
    | fn _ _ _ vf vc h1 h2 h3 h4 =>
      obtain rfl : vf = [] := List.length_eq_zero_iff.1 h1
      exact ⟨vc, rfl, h2, h4⟩
  have eg := enters_okFn hf
  have hcall : ∀ (W : World) (r : Mb), MemOK mu W → Calls Try.prog pf (#[.agg (encM r).toArray] ++ vc.toArray) W fun e' w' => e' = .returned (.bool (p r)) ∧ Ext (fun _ => False) W w' ∧ MemOK mu w' := by
    intro W r hW
    have := hp r mu W (.agg (encM r).toArray :: vc) hW (repArgs_cons (rep_rec mu r) hvc)
    rw [show (#[Value.agg (encM r).toArray] ++ vc.toArray) = (.agg (encM r).toArray :: vc).toArray by simp]
    refine this.mono ?_
    rintro e' w' ⟨val', mu', rfl, q1, q2, q3, q4, ⟨_, q5, _⟩⟩
    exact ⟨by rw [Rep.inv_bool q5], q1, MemOK.sub q2 q3⟩
  rcases harr with ⟨rfl, hnil, rfl⟩ | ⟨b, rfl, off, cap, c, e, fr, rfl, hmu, hb, hfr, hcap, hsz, hrep⟩
  · have hl0 : l = [] := by cases l <;> simp [ML] at hnil ⊢
    subst hl0
    have hIF := idx_pure pf caps p hf hp [] (by simp) mu w [.slice none 0 0, .func (.func pf) #[] vc.toArray] hm (repArgs_cons (.slnil 3) (repArgs1 hvf))
    have hIF' : Calls Try.prog 54 #[.slice none 0 0, .func (.func pf) #[] vc.toArray] w fun e' w' => e' = .returned (.int .i64 (-1)) ∧ Ext (fun _ => False) w w' ∧ MemOK mu w' := by
      refine hIF.mono ?_
      rintro e' w' ⟨val', mu', rfl, q1, q2, q3, q4, ⟨_, q5, _⟩⟩
      exact ⟨by rw [Rep.inv_int q5]; rfl, q1, MemOK.sub q2 q3⟩
    clear hIF hcall
    have key : Calls Try.prog 63 #[.slice none 0 0, .func (.func pf) #[] vc.toArray] w fun e' w' => e' = .returned (.slice none 0 0) ∧ Ext (fun _ => False) w w' ∧ MemOK mu w' := by
      go_enter Try.func63, Try.ntmps63
      go_wp2_with (go_at_call 54; refine hIF'.mono ?_; rintro e1 w1 ⟨rfl, hx1, hm1⟩)
      go_ret
      exact ⟨rfl, hx1, hm1⟩
    refine key.mono ?_
    rintro e' w' ⟨rfl, q1, q2⟩
    exact ⟨_, mu, rfl, q1.mono (fun _ q => q.elim), Mem.le_refl _, q2, fun _ _ _ _ => rfl, fun _ => none, .inl ⟨.slnil 3, rfl⟩, fun _ _ q => by cases q⟩
  · have hln : (ML l).length = l.length := by simp
    rw [hln] at hcap
    have hrow : RowA c off l.toArray := by
      intro m hm' q hq
      have hm2 : m < l.length := by simpa using hm'
      have h1 := hrep m q (by simpa using hm2) hq
      have e1 : (ML l).getD m .undef = l[m].sv := by simp [ML, List.getD_eq_getElem?_getD, hm2]
      rw [e1] at h1
      have h2 := rep_encM_inv hq h1
      have e2 : l.toArray[m]! = l[m] := by rw [getElem!_pos _ m hm']; simp
      have hlt : off + m * 3 + q < c.size := by omega
      rw [e2, ← h2, Array.getD_eq_getD_getElem?, Array.getElem?_eq_getElem hlt]
      rfl
    have hblt : b < w.heap.size := (Array.getElem?_eq_some_iff.1 hb).1
    -- the search ahead, with the row in the memory
    have hone : ∀ r : Mb, ∀ q, q < 3 → ((encM r).getD q Go.undef).oneCell' = true := by
      intro r q hq
      match q, hq with
      | 0, _ => rfl
      | 1, _ => rfl
      | 2, _ => rfl
    have mkmem : ∀ (W : World) (c2 : Array Value) (fr2 : Nat × Nat) (F : List Mb), MemOK mu W → W.heap[b]? = some (.cells c2 e fr2) → RowA c2 off F.toArray →
        MemOK (fun b' j => if b' = b ∧ off ≤ j ∧ j < off + F.length * 3 then c2[j]? else mu b' j) W ∧ mu.le (fun b' j => if b' = b ∧ off ≤ j ∧ j < off + F.length * 3 then c2[j]? else mu b' j) ∧
        ∀ i q, i < F.length → q < 3 → (fun b' j => if b' = b ∧ off ≤ j ∧ j < off + F.length * 3 then c2[j]? else mu b' j) b (off + i * 3 + q) = some ((encM (F.getD i mb0)).getD q Go.undef) := by
      intro W c2 fr2 F hW hWb hR
      have hget : ∀ i q, i < F.length → q < 3 → c2[off + i * 3 + q]? = some ((encM (F.getD i mb0)).getD q Go.undef) := by
        intro i q hi hq
        have := hR i (by simpa using hi) q hq
        rw [this]
        congr 3
        rw [getElem!_pos _ i (by simpa using hi)]
        simp [List.getD_eq_getElem?_getD, hi]
      refine ⟨?_, ?_, ?_⟩
      · intro b' j v hv
        simp only at hv
        split at hv
        · rename_i q
          obtain ⟨rfl, q1, q2⟩ := q
          have hi : (j - off) / 3 < F.length := by omega
          have := hget ((j - off) / 3) ((j - off) % 3) hi (by omega)
          rw [show off + (j - off) / 3 * 3 + (j - off) % 3 = j by omega] at this
          rw [this] at hv
          cases hv
          exact ⟨by rw [cell_of_block hWb]; exact this, hone _ _ (by omega)⟩
        · exact hW b' j v hv
      · intro b' j v hv
        have hne : b' ≠ b := fun q => by subst q; rw [hmu] at hv; cases hv
        simp only
        rw [if_neg (fun q => hne q.1)]
        exact hv
      · intro i q hi hq
        simp only
        rw [if_pos ⟨trivial, by omega, by omega⟩]
        exact hget i q hi hq
    have repF : ∀ (mu2 : Mem) (F : List Mb) (cap : Nat), F.length ≤ cap → (∀ i q, i < F.length → q < 3 → mu2 b (off + i * 3 + q) = some ((encM (F.getD i mb0)).getD q Go.undef)) → Rep mu2 (.sl 3 (ML F)) (.slice (some ⟨b, off, none⟩) F.length cap) := by
      intro mu2 F cap hc h
      have hF : (ML F).length = F.length := by simp
      have := Rep.sl (mu := mu2) 3 (ML F) b off cap (fun i q => (encM (F.getD i mb0)).getD q Go.undef) (by omega) (fun x hx => by
          simp only [ML, List.mem_map] at hx
          obtain ⟨r, _, rfl⟩ := hx
          rfl) (fun i q hi hq => h i q (by omega) hq) (fun i q hi hq => by
          have hi' : i < F.length := by omega
          have e1 : (ML F).getD i .undef = (F.getD i mb0).sv := by simp [ML, List.getD_eq_getElem?_getD, hi']
          rw [e1]
          exact rep_encM mu2 _ q hq)
      rwa [hF] at this
    have hIF : Calls Try.prog 54 #[.slice (some ⟨b, off, none⟩) l.toArray.size cap, .func (.func pf) #[] vc.toArray] w fun e' w' => e' = .returned (.int .i64 (idxM p l.toArray.toList 0)) ∧ Ext (fun _ => False) w w' ∧ MemOK mu w' := by
      obtain ⟨m1, m2, m3⟩ := mkmem w c fr l hm hb hrow
      have := idx_pure pf caps p hf hp l (by omega) _ w [.slice (some ⟨b, off, none⟩) l.length cap, .func (.func pf) #[] vc.toArray] m1 (repArgs_cons (repF _ l cap hcap m3) (repArgs1 (hvf.mono m2)))
      refine this.mono ?_
      rintro e' w' ⟨val', mu', rfl, q1, q2, q3, q4, ⟨_, q5, _⟩⟩
      exact ⟨by rw [Rep.inv_int q5], q1, MemOK.sub (Mem.le_trans m2 q2) q3⟩
    have hsz' : off + cap * 3 ≤ c.size := hsz
    have := del_raw pf vc.toArray p eg mu hcall l.toArray (by simpa using hl) w b off cap c e fr hm hmu hb hfr (by simpa using hcap) hsz' hrow hIF
    simp only [List.size_toArray] at this
    rw [hln]
    refine this.mono ?_
    rintro e' w' ⟨rfl, q1, q2, c', fr', q3, q4, q5, q6⟩
    have hfl : (l.filter fun r => !p r).length ≤ l.length := List.length_filter_le _ _
    obtain ⟨m1, m2, m3⟩ := mkmem w' c' fr' (l.filter fun r => !p r) q2 q3 q6
    refine ⟨_, _, rfl, q1.mono (fun k q => by rw [q]), m2, m1, ?_, fun k => if k = b then some (.slot 0 0) else none, .inr ⟨b, off, cap, ?_, ?_, by simp, fun _ => rfl, ⟨c', e, fr', q3, by rw [q5]; exact hsz', q4⟩, ?_⟩, ?_⟩
    · intro b' j hb' hne
      have hne' : b' ≠ b := fun q => hne (by rw [q])
      rw [if_neg (fun q => hne' q.1)]
    · simp
    · exact repF _ _ cap (by omega) m3
    · intro j hj
      rw [ML_length] at hj
      show (if b = b ∧ off ≤ j ∧ j < off + (l.filter fun r => !p r).length * 3 then c'[j]? else mu b j) = none
      rw [if_neg (by omega)]
      exact hmu j
    · intro b' p' hp'
      simp only at hp'
      split at hp'
      · rename_i q; subst q
        exact (Array.getElem?_eq_some_iff.1 q3).1
      · cases hp'

end Go.Proofs.Ytmfkliabjfngmaa

/- Group: slices.Delete of one Member, walked raw. -/


set_option linter.unusedSimpArgs false
set_option linter.unusedVariables false
set_option maxRecDepth 1000000
set_option maxHeartbeats 4000000
namespace Go.Proofs.Ytmfkliabjfngmaa
open Go.RowKit Go.Lib Go.Sort
open Go.Av

def flatM (l : List Mb) : List Value := l.flatMap encM
@[simp] theorem flatM_length (l : List Mb) : (flatM l).length = l.length * 3 := by
  induction l with
  | nil => rfl
  | cons m l ih => simp [flatM, encM] at ih ⊢; omega
theorem flatM_one (l : List Mb) : ∀ v ∈ flatM l, v.oneCell' = true := by
  intro v hv
  simp only [flatM, List.mem_flatMap, encM, List.mem_cons, List.not_mem_nil, or_false] at hv
  obtain ⟨m, _, rfl | rfl | rfl⟩ := hv <;> rfl
theorem flatM_get (l : List Mb) {k q : Nat} (hk : k < l.length) (hq : q < 3) : (flatM l)[k * 3 + q]? = some ((encM (l.getD k mb0)).getD q Go.undef) := by
  induction l generalizing k with
  | nil => simp at hk
  | cons m l ih =>
    have he : (encM m).length = 3 := rfl
    cases k with
    | zero =>
      simp only [flatM, List.flatMap_cons, Nat.zero_mul, Nat.zero_add]
      rw [List.getElem?_append_left (by omega), List.getElem?_eq_getElem (by omega)]
      simp [List.getD_eq_getElem?_getD, List.getElem?_eq_getElem (show q < (encM m).length by omega)]
    | succ k =>
      simp only [flatM, List.flatMap_cons]
      rw [List.getElem?_append_right (by omega), he, show (k + 1) * 3 + q - 3 = k * 3 + q by omega]
      have := ih (k := k) (by simpa using hk)
      simpa [flatM] using this
theorem delete_raw {mu : Mem} {w : World} (hm : MemOK mu w) {b off cap : Nat} {c : Array Value} {e : TypeId} {fr : Nat × Nat} {l : List Mb} (hmu : ∀ j, mu b j = none) (hb : w.heap[b]? = some (.cells c e fr)) (hfr : Unfrozen c fr)
    (hcap : l.length ≤ cap) (hsz : off + cap * 3 ≤ c.size) (hrow : RowM c off l) (i : Nat) (hi : i < l.length) (hl : l.length ≤ 1000) :
    Calls Try.prog 62 #[.slice (some ⟨b, off, none⟩) l.length cap, .int .i64 i, .int .i64 ((i : Int) + 1)] w fun e' w' => e' = .returned (.slice (some ⟨b, off, none⟩) (i + (l.length - (i + 1))) cap) ∧ Ext (fun k => k = b) w w' ∧ MemOK mu w' ∧
      ∃ c' fr', w'.heap[b]? = some (.cells c' e fr') ∧ Unfrozen c' fr' ∧ c'.size = c.size ∧ RowM c' off (l.take i ++ l.drop (i + 1)) := by
  obtain ⟨n, hn⟩ : ∃ n, n = l.length := ⟨_, rfl⟩
  rw [← hn] at hcap hi hl
  rw [← hn]
  obtain ⟨A, hA, hnews⟩ : ∃ A : Addr, (if cap = i + 1 then some (⟨b, off, none⟩ : Addr) else some ⟨b, off + (i + 1) * 3, none⟩) = some A ∧ Hid (∀ j u, (flatM (l.drop (i + 1)))[j]? = some u → w.drew.cell? (A.add j) = some u) := by
    by_cases h : cap = i + 1
    · refine ⟨⟨b, off, none⟩, by simp [h], fun j u hu => ?_⟩
      have h0 : (flatM (l.drop (i + 1))).length = 0 := by simp; omega
      rw [List.length_eq_zero_iff.1 h0] at hu
      simp at hu
    · refine ⟨⟨b, off + (i + 1) * 3, none⟩, by simp [h], fun j u hu => ?_⟩
      have hj : j < (n - (i + 1)) * 3 := by
        have := (List.getElem?_eq_some_iff.1 hu).1
        simp [← hn] at this; omega
      have hk : j / 3 < (l.drop (i + 1)).length := by simp [← hn]; omega
      have h1 := flatM_get (l.drop (i + 1)) hk (show j % 3 < 3 by omega)
      rw [show j / 3 * 3 + j % 3 = j by omega, hu] at h1
      have h2 := hrow (i + 1 + j / 3) (by omega) (j % 3) (by omega)
      have h3 : (l.drop (i + 1)).getD (j / 3) mb0 = l.getD (i + 1 + j / 3) mb0 := by simp [List.getD_eq_getElem?_getD]
      rw [h3] at h1
      rw [Addr.add_lit, h1, show off + (i + 1) * 3 + j = off + (i + 1 + j / 3) * 3 + j % 3 by omega, ← h2]
      exact cell_of_block hb
  have hlen : (flatM (l.drop (i + 1))).length = (n - (i + 1)) * 3 := by simp [← hn]
  have hone := flatM_one (l.drop (i + 1))
  have hroomc : off + i * 3 + (flatM (l.drop (i + 1))).length ≤ c.size := by
    rw [hlen]
    have : n * 3 ≤ cap * 3 := Nat.mul_le_mul_right _ hcap
    omega
  obtain ⟨hst, c2, z1, z2, z3, z4⟩ := setCells_at (P := Try.prog) (o := off + i * 3) (vs := flatM (l.drop (i + 1))) (show w.drew.heap[b]? = _ from hb) hfr hroomc hone
  have s3 : Hid (∀ j, j < (flatM (l.drop (i + 1))).length → (w.drew.cell? ⟨b, off + i * 3 + j, none⟩).isSome = true ∧ w.drew.frozen? ⟨b, off + i * 3 + j, none⟩ = false) := by
    intro j hj
    have hlt : off + i * 3 + j < c.size := by omega
    have hbd : w.drew.heap[b]? = some (.cells c e fr) := hb
    refine ⟨by rw [cell_of_block hbd, Array.getElem?_eq_getElem hlt]; rfl, ?_⟩
    have := hfr.not _ hlt
    simp only [World.frozen?, hbd]; simp; omega
  have hu41 : Try.prog.underlying 41 = some (.slice 61) := by kernel_rfl
  have hz61 : ∀ w, (zeroValue 61).run Try.prog w = .ok (.agg (encM mb0).toArray) w := Try.zeroValue61
  have honez : ∀ v ∈ (Value.agg (encM mb0).toArray).cells, v.oneCell' = true := by
    intro v hv
    rw [show (Value.agg (encM mb0).toArray).cells = (encM mb0).toArray from rfl] at hv
    simp only [encM, List.mem_toArray, List.mem_cons, List.not_mem_nil, or_false] at hv
    rcases hv with rfl | rfl | rfl <;> rfl
  have hsz3 : (Value.agg (encM mb0).toArray).cells.size = 3 := rfl
  have hle3 : off + (i + (n - (i + 1))) * 3 + (n - (i + (n - (i + 1)))) * 3 ≤ c2.size := by
    rw [z2]
    have : n * 3 ≤ cap * 3 := Nat.mul_le_mul_right _ hcap
    omega
  have hcl : ∀ ty, (Builtin.clear_ #[41] ty #[.slice (some ⟨b, off + (i + (n - (i + 1))) * 3, none⟩) (n - (i + (n - (i + 1)))) (cap - (i + (n - (i + 1))))]).run Try.prog (w.drew.setCells b (off + i * 3) (flatM (l.drop (i + 1)))) = .ok (.tuple #[]) ((w.drew.setCells b (off + i * 3) (flatM (l.drop (i + 1)))).setCells b (off + (i + (n - (i + 1))) * 3) (Builtin.zeroCells (Value.agg (encM mb0).toArray).cells (n - (i + (n - (i + 1))))).toList) := fun ty =>
    run_clear_k _ 41 61 ty _ hu41 hz61 honez (by rw [hsz3]; omega) b (off + (i + (n - (i + 1))) * 3) (n - (i + (n - (i + 1)))) (cap - (i + (n - (i + 1)))) (by omega) z1 z3 (by rw [hsz3]; exact hle3)
  obtain ⟨v1, v2⟩ := zeroCells_spec _ (n - (i + (n - (i + 1)))) honez (by rw [hsz3]; omega)
  rw [hsz3] at v1
  have HM : Aside (MemOK mu w) := hm
  have HB : Aside (w.heap[b]? = some (.cells c e fr)) := hb
  have HROW : Aside (RowM c off l) := hrow
  have HZ : Aside ((w.drew.setCells b (off + i * 3) (flatM (l.drop (i + 1)))).heap[b]? = some (.cells c2 e fr) ∧ c2.size = c.size ∧ Unfrozen c2 fr ∧ ∀ j, c2.getD j Go.undef = if off + i * 3 ≤ j ∧ j < off + i * 3 + (flatM (l.drop (i + 1))).length then (flatM (l.drop (i + 1))).getD (j - (off + i * 3)) Go.undef else c.getD j Go.undef) := ⟨z1, z2, z3, z4⟩
  have HLE : Aside (off + (i + (n - (i + 1))) * 3 + (n - (i + (n - (i + 1)))) * 3 ≤ c2.size) := hle3
  have HN : Aside (n = l.length) := hn
  have s1 : Hid ((flatM (l.drop (i + 1))).length = (n - (i + 1)) * 3) := hlen
  have s2 : Hid (∀ u ∈ flatM (l.drop (i + 1)), u.oneCell' = true) := hone
  have hrs : Hid (off + i * 3 + (flatM (l.drop (i + 1))).length ≤ c.size) := hroomc
  clear hm hb hrow hst z1 z2 z3 z4 hz61 honez hsz3 hle3 hn hlen hone hroomc
  generalize (Builtin.zeroCells (Value.agg (encM mb0).toArray).cells (n - (i + (n - (i + 1))))).toList = zs at hcl v1 v2
  have V : Hid (zs.length = (n - (i + (n - (i + 1)))) * 3 ∧ ∀ v ∈ zs, v.oneCell' = true) := ⟨v1, v2⟩
  clear v1 v2
  generalize hnw : flatM (l.drop (i + 1)) = news at *
  have hic : i ≤ cap := by omega
  have hp0 : (0 : Int) ≤ (i : Int) + 1 := by omega
  have hp1 : (i : Int) + 1 ≤ (n : Int) := by omega
  have hp2 : ((i : Int) + 1).toNat = i + 1 := by omega
  have hp3 : ¬ (i : Int) = (i : Int) + 1 := by omega
  have hp4 : ¬ n = i := by omega
  have hp5 : ¬ cap = i + (n - (i + 1)) := by omega
  have hp6 : ((i : Int) == (i : Int) + 1) = false := by simp; omega
  have hp7 : i + (n - (i + 1)) ≤ n := by omega
  obtain ⟨i0, hi0, hz1⟩ : ∃ i0 : TypeInfo, Try.prog.info? 61 = some i0 ∧ i0.size = 3 := ⟨(Try.prog.info? 61).get!, by kernel_rfl, by kernel_rfl⟩
  go_enter Try.func62, Try.ntmps62
  go_wp2_with fail
  go_region_law (refine step_append_room rfl (.tmp 22) (.tmp 25) 41 rfl 61 i0 3 hu41 hi0 hz1 b off i cap (by simp [Act.eval, Act.put]) A (n - (i + 1)) (cap - (i + 1)) news (by simp [Act.eval, Act.put]) s1.out hnews.out s2.out (by omega) s3.out ?_)
  go_wp2
  go_ret
  obtain ⟨z1, z2, z3, z4⟩ := HZ.out
  obtain ⟨_, c3, y1, y2, y3, y4⟩ := setCells_at (P := Try.prog) (o := off + (i + (n - (i + 1))) * 3) (vs := zs) z1 z3 (by rw [V.out.1]; exact HLE.out) V.out.2
  obtain ⟨g1, g2, g3, g4, g5, _⟩ := setCells_heap b news (off + i * 3) w.drew
  obtain ⟨k1, k2, k3, k4, k5, _⟩ := setCells_heap b zs (off + (i + (n - (i + 1))) * 3) (w.drew.setCells b (off + i * 3) news)
  refine ⟨rfl, ⟨k1.trans g1, k2.trans g2, k3.trans g3, by rw [k4, g4]; exact Nat.le_refl _, fun k _ hk => (k5 k hk).trans (g5 k hk)⟩, ?_, c3, fr, y1, y3, by rw [y2, z2], ?_⟩
  · intro b' j' v hv
    have hne : b' ≠ b := fun q => by subst q; rw [hmu] at hv; cases hv
    obtain ⟨t1, t2⟩ := HM.out b' j' v hv
    refine ⟨?_, t2⟩
    rw [← t1]
    exact World.cell?_of_block ((k5 b' hne).trans (g5 b' hne))
  · intro k hk q hq
    have hnl := HN.out
    have hk' : k < n - 1 := by simp at hk; omega
    have hnle : n * 3 ≤ cap * 3 := Nat.mul_le_mul_right _ hcap
    have hlt : off + k * 3 + q < c3.size := by rw [y2, z2]; omega
    have e0 : c3[off + k * 3 + q]? = some (c3.getD (off + k * 3 + q) Go.undef) := by
      rw [Array.getD_eq_getD_getElem?, Array.getElem?_eq_getElem hlt]; rfl
    rw [e0, y4, if_neg (by omega), z4, s1.out]
    by_cases hki : k < i
    · rw [if_neg (by omega), Array.getD_eq_getD_getElem?, HROW.out k (by omega) q hq]
      have : (l.take i ++ l.drop (i + 1)).getD k mb0 = l.getD k mb0 := by
        rw [List.getD_eq_getElem?_getD, List.getElem?_append_left (by simp; omega), List.getElem?_take, if_pos hki, List.getD_eq_getElem?_getD]
      rw [this]; rfl
    · rw [if_pos (by omega), show off + k * 3 + q - (off + i * 3) = (k - i) * 3 + q by omega, ← hnw, List.getD_eq_getElem?_getD, flatM_get (l.drop (i + 1)) (by simp; omega) hq]
      have : (l.take i ++ l.drop (i + 1)).getD k mb0 = (l.drop (i + 1)).getD (k - i) mb0 := by
        rw [List.getD_eq_getElem?_getD, List.getElem?_append_right (by simp; omega), List.getD_eq_getElem?_getD]
        simp; congr 3; omega
      rw [this]; rfl
end Go.Proofs.Ytmfkliabjfngmaa

/- Group: slices.Delete as a contract. -/

set_option linter.unusedSimpArgs false
set_option linter.unusedVariables false
set_option maxRecDepth 1000000
set_option maxHeartbeats 4000000
namespace Go.Proofs.Ytmfkliabjfngmaa
open Go.RowKit Go.Lib Go.Sort
open Go.Av

/-- A row that a call has made, or made over, as its result. -/
theorem retD {mu : Mem} {w w' : World} {ob : Option Nat} {b off cap : Nat} {c : Array Value} {e : TypeId} {fr : Nat × Nat} {F : List Mb} (hm : MemOK mu w') (hx : Ext (fun k => ob = some k) w w') (hmu : ∀ j, mu b j = none) (hok : b < w.heap.size → ob = some b)
    (hb : w'.heap[b]? = some (.cells c e fr)) (hfr : Unfrozen c fr) (hF : F.length ≤ cap) (hsz : off + cap * 3 ≤ c.size) (hrow : RowM c off F) :
    ∃ val' mu', Ending.returned (.slice (some ⟨b, off, none⟩) F.length cap) = .returned val' ∧ Ext (fun k => ob = some k) w w' ∧ mu.le mu' ∧ MemOK mu' w' ∧ (∀ b j, b < w.heap.size → ob ≠ some b → mu' b j = mu b j) ∧
      RetRepX (fun b => b < w.heap.size → ob = some b) mu' w' (.own 3 (ML F)) val' := by
  obtain ⟨k1, k2, k3, k4⟩ := memRow_spec hm hb hmu hrow
  refine ⟨_, _, rfl, hx, k2, k1, fun b' j hlt hne => k3 b' j (fun q => by subst q; exact hne (hok hlt)), fun k => if k = b then some (.slot 0 0) else none, .inr ⟨b, off, cap, by simp, k4 cap hF, by simp, hok, ⟨c, e, fr, hb, hsz, hfr⟩, fun j hj => ?_⟩, fun b' p hp => ?_⟩
  · rw [ML_length] at hj
    show memRow mu b off F.length c b j = none
    unfold memRow
    rw [if_neg (by omega)]
    exact hmu j
  · simp only at hp
    split at hp
    · rename_i q; subst q
      exact (Array.getElem?_eq_some_iff.1 hb).1
    · cases hp
theorem row_of_arr {mu : Mem} {l : List Mb} {c : Array Value} {off cap : Nat} (hc : l.length ≤ cap) (hsz : off + cap * 3 ≤ c.size) (hrep : ∀ i j, i < (ML l).length → j < 3 → Rep mu (((ML l).getD i .undef).cell j) (c.getD (off + i * 3 + j) Go.undef)) : RowM c off l := by
  intro m hm2 q hq
  have h1 := hrep m q (by simpa using hm2) hq
  rw [ML_getD hm2] at h1
  have h2 := rep_encM_inv hq h1
  have h3 : l.length * 3 ≤ cap * 3 := Nat.mul_le_mul_right _ hc
  have hlt : off + m * 3 + q < c.size := by omega
  rw [← h2, Array.getD_eq_getD_getElem?, Array.getElem?_eq_getElem hlt]
  rfl
theorem delete_pure (l : List Mb) (i : Nat) (hi : i < l.length) (hl : l.length ≤ 1000) : PureD Try.prog 62 3 (ML l) [.int .i64 i, .int .i64 ((i : Int) + 1)] (.own 3 (ML (l.take i ++ l.drop (i + 1)))) := by
  intro mu w ob val vs hm harr hra
  obtain ⟨x, y, rfl⟩ : ∃ x y, vs = [x, y] := by
    match vs, hra.1 with
    | [x, y], _ => exact ⟨x, y, rfl⟩
  obtain rfl : x = .int .i64 i := Rep.inv_int (hra.2 0 (by simp))
  obtain rfl : y = .int .i64 ((i : Int) + 1) := Rep.inv_int (hra.2 1 (by simp))
  rcases harr with ⟨rfl, hnil, rfl⟩ | ⟨b, rfl, off, cap, c, e, fr, rfl, hmu, hb, hfr, hcap, hsz, hrep⟩
  · exfalso
    have := congrArg List.length hnil
    rw [ML_length] at this
    simp only [List.length_nil] at this
    omega
  · rw [ML_length] at hcap
    have hrow := row_of_arr hcap hsz hrep
    have hfl : (l.take i ++ l.drop (i + 1)).length = i + (l.length - (i + 1)) := by simp; omega
    rw [ML_length]
    refine (delete_raw hm hmu hb hfr hcap hsz hrow i hi hl).mono ?_
    rintro e' w' ⟨rfl, q1, q2, c', fr', q3, q4, q5, q6⟩
    rw [← hfl]
    exact retD q2 (q1.mono fun k q => by rw [q]) hmu (fun _ => rfl) q3 q4 (by omega) (by rw [q5]; exact hsz) q6
end Go.Proofs.Ytmfkliabjfngmaa

/- Group: slices.Insert of one Member, walked raw: at the end, with room. -/

set_option linter.unusedSimpArgs false
set_option linter.unusedVariables false
set_option maxRecDepth 1000000
set_option maxHeartbeats 4000000
namespace Go.Proofs.Ytmfkliabjfngmaa
open Go.RowKit Go.Lib Go.Sort
open Go.Av

theorem ins_end_room {mu : Mem} {w : World} (hm : MemOK mu w) {b off cap : Nat} {c : Array Value} {e : TypeId} {fr : Nat × Nat} {l : List Mb} (hmu : ∀ j, mu b j = none) (hb : w.heap[b]? = some (.cells c e fr)) (hfr : Unfrozen c fr)
    (hcap : l.length + 1 ≤ cap) (hsz : off + cap * 3 ≤ c.size) (hrow : RowM c off l) (hl : l.length ≤ 1000) {x : Value} {m : Mb} (hx : Rep mu (.sl 3 (ML [m])) x) :
    Calls Try.prog 57 #[.slice (some ⟨b, off, none⟩) l.length cap, .int .i64 l.length, x] w fun e' w' => e' = .returned (.slice (some ⟨b, off, none⟩) (l.length + 1) cap) ∧ w' = w.setCells b (off + l.length * 3) (encM m) := by
  obtain ⟨vb, voff, vc, rfl, hvc, hvr⟩ := row_of_rep hm hx (by simp)
  have hlt : off + l.length * 3 + 3 ≤ c.size := by have : (l.length + 1) * 3 ≤ cap * 3 := Nat.mul_le_mul_right _ hcap; omega
  obtain ⟨hst, c2, z1, z2, z3, z4⟩ := setCells_at (P := Try.prog) (o := off + l.length * 3) (vs := encM m) hb hfr hlt (fun v hv => by
    simp only [encM, List.mem_cons, List.not_mem_nil, or_false] at hv
    rcases hv with rfl | rfl | rfl <;> rfl)
  have hap : ∀ ty, (Builtin.append_ #[41, 41] ty #[.slice (some ⟨b, off, none⟩) l.length cap, .slice (some ⟨vb, voff, none⟩) [m].length vc]).run Try.prog w = .ok (.slice (some ⟨b, off, none⟩) (l.length + 1) cap) (w.setCells b (off + l.length * 3) (encM m)) := by
    intro ty
    obtain ⟨vs, f1, f2, f3, f4, f5⟩ := firstCells_sl (P := Try.prog) hm hx
    have hvs : vs = (encM m).toArray := by
      have hsz : vs.size = 3 := by rw [f2]; simp
      refine Array.ext (by rw [hsz]; rfl) fun q h1 h2 => ?_
      have hq : q < 3 := by omega
      have h3 := f5 0 q (by simp) hq
      have h4 := rep_encM_inv (m := m) hq (by simpa [ML] using h3)
      rw [Array.getElem?_eq_getElem h1] at h4
      simp only [Option.getD_some] at h4
      rw [h4, List.getD_eq_getElem?_getD, List.getElem?_eq_getElem (by simpa using h2)]
      simp
    subst hvs
    obtain ⟨i0, hi0, hs0⟩ : ∃ i0 : TypeInfo, Try.prog.info? 61 = some i0 ∧ i0.size = 3 := ⟨(Try.prog.info? 61).get!, by kernel_rfl, by kernel_rfl⟩
    refine run_append_in (i := i0) (e := 61) (dx := .slice 61) (new := (encM m).toArray) (by kernel_rfl) hi0 (by kernel_rfl) (fun _ => by simp) rfl ?_ hcap (fun a ha => ?_) (fun q => by cases q)
    · rw [hs0]; exact f1 w hm
    · cases ha
      rw [hs0, Addr.add_lit]
      exact hst
  have HAP : Aside _ := hap
  clear hap hst z1 z2 z3 z4
  go_enter Try.func57, Try.ntmps57
  go_wp2_with (first
    | (refine at_app _ rfl _ _ 41 rfl (v := .slice (some ⟨b, off, none⟩) l.length cap) (u := .slice (some ⟨vb, voff, none⟩) [m].length vc) rfl rfl (HAP.out _) ?_)
    | go_in)
  go_ret
  exact ⟨rfl, rfl⟩
end Go.Proofs.Ytmfkliabjfngmaa

/- Group: slices.Insert of one Member, walked raw: at the end, growing. -/

set_option linter.unusedSimpArgs false
set_option linter.unusedVariables false
set_option maxRecDepth 1000000
set_option maxHeartbeats 4000000
namespace Go.Proofs.Ytmfkliabjfngmaa
open Go.RowKit Go.Lib Go.Sort
open Go.Av

/-- A new row, as a call's result. -/
def InsPost (w : World) (L : List Mb) (e' : Ending) (w' : World) : Prop := ∃ b nc c fr, e' = .returned (.slice (some ⟨b, 0, none⟩) L.length nc) ∧ w.heap.size ≤ b ∧ Ext (fun _ => False) w w' ∧ w'.heap[b]? = some (.cells c 61 fr) ∧ Unfrozen c fr ∧ L.length ≤ nc ∧ 0 + nc * 3 ≤ c.size ∧ RowM c 0 L
theorem ins_end_grow {mu : Mem} {w : World} (hm : MemOK mu w) {q : Option Addr} {cap : Nat} {l : List Mb} (hs : Rep mu (.sl 3 (ML l)) (.slice q l.length cap)) (hcap : ¬ l.length + 1 ≤ cap) (hl : l.length ≤ 1000) {x : Value} {m : Mb} (hx : Rep mu (.sl 3 (ML [m])) x) :
    Calls Try.prog 57 #[.slice q l.length cap, .int .i64 l.length, x] w (InsPost w (l ++ [m])) := by
  obtain ⟨vb, voff, vc, rfl, hvc, hvr⟩ := row_of_rep hm hx (by simp)
  obtain ⟨i0, hi0, hs0, hz0, hb0⟩ : ∃ i0 : TypeInfo, Try.prog.info? 61 = some i0 ∧ i0.size = 3 ∧ i0.zero = some (.agg #[.string ⟨#[]⟩, .int .i64 0, .bool false]) ∧ i0.bytes ≤ 1000 := ⟨(Try.prog.info? 61).get!, by kernel_rfl, by kernel_rfl, by kernel_rfl, by decide +kernel⟩
  obtain ⟨vs, f1, f2, f3, f4, f5⟩ := firstCells_sl (P := Try.prog) hm hx
  obtain ⟨us, g1, g2, g3, g4, g5⟩ := firstCells_sl (P := Try.prog) hm hs
  rw [ML_length] at f1 f2 f5 g1 g2 g5
  have hd : MemOK mu w.drew := hm
  obtain ⟨nc, hle, hrun⟩ := run_append_out (P := Try.prog) (w := w) (t := 41) (tx := 41) (ty := 41) (q := q) (n := l.length) (m := 1) (cap := cap) (old := us) (new := vs) (vx := .slice (some ⟨vb, voff, none⟩) [m].length vc) (e := 61) (i := i0) (dx := .slice 61) (by kernel_rfl) hi0 hz0 (by kernel_rfl) (fun _ => by simp) rfl (by rw [hs0]; exact f1 _ hd) (by rw [hs0]; exact g1 _ hd) hcap (by have := Nat.mul_le_mul (show l.length + 1 ≤ 1001 by omega) hb0; omega) (by omega)
  have HP : Aside (∀ W, W = w.drew.alloc (.cells (us ++ vs ++ Builtin.zeroCells (Value.agg #[.string ⟨#[]⟩, .int .i64 0, .bool false]).cells (nc - (l.length + 1))) 61) → InsPost w (l ++ [m]) (.returned (.slice (some ⟨w.heap.size, 0, none⟩) (l.length + 1) nc)) W) := by
    rintro W rfl
    have hz : (Builtin.zeroCells (Value.agg #[.string ⟨#[]⟩, .int .i64 0, .bool false]).cells (nc - (l.length + 1))).size = (nc - (l.length + 1)) * 3 := by simp [Builtin.zeroCells, Value.cells]
    refine ⟨w.heap.size, nc, us ++ vs ++ Builtin.zeroCells (Value.agg #[.string ⟨#[]⟩, .int .i64 0, .bool false]).cells (nc - (l.length + 1)), (0, 0), by simp, Nat.le_refl _, ⟨rfl, rfl, rfl, by simp, fun k hk _ => ?_⟩, ?_, .inl rfl, by simpa using hle, ?_, fun k hk q hq => ?_⟩
    · rw [alloc_get, if_neg (by simp; omega)]; rfl
    · rw [alloc_get, if_pos (by simp)]
    · rw [Array.size_append, Array.size_append, hz, f2, g2]
      have : (l.length + 1) * 3 ≤ nc * 3 := Nat.mul_le_mul_right _ hle
      simp only [List.length_singleton]
      rw [Nat.sub_mul]
      omega
    · simp at hk
      have hz2 : k * 3 + q < (us ++ vs).size := by rw [Array.size_append, f2, g2]; simp; omega
      rw [Nat.zero_add, Array.getElem?_append_left hz2]
      by_cases hk2 : k < l.length
      · have hlt : k * 3 + q < us.size := by rw [g2]; omega
        have h4 := g5 k q hk2 hq
        rw [ML_getD hk2] at h4
        have h5 := rep_encM_inv hq h4
        rw [Array.getElem?_append_left hlt]
        have e1 : (l ++ [m]).getD k mb0 = l.getD k mb0 := by rw [List.getD_eq_getElem?_getD, List.getElem?_append_left hk2, List.getD_eq_getElem?_getD]
        rw [e1, ← h5, Array.getD_eq_getD_getElem?, Array.getElem?_eq_getElem hlt]; rfl
      · obtain rfl : k = l.length := by omega
        have hlt : q < vs.size := by rw [f2]; simp; omega
        have h4 := f5 0 q (by simp) hq
        have h5 := rep_encM_inv (m := m) hq (by simpa [ML] using h4)
        rw [Array.getElem?_append_right (by rw [g2]; omega), g2, show l.length * 3 + q - l.length * 3 = q by omega]
        have e1 : (l ++ [m]).getD l.length mb0 = m := by rw [List.getD_eq_getElem?_getD, List.getElem?_append_right (by omega)]; simp
        rw [Array.getElem?_eq_getElem hlt] at h5 ⊢
        rw [e1, ← h5]; rfl
  have HR : Aside _ := hrun
  clear hrun
  go_enter Try.func57, Try.ntmps57
  go_wp2_with (first
    | (refine at_app _ rfl _ _ 41 rfl (v := .slice q l.length cap) (u := .slice (some ⟨vb, voff, none⟩) [m].length vc) rfl rfl HR.out ?_)
    | go_in)
  all_goals (go_ret; exact HP.out _ (by rw [Array.append_assoc]; rfl))
end Go.Proofs.Ytmfkliabjfngmaa

/- Group: copy at elements of more cells. -/

set_option linter.unusedSimpArgs false
set_option linter.unusedVariables false
set_option maxRecDepth 1000000
set_option maxHeartbeats 4000000
namespace Go.Proofs.Ytmfkliabjfngmaa
open Go.RowKit Go.Lib Go.Sort
open Go.Av

theorem run_copy_k {P : Program} (w : World) (dT sT ty elem : TypeId) (b o dLen dCap : Nat) (a : Addr) (sLen sCap sz : Nat) (cs : List Value) (hu : P.underlying dT = some (.slice elem)) {i : TypeInfo} (hi : P.info? elem = some i) (hs : i.size = sz) (hn : cs.length = Nat.min sLen dLen * sz)
    (hsrc : ∀ j v, cs[j]? = some v → w.cell? (a.add j) = some v) (hc : ∀ j, j < cs.length → (w.cell? ⟨b, o + j, none⟩).isSome = true) (hf : ∀ j, j < cs.length → w.frozen? ⟨b, o + j, none⟩ = false) (h1 : ∀ v ∈ cs, v.oneCell' = true) :
    (Builtin.copy_ #[dT, sT] ty #[.slice (some ⟨b, o, none⟩) dLen dCap, .slice (some a) sLen sCap]).run P w = .ok (goInt (Nat.min sLen dLen)) (w.setCells b o cs) := by
  have hl := run_loadCells_list (P := P) w a cs hsrc
  have hst := run_storeCells_cells (P := P) b o cs 0 w (by simpa using hc) (by simpa using hf) h1
  rw [hn] at hl
  simp [Builtin.copy_, run_underlying hu, Builtin.lenOf, Builtin.firstCells, sizeOf, typeInfo, hi, hs, hl, hst]
theorem at_copy {P : Program} (w : World) {ops : Array Oper} {rest : List Oper} {o : Oper} {a : Act} {Q : Exit → Act → World → Prop} (hg : o.guard = none) (s x : Operand) (t : TypeId)
    (hop : o.op = .call { callee := .builtin .copy, args := #[s, x], argTypes := #[t, t] }) {v u : Value} (hs : a.eval s = v) (hx : a.eval x = u) {v2 : Value} {w2 : World}
    (hrun : (Builtin.copy_ #[t, t] o.type #[v, u]).run P w = .ok v2 w2) (hK : wpList P ops Q rest (a.put o.dst v2) w2) : wpList P ops Q (o :: rest) a w := by
  refine wpList_plain hg fun K hK' => ?_
  unfold Oper.wp
  simp [execOp, hop, resolve, invoke, builtin, hs, hx, hrun, Result.andThen]
  exact hK' _ _ hK
theorem at_copy_step {P : Program} {ops : Array Oper} {o : Oper} {a : Act} {w : World} {K : Act → World → Prop} {Q : Exit → Act → World → Prop} {E : Prop}
    (hg : o.guard = none) (d x : Operand) (t : TypeId) (hop : o.op = .call { callee := .builtin .copy, args := #[d, x], argTypes := #[t, t] }) {v u : Value} (hd : a.eval d = v) (hx : a.eval x = u) {v' : Value} {w' : World}
    (hr : (Builtin.copy_ #[t, t] o.type #[v, u]).run P w = .ok v' w') (hK : K (a.put o.dst v') w') :
    if Region.wanted o (yielded ops a.tmps) = true then Oper.wp P o a w K Q else E := by
  have hw : Region.wanted o (yielded ops a.tmps) = true := by simp [Region.wanted, hg]
  rw [if_pos hw]
  unfold Oper.wp
  simp [execOp, hop, resolve, invoke, builtin, hd, hx, hr, Result.andThen]
  exact hK
end Go.Proofs.Ytmfkliabjfngmaa
