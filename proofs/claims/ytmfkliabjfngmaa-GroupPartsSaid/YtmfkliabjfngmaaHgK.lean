/- Group: Join, walked raw over its calls' contracts. -/
import Derived.Test.YtmfkliabjfngmaaHgJ
import Derived.Deep.RegionHeld

set_option linter.unusedSimpArgs false
set_option linter.unusedVariables false
set_option maxHeartbeats 8000000
set_option maxRecDepth 1000000
namespace Go.Proofs.Ytmfkliabjfngmaa
open Go.Av Go.RowKit Go.Lib

/-- What Join answers. -/
def joinG (g : Grp) (id : ByteArray) (now : Int) : Grp × Int :=
  if chkG g ≠ 0 then (grp0, chkG g) else if nameB id = false then (grp0, 6) else if timeB now = false then (grp0, 11) else if 0 ≤ placeP id g.ms then (seenG false g (placeP id g.ms).toNat now, 0)
  else if 16 ≤ g.ms.length then (grp0, 9) else if 1099511627776 ≤ g.ge then (grp0, 11)
  else (⟨IntKind.i64.wrap (g.ge + 1), phaseP (offM (insM g.ms (posM id g.ms) ⟨id, now, false⟩)), offM (insM g.ms (posM id g.ms) ⟨id, now, false⟩)⟩, 0)
structure Bx3 (w W : World) (x y z : Value) : Prop where
  ext : Ext (fun _ => False) w W
  b0 : W.heap[w.heap.size]? = some (.cells #[x, y, z] 43)
  b2 : W.heap[w.heap.size + 1 + 1]? = some (.cells #[.int .i64 0, .int .u8 0, .slice none 0 0] 43)
  sz : w.heap.size + 3 ≤ W.heap.size
theorem Bx3.step {w W W' : World} {x y z : Value} (h : Bx3 w W x y z) (k : Ext (fun _ => False) W W') : Bx3 w W' x y z :=
  ⟨h.ext.trans k, (k.block _ (Array.getElem?_eq_some_iff.1 h.b0).1 id).trans h.b0, (k.block _ (Array.getElem?_eq_some_iff.1 h.b2).1 id).trans h.b2, Nat.le_trans h.sz k.size⟩
theorem Bx3.step2 {w W W' : World} {x y z : Value} (h : Bx3 w W x y z) (k : ∀ j, j < w.heap.size + 3 → W'.heap[j]? = W.heap[j]?) (h1 : W'.os = W.os) (h2 : W'.tape = W.tape) (h3 : W'.output = W.output) (h4 : W.heap.size ≤ W'.heap.size) : Bx3 w W' x y z :=
  ⟨⟨h1.trans h.ext.os, h2.trans h.ext.tape, h3.trans h.ext.output, Nat.le_trans h.ext.size h4, fun j hj ht => (k j (by omega)).trans (h.ext.block j hj ht)⟩, (k _ (by omega)).trans h.b0, (k _ (by omega)).trans h.b2, Nat.le_trans h.sz h4⟩
theorem Bx3.cells {w W : World} {x y z : Value} (h : Bx3 w W x y z) : (W.cell? ⟨w.heap.size, 0, none⟩ = some x ∧ W.cell? ⟨w.heap.size, 1, none⟩ = some y ∧ W.cell? ⟨w.heap.size, 2, none⟩ = some z) ∧
    (W.cell? ⟨w.heap.size + 1 + 1, 0, none⟩ = some (.int .i64 0) ∧ W.cell? ⟨w.heap.size + 1 + 1, 1, none⟩ = some (.int .u8 0) ∧ W.cell? ⟨w.heap.size + 1 + 1, 2, none⟩ = some (.slice none 0 0)) ∧
    (W.frozen? ⟨w.heap.size + 1 + 1, 0, none⟩ = false ∧ W.frozen? ⟨w.heap.size + 1 + 1, 1, none⟩ = false ∧ W.frozen? ⟨w.heap.size + 1 + 1, 2, none⟩ = false) := by
  refine ⟨⟨?_, ?_, ?_⟩, ⟨?_, ?_, ?_⟩, ?_, ?_, ?_⟩ <;> simp [World.cell?, World.frozen?, h.b0, h.b2]
theorem ext_box3 {w w1 w2 : World} {A B C : Obj} (h1 : w1 = ((w.alloc A).alloc B).alloc C) (h : Ext (fun _ => False) w1 w2) :
    Ext (fun _ => False) w w2 ∧ w2.heap[w.heap.size]? = some A ∧ w2.heap[w.heap.size + 1]? = some B ∧ w2.heap[w.heap.size + 1 + 1]? = some C ∧ w.heap.size + 3 ≤ w2.heap.size := by
  subst h1
  have hs3 : ((w.alloc A).alloc B).heap.size = w.heap.size + 1 + 1 := by simp
  have hs4 : (w.alloc A).heap.size = w.heap.size + 1 := by simp
  have hz := h.size
  rw [World.size_alloc, hs3] at hz
  have key : ∀ k, k < w.heap.size + 3 → w2.heap[k]? = (((w.alloc A).alloc B).alloc C).heap[k]? := fun k hk => h.block k (by rw [World.size_alloc, hs3]; omega) id
  refine ⟨⟨h.os, h.tape, h.output, by omega, fun k hk _ => ?_⟩, ?_, ?_, ?_, by omega⟩
  · rw [key k (by omega), alloc_get, hs3, if_neg (by omega), alloc_get, hs4, if_neg (by omega), alloc_get, if_neg (by omega)]
  · rw [key _ (by omega), alloc_get, hs3, if_neg (by omega), alloc_get, hs4, if_neg (by omega), alloc_get, if_pos rfl]
  · rw [key _ (by omega), alloc_get, hs3, if_neg (by omega), alloc_get, hs4, if_pos rfl]
  · rw [key _ (by omega), alloc_get, hs3, if_pos rfl]
/-- A group, and an error, as a call's result. -/
theorem ret_J {mu m : Mem} {w W : World} {g : Grp} {v : Value} (n : Int) (hle : mu.le m) (hok : MemOK m W) (hlo : ∀ b j, b < w.heap.size → m b j = mu b j) (hn : ∀ j, m (w.heap.size + 1 + 1) j = none) (hx : Ext (fun _ => False) w W) {W2 : World}
    (h0 : ∀ k, k ≠ w.heap.size + 1 + 1 → W2.heap[k]? = W.heap[k]?) (ho : W2.os = W.os) (ht : W2.tape = W.tape) (hp : W2.output = W.output) (hs : W2.heap.size = W.heap.size) (hv : Rep m (.sl 3 (ML g.ms)) v) :
    PostR mu w (.tup [.sv g.sv, .sv (.int .i64 n)]) (.returned (.tuple #[.agg #[.int .i64 g.ge, .int .u8 g.ph, v], .int .i64 n])) W2 := by
  refine ⟨_, m, rfl, ⟨ho.trans hx.os, ht.trans hx.tape, hp.trans hx.output, by rw [hs]; exact hx.size, fun k hk hf => (h0 k (by omega)).trans (hx.block k hk hf)⟩, hle, fun b' j' v' hv' => ?_, hlo, fun _ => none, ?_, fun _ _ q => by cases q⟩
  · obtain ⟨t1, t2⟩ := hok b' j' v' hv'
    have hne : b' ≠ w.heap.size + 1 + 1 := fun q => by subst q; rw [hn] at hv'; cases hv'
    exact ⟨by rw [← t1]; exact World.cell?_of_block (h0 b' hne), t2⟩
  · refine ⟨[_, _], rfl, rfl, fun j hj => ?_⟩
    match j, hj with
    | 0, _ => exact (.agg _ [.int .i64 g.ge, .int .u8 g.ph, v] rfl (fun j hj => by
        match j, hj with
        | 0, _ => exact .int _ _
        | 1, _ => exact .int _ _
        | 2, _ => exact hv) : Rep m g.sv _)
    | 1, _ => exact (.int _ _ : Rep m (.int .i64 n) _)
theorem pgrp {f : FuncId} {args : List SV} {g : Grp} (h : Pure Try.prog f args (.sv g.sv)) {mu : Mem} {w : World} {vs : List Value} (hm : MemOK mu w) (hra : RepArgs mu args vs) :
    Calls Try.prog f vs.toArray w fun e w' => ∃ p c mu', e = .returned (.agg #[.int .i64 g.ge, .int .u8 g.ph, .slice p g.ms.length c]) ∧ Ext (fun _ => False) w w' ∧ Gr w.heap.size mu mu' w' ∧ Rep mu' (.sl 3 (ML g.ms)) (.slice p g.ms.length c) := by
  refine (h mu w vs hm hra).mono ?_
  rintro e w' ⟨val, mu', rfl, q1, q2, q3, q4, x, q5, q6⟩
  obtain ⟨v', rfl, hv'⟩ := rep_grp (q5 : Rep mu' _ _)
  obtain ⟨p, c, rfl⟩ := rep_sliceL hv'
  rw [ML_length] at hv' ⊢
  exact ⟨p, c, mu', rfl, q1, ⟨q2, q3, q4⟩, hv'⟩
theorem clo_str {m : Mem} {b : Nat} {s : ByteArray} (h : m b 0 = some (.string s)) : Rep m (.fn 55 [] [strC s]) (.func (.func 55) #[] #[.pointer (some ⟨b, 0, none⟩)]) := by
  refine .fn 55 [] [strC s] [] [.pointer (some ⟨b, 0, none⟩)] rfl rfl (fun j hj => by simp at hj) (fun j hj => ?_)
  match j, hj with
  | 0, _ =>
    refine .eptr (.agg [.str s]) 0 b 0 (fun _ => .string s) (fun j hj => ?_) (fun j hj => ?_)
    · have : j = 0 := by have : (SV.agg [.str s]).nc = 1 := rfl; omega
      subst this; exact h
    · have : j = 0 := by have : (SV.agg [.str s]).nc = 1 := rfl; omega
      subst this; exact .str _
theorem join_pure (g : Grp) (id : ByteArray) (now : Int) (hl : g.ms.length ≤ 999) : Pure Try.prog 29 [g.sv, .str id, .int .i64 now] (.tup [.sv (joinG g id now).1.sv, .sv (.int .i64 (joinG g id now).2)]) := by
  intro mu w vs hm hra
  obtain ⟨x, a, b, rfl⟩ : ∃ x a b, vs = [x, a, b] := by
    match vs, hra.1 with
    | [x, a, b], _ => exact ⟨x, a, b, rfl⟩
  obtain ⟨v, rfl, hv⟩ := rep_grp (hra.2 0 (by simp))
  obtain rfl : a = .string id := Rep.inv_str (hra.2 1 (by simp))
  obtain rfl : b = .int .i64 now := Rep.inv_int (hra.2 2 (by simp))
  have hgr : Rep mu g.sv (.agg #[.int .i64 g.ge, .int .u8 g.ph, v]) := hra.2 0 (by simp)
  obtain ⟨vp, vc, rfl⟩ := rep_sliceL hv
  rw [ML_length] at hv hgr ⊢
  have HCHK : Aside (∀ (mu' : Mem) W, mu.le mu' → MemOK mu' W → Calls Try.prog 34 #[.agg #[.int .i64 g.ge, .int .u8 g.ph, .slice vp g.ms.length vc]] W fun e w' => e = .returned (.int .i64 (chkG g)) ∧ Ext (fun _ => False) W w' ∧ MemOK mu' w') :=
    fun mu' W hle hW => pint (chk_pure g (by omega)) hW (repArgs1 (hgr.mono hle))
  have HPL : Aside (∀ (mu' : Mem) W, mu.le mu' → MemOK mu' W → Calls Try.prog 49 #[.agg #[.int .i64 g.ge, .int .u8 g.ph, .slice vp g.ms.length vc], .string id] W fun e w' => e = .returned (.int .i64 (placeP id g.ms)) ∧ Ext (fun _ => False) W w' ∧ MemOK mu' w') :=
    fun mu' W hle hW => pint (place_pure g id (by omega)) hW (repArgs_cons (hgr.mono hle) (repArgs1 (.str _)))
  have HNM : Aside (∀ (mu' : Mem) W, MemOK mu' W → Calls Try.prog 50 #[.string id] W fun e w' => e = .returned (.bool (nameB id)) ∧ Ext (fun _ => False) W w' ∧ MemOK mu' w') :=
    fun mu' W hW => pbool (name50 id) hW (repArgs1 (.str _))
  have HTM : Aside (∀ (mu' : Mem) W, MemOK mu' W → Calls Try.prog 51 #[.int .i64 now] W fun e w' => e = .returned (.bool (timeB now)) ∧ Ext (fun _ => False) W w' ∧ MemOK mu' w') :=
    fun mu' W hW => pbool (time51 now) hW (repArgs1 (.int _ _))
  have hpr := place_range id g.ms
  have HSEEN : Aside (∀ (mu' : Mem) W (i : Nat), i < g.ms.length → mu.le mu' → MemOK mu' W → Calls Try.prog 52 #[.agg #[.int .i64 g.ge, .int .u8 g.ph, .slice vp g.ms.length vc], .int .i64 i, .int .i64 now, .func (.func 53) #[] #[]] W fun e w' => ∃ p c mu2, e = .returned (.agg #[.int .i64 (seenG false g i now).ge, .int .u8 (seenG false g i now).ph, .slice p (seenG false g i now).ms.length c]) ∧ Ext (fun _ => False) W w' ∧ Gr W.heap.size mu' mu2 w' ∧ Rep mu2 (.sl 3 (ML (seenG false g i now).ms)) (.slice p (seenG false g i now).ms.length c)) :=
    fun mu' W i hi hle hW => pgrp (seen53 g i hi (by omega) now) hW (repArgs_cons (hgr.mono hle) (repArgs_cons (.int _ _) (repArgs_cons (.int _ _) (repArgs1 (.fn 53 [] [] [] [] rfl rfl (fun j hj => by simp at hj) (fun j hj => by simp at hj))))))
  have HIX : Aside (∀ (mu' : Mem) W (b : Nat), mu.le mu' → MemOK mu' W → mu' b 0 = some (.string id) → Calls Try.prog 54 #[.slice vp g.ms.length vc, .func (.func 55) #[] #[.pointer (some ⟨b, 0, none⟩)]] W fun e w' => e = .returned (.int .i64 (idxM (fun m => lts id m.id) g.ms 0)) ∧ Ext (fun _ => False) W w' ∧ MemOK mu' w') :=
    fun mu' W b hle hW hb => pint (idx_pure 55 [strC id] (fun m => lts id m.id) ok55 (fun m => clo55 id m) g.ms (by omega)) hW (repArgs_cons (hv.mono hle) (repArgs1 (clo_str hb)))
  have hpos : placeP id g.ms < 0 → (if idxM (fun m => lts id m.id) g.ms 0 < 0 then (g.ms.length : Int) else idxM (fun m => lts id m.id) g.ms 0) = posM id g.ms := idx_pos id g.ms
  have hple := posM_le id g.ms
  have HM : Aside (MemOK mu w) := hm
  have HV : Aside (Rep mu (.sl 3 (ML g.ms)) (.slice vp g.ms.length vc)) := hv
  show Calls _ _ _ _ (PostR mu w _)
  clear hgr hm hv hra
  unfold joinG
  generalize chkG g = z at HCHK ⊢
  generalize placeP id g.ms = p at HPL hpr hpos ⊢
  generalize posM id g.ms = q at hpos hple ⊢
  generalize idxM (fun m => lts id m.id) g.ms 0 = ix at HIX hpos ⊢
  obtain ⟨ge, ph, l⟩ := g
  simp only at *
  obtain ⟨m0, hm0⟩ : ∃ m0 : Mem, m0 = fun b j => if b = w.heap.size + 1 ∧ j = 0 then some (.string id) else mu b j := ⟨_, rfl⟩
  have hn : ∀ b j, w.heap.size ≤ b → mu b j = none := fun b j hb => by
    cases q : mu b j with
    | none => rfl
    | some v => have := HM.out.lt q; omega
  have hm0le : mu.le m0 := fun b j v h => by
    have := HM.out.lt h
    rw [hm0]
    simp only
    rw [if_neg (by omega)]
    exact h
  have hm0lo : ∀ b j, b < w.heap.size → m0 b j = mu b j := fun b j hb => by
    rw [hm0]
    simp only
    rw [if_neg (by omega)]
  have hm0hi : ∀ b j, w.heap.size ≤ b → b ≠ w.heap.size + 1 → m0 b j = none := fun b j hb h1 => by
    rw [hm0]
    simp only
    rw [if_neg (by omega)]
    exact hn b j hb
  have hm01 : m0 (w.heap.size + 1) 0 = some (.string id) := by rw [hm0]; simp
  have hm0ok : MemOK m0 (((w.alloc (.cells #[.int .i64 ge, .int .u8 ph, .slice vp l.length vc] 43)).alloc (.cells #[.string id] 9)).alloc (.cells #[.int .i64 0, .int .u8 0, .slice none 0 0] 43)) := by
    obtain ⟨k0, k1, k2, k3, k4⟩ := ext_box3 (w2 := ((w.alloc (.cells #[.int .i64 ge, .int .u8 ph, .slice vp l.length vc] 43)).alloc (.cells #[.string id] 9)).alloc (.cells #[.int .i64 0, .int .u8 0, .slice none 0 0] 43)) rfl (Ext.refl _ _)
    intro b j v h
    rw [hm0] at h
    simp only at h
    split at h
    · rename_i q
      obtain ⟨rfl, rfl⟩ := q
      cases h
      exact ⟨by rw [cell_of_block k2]; rfl, rfl⟩
    · exact (((HM.out.alloc _).alloc _).alloc _) b j v h
  have M0 : Aside (mu.le m0 ∧ (∀ b j, b < w.heap.size → m0 b j = mu b j) ∧ (∀ b j, w.heap.size ≤ b → b ≠ w.heap.size + 1 → m0 b j = none) ∧ m0 (w.heap.size + 1) 0 = some (.string id)) := ⟨hm0le, hm0lo, hm0hi, hm01⟩
  have M1 : Aside (MemOK m0 _) := hm0ok
  clear hm0 hn hm0le hm0lo hm0hi hm01 hm0ok
  have ZM : Aside (∀ j, m0 (w.heap.size + 1 + 1) j = none) := fun j => M0.out.2.2.1 _ j (by omega) (by omega)
  by_cases h1 : z = 0
  · subst h1
    rw [if_neg (by simp)]
    cases hnm : nameB id with
    | false =>
      rw [hnm] at HNM
      rw [if_pos rfl]
      go_enter Try.func29, Try.ntmps29
      go_wp2_with (first
        | (go_at_call 34
           refine (HCHK.out m0 _ M0.out.1 M1.out).mono ?_
           rintro e w2 ⟨rfl, hx, hm2⟩
           obtain ⟨k0, k1, k2, k3, k4⟩ := ext_box3 rfl hx
           have hB : Bx3 w w2 (.int .i64 ge) (.int .u8 ph) (.slice vp l.length vc) := ⟨k0, k1, k3, k4⟩
           obtain ⟨⟨a0, a1, a2⟩, ⟨b0, b1, b2⟩, f0, f1, f2⟩ := hB.cells
           have n0 : w2.cell? ⟨w.heap.size + 1, 0, none⟩ = some (.string id) := (hm2 _ _ _ M0.out.2.2.2).1
           have HB2 : Aside (Bx3 w w2 (.int .i64 ge) (.int .u8 ph) (.slice vp l.length vc)) := hB
           have HM2 : Aside (MemOK m0 w2) := hm2
           clear k0 k1 k2 k3 k4 hB hx hm2
           simp only [])
        | (go_at_call 49
           refine (HPL.out m0 _ M0.out.1 HM2.out).mono ?_
           rintro e w3 ⟨rfl, hx, hm2⟩
           have hB : Bx3 w w3 (.int .i64 ge) (.int .u8 ph) (.slice vp l.length vc) := HB2.out.step hx
           obtain ⟨⟨a0_3, a1_3, a2_3⟩, ⟨b0_3, b1_3, b2_3⟩, f0_3, f1_3, f2_3⟩ := hB.cells
           have n0_3 : w3.cell? ⟨w.heap.size + 1, 0, none⟩ = some (.string id) := (hm2 _ _ _ M0.out.2.2.2).1
           have HB3 : Aside (Bx3 w w3 (.int .i64 ge) (.int .u8 ph) (.slice vp l.length vc)) := hB
           have HM3 : Aside (MemOK m0 w3) := hm2
           clear hB hx hm2 a0 a1 a2 b0 b1 b2 f0 f1 f2 n0
           simp only [])
        | (go_at_call 50
           refine (HNM.out m0 _ HM3.out).mono ?_
           rintro e w4 ⟨rfl, hx, hm2⟩
           have hB : Bx3 w w4 (.int .i64 ge) (.int .u8 ph) (.slice vp l.length vc) := HB3.out.step hx
           obtain ⟨⟨a0_4, a1_4, a2_4⟩, ⟨b0_4, b1_4, b2_4⟩, f0_4, f1_4, f2_4⟩ := hB.cells
           have n0_4 : w4.cell? ⟨w.heap.size + 1, 0, none⟩ = some (.string id) := (hm2 _ _ _ M0.out.2.2.2).1
           have HB4 : Aside (Bx3 w w4 (.int .i64 ge) (.int .u8 ph) (.slice vp l.length vc)) := hB
           have HM4 : Aside (MemOK m0 w4) := hm2
           clear hB hx hm2 a0_3 a1_3 a2_3 b0_3 b1_3 b2_3 f0_3 f1_3 f2_3 n0_3
           simp only [])
        | go_in)
      have G1 := blk_same (j := 2) (blk_same (j := 1) (blk_same (j := 0) HB4.out.b2 (.int .i64 0)) (.int .u8 0)) (.slice none 0 0)
      refine bodyPost_ret (results_cell_tmp rfl _ _ (w.heap.size + 1 + 1) _ _ _ _ rfl G1 (show Try.prog.underlying 43 = some (Try.prog.underlying 43).get! by kernel_rfl) (by kernel_rfl) (by kernel_rfl)) rfl ?_
      exact ret_J (g := grp0) 6 M0.out.1 HM4.out M0.out.2.1 ZM.out HB4.out.ext (fun k hk => (blk_other hk _).trans ((blk_other hk _).trans (blk_other hk _))) rfl rfl rfl (by simp [World.setCell]) (.slnil 3)
    | true =>
      rw [hnm] at HNM
      rw [if_neg (by simp)]
      cases htm : timeB now with
      | false =>
        rw [htm] at HTM
        rw [if_pos rfl]
        go_enter Try.func29, Try.ntmps29
        go_wp2_with (first
          | (go_at_call 34
             refine (HCHK.out m0 _ M0.out.1 M1.out).mono ?_
             rintro e w2 ⟨rfl, hx, hm2⟩
             obtain ⟨k0, k1, k2, k3, k4⟩ := ext_box3 rfl hx
             have hB : Bx3 w w2 (.int .i64 ge) (.int .u8 ph) (.slice vp l.length vc) := ⟨k0, k1, k3, k4⟩
             obtain ⟨⟨a0, a1, a2⟩, ⟨b0, b1, b2⟩, f0, f1, f2⟩ := hB.cells
             have n0 : w2.cell? ⟨w.heap.size + 1, 0, none⟩ = some (.string id) := (hm2 _ _ _ M0.out.2.2.2).1
             have HB2 : Aside (Bx3 w w2 (.int .i64 ge) (.int .u8 ph) (.slice vp l.length vc)) := hB
             have HM2 : Aside (MemOK m0 w2) := hm2
             clear k0 k1 k2 k3 k4 hB hx hm2
             simp only [])
          | (go_at_call 49
             refine (HPL.out m0 _ M0.out.1 HM2.out).mono ?_
             rintro e w3 ⟨rfl, hx, hm2⟩
             have hB : Bx3 w w3 (.int .i64 ge) (.int .u8 ph) (.slice vp l.length vc) := HB2.out.step hx
             obtain ⟨⟨a0_3, a1_3, a2_3⟩, ⟨b0_3, b1_3, b2_3⟩, f0_3, f1_3, f2_3⟩ := hB.cells
             have n0_3 : w3.cell? ⟨w.heap.size + 1, 0, none⟩ = some (.string id) := (hm2 _ _ _ M0.out.2.2.2).1
             have HB3 : Aside (Bx3 w w3 (.int .i64 ge) (.int .u8 ph) (.slice vp l.length vc)) := hB
             have HM3 : Aside (MemOK m0 w3) := hm2
             clear hB hx hm2 a0 a1 a2 b0 b1 b2 f0 f1 f2 n0
             simp only [])
          | (go_at_call 50
             refine (HNM.out m0 _ HM3.out).mono ?_
             rintro e w4 ⟨rfl, hx, hm2⟩
             have hB : Bx3 w w4 (.int .i64 ge) (.int .u8 ph) (.slice vp l.length vc) := HB3.out.step hx
             obtain ⟨⟨a0_4, a1_4, a2_4⟩, ⟨b0_4, b1_4, b2_4⟩, f0_4, f1_4, f2_4⟩ := hB.cells
             have n0_4 : w4.cell? ⟨w.heap.size + 1, 0, none⟩ = some (.string id) := (hm2 _ _ _ M0.out.2.2.2).1
             have HB4 : Aside (Bx3 w w4 (.int .i64 ge) (.int .u8 ph) (.slice vp l.length vc)) := hB
             have HM4 : Aside (MemOK m0 w4) := hm2
             clear hB hx hm2 a0_3 a1_3 a2_3 b0_3 b1_3 b2_3 f0_3 f1_3 f2_3 n0_3
             simp only [])
          | (go_at_call 51
             refine (HTM.out m0 _ HM4.out).mono ?_
             rintro e w5 ⟨rfl, hx, hm2⟩
             have hB : Bx3 w w5 (.int .i64 ge) (.int .u8 ph) (.slice vp l.length vc) := HB4.out.step hx
             obtain ⟨⟨a0_5, a1_5, a2_5⟩, ⟨b0_5, b1_5, b2_5⟩, f0_5, f1_5, f2_5⟩ := hB.cells
             have n0_5 : w5.cell? ⟨w.heap.size + 1, 0, none⟩ = some (.string id) := (hm2 _ _ _ M0.out.2.2.2).1
             have HB5 : Aside (Bx3 w w5 (.int .i64 ge) (.int .u8 ph) (.slice vp l.length vc)) := hB
             have HM5 : Aside (MemOK m0 w5) := hm2
             clear hB hx hm2 a0_4 a1_4 a2_4 b0_4 b1_4 b2_4 f0_4 f1_4 f2_4 n0_4
             simp only [])
          | go_in)
        have G1 := blk_same (j := 2) (blk_same (j := 1) (blk_same (j := 0) HB5.out.b2 (.int .i64 0)) (.int .u8 0)) (.slice none 0 0)
        refine bodyPost_ret (results_cell_tmp rfl _ _ (w.heap.size + 1 + 1) _ _ _ _ rfl G1 (show Try.prog.underlying 43 = some (Try.prog.underlying 43).get! by kernel_rfl) (by kernel_rfl) (by kernel_rfl)) rfl ?_
        exact ret_J (g := grp0) 11 M0.out.1 HM5.out M0.out.2.1 ZM.out HB5.out.ext (fun k hk => (blk_other hk _).trans ((blk_other hk _).trans (blk_other hk _))) rfl rfl rfl (by simp [World.setCell]) (.slnil 3)
      | true =>
        rw [htm] at HTM
        rw [if_neg (by simp)]
        by_cases hp : 0 ≤ p
        · rw [if_pos hp]
          obtain ⟨i, rfl⟩ : ∃ i : Nat, p = i := ⟨p.toNat, by omega⟩
          have hil : i < l.length := by omega
          have hti : ((i : Int)).toNat = i := by omega
          rw [hti]
          have HIL : Aside (i < l.length) := hil
          replace HSEEN := fun (mu' : Mem) W => HSEEN.out mu' W i hil
          generalize seenG false ⟨ge, ph, l⟩ i now = G at HSEEN ⊢
          have HS : Aside _ := HSEEN
          clear HSEEN
          obtain ⟨Ge, Gp, Gl⟩ := G
          simp only at *
          go_enter Try.func29, Try.ntmps29
          go_wp2_with (first
            | (go_at_call 34
               refine (HCHK.out m0 _ M0.out.1 M1.out).mono ?_
               rintro e w2 ⟨rfl, hx, hm2⟩
               obtain ⟨k0, k1, k2, k3, k4⟩ := ext_box3 rfl hx
               have hB : Bx3 w w2 (.int .i64 ge) (.int .u8 ph) (.slice vp l.length vc) := ⟨k0, k1, k3, k4⟩
               obtain ⟨⟨a0, a1, a2⟩, ⟨b0, b1, b2⟩, f0, f1, f2⟩ := hB.cells
               have n0 : w2.cell? ⟨w.heap.size + 1, 0, none⟩ = some (.string id) := (hm2 _ _ _ M0.out.2.2.2).1
               have HB2 : Aside (Bx3 w w2 (.int .i64 ge) (.int .u8 ph) (.slice vp l.length vc)) := hB
               have HM2 : Aside (MemOK m0 w2) := hm2
               clear k0 k1 k2 k3 k4 hB hx hm2
               simp only [])
            | (go_at_call 49
               refine (HPL.out m0 _ M0.out.1 HM2.out).mono ?_
               rintro e w3 ⟨rfl, hx, hm2⟩
               have hB : Bx3 w w3 (.int .i64 ge) (.int .u8 ph) (.slice vp l.length vc) := HB2.out.step hx
               obtain ⟨⟨a0_3, a1_3, a2_3⟩, ⟨b0_3, b1_3, b2_3⟩, f0_3, f1_3, f2_3⟩ := hB.cells
               have n0_3 : w3.cell? ⟨w.heap.size + 1, 0, none⟩ = some (.string id) := (hm2 _ _ _ M0.out.2.2.2).1
               have HB3 : Aside (Bx3 w w3 (.int .i64 ge) (.int .u8 ph) (.slice vp l.length vc)) := hB
               have HM3 : Aside (MemOK m0 w3) := hm2
               clear hB hx hm2 a0 a1 a2 b0 b1 b2 f0 f1 f2 n0
               simp only [])
            | (go_at_call 50
               refine (HNM.out m0 _ HM3.out).mono ?_
               rintro e w4 ⟨rfl, hx, hm2⟩
               have hB : Bx3 w w4 (.int .i64 ge) (.int .u8 ph) (.slice vp l.length vc) := HB3.out.step hx
               obtain ⟨⟨a0_4, a1_4, a2_4⟩, ⟨b0_4, b1_4, b2_4⟩, f0_4, f1_4, f2_4⟩ := hB.cells
               have n0_4 : w4.cell? ⟨w.heap.size + 1, 0, none⟩ = some (.string id) := (hm2 _ _ _ M0.out.2.2.2).1
               have HB4 : Aside (Bx3 w w4 (.int .i64 ge) (.int .u8 ph) (.slice vp l.length vc)) := hB
               have HM4 : Aside (MemOK m0 w4) := hm2
               clear hB hx hm2 a0_3 a1_3 a2_3 b0_3 b1_3 b2_3 f0_3 f1_3 f2_3 n0_3
               simp only [])
            | (go_at_call 51
               refine (HTM.out m0 _ HM4.out).mono ?_
               rintro e w5 ⟨rfl, hx, hm2⟩
               have hB : Bx3 w w5 (.int .i64 ge) (.int .u8 ph) (.slice vp l.length vc) := HB4.out.step hx
               obtain ⟨⟨a0_5, a1_5, a2_5⟩, ⟨b0_5, b1_5, b2_5⟩, f0_5, f1_5, f2_5⟩ := hB.cells
               have n0_5 : w5.cell? ⟨w.heap.size + 1, 0, none⟩ = some (.string id) := (hm2 _ _ _ M0.out.2.2.2).1
               have HB5 : Aside (Bx3 w w5 (.int .i64 ge) (.int .u8 ph) (.slice vp l.length vc)) := hB
               have HM5 : Aside (MemOK m0 w5) := hm2
               clear hB hx hm2 a0_4 a1_4 a2_4 b0_4 b1_4 b2_4 f0_4 f1_4 f2_4 n0_4
               simp only [])
            | (go_at_call 52
               refine (HS.out m0 _ M0.out.1 HM5.out).mono ?_
               rintro e w6 ⟨p6, c6, m6, rfl, hx, hgr, hrep⟩
               have hB : Bx3 w w6 (.int .i64 ge) (.int .u8 ph) (.slice vp l.length vc) := HB5.out.step hx
               obtain ⟨⟨a0', a1', a2'⟩, ⟨b0', b1', b2'⟩, f0', f1', f2'⟩ := hB.cells
               have HB6 : Aside (Bx3 w w6 (.int .i64 ge) (.int .u8 ph) (.slice vp l.length vc)) := hB
               have HG6 : Aside (Gr w5.heap.size m0 m6 w6 ∧ Rep m6 (.sl 3 (ML Gl)) (.slice p6 Gl.length c6)) := ⟨hgr, hrep⟩
               clear hB hx hgr hrep a0_5 a1_5 a2_5 b0_5 b1_5 b2_5 f0_5 f1_5 f2_5 n0_5
               simp only [])
            | go_in)
          have G1 := blk_same (j := 2) (blk_same (j := 1) (blk_same (j := 0) HB6.out.b2 (.int .i64 Ge)) (.int .u8 Gp)) (.slice p6 Gl.length c6)
          refine bodyPost_ret (results_cell_tmp rfl _ _ (w.heap.size + 1 + 1) _ _ _ _ rfl G1 (show Try.prog.underlying 43 = some (Try.prog.underlying 43).get! by kernel_rfl) (by kernel_rfl) (by kernel_rfl)) rfl ?_
          exact ret_J (g := ⟨Ge, Gp, Gl⟩) 0 (Mem.le_trans M0.out.1 HG6.out.1.le) HG6.out.1.ok (fun b j hb => (HG6.out.1.low b j (by have := HB5.out.sz; omega)).trans (M0.out.2.1 b j hb)) (fun j => (HG6.out.1.low _ j (by have := HB5.out.sz; omega)).trans (ZM.out j)) HB6.out.ext (fun k hk => (blk_other hk _).trans ((blk_other hk _).trans (blk_other hk _))) rfl rfl rfl (by simp [World.setCell]) HG6.out.2
        · rw [if_neg hp]
          by_cases hf : 16 ≤ l.length
          · rw [if_pos hf]
            have hf2 : (16 : Int) ≤ (l.length : Int) := by omega
            go_enter Try.func29, Try.ntmps29
            go_wp2_with (first
              | (go_at_call 34
                 refine (HCHK.out m0 _ M0.out.1 M1.out).mono ?_
                 rintro e w2 ⟨rfl, hx, hm2⟩
                 obtain ⟨k0, k1, k2, k3, k4⟩ := ext_box3 rfl hx
                 have hB : Bx3 w w2 (.int .i64 ge) (.int .u8 ph) (.slice vp l.length vc) := ⟨k0, k1, k3, k4⟩
                 obtain ⟨⟨a0, a1, a2⟩, ⟨b0, b1, b2⟩, f0, f1, f2⟩ := hB.cells
                 have n0 : w2.cell? ⟨w.heap.size + 1, 0, none⟩ = some (.string id) := (hm2 _ _ _ M0.out.2.2.2).1
                 have HB2 : Aside (Bx3 w w2 (.int .i64 ge) (.int .u8 ph) (.slice vp l.length vc)) := hB
                 have HM2 : Aside (MemOK m0 w2) := hm2
                 clear k0 k1 k2 k3 k4 hB hx hm2
                 simp only [])
              | (go_at_call 49
                 refine (HPL.out m0 _ M0.out.1 HM2.out).mono ?_
                 rintro e w3 ⟨rfl, hx, hm2⟩
                 have hB : Bx3 w w3 (.int .i64 ge) (.int .u8 ph) (.slice vp l.length vc) := HB2.out.step hx
                 obtain ⟨⟨a0_3, a1_3, a2_3⟩, ⟨b0_3, b1_3, b2_3⟩, f0_3, f1_3, f2_3⟩ := hB.cells
                 have n0_3 : w3.cell? ⟨w.heap.size + 1, 0, none⟩ = some (.string id) := (hm2 _ _ _ M0.out.2.2.2).1
                 have HB3 : Aside (Bx3 w w3 (.int .i64 ge) (.int .u8 ph) (.slice vp l.length vc)) := hB
                 have HM3 : Aside (MemOK m0 w3) := hm2
                 clear hB hx hm2 a0 a1 a2 b0 b1 b2 f0 f1 f2 n0
                 simp only [])
              | (go_at_call 50
                 refine (HNM.out m0 _ HM3.out).mono ?_
                 rintro e w4 ⟨rfl, hx, hm2⟩
                 have hB : Bx3 w w4 (.int .i64 ge) (.int .u8 ph) (.slice vp l.length vc) := HB3.out.step hx
                 obtain ⟨⟨a0_4, a1_4, a2_4⟩, ⟨b0_4, b1_4, b2_4⟩, f0_4, f1_4, f2_4⟩ := hB.cells
                 have n0_4 : w4.cell? ⟨w.heap.size + 1, 0, none⟩ = some (.string id) := (hm2 _ _ _ M0.out.2.2.2).1
                 have HB4 : Aside (Bx3 w w4 (.int .i64 ge) (.int .u8 ph) (.slice vp l.length vc)) := hB
                 have HM4 : Aside (MemOK m0 w4) := hm2
                 clear hB hx hm2 a0_3 a1_3 a2_3 b0_3 b1_3 b2_3 f0_3 f1_3 f2_3 n0_3
                 simp only [])
              | (go_at_call 51
                 refine (HTM.out m0 _ HM4.out).mono ?_
                 rintro e w5 ⟨rfl, hx, hm2⟩
                 have hB : Bx3 w w5 (.int .i64 ge) (.int .u8 ph) (.slice vp l.length vc) := HB4.out.step hx
                 obtain ⟨⟨a0_5, a1_5, a2_5⟩, ⟨b0_5, b1_5, b2_5⟩, f0_5, f1_5, f2_5⟩ := hB.cells
                 have n0_5 : w5.cell? ⟨w.heap.size + 1, 0, none⟩ = some (.string id) := (hm2 _ _ _ M0.out.2.2.2).1
                 have HB5 : Aside (Bx3 w w5 (.int .i64 ge) (.int .u8 ph) (.slice vp l.length vc)) := hB
                 have HM5 : Aside (MemOK m0 w5) := hm2
                 clear hB hx hm2 a0_4 a1_4 a2_4 b0_4 b1_4 b2_4 f0_4 f1_4 f2_4 n0_4
                 simp only [])
              | go_in)
            have G1 := blk_same (j := 2) (blk_same (j := 1) (blk_same (j := 0) HB5.out.b2 (.int .i64 0)) (.int .u8 0)) (.slice none 0 0)
            refine bodyPost_ret (results_cell_tmp rfl _ _ (w.heap.size + 1 + 1) _ _ _ _ rfl G1 (show Try.prog.underlying 43 = some (Try.prog.underlying 43).get! by kernel_rfl) (by kernel_rfl) (by kernel_rfl)) rfl ?_
            exact ret_J (g := grp0) 9 M0.out.1 HM5.out M0.out.2.1 ZM.out HB5.out.ext (fun k hk => (blk_other hk _).trans ((blk_other hk _).trans (blk_other hk _))) rfl rfl rfl (by simp [World.setCell]) (.slnil 3)
          · rw [if_neg hf]
            have hf2 : ¬ (16 : Int) ≤ (l.length : Int) := by omega
            by_cases hg : 1099511627776 ≤ ge
            · rw [if_pos hg]
              go_enter Try.func29, Try.ntmps29
              go_wp2_with (first
                | (go_at_call 34
                   refine (HCHK.out m0 _ M0.out.1 M1.out).mono ?_
                   rintro e w2 ⟨rfl, hx, hm2⟩
                   obtain ⟨k0, k1, k2, k3, k4⟩ := ext_box3 rfl hx
                   have hB : Bx3 w w2 (.int .i64 ge) (.int .u8 ph) (.slice vp l.length vc) := ⟨k0, k1, k3, k4⟩
                   obtain ⟨⟨a0, a1, a2⟩, ⟨b0, b1, b2⟩, f0, f1, f2⟩ := hB.cells
                   have n0 : w2.cell? ⟨w.heap.size + 1, 0, none⟩ = some (.string id) := (hm2 _ _ _ M0.out.2.2.2).1
                   have HB2 : Aside (Bx3 w w2 (.int .i64 ge) (.int .u8 ph) (.slice vp l.length vc)) := hB
                   have HM2 : Aside (MemOK m0 w2) := hm2
                   clear k0 k1 k2 k3 k4 hB hx hm2
                   simp only [])
                | (go_at_call 49
                   refine (HPL.out m0 _ M0.out.1 HM2.out).mono ?_
                   rintro e w3 ⟨rfl, hx, hm2⟩
                   have hB : Bx3 w w3 (.int .i64 ge) (.int .u8 ph) (.slice vp l.length vc) := HB2.out.step hx
                   obtain ⟨⟨a0_3, a1_3, a2_3⟩, ⟨b0_3, b1_3, b2_3⟩, f0_3, f1_3, f2_3⟩ := hB.cells
                   have n0_3 : w3.cell? ⟨w.heap.size + 1, 0, none⟩ = some (.string id) := (hm2 _ _ _ M0.out.2.2.2).1
                   have HB3 : Aside (Bx3 w w3 (.int .i64 ge) (.int .u8 ph) (.slice vp l.length vc)) := hB
                   have HM3 : Aside (MemOK m0 w3) := hm2
                   clear hB hx hm2 a0 a1 a2 b0 b1 b2 f0 f1 f2 n0
                   simp only [])
                | (go_at_call 50
                   refine (HNM.out m0 _ HM3.out).mono ?_
                   rintro e w4 ⟨rfl, hx, hm2⟩
                   have hB : Bx3 w w4 (.int .i64 ge) (.int .u8 ph) (.slice vp l.length vc) := HB3.out.step hx
                   obtain ⟨⟨a0_4, a1_4, a2_4⟩, ⟨b0_4, b1_4, b2_4⟩, f0_4, f1_4, f2_4⟩ := hB.cells
                   have n0_4 : w4.cell? ⟨w.heap.size + 1, 0, none⟩ = some (.string id) := (hm2 _ _ _ M0.out.2.2.2).1
                   have HB4 : Aside (Bx3 w w4 (.int .i64 ge) (.int .u8 ph) (.slice vp l.length vc)) := hB
                   have HM4 : Aside (MemOK m0 w4) := hm2
                   clear hB hx hm2 a0_3 a1_3 a2_3 b0_3 b1_3 b2_3 f0_3 f1_3 f2_3 n0_3
                   simp only [])
                | (go_at_call 51
                   refine (HTM.out m0 _ HM4.out).mono ?_
                   rintro e w5 ⟨rfl, hx, hm2⟩
                   have hB : Bx3 w w5 (.int .i64 ge) (.int .u8 ph) (.slice vp l.length vc) := HB4.out.step hx
                   obtain ⟨⟨a0_5, a1_5, a2_5⟩, ⟨b0_5, b1_5, b2_5⟩, f0_5, f1_5, f2_5⟩ := hB.cells
                   have n0_5 : w5.cell? ⟨w.heap.size + 1, 0, none⟩ = some (.string id) := (hm2 _ _ _ M0.out.2.2.2).1
                   have HB5 : Aside (Bx3 w w5 (.int .i64 ge) (.int .u8 ph) (.slice vp l.length vc)) := hB
                   have HM5 : Aside (MemOK m0 w5) := hm2
                   clear hB hx hm2 a0_4 a1_4 a2_4 b0_4 b1_4 b2_4 f0_4 f1_4 f2_4 n0_4
                   simp only [])
                | go_in)
              have G1 := blk_same (j := 2) (blk_same (j := 1) (blk_same (j := 0) HB5.out.b2 (.int .i64 0)) (.int .u8 0)) (.slice none 0 0)
              refine bodyPost_ret (results_cell_tmp rfl _ _ (w.heap.size + 1 + 1) _ _ _ _ rfl G1 (show Try.prog.underlying 43 = some (Try.prog.underlying 43).get! by kernel_rfl) (by kernel_rfl) (by kernel_rfl)) rfl ?_
              exact ret_J (g := grp0) 11 M0.out.1 HM5.out M0.out.2.1 ZM.out HB5.out.ext (fun k hk => (blk_other hk _).trans ((blk_other hk _).trans (blk_other hk _))) rfl rfl rfl (by simp [World.setCell]) (.slnil 3)
            · rw [if_neg hg]
              have hpos' := hpos (by omega)
              by_cases hix : ix < 0
              · rw [if_pos hix] at hpos'
                obtain rfl : q = l.length := by omega
                have HIQ : Aside (l.length ≤ l.length) := Nat.le_refl _
                go_enter Try.func29, Try.ntmps29
                go_wp2_with (first
                  | (go_at_call 34
                     refine (HCHK.out m0 _ M0.out.1 M1.out).mono ?_
                     rintro e w2 ⟨rfl, hx, hm2⟩
                     obtain ⟨k0, k1, k2, k3, k4⟩ := ext_box3 rfl hx
                     have hB : Bx3 w w2 (.int .i64 ge) (.int .u8 ph) (.slice vp l.length vc) := ⟨k0, k1, k3, k4⟩
                     obtain ⟨⟨a0, a1, a2⟩, ⟨b0, b1, b2⟩, f0, f1, f2⟩ := hB.cells
                     have n0 : w2.cell? ⟨w.heap.size + 1, 0, none⟩ = some (.string id) := (hm2 _ _ _ M0.out.2.2.2).1
                     have HB2 : Aside (Bx3 w w2 (.int .i64 ge) (.int .u8 ph) (.slice vp l.length vc)) := hB
                     have HM2 : Aside (MemOK m0 w2) := hm2
                     clear k0 k1 k2 k3 k4 hB hx hm2
                     simp only [])
                  | (go_at_call 49
                     refine (HPL.out m0 _ M0.out.1 HM2.out).mono ?_
                     rintro e w3 ⟨rfl, hx, hm2⟩
                     have hB : Bx3 w w3 (.int .i64 ge) (.int .u8 ph) (.slice vp l.length vc) := HB2.out.step hx
                     obtain ⟨⟨a0_3, a1_3, a2_3⟩, ⟨b0_3, b1_3, b2_3⟩, f0_3, f1_3, f2_3⟩ := hB.cells
                     have n0_3 : w3.cell? ⟨w.heap.size + 1, 0, none⟩ = some (.string id) := (hm2 _ _ _ M0.out.2.2.2).1
                     have HB3 : Aside (Bx3 w w3 (.int .i64 ge) (.int .u8 ph) (.slice vp l.length vc)) := hB
                     have HM3 : Aside (MemOK m0 w3) := hm2
                     clear hB hx hm2 a0 a1 a2 b0 b1 b2 f0 f1 f2 n0
                     simp only [])
                  | (go_at_call 50
                     refine (HNM.out m0 _ HM3.out).mono ?_
                     rintro e w4 ⟨rfl, hx, hm2⟩
                     have hB : Bx3 w w4 (.int .i64 ge) (.int .u8 ph) (.slice vp l.length vc) := HB3.out.step hx
                     obtain ⟨⟨a0_4, a1_4, a2_4⟩, ⟨b0_4, b1_4, b2_4⟩, f0_4, f1_4, f2_4⟩ := hB.cells
                     have n0_4 : w4.cell? ⟨w.heap.size + 1, 0, none⟩ = some (.string id) := (hm2 _ _ _ M0.out.2.2.2).1
                     have HB4 : Aside (Bx3 w w4 (.int .i64 ge) (.int .u8 ph) (.slice vp l.length vc)) := hB
                     have HM4 : Aside (MemOK m0 w4) := hm2
                     clear hB hx hm2 a0_3 a1_3 a2_3 b0_3 b1_3 b2_3 f0_3 f1_3 f2_3 n0_3
                     simp only [])
                  | (go_at_call 51
                     refine (HTM.out m0 _ HM4.out).mono ?_
                     rintro e w5 ⟨rfl, hx, hm2⟩
                     have hB : Bx3 w w5 (.int .i64 ge) (.int .u8 ph) (.slice vp l.length vc) := HB4.out.step hx
                     obtain ⟨⟨a0_5, a1_5, a2_5⟩, ⟨b0_5, b1_5, b2_5⟩, f0_5, f1_5, f2_5⟩ := hB.cells
                     have n0_5 : w5.cell? ⟨w.heap.size + 1, 0, none⟩ = some (.string id) := (hm2 _ _ _ M0.out.2.2.2).1
                     have HB5 : Aside (Bx3 w w5 (.int .i64 ge) (.int .u8 ph) (.slice vp l.length vc)) := hB
                     have HM5 : Aside (MemOK m0 w5) := hm2
                     clear hB hx hm2 a0_4 a1_4 a2_4 b0_4 b1_4 b2_4 f0_4 f1_4 f2_4 n0_4
                     simp only [])
                  | (go_at_call 54
                     refine (HIX.out m0 _ _ M0.out.1 HM5.out M0.out.2.2.2).mono ?_
                     rintro e w6 ⟨rfl, hx, hm2⟩
                     have hB : Bx3 w w6 (.int .i64 ge) (.int .u8 ph) (.slice vp l.length vc) := HB5.out.step hx
                     obtain ⟨⟨a0_6, a1_6, a2_6⟩, ⟨b0_6, b1_6, b2_6⟩, f0_6, f1_6, f2_6⟩ := hB.cells
                     have n0_6 : w6.cell? ⟨w.heap.size + 1, 0, none⟩ = some (.string id) := (hm2 _ _ _ M0.out.2.2.2).1
                     have HB6 : Aside (Bx3 w w6 (.int .i64 ge) (.int .u8 ph) (.slice vp l.length vc)) := hB
                     have HM6 : Aside (MemOK m0 w6) := hm2
                     clear hB hx hm2 a0_5 a1_5 a2_5 b0_5 b1_5 b2_5 f0_5 f1_5 f2_5 n0_5
                     simp only [])
                  | go_in)
                have HIQ : Aside (l.length ≤ l.length) := by first | exact Nat.le_refl _ | exact hple
                have hs6 : w.heap.size + 3 ≤ w6.heap.size := HB6.out.sz
                have hq0 : ¬ (w.heap.size = w6.heap.size) := by omega
                have hq1 : ¬ (w.heap.size + 1 = w6.heap.size) := by omega
                have hq3 : w.heap.size < w6.heap.size := by omega
                have hq4 : w.heap.size + 1 < w6.heap.size := by omega
                go_region_held (fun W => W.cell? ⟨w.heap.size, 0, none⟩ = some (.int .i64 ge) ∧ W.cell? ⟨w.heap.size, 1, none⟩ = some (.int .u8 ph) ∧ W.cell? ⟨w.heap.size, 2, none⟩ = some (.slice vp l.length vc) ∧ W.cell? ⟨w.heap.size + 1, 0, none⟩ = some (.string id)) (first | (go_keep; done) | (refine ⟨?_, ?_, ?_, ?_⟩ <;> (refine (World.cell?_setCell_far _ _ _ _ ?_).trans ((World.cell?_setCell_far _ _ _ _ ?_).trans ((World.cell?_setCell_far _ _ _ _ ?_).trans ?_)) <;> first | assumption | (show w.heap.size + 1 + 1 ≠ w.heap.size; omega) | (show w.heap.size + 1 + 1 ≠ w.heap.size + 1; omega)))) (first
                  | (go_at_call 58
                     refine (clone_J (w6 := w6) HM6.out (by first | exact ext_drew _ | exact (ext_drew _).trans (ext_alloc1 _ _)) (HV.out.mono M0.out.1) (by omega)).mono ?_
                     rintro e w7 ⟨val7, m7, ob, rfl, hx, hj⟩
                     have hB : Bx3 w w7 (.int .i64 ge) (.int .u8 ph) (.slice vp l.length vc) := HB6.out.step hx
                     obtain ⟨⟨a0', a1', a2'⟩, ⟨b0', b1', b2'⟩, f0', f1', f2'⟩ := hB.cells
                     have n0' : w7.cell? ⟨w.heap.size + 1, 0, none⟩ = some (.string id) := (hj.gr.ok _ _ _ (hj.gr.le _ _ _ M0.out.2.2.2)).1
                     have hs7 : w6.heap.size ≤ w7.heap.size := hx.size
                     have hr0 : ¬ (w.heap.size = w7.heap.size) := by omega
                     have hr1 : ¬ (w.heap.size + 1 = w7.heap.size) := by omega
                     have hr3 : w.heap.size < w7.heap.size := by omega
                     have hr4 : w.heap.size + 1 < w7.heap.size := by omega
                     have HB7 : Aside (Bx3 w w7 (.int .i64 ge) (.int .u8 ph) (.slice vp l.length vc)) := hB
                     have HJ : Aside _ := hj
                     clear hB hx hj)
                  | (go_at_call_of 57 (w7.heap.size)
                     refine (insert_B (m := ⟨id, now, false⟩) HJ.out _ hl HIQ.out).mono ?_
                     rintro e w8 ⟨p8, c8, m8, rfl, g1, g2, g3, g4, g5, hgr, hrep⟩
                     have hB : Bx3 w w8 (.int .i64 ge) (.int .u8 ph) (.slice vp l.length vc) := (HB7.out.step (ext_alloc1 _ _)).step2 (fun j hj => g1 j (by omega)) g2 g3 g4 g5
                     obtain ⟨⟨a0'', a1'', a2''⟩, ⟨b0'', b1'', b2''⟩, f0'', f1'', f2''⟩ := hB.cells
                     have HB8 : Aside (Bx3 w w8 (.int .i64 ge) (.int .u8 ph) (.slice vp l.length vc)) := hB
                     have HG8 : Aside (Gr w6.heap.size m0 m8 w8 ∧ Rep m8 (.sl 3 (ML (insM l l.length ⟨id, now, false⟩))) (.slice p8 (insM l l.length ⟨id, now, false⟩).length c8) ∧ w6.heap.size ≤ w8.heap.size) :=
                       ⟨⟨Mem.le_trans HJ.out.gr.le hgr.le, hgr.ok, fun b j hb => (hgr.low b j hb).trans (HJ.out.gr.low b j hb)⟩, hrep, by simp at g5; omega⟩
                     have n0'' : w8.cell? ⟨w.heap.size + 1, 0, none⟩ = some (.string id) := (HG8.out.1.ok _ _ _ (HG8.out.1.le _ _ _ M0.out.2.2.2)).1
                     clear hB g1 g2 g3 g4 g5 hgr hrep)
                  | (go_at_call_of 57 (w6.heap.size)
                     refine (insert_A (m := ⟨id, now, false⟩) HJ.out (alloc_self w6 (.cells (encM ⟨id, now, false⟩).toArray 61)) (Nat.le_refl _) hl HIQ.out).mono ?_
                     rintro e w8 ⟨p8, c8, m8, rfl, g1, g2, g3, g4, g5, hgr, hrep⟩
                     have hB : Bx3 w w8 (.int .i64 ge) (.int .u8 ph) (.slice vp l.length vc) := HB7.out.step2 (fun j hj => g1 j (by omega)) g2 g3 g4 g5
                     obtain ⟨⟨a0'', a1'', a2''⟩, ⟨b0'', b1'', b2''⟩, f0'', f1'', f2''⟩ := hB.cells
                     have HB8 : Aside (Bx3 w w8 (.int .i64 ge) (.int .u8 ph) (.slice vp l.length vc)) := hB
                     have HG8 : Aside (Gr w6.heap.size m0 m8 w8 ∧ Rep m8 (.sl 3 (ML (insM l l.length ⟨id, now, false⟩))) (.slice p8 (insM l l.length ⟨id, now, false⟩).length c8) ∧ w6.heap.size ≤ w8.heap.size) :=
                       ⟨⟨Mem.le_trans HJ.out.gr.le hgr.le, hgr.ok, fun b j hb => (hgr.low b j hb).trans (HJ.out.gr.low b j hb)⟩, hrep, by omega⟩
                     have n0'' : w8.cell? ⟨w.heap.size + 1, 0, none⟩ = some (.string id) := (HG8.out.1.ok _ _ _ (HG8.out.1.le _ _ _ M0.out.2.2.2)).1
                     clear hB g1 g2 g3 g4 g5 hgr hrep)
                  | (go_at_call 56
                     refine (turn_step (g := ⟨ge, ph, l⟩) (l := insM l l.length ⟨id, now, false⟩) (by rw [insM_length l _ _ HIQ.out]; omega) HG8.out.1.ok (HV.out.mono (Mem.le_trans M0.out.1 HG8.out.1.le)) HG8.out.2.1).mono ?_
                     rintro e w9 ⟨v9, m9, rfl, hx, hgr, hrep⟩
                     obtain ⟨ap, an, ac, rfl⟩ := rep_slice hrep
                     have hB : Bx3 w w9 (.int .i64 ge) (.int .u8 ph) (.slice vp l.length vc) := HB8.out.step hx
                     obtain ⟨⟨x0, x1, x2⟩, ⟨y0, y1, y2⟩, y3, y4, y5⟩ := hB.cells
                     have HB9 : Aside (Bx3 w w9 (.int .i64 ge) (.int .u8 ph) (.slice vp l.length vc)) := hB
                     have HG9 : Aside (Gr w6.heap.size m0 m9 w9 ∧ Rep m9 (.sl 3 (ML (offM (insM l l.length ⟨id, now, false⟩)))) (.slice ap an ac)) :=
                       ⟨⟨Mem.le_trans HG8.out.1.le hgr.le, hgr.ok, fun b j hb => (hgr.low b j (by have := HG8.out.2.2; omega)).trans (HG8.out.1.low b j hb)⟩, hrep⟩
                     have n9 : w9.cell? ⟨w.heap.size + 1, 0, none⟩ = some (.string id) := (HG9.out.1.ok _ _ _ (HG9.out.1.le _ _ _ M0.out.2.2.2)).1
                     clear hB hx hgr hrep))
                all_goals go_wp2
                all_goals (
                  have G1 := blk_same (j := 2) (blk_same (j := 1) (blk_same (j := 0) HB9.out.b2 (.int .i64 (IntKind.i64.wrap (ge + 1)))) (.int .u8 (phaseP (offM (insM l l.length ⟨id, now, false⟩))))) (.slice ap an ac)
                  refine bodyPost_ret (results_cell_tmp rfl _ _ (w.heap.size + 1 + 1) _ _ _ _ rfl G1 (show Try.prog.underlying 43 = some (Try.prog.underlying 43).get! by kernel_rfl) (by kernel_rfl) (by kernel_rfl)) rfl ?_
                  exact ret_J (g := ⟨IntKind.i64.wrap (ge + 1), phaseP (offM (insM l l.length ⟨id, now, false⟩)), offM (insM l l.length ⟨id, now, false⟩)⟩) 0 (Mem.le_trans M0.out.1 HG9.out.1.le) HG9.out.1.ok (fun b j hb => (HG9.out.1.low b j (by omega)).trans (M0.out.2.1 b j hb)) (fun j => (HG9.out.1.low _ j (by omega)).trans (ZM.out j)) HB9.out.ext (fun k hk => (blk_other hk _).trans ((blk_other hk _).trans (blk_other hk _))) rfl rfl rfl (by simp [World.setCell]) HG9.out.2)
              · rw [if_neg hix] at hpos'
                subst hpos'
                go_enter Try.func29, Try.ntmps29
                go_wp2_with (first
                  | (go_at_call 34
                     refine (HCHK.out m0 _ M0.out.1 M1.out).mono ?_
                     rintro e w2 ⟨rfl, hx, hm2⟩
                     obtain ⟨k0, k1, k2, k3, k4⟩ := ext_box3 rfl hx
                     have hB : Bx3 w w2 (.int .i64 ge) (.int .u8 ph) (.slice vp l.length vc) := ⟨k0, k1, k3, k4⟩
                     obtain ⟨⟨a0, a1, a2⟩, ⟨b0, b1, b2⟩, f0, f1, f2⟩ := hB.cells
                     have n0 : w2.cell? ⟨w.heap.size + 1, 0, none⟩ = some (.string id) := (hm2 _ _ _ M0.out.2.2.2).1
                     have HB2 : Aside (Bx3 w w2 (.int .i64 ge) (.int .u8 ph) (.slice vp l.length vc)) := hB
                     have HM2 : Aside (MemOK m0 w2) := hm2
                     clear k0 k1 k2 k3 k4 hB hx hm2
                     simp only [])
                  | (go_at_call 49
                     refine (HPL.out m0 _ M0.out.1 HM2.out).mono ?_
                     rintro e w3 ⟨rfl, hx, hm2⟩
                     have hB : Bx3 w w3 (.int .i64 ge) (.int .u8 ph) (.slice vp l.length vc) := HB2.out.step hx
                     obtain ⟨⟨a0_3, a1_3, a2_3⟩, ⟨b0_3, b1_3, b2_3⟩, f0_3, f1_3, f2_3⟩ := hB.cells
                     have n0_3 : w3.cell? ⟨w.heap.size + 1, 0, none⟩ = some (.string id) := (hm2 _ _ _ M0.out.2.2.2).1
                     have HB3 : Aside (Bx3 w w3 (.int .i64 ge) (.int .u8 ph) (.slice vp l.length vc)) := hB
                     have HM3 : Aside (MemOK m0 w3) := hm2
                     clear hB hx hm2 a0 a1 a2 b0 b1 b2 f0 f1 f2 n0
                     simp only [])
                  | (go_at_call 50
                     refine (HNM.out m0 _ HM3.out).mono ?_
                     rintro e w4 ⟨rfl, hx, hm2⟩
                     have hB : Bx3 w w4 (.int .i64 ge) (.int .u8 ph) (.slice vp l.length vc) := HB3.out.step hx
                     obtain ⟨⟨a0_4, a1_4, a2_4⟩, ⟨b0_4, b1_4, b2_4⟩, f0_4, f1_4, f2_4⟩ := hB.cells
                     have n0_4 : w4.cell? ⟨w.heap.size + 1, 0, none⟩ = some (.string id) := (hm2 _ _ _ M0.out.2.2.2).1
                     have HB4 : Aside (Bx3 w w4 (.int .i64 ge) (.int .u8 ph) (.slice vp l.length vc)) := hB
                     have HM4 : Aside (MemOK m0 w4) := hm2
                     clear hB hx hm2 a0_3 a1_3 a2_3 b0_3 b1_3 b2_3 f0_3 f1_3 f2_3 n0_3
                     simp only [])
                  | (go_at_call 51
                     refine (HTM.out m0 _ HM4.out).mono ?_
                     rintro e w5 ⟨rfl, hx, hm2⟩
                     have hB : Bx3 w w5 (.int .i64 ge) (.int .u8 ph) (.slice vp l.length vc) := HB4.out.step hx
                     obtain ⟨⟨a0_5, a1_5, a2_5⟩, ⟨b0_5, b1_5, b2_5⟩, f0_5, f1_5, f2_5⟩ := hB.cells
                     have n0_5 : w5.cell? ⟨w.heap.size + 1, 0, none⟩ = some (.string id) := (hm2 _ _ _ M0.out.2.2.2).1
                     have HB5 : Aside (Bx3 w w5 (.int .i64 ge) (.int .u8 ph) (.slice vp l.length vc)) := hB
                     have HM5 : Aside (MemOK m0 w5) := hm2
                     clear hB hx hm2 a0_4 a1_4 a2_4 b0_4 b1_4 b2_4 f0_4 f1_4 f2_4 n0_4
                     simp only [])
                  | (go_at_call 54
                     refine (HIX.out m0 _ _ M0.out.1 HM5.out M0.out.2.2.2).mono ?_
                     rintro e w6 ⟨rfl, hx, hm2⟩
                     have hB : Bx3 w w6 (.int .i64 ge) (.int .u8 ph) (.slice vp l.length vc) := HB5.out.step hx
                     obtain ⟨⟨a0_6, a1_6, a2_6⟩, ⟨b0_6, b1_6, b2_6⟩, f0_6, f1_6, f2_6⟩ := hB.cells
                     have n0_6 : w6.cell? ⟨w.heap.size + 1, 0, none⟩ = some (.string id) := (hm2 _ _ _ M0.out.2.2.2).1
                     have HB6 : Aside (Bx3 w w6 (.int .i64 ge) (.int .u8 ph) (.slice vp l.length vc)) := hB
                     have HM6 : Aside (MemOK m0 w6) := hm2
                     clear hB hx hm2 a0_5 a1_5 a2_5 b0_5 b1_5 b2_5 f0_5 f1_5 f2_5 n0_5
                     simp only [])
                  | go_in)
                have HIQ : Aside (q ≤ l.length) := by first | exact Nat.le_refl _ | exact hple
                have hs6 : w.heap.size + 3 ≤ w6.heap.size := HB6.out.sz
                have hq0 : ¬ (w.heap.size = w6.heap.size) := by omega
                have hq1 : ¬ (w.heap.size + 1 = w6.heap.size) := by omega
                have hq3 : w.heap.size < w6.heap.size := by omega
                have hq4 : w.heap.size + 1 < w6.heap.size := by omega
                go_region_held (fun W => W.cell? ⟨w.heap.size, 0, none⟩ = some (.int .i64 ge) ∧ W.cell? ⟨w.heap.size, 1, none⟩ = some (.int .u8 ph) ∧ W.cell? ⟨w.heap.size, 2, none⟩ = some (.slice vp l.length vc) ∧ W.cell? ⟨w.heap.size + 1, 0, none⟩ = some (.string id)) (first | (go_keep; done) | (refine ⟨?_, ?_, ?_, ?_⟩ <;> (refine (World.cell?_setCell_far _ _ _ _ ?_).trans ((World.cell?_setCell_far _ _ _ _ ?_).trans ((World.cell?_setCell_far _ _ _ _ ?_).trans ?_)) <;> first | assumption | (show w.heap.size + 1 + 1 ≠ w.heap.size; omega) | (show w.heap.size + 1 + 1 ≠ w.heap.size + 1; omega)))) (first
                  | (go_at_call 58
                     refine (clone_J (w6 := w6) HM6.out (by first | exact ext_drew _ | exact (ext_drew _).trans (ext_alloc1 _ _)) (HV.out.mono M0.out.1) (by omega)).mono ?_
                     rintro e w7 ⟨val7, m7, ob, rfl, hx, hj⟩
                     have hB : Bx3 w w7 (.int .i64 ge) (.int .u8 ph) (.slice vp l.length vc) := HB6.out.step hx
                     obtain ⟨⟨a0', a1', a2'⟩, ⟨b0', b1', b2'⟩, f0', f1', f2'⟩ := hB.cells
                     have n0' : w7.cell? ⟨w.heap.size + 1, 0, none⟩ = some (.string id) := (hj.gr.ok _ _ _ (hj.gr.le _ _ _ M0.out.2.2.2)).1
                     have hs7 : w6.heap.size ≤ w7.heap.size := hx.size
                     have hr0 : ¬ (w.heap.size = w7.heap.size) := by omega
                     have hr1 : ¬ (w.heap.size + 1 = w7.heap.size) := by omega
                     have hr3 : w.heap.size < w7.heap.size := by omega
                     have hr4 : w.heap.size + 1 < w7.heap.size := by omega
                     have HB7 : Aside (Bx3 w w7 (.int .i64 ge) (.int .u8 ph) (.slice vp l.length vc)) := hB
                     have HJ : Aside _ := hj
                     clear hB hx hj)
                  | (go_at_call_of 57 (w7.heap.size)
                     refine (insert_B (m := ⟨id, now, false⟩) HJ.out _ hl HIQ.out).mono ?_
                     rintro e w8 ⟨p8, c8, m8, rfl, g1, g2, g3, g4, g5, hgr, hrep⟩
                     have hB : Bx3 w w8 (.int .i64 ge) (.int .u8 ph) (.slice vp l.length vc) := (HB7.out.step (ext_alloc1 _ _)).step2 (fun j hj => g1 j (by omega)) g2 g3 g4 g5
                     obtain ⟨⟨a0'', a1'', a2''⟩, ⟨b0'', b1'', b2''⟩, f0'', f1'', f2''⟩ := hB.cells
                     have HB8 : Aside (Bx3 w w8 (.int .i64 ge) (.int .u8 ph) (.slice vp l.length vc)) := hB
                     have HG8 : Aside (Gr w6.heap.size m0 m8 w8 ∧ Rep m8 (.sl 3 (ML (insM l q ⟨id, now, false⟩))) (.slice p8 (insM l q ⟨id, now, false⟩).length c8) ∧ w6.heap.size ≤ w8.heap.size) :=
                       ⟨⟨Mem.le_trans HJ.out.gr.le hgr.le, hgr.ok, fun b j hb => (hgr.low b j hb).trans (HJ.out.gr.low b j hb)⟩, hrep, by simp at g5; omega⟩
                     have n0'' : w8.cell? ⟨w.heap.size + 1, 0, none⟩ = some (.string id) := (HG8.out.1.ok _ _ _ (HG8.out.1.le _ _ _ M0.out.2.2.2)).1
                     clear hB g1 g2 g3 g4 g5 hgr hrep)
                  | (go_at_call_of 57 (w6.heap.size)
                     refine (insert_A (m := ⟨id, now, false⟩) HJ.out (alloc_self w6 (.cells (encM ⟨id, now, false⟩).toArray 61)) (Nat.le_refl _) hl HIQ.out).mono ?_
                     rintro e w8 ⟨p8, c8, m8, rfl, g1, g2, g3, g4, g5, hgr, hrep⟩
                     have hB : Bx3 w w8 (.int .i64 ge) (.int .u8 ph) (.slice vp l.length vc) := HB7.out.step2 (fun j hj => g1 j (by omega)) g2 g3 g4 g5
                     obtain ⟨⟨a0'', a1'', a2''⟩, ⟨b0'', b1'', b2''⟩, f0'', f1'', f2''⟩ := hB.cells
                     have HB8 : Aside (Bx3 w w8 (.int .i64 ge) (.int .u8 ph) (.slice vp l.length vc)) := hB
                     have HG8 : Aside (Gr w6.heap.size m0 m8 w8 ∧ Rep m8 (.sl 3 (ML (insM l q ⟨id, now, false⟩))) (.slice p8 (insM l q ⟨id, now, false⟩).length c8) ∧ w6.heap.size ≤ w8.heap.size) :=
                       ⟨⟨Mem.le_trans HJ.out.gr.le hgr.le, hgr.ok, fun b j hb => (hgr.low b j hb).trans (HJ.out.gr.low b j hb)⟩, hrep, by omega⟩
                     have n0'' : w8.cell? ⟨w.heap.size + 1, 0, none⟩ = some (.string id) := (HG8.out.1.ok _ _ _ (HG8.out.1.le _ _ _ M0.out.2.2.2)).1
                     clear hB g1 g2 g3 g4 g5 hgr hrep)
                  | (go_at_call 56
                     refine (turn_step (g := ⟨ge, ph, l⟩) (l := insM l q ⟨id, now, false⟩) (by rw [insM_length l _ _ HIQ.out]; omega) HG8.out.1.ok (HV.out.mono (Mem.le_trans M0.out.1 HG8.out.1.le)) HG8.out.2.1).mono ?_
                     rintro e w9 ⟨v9, m9, rfl, hx, hgr, hrep⟩
                     obtain ⟨ap, an, ac, rfl⟩ := rep_slice hrep
                     have hB : Bx3 w w9 (.int .i64 ge) (.int .u8 ph) (.slice vp l.length vc) := HB8.out.step hx
                     obtain ⟨⟨x0, x1, x2⟩, ⟨y0, y1, y2⟩, y3, y4, y5⟩ := hB.cells
                     have HB9 : Aside (Bx3 w w9 (.int .i64 ge) (.int .u8 ph) (.slice vp l.length vc)) := hB
                     have HG9 : Aside (Gr w6.heap.size m0 m9 w9 ∧ Rep m9 (.sl 3 (ML (offM (insM l q ⟨id, now, false⟩)))) (.slice ap an ac)) :=
                       ⟨⟨Mem.le_trans HG8.out.1.le hgr.le, hgr.ok, fun b j hb => (hgr.low b j (by have := HG8.out.2.2; omega)).trans (HG8.out.1.low b j hb)⟩, hrep⟩
                     have n9 : w9.cell? ⟨w.heap.size + 1, 0, none⟩ = some (.string id) := (HG9.out.1.ok _ _ _ (HG9.out.1.le _ _ _ M0.out.2.2.2)).1
                     clear hB hx hgr hrep))
                all_goals go_wp2
                all_goals (
                  have G1 := blk_same (j := 2) (blk_same (j := 1) (blk_same (j := 0) HB9.out.b2 (.int .i64 (IntKind.i64.wrap (ge + 1)))) (.int .u8 (phaseP (offM (insM l q ⟨id, now, false⟩))))) (.slice ap an ac)
                  refine bodyPost_ret (results_cell_tmp rfl _ _ (w.heap.size + 1 + 1) _ _ _ _ rfl G1 (show Try.prog.underlying 43 = some (Try.prog.underlying 43).get! by kernel_rfl) (by kernel_rfl) (by kernel_rfl)) rfl ?_
                  exact ret_J (g := ⟨IntKind.i64.wrap (ge + 1), phaseP (offM (insM l q ⟨id, now, false⟩)), offM (insM l q ⟨id, now, false⟩)⟩) 0 (Mem.le_trans M0.out.1 HG9.out.1.le) HG9.out.1.ok (fun b j hb => (HG9.out.1.low b j (by omega)).trans (M0.out.2.1 b j hb)) (fun j => (HG9.out.1.low _ j (by omega)).trans (ZM.out j)) HB9.out.ext (fun k hk => (blk_other hk _).trans ((blk_other hk _).trans (blk_other hk _))) rfl rfl rfl (by simp [World.setCell]) HG9.out.2)
  · rw [if_pos h1]
    have h1b : (z == 0) = false := by simpa using h1
    have h1c : (z != 0) = true := by simpa using h1
    go_enter Try.func29, Try.ntmps29
    go_wp2_with (first
      | (go_at_call 34
         refine (HCHK.out m0 _ M0.out.1 M1.out).mono ?_
         rintro e w2 ⟨rfl, hx, hm2⟩
         obtain ⟨k0, k1, k2, k3, k4⟩ := ext_box3 rfl hx
         have hB : Bx3 w w2 (.int .i64 ge) (.int .u8 ph) (.slice vp l.length vc) := ⟨k0, k1, k3, k4⟩
         obtain ⟨⟨a0, a1, a2⟩, ⟨b0, b1, b2⟩, f0, f1, f2⟩ := hB.cells
         have n0 : w2.cell? ⟨w.heap.size + 1, 0, none⟩ = some (.string id) := (hm2 _ _ _ M0.out.2.2.2).1
         have HB2 : Aside (Bx3 w w2 (.int .i64 ge) (.int .u8 ph) (.slice vp l.length vc)) := hB
         have HM2 : Aside (MemOK m0 w2) := hm2
         clear k0 k1 k2 k3 k4 hB hx hm2
         simp only [])
      | go_in)
    have G1 := blk_same (j := 2) (blk_same (j := 1) (blk_same (j := 0) HB2.out.b2 (.int .i64 0)) (.int .u8 0)) (.slice none 0 0)
    refine bodyPost_ret (results_cell_tmp rfl _ _ (w.heap.size + 1 + 1) _ _ _ _ rfl G1 (show Try.prog.underlying 43 = some (Try.prog.underlying 43).get! by kernel_rfl) (by kernel_rfl) (by kernel_rfl)) rfl ?_
    exact ret_J (g := grp0) z M0.out.1 HM2.out M0.out.2.1 ZM.out HB2.out.ext (fun k hk => (blk_other hk _).trans ((blk_other hk _).trans (blk_other hk _))) rfl rfl rfl (by simp [World.setCell]) (.slnil 3)
end Go.Proofs.Ytmfkliabjfngmaa
