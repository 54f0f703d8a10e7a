import Derived.Test.YtifemhfpcichfaaMZsB
import Derived.Test.YtifemhfpcichfaaAvAD

set_option linter.unusedVariables false
set_option linter.unusedSimpArgs false

/- Zone: a call on both (Do), and how both begin. -/

set_option linter.unusedSimpArgs false
set_option linter.unusedVariables false
set_option maxHeartbeats 4000000
set_option maxRecDepth 1000000
namespace Go.Proofs.Ytifemhfpcichfaa
open Go.RowKit
open Go.Av Go.Maps

def doD (d : Dv) (a : ActD) : Dv :=
  if a.k.toNat % 9 = 4 then (flushD d).1 else if a.k.toNat % 9 = 5 then (resetD d a.z).1 else if a.k.toNat % 9 = 6 then (finishD d a.z).1 else if a.k.toNat % 9 = 7 then (failD d a.n a.done).1
  else if a.k.toNat % 9 = 8 then crashD d a.fs else (appendD d a.z (cutA a) (u8s (blkA a))).1
theorem Both.mono {w : World} {q : Dp} {G : Nat → Prop} {L : Nat} {B : Int} {m m' : Nat} {d : Dv} {r : RDv} {x : Value} (h : Both w q G L B m d r x) (k : m ≤ m') : Both w q G L B m' d r x := ⟨h.at_, h.ok.mono k, h.ref, h.rn, h.lt⟩
theorem DoP.up {w : World} {q : Dp} {G : Nat → Prop} {L : Nat} {B : Int} {m m' : Nat} {d : Dv} {e : Ending} {w' : World} (k : m ≤ m') (h : DoP w q G L B m d e w') : DoP w q G L B m' d e w' := by
  obtain ⟨r', x', bb, h1, h2, h3⟩ := h
  exact ⟨r', x', bb, h1, h2.mono k, h3⟩
theorem do_raw {w : World} {q : Dp} {G : Nat → Prop} {L : Nat} {B : Int} {m : Nat} {d : Dv} {r : RDv} {x v : Value} (h : Both w q G L B m d r x) (a : ActD) (hf : FtV w (QG q G) v a.fs) (hm : m < 90000) :
    Calls Try.prog 11 #[.pointer (some ⟨q.p, 0, none⟩), x, actV a v] w (DoP w q G L B (m + 100) (doD d a)) := by
  have hL : L ≤ 64 := by have := h.ok.ok.len; have := h.ok.len; omega
  obtain ⟨pa, cap, rfl, _⟩ := hf.1
  unfold doD
  by_cases h4 : a.k.toNat % 9 = 4
  · rw [if_pos h4]; exact (do_flush h a pa _ cap h4).mono fun e w' => DoP.up (by omega)
  rw [if_neg h4]
  by_cases h5 : a.k.toNat % 9 = 5
  · rw [if_pos h5]; exact (do_reset h a pa _ cap h5).mono fun e w' => DoP.up (by omega)
  rw [if_neg h5]
  by_cases h6 : a.k.toNat % 9 = 6
  · rw [if_pos h6]; exact (do_finish h a pa _ cap h6).mono fun e w' => DoP.up (by omega)
  rw [if_neg h6]
  by_cases h7 : a.k.toNat % 9 = 7
  · rw [if_pos h7]; exact (do_fail h a pa _ cap h7).mono fun e w' => DoP.up (by omega)
  rw [if_neg h7]
  by_cases h8 : a.k.toNat % 9 = 8
  · rw [if_pos h8]; exact (do_crash h a pa _ cap hf hm h8).mono fun e w' => DoP.up (by omega)
  rw [if_neg h8]
  exact (do_append h a pa _ cap hm (by omega)).mono fun e w' => DoP.up (by omega)

theorem rnew_raw (w : World) (z b : Int) (h : newOk z b = true) (N : Nat → Prop) :
    Calls Try.prog 30 #[.int .i64 z, .int .i64 b] w fun e w' => ∃ x, e = .returned (.tuple #[x, .int .i64 0]) ∧ RefAt w' (fun k => k < w.heap.size) (rnewD z b) x ∧ Ext (fun _ => False) w w' := by
  refine (rnew_pure z b h (fun _ _ => none) w [.int .i64 z, .int .i64 b] (fun b j v hv => by cases hv) (RepArgs.cons (.int _ _) (RepArgs.cons (.int _ _) ⟨rfl, fun j hj => by simp at hj⟩))).mono ?_
  rintro e w' ⟨val, mu', rfl, hx, _, hm, hb, ⟨gx, hrep, _⟩⟩
  obtain ⟨us, rfl, hl, hu⟩ := hrep
  match us, hl with
  | [x, y], _ =>
    have h0 : Rep mu' (rnewD z b).sv x := hu 0 (by simp)
    have h1 : Rep mu' (.int .i64 0) y := hu 1 (by simp)
    rw [h1.inv_int]
    exact ⟨x, rfl, ⟨strip mu', strip_ok hm, fun b j e => strip_none (by rw [hb b j e]), fun b j n e => (strip_le e).2 n rfl, rep_strip h0⟩, hx⟩
theorem newOk_iff {z b : Int} (h : newOk z b = true) : 4 ≤ z ∧ z ≤ 64 ∧ 4 ≤ b ∧ b ≤ 256 := by
  simp only [newOk, Bool.and_eq_true, decide_eq_true_eq] at h; omega
theorem RN.new {z b : Int} (h : newOk z b = true) : RN z.toNat b (rnewD z b) := by
  have := newOk_iff h
  refine ⟨by simp [rnewD], rfl, by omega, fun r hr => ?_⟩
  have : r = rz0 := by simp [rnewD] at hr; exact hr.2
  rw [this]
  exact rz0_k (by omega)
theorem zAt_new (z b : Int) (i : Nat) : zAt (newD z b) i = z0 := by
  unfold zAt newD
  rw [List.getD_eq_getElem?_getD, List.getElem?_replicate]
  split <;> rfl
theorem OkN.new {z b : Int} (h : newOk z b = true) : OkN z.toNat b 0 (newD z b) := by
  have := newOk_iff h
  refine ⟨⟨?_, ⟨[], rfl⟩, ?_, fun i _ => ?_, fun i _ _ => ?_, fun i _ j hj => ?_⟩, by simp [newD], rfl, Nat.le_refl _⟩
  · simp [newD]; omega
  · show 0 ≤ b ∧ b ≤ 1000; omega
  · rw [zAt_new]; show 0 ≤ 0 ∧ 0 ≤ b; omega
  · rw [zAt_new]; exact ⟨Int.le_refl _, Int.le_refl _⟩
  · rw [zAt_new] at hj; simp [z0] at hj; omega
/-- Both, as they begin. -/
def BegP (w : World) (z b : Int) (e : Ending) (w' : World) : Prop := ∃ q p n c, e = .returned (.tuple #[.pointer (some ⟨q.p, 0, none⟩), rval (.slice p n c) (rnewD z b), .bool true]) ∧ Both w' q (fun k => k < w.heap.size) z.toNat b 0 (newD z b) (rnewD z b) (rval (.slice p n c) (rnewD z b)) ∧ (∀ k, EQ q k → w.heap.size ≤ k) ∧ Ext (fun _ => False) w w'
theorem results_tmp_cell_tmp {P : Program} {fn : Func} {s p t : Tmp} {ty : TypeId} (h : fn.results = #[.tmp s, .cell p ty, .tmp t]) (tmps : Array Value) (w : World) (g : Nat) (te : TypeId) (cs : Array Value) (fr : Nat × Nat) (d : TypeDesc)
    (hp : tmps.getD p Go.undef = .pointer (some ⟨g, 0, none⟩)) (hg : w.heap[g]? = some (.cells cs te fr))
    (hu : P.underlying ty = some d) (hd : (match d with | .struct _ | .array _ _ => true | _ => false) = true) (hi : (P.info? ty).map (·.size) = some cs.size) :
    (results fn tmps).run P w = .ok (.tuple #[tmps.getD s Go.undef, .agg cs, tmps.getD t Go.undef]) w := by
  have hp' : tmps[p]?.getD Go.undef = .pointer (some ⟨g, 0, none⟩) := by simpa using hp
  simp [results, h, hp', asAddr, run_loadVar_row w g te ty cs fr d hg hu hd hi]
theorem drew_get (w : World) (k : Nat) : w.drew.heap[k]? = w.heap[k]? := rfl
theorem extF {w Z Y : World} {T : Nat → Prop} (h : Ext (fun _ => False) w Z) (k : Ext T Z Y) (hT : ∀ b, T b → w.heap.size ≤ b) : Ext (fun _ => False) w Y :=
  ⟨k.os.trans h.os, k.tape.trans h.tape, k.output.trans h.output, Nat.le_trans h.size k.size, fun b hb _ => (k.block b (Nat.lt_of_lt_of_le hb h.size) (fun e => by have := hT b e; omega)).trans (h.block b hb id)⟩
theorem begun_raw (w : World) (z b : Int) (h : newOk z b = true) : Calls Try.prog 10 #[.int .i64 z, .int .i64 b] w (BegP w z b) := by
  obtain ⟨W, hW⟩ : ∃ W, W = w.alloc (.cells #[.slice none 0 0, .int .i64 0, .bool false, .int .i64 0, .int .i64 0, .bool false] 29) := ⟨_, rfl⟩
  have HW := asideI hW
  have k0 : W.heap[w.heap.size]? = some (.cells #[.slice none 0 0, .int .i64 0, .bool false, .int .i64 0, .int .i64 0, .bool false] 29) := by rw [hW, alloc_get, if_pos rfl]
  have ks : W.heap.size = w.heap.size + 1 := by rw [hW]; simp
  have K0 := asideI k0
  have KX : Aside (Ext (fun _ => False) w W) := by rw [hW]; exact ext_alloc1 _ _
  clear hW k0
  go_enter Try.func10, Try.ntmps10
  go_wp2_with (first
    | (go_at_call 23; rw [← HW.out]; refine (new_raw W z b).mono ?_
       rintro e w1 ⟨hx1, h1⟩
       rcases h1 with ⟨h1, _⟩ | ⟨_, q, rfl, hq1, hd1⟩
       · exact absurd h (by rw [h1]; simp)
       have HX1 := asideI hx1
       have HD1 := asideI hd1
       have HQ1 : Aside (∀ k, EQ q k → w.heap.size + 1 ≤ k) := fun k e => by rw [← ks]; exact hq1 k e
       clear hx1 hd1 hq1
       simp only [])
    | (go_at_call 30; refine (rnew_raw w1 z b h (fun _ => False)).mono ?_
       rintro e w2 ⟨x, rfl, hr2, hx2⟩
       obtain ⟨px, nx, cx, rfl⟩ := hr2.val
       have HR2 := asideI hr2
       have HX2 := asideI hx2
       have S2 := asideI (show w.heap.size + 1 ≤ w2.heap.size by have := HX1.out.size; have := hx2.size; omega)
       have K2 := asideI ((hx2.block w.heap.size (by have := HX1.out.size; omega) id).trans ((HX1.out.block w.heap.size (by omega) id).trans K0.out))
       clear hr2 hx2
       simp only [rval])
    | go_in)
  have s2 := S2.out
  obtain ⟨Z, hZ⟩ : ∃ Z, Z = w2.alloc (.cells #[.slice px nx cx, .int .i64 (rnewD z b).n, .bool (rnewD z b).down, .int .i64 (rnewD z b).ops, .int .i64 (rnewD z b).fails, .bool (rnewD z b).done] 29) := ⟨_, rfl⟩
  have hne : ¬ w.heap.size = w2.heap.size := by omega
  have hne' : ¬ w2.heap.size = w.heap.size := by omega
  have z1 : Z.heap[w2.heap.size]? = some (.cells #[.slice px nx cx, .int .i64 (rnewD z b).n, .bool (rnewD z b).down, .int .i64 (rnewD z b).ops, .int .i64 (rnewD z b).fails, .bool (rnewD z b).done] 29) := by rw [hZ, alloc_get, if_pos rfl]
  have z0 := (show Z.heap[w.heap.size]? = w2.heap[w.heap.size]? by rw [hZ, alloc_get, if_neg hne]).trans K2.out
  have Z0 := asideI z0
  have Z2 : Aside (Ext (fun _ => False) w2 Z) := by rw [hZ]; exact ext_alloc1 _ _
  rw [← hZ]
  clear hZ
  obtain ⟨⟨c0, c1, c2, c3, c4, c5⟩, _⟩ := box6 z1
  obtain ⟨_, f0, f1, f2, f3, f4, f5⟩ := box6 z0
  clear z0 z1 s2
  go_region_held (fun W2 => (W2.cell? ⟨w2.heap.size, 0, none⟩ = some (.slice px nx cx) ∧ W2.cell? ⟨w2.heap.size, 1, none⟩ = some (.int .i64 (rnewD z b).n) ∧ W2.cell? ⟨w2.heap.size, 2, none⟩ = some (.bool (rnewD z b).down) ∧ W2.cell? ⟨w2.heap.size, 3, none⟩ = some (.int .i64 (rnewD z b).ops) ∧ W2.cell? ⟨w2.heap.size, 4, none⟩ = some (.int .i64 (rnewD z b).fails) ∧ W2.cell? ⟨w2.heap.size, 5, none⟩ = some (.bool (rnewD z b).done)) ∧
    (W2.frozen? ⟨w.heap.size, 0, none⟩ = false ∧ W2.frozen? ⟨w.heap.size, 1, none⟩ = false ∧ W2.frozen? ⟨w.heap.size, 2, none⟩ = false ∧ W2.frozen? ⟨w.heap.size, 3, none⟩ = false ∧ W2.frozen? ⟨w.heap.size, 4, none⟩ = false ∧ W2.frozen? ⟨w.heap.size, 5, none⟩ = false)) (simp [*, World.cell?_setCell_far]) (fail)
  go_wp2
  obtain ⟨Y, hY⟩ : ∃ Y, Y = (set6 Z w.heap.size (.slice px nx cx) (rnewD z b).n (rnewD z b).down (rnewD z b).ops (rnewD z b).fails (rnewD z b).done).drew := ⟨_, rfl⟩
  have y0 : Y.heap[w.heap.size]? = some (.cells #[.slice px nx cx, .int .i64 (rnewD z b).n, .bool (rnewD z b).down, .int .i64 (rnewD z b).ops, .int .i64 (rnewD z b).fails, .bool (rnewD z b).done] 29) := by rw [hY, drew_get]; exact set6_same Z Z0.out _ _ _ _ _ _
  have e1 : Ext (fun k => k = w.heap.size) Z Y := by rw [hY]; exact (set6_ext _ _ _ _ _ _ _ _).trans ((ext_drew _).mono fun _ e => e.elim)
  unfold set6 at hY
  rw [← hY]
  clear hY
  have e2 : Ext (fun _ => False) w Z := ((KX.out.trans HX1.out).trans HX2.out).trans Z2.out
  obtain ⟨l0, l1, l2⟩ := HD1.out.lt
  have lw := (KX.out.trans HX1.out).size
  have lw1 := HX1.out.size
  refine bodyPost_ret (results_tmp_cell_tmp rfl _ _ w.heap.size _ _ _ _ rfl y0 (show Try.prog.underlying 29 = some (Try.prog.underlying 29).get! by kernel_rfl) (by kernel_rfl) (by kernel_rfl)) rfl ?_
  refine ⟨q, px, nx, cx, rfl, ⟨((HD1.out.ext HX2.out).ext Z2.out).keep e1 ?_, OkN.new h, ((HR2.out.ext Z2.out).keepT e1 ?_).sub ?_, RN.new h, ?_⟩, ?_, extF e2 e1 ?_⟩
  · rintro k e rfl
    have := HQ1.out _ e; omega
  · rintro k _ rfl
    left; show w.heap.size < w1.heap.size; omega
  · intro k e
    show k < w1.heap.size
    rcases e with (e | e | e) | e
    · omega
    · omega
    · omega
    · have e2 : k < w.heap.size := e
      omega
  · intro k e
    have e3 : k < w.heap.size := e
    have := e1.size; have := e2.size; omega
  · intro k e
    have := HQ1.out _ e; omega
  · rintro k rfl
    omega
end Go.Proofs.Ytifemhfpcichfaa

/- Zone: the law's own run on a fixed device (awake). -/

set_option linter.unusedSimpArgs false
set_option linter.unusedVariables false
set_option maxHeartbeats 4000000
set_option maxRecDepth 1000000
namespace Go.Proofs.Ytifemhfpcichfaa
open Go.RowKit
open Go.Av Go.Maps

def k7 : List UInt8 := List.replicate 64 7
def k9 : List UInt8 := List.replicate 64 9
def wA : Dv := (appendD (newD 4 4) 2 64 (u8s k7)).1
def wB : Dv := (flushD wA).1
def wC : Dv := (appendD wB 2 64 (u8s k9)).1
def wD : Dv := crashD wC [0, 5]
theorem wA_2 : (appendD (newD 4 4) 2 64 (u8s k7)).2 = (0, 0) := by decide +kernel
theorem wB_2 : (flushD wA).2 = 0 := by decide +kernel
theorem wC_2 : (appendD wB 2 64 (u8s k9)).2 = (1, 0) := by decide +kernel
theorem wD_r : readE wD 2 1 = 0 := by decide +kernel
theorem wD_w : wrD wD 2 = 2 := by decide +kernel
theorem wD_s : stD wD 2 = 1 := by decide +kernel
theorem wD_o : wD.ops = 3 := by decide +kernel
theorem wD_4 : (blkB wD 2 1).getD 4 0 = 9 := by decide +kernel
theorem wD_5 : (blkB wD 2 1).getD 5 0 = 0 := by decide +kernel
theorem O0 : OkN 4 4 0 (newD 4 4) := OkN.new (z := 4) (b := 4) (by decide)
theorem OA : OkN 4 4 1 wA := O0.append 2 64 (bs := k7) (fun _ => rfl)
theorem OB : OkN 4 4 1 wB := OA.flush
theorem OC : OkN 4 4 2 wC := OB.append 2 64 (bs := k9) (fun _ => rfl)
theorem OD : OkN 4 4 6 wD := OC.crash [0, 5]
theorem okw {L : Nat} {B : Int} {m : Nat} {d : Dv} (h : OkN L B m d) : ∀ i, i < d.zs.length → 0 ≤ (d.zs.getD i z0).wr ∧ (d.zs.getD i z0).wr ≤ 100000 ∧ 0 ≤ (d.zs.getD i z0).lo ∧ (d.zs.getD i z0).lo ≤ 100000 := fun i hi => by
  have := h.ok.wr i hi; have := h.ok.lo i (Nat.zero_le _) hi; have := h.ok.nb; unfold zAt at *; omega
theorem full7 (w : World) : Calls Try.prog 16 #[.int .u8 7] w fun e w' => e = .returned (.slice (some ⟨w.heap.size, 0, none⟩) 64 64) ∧ BB w' w.heap.size k7 ∧ Ext (fun _ => False) w w' := full_raw w 7
theorem full9 (w : World) : Calls Try.prog 16 #[.int .u8 9] w fun e w' => e = .returned (.slice (some ⟨w.heap.size, 0, none⟩) 64 64) ∧ BB w' w.heap.size k9 ∧ Ext (fun _ => False) w w' := full_raw w 9
theorem bb_bytes {w : World} {q : Dp} {b : Nat} {bs : List UInt8} (h : BB w b bs) (hn : ¬ EQ q b) (hl : bs.length = 64) : BytesV w q (some ⟨b, 0, none⟩) 64 (u8s bs) := fun _ => ⟨b, 0, rfl, hn, bb_range h, by simp [u8s, hl]⟩
/-- Append of a block that Full has made. -/
theorem app_full {w : World} {q : Dp} {L : Nat} {B : Int} {m : Nat} {d : Dv} (h : DevAt w q d) (ho : OkN L B m d) (hm : m < 90000) (z : Int) {b : Nat} {bs : List UInt8} (hb : BB w b bs) (hn : ¬ EQ q b) (hl : bs.length = 64) {i e : Int} (hr : (appendD d z 64 (u8s bs)).2 = (i, e)) :
    Calls Try.prog 15 #[.pointer (some ⟨q.p, 0, none⟩), .int .i64 z, .slice (some ⟨b, 0, none⟩) 64 64] w fun en w' => en = .returned (.tuple #[.int .i64 i, .int .i64 e]) ∧ DevAt w' q (appendD d z 64 (u8s bs)).1 ∧ Ext (EQ q) w w' := by
  refine (append_raw h z (bb_bytes hb hn hl) (by have := ho.n; omega) (okw ho)).mono ?_
  rintro en w' ⟨rfl, h1, h2⟩
  rw [hr]
  exact ⟨rfl, h1, h2⟩
theorem fate05 {w : World} {N : Nat → Prop} (hN : ¬ N w.heap.size) (t : TypeId) : FateV (w.alloc (.cells #[.int .u8 0, .int .u8 5] t)) N (.slice (some ⟨w.heap.size, 0, none⟩) 2 2) [0, 5] := by
  refine ⟨_, 2, rfl, by decide, fun _ => ⟨_, 0, rfl, hN, fun j v hv => ?_⟩⟩
  rw [Nat.zero_add]
  have : (w.alloc (.cells #[.int .u8 0, .int .u8 5] t)).heap[w.heap.size]? = some (.cells #[.int .u8 0, .int .u8 5] t) := by rw [alloc_get, if_pos rfl]
  rw [cell_of_block this]
  simpa [u8s] using hv
theorem app7 {w : World} {q : Dp} (h : DevAt w q (newD 4 4)) {b : Nat} (hb : BB w b k7) (hn : ¬ EQ q b) :
    Calls Try.prog 15 #[.pointer (some ⟨q.p, 0, none⟩), .int .i64 2, .slice (some ⟨b, 0, none⟩) 64 64] w fun en w' => en = .returned (.tuple #[.int .i64 0, .int .i64 0]) ∧ DevAt w' q wA ∧ Ext (EQ q) w w' := by
  unfold wA
  exact app_full h O0 (by omega) 2 hb hn (by simp [k7]) wA_2
theorem app9 {w : World} {q : Dp} (h : DevAt w q wB) {b : Nat} (hb : BB w b k9) (hn : ¬ EQ q b) :
    Calls Try.prog 15 #[.pointer (some ⟨q.p, 0, none⟩), .int .i64 2, .slice (some ⟨b, 0, none⟩) 64 64] w fun en w' => en = .returned (.tuple #[.int .i64 1, .int .i64 0]) ∧ DevAt w' q wC ∧ Ext (EQ q) w w' := by
  unfold wC
  exact app_full h OB (by omega) 2 hb hn (by simp [k9]) wC_2
theorem flushW {w : World} {q : Dp} (h : DevAt w q wA) : Calls Try.prog 14 #[.pointer (some ⟨q.p, 0, none⟩)] w fun e w' => e = .returned (.int .i64 0) ∧ DevAt w' q wB ∧ Ext (EQ q) w w' := by
  refine (flush_raw h).mono ?_
  rintro e w' ⟨rfl, h1, h2⟩
  rw [wB_2]
  exact ⟨rfl, h1, h2⟩
theorem crashW {w : World} {q : Dp} (h : DevAt w q wC) {v : Value} (hf : FateV w (EQ q) v [0, 5]) : Calls Try.prog 12 #[.pointer (some ⟨q.p, 0, none⟩), v] w fun e w' => e = .returned (.tuple #[]) ∧ DevAt w' q wD ∧ Ext (EQ q) w w' := by
  unfold wD
  exact crash_raw h OC.ok (by have := OC.n; omega) hf
theorem readW {w : World} {q : Dp} (h : DevAt w q wD) : Calls Try.prog 19 #[.pointer (some ⟨q.p, 0, none⟩), .int .i64 2, .int .i64 1] w fun e w' => ∃ b, e = .returned (.tuple #[.slice (some ⟨b, 0, none⟩) 64 64, .int .i64 0]) ∧ w'.cell? ⟨b, 4, none⟩ = some (.int .u8 9) ∧ w'.cell? ⟨b, 5, none⟩ = some (.int .u8 0) ∧ Ext (fun _ => False) w w' := by
  obtain ⟨bs, hbs⟩ := OD.ok.b 2 (by have := OD.len; omega) 1 (by decide +kernel)
  have hbs' : BlkIs wD 2 1 bs := hbs
  have hw4 := wD_4
  have hw5 := wD_5
  rw [blkB_of hbs'] at hw4 hw5
  have hbl := hbs'.2
  refine (read_raw h 2 1 bs (fun _ => hbs') ⟨by omega, by omega⟩).mono ?_
  rintro e w' ⟨hx, h1⟩
  rcases h1 with ⟨h1, _⟩ | ⟨_, b, te, rfl, _, hb⟩
  · exact absurd wD_r h1
  · refine ⟨b, rfl, ?_, ?_, hx⟩
    · rw [cell_of_block hb]
      have : bs[4]? = some 9 := by rw [← hw4, List.getD_eq_getElem?_getD, List.getElem?_eq_getElem (by omega)]; rfl
      simp [u8s, this]
    · rw [cell_of_block hb]
      have : bs[5]? = some 0 := by rw [← hw5, List.getD_eq_getElem?_getD, List.getElem?_eq_getElem (by omega)]; rfl
      simp [u8s, this]
theorem writW {w : World} {q : Dp} (h : DevAt w q wD) : Calls Try.prog 17 #[.pointer (some ⟨q.p, 0, none⟩), .int .i64 2] w fun e w' => e = .returned (.int .i64 2) ∧ w' = w := by
  have := written_raw h 2
  rw [wD_w] at this
  exact this
theorem statW {w : World} {q : Dp} (h : DevAt w q wD) : Calls Try.prog 21 #[.pointer (some ⟨q.p, 0, none⟩), .int .i64 2] w fun e w' => e = .returned (.int .u8 1) ∧ Ext (fun _ => False) w w' := by
  have := state_raw h 2
  rw [wD_s] at this
  exact this
theorem opsW {w : World} {q : Dp} (h : DevAt w q wD) : Calls Try.prog 35 #[.pointer (some ⟨q.p, 0, none⟩)] w fun e w' => e = .returned (.int .i64 3) ∧ w' = w := by
  have := ops_raw h
  rw [wD_o] at this
  exact this
end Go.Proofs.Ytifemhfpcichfaa

/- Zone: the law's own run on a fixed device: the walk. -/

set_option linter.unusedSimpArgs false
set_option linter.unusedVariables false
set_option maxHeartbeats 4000000
set_option maxRecDepth 1000000
namespace Go.Proofs.Ytifemhfpcichfaa
open Go.RowKit
open Go.Av Go.Maps

theorem awake_raw (w : World) : Calls Try.prog 9 #[] w fun e w' => e = .returned (.bool true) ∧ Ext (fun _ => False) w w' := by
  go_enter Try.func9, Try.ntmps9
  go_wp2_with (first
    | (go_at_call 35; refine (opsW HD10.out).mono ?_; rintro e w11 ⟨rfl, h11⟩; obtain rfl := h11; simp only [])
    | (go_at_call 21; refine (statW HD8.out).mono ?_; rintro e w10 ⟨rfl, hx10⟩; have HD10 := asideI (HD8.out.ext hx10); have HX10 := asideI (HX8.out.trans (extQ hx10)); clear hx10; simp only [])
    | (go_at_call 17; refine (writW HD8.out).mono ?_; rintro e w9 ⟨rfl, h9⟩; obtain rfl := h9; simp only [])
    | (go_at_call 19; refine (readW HD7.out).mono ?_; rintro e w8 ⟨b, rfl, c4, c5, hx8⟩; have HD8 := asideI (HD7.out.ext hx8); have HX8 := asideI (HX7.out.trans (extQ hx8)); clear hx8; simp only [])
    | (go_at_call 12; refine (crashW (HD6.out.ext (ext_alloc1 _ _)) (fate05 (HL1.out _ HX6.out.size) _)).mono ?_; rintro e w7 ⟨rfl, hd7, hx7⟩; have HD7 := asideI hd7; have HX7 := asideI ((HX6.out.trans (extQ (ext_alloc1 _ _))).trans hx7); clear hd7 hx7; simp only [])
    | (go_at_call 15; refine (app9 (HD4.out.ext HX5.out) HB5.out (HL1.out _ HX4.out.size)).mono ?_; rintro e w6 ⟨rfl, hd6, hx6⟩; have HD6 := asideI hd6; have HX6 := asideI ((HX4.out.trans (extQ HX5.out)).trans hx6); clear hd6 hx6; simp only [])
    | (go_at_call 16; refine (full9 w4).mono ?_; rintro e w5 ⟨rfl, hb5, hx5⟩; have HB5 := asideI hb5; have HX5 := asideI hx5; clear hb5 hx5; simp only [])
    | (go_at_call 14; refine (flushW HD3.out).mono ?_; rintro e w4 ⟨rfl, hd4, hx4⟩; have HD4 := asideI hd4; have HX4 := asideI (HX3.out.trans hx4); clear hd4 hx4; simp only [])
    | (go_at_call 15; refine (app7 (HD1.out.ext HX2.out) HB2.out (HL1.out _ (Nat.le_refl _))).mono ?_; rintro e w3 ⟨rfl, hd3, hx3⟩; have HD3 := asideI hd3; have HX3 := asideI ((extQ HX2.out).trans hx3); clear hd3 hx3; simp only [])
    | (go_at_call 16; refine (full7 w1).mono ?_; rintro e w2 ⟨rfl, hb2, hx2⟩; have HB2 := asideI hb2; have HX2 := asideI hx2; clear hb2 hx2; simp only [])
    | (go_at_call 23; refine (new_raw w 4 4).mono ?_
       rintro e w1 ⟨hx1, h1⟩
       rcases h1 with ⟨h1, _⟩ | ⟨_, q, rfl, hq1, hd1⟩
       · exact absurd h1 (by decide)
       have HX1 := asideI hx1
       have HD1 := asideI hd1
       have HQ1 : Aside (∀ k, EQ q k → w.heap.size ≤ k) := hq1
       have HL1 : Aside (∀ W, w1.heap.size ≤ W → ¬ EQ q W) := fun W hW e => by obtain ⟨l0, l1, l2⟩ := hd1.lt; rcases e with e | e | e <;> omega
       clear hx1 hd1 hq1
       simp only [])
    | go_in)
  go_ret
  exact ⟨rfl, extF HX1.out HX10.out HQ1.out⟩
end Go.Proofs.Ytifemhfpcichfaa

/- Zone: a law's calls, as they stand in memory; the devices beside what a law holds. -/

set_option linter.unusedSimpArgs false
set_option linter.unusedVariables false
set_option maxHeartbeats 4000000
set_option maxRecDepth 1000000
namespace Go.Proofs.Ytifemhfpcichfaa
open Go.RowKit
open Go.Av Go.Maps

def acC (a : ActD) : List SV := [.int .u8 a.k.toNat, .int .i64 a.z, .int .i64 a.n, .int .u8 a.c.toNat, .int .u8 a.cut.toNat, .bool a.done, .sl 1 (FL a.fs)]
def acS (a : ActD) : SV := .agg (acC a)
def AcL (l : List ActD) : List SV := l.map acS
@[simp] theorem AcL_length (l : List ActD) : (AcL l).length = l.length := by simp [AcL]
/-- Bytes in memory, as a fate. -/
theorem fate_of {mu : Mem} {w : World} (hm : MemOK mu w) {fs : List UInt8} {v : Value} (h : Rep mu (.sl 1 (FL fs)) v) : ∃ p c, v = .slice p fs.length c ∧ FtV w (fun k => w.heap.size ≤ k) v fs := by
  rcases h.inv_sl with ⟨⟨p, cap, rfl, hp⟩, hx⟩ | ⟨b, off, cap, vals, rfl, h1, h2, h3, h4⟩
  · have e : fs = [] := by cases fs with | nil => rfl | cons a r => simp [FL] at hx
    subst e
    exact ⟨p, cap, rfl, ⟨p, cap, rfl, Nat.zero_le _, fun hn => absurd rfl hn⟩, fun c hc => by cases hc; exact hp rfl⟩
  · rw [FL_length] at h1 h3 h4 ⊢
    refine ⟨_, cap, rfl, ⟨_, cap, rfl, h1, fun hn => ⟨b, off, rfl, ?_, ?_⟩⟩, fun c hc => by cases hc⟩
    · intro hb
      cases fs with
      | nil => exact hn rfl
      | cons a r =>
        have := hm.lt (h3 0 0 (by simp) (by omega))
        omega
    · intro j u hu
      have hj : j < fs.length := by
        have := (List.getElem?_eq_some_iff.1 hu).1
        simpa [u8s] using this
      have q := h4 j 0 hj (by omega)
      have q2 := h3 j 0 hj (by omega)
      rw [show ((FL fs).getD j .undef).cell 0 = .int .u8 (fs[j]).toNat by simp [FL, List.getD_eq_getElem?_getD, hj, SV.cell, SV.cells]] at q
      rw [q.inv_int] at q2
      rw [show off + j * 1 + 0 = off + j by omega] at q2
      rw [(hm _ _ _ q2).1]
      rw [← hu]
      simp [u8s, hj]
/-- The seven cells of a call. -/
def C7 (w : World) (b o : Nat) (a : ActD) (p : Option Addr) (n c : Nat) : Prop :=
  w.cell? ⟨b, o, none⟩ = some (.int .u8 a.k.toNat) ∧ w.cell? ⟨b, o + 1, none⟩ = some (.int .i64 a.z) ∧ w.cell? ⟨b, o + 2, none⟩ = some (.int .i64 a.n) ∧ w.cell? ⟨b, o + 3, none⟩ = some (.int .u8 a.c.toNat) ∧ w.cell? ⟨b, o + 4, none⟩ = some (.int .u8 a.cut.toNat) ∧ w.cell? ⟨b, o + 5, none⟩ = some (.bool a.done) ∧ w.cell? ⟨b, o + 6, none⟩ = some (.slice p n c)
theorem C7.ext {w w' : World} {b o : Nat} {a : ActD} {p : Option Addr} {n c : Nat} (h : C7 w b o a p n c) (k : Ext (fun _ => False) w w') : C7 w' b o a p n c := by
  obtain ⟨h0, h1, h2, h3, h4, h5, h6⟩ := h
  have hb := World.block_lt_of_cell? w _ h0
  have e : w'.heap[b]? = w.heap[b]? := k.block b hb id
  exact ⟨(World.cell?_of_block e).trans h0, (World.cell?_of_block e).trans h1, (World.cell?_of_block e).trans h2, (World.cell?_of_block e).trans h3, (World.cell?_of_block e).trans h4, (World.cell?_of_block e).trans h5, (World.cell?_of_block e).trans h6⟩
def ac0 : ActD := ⟨0, 0, 0, 0, 0, false, []⟩
theorem acts_at {mu : Mem} {w : World} (hm : MemOK mu w) {l : List ActD} {v : Value} (h : Rep mu (.sl 7 (AcL l)) v) :
    ∃ p cap, v = .slice p l.length cap ∧ ∀ i, i < l.length → ∃ b off fp fc, p = some ⟨b, off, none⟩ ∧ b < w.heap.size ∧ C7 w b (off + i * 7) (l.getD i ac0) fp (l.getD i ac0).fs.length fc ∧ FtV w (fun k => w.heap.size ≤ k) (.slice fp (l.getD i ac0).fs.length fc) (l.getD i ac0).fs := by
  rcases h.inv_sl with ⟨⟨p, cap, rfl, hp⟩, hx⟩ | ⟨b, off, cap, vals, rfl, h1, h2, h3, h4⟩
  · have e : l = [] := by cases l with | nil => rfl | cons a r => simp [AcL] at hx
    subst e
    exact ⟨p, cap, rfl, fun i hi => by simp at hi⟩
  · rw [AcL_length] at h1 h3 h4 ⊢
    refine ⟨_, cap, rfl, fun i hi => ?_⟩
    have hg : (AcL l).getD i .undef = acS (l.getD i ac0) := by simp [AcL, List.getD_eq_getElem?_getD, hi]
    generalize l.getD i ac0 = a at hg ⊢
    have hc : ∀ j, j < 7 → mu b (off + i * 7 + j) = some (vals i j) ∧ Rep mu ((acC a).getD j .undef) (vals i j) := fun j hj => by
      have := h4 i j hi hj
      rw [hg] at this
      exact ⟨h3 i j hi hj, this⟩
    have r6 : Rep mu (.sl 1 (FL a.fs)) (vals i 6) := (hc 6 (by omega)).2
    obtain ⟨fp, fc, e6, hf⟩ := fate_of hm r6
    have hcell : ∀ j, j < 7 → w.cell? ⟨b, off + i * 7 + j, none⟩ = some (vals i j) := fun j hj => (hm _ _ _ (hc j hj).1).1
    have e0 : vals i 0 = .int .u8 a.k.toNat := Rep.inv_int (hc 0 (by omega)).2
    have e1 : vals i 1 = .int .i64 a.z := Rep.inv_int (hc 1 (by omega)).2
    have e2 : vals i 2 = .int .i64 a.n := Rep.inv_int (hc 2 (by omega)).2
    have e3 : vals i 3 = .int .u8 a.c.toNat := Rep.inv_int (hc 3 (by omega)).2
    have e4 : vals i 4 = .int .u8 a.cut.toNat := Rep.inv_int (hc 4 (by omega)).2
    have e5 : vals i 5 = .bool a.done := Rep.inv_bool (hc 5 (by omega)).2
    refine ⟨b, off, fp, fc, rfl, hm.lt (hc 0 (by omega)).1, ⟨?_, ?_, ?_, ?_, ?_, ?_, ?_⟩, by rw [← e6]; exact hf⟩
    · rw [← e0]; exact hcell 0 (by omega)
    · rw [← e1]; exact hcell 1 (by omega)
    · rw [← e2]; exact hcell 2 (by omega)
    · rw [← e3]; exact hcell 3 (by omega)
    · rw [← e4]; exact hcell 4 (by omega)
    · rw [← e5]; exact hcell 5 (by omega)
    · rw [← e6]; exact hcell 6 (by omega)
theorem FtV.sub {w : World} {N M : Nat → Prop} {v : Value} {fs : List UInt8} (h : FtV w N v fs) (k : ∀ b, M b → N b) : FtV w M v fs := ⟨h.1.sub k, h.2⟩
/-- Other blocks are held apart. -/
theorem Both.reG {w w' : World} {q : Dp} {G M : Nat → Prop} {L : Nat} {B : Int} {m : Nat} {d : Dv} {r : RDv} {x : Value} (h : Both w q G L B m d r x) (k : Ext (fun _ => False) w w') (hM : ∀ b, M b → b < w'.heap.size ∧ (G b ∨ w.heap.size ≤ b)) : Both w' q M L B m d r x :=
  ⟨h.at_.ext k, h.ok, ((h.ref.fresh w'.heap.size).ext k).sub (fun b e => by
    rcases e with e | e
    · exact .inl (.inl e)
    · obtain ⟨h1, h2⟩ := hM b e
      rcases h2 with h2 | h2
      · exact .inl (.inr h2)
      · exact .inr ⟨h2, h1⟩), h.rn, fun b e => (hM b e).1⟩
/-- What is held apart may be written to. -/
theorem Both.keepT {w w' : World} {q : Dp} {G T : Nat → Prop} {L : Nat} {B : Int} {m : Nat} {d : Dv} {r : RDv} {x : Value} (h : Both w q G L B m d r x) (k : Ext T w w') (hT : ∀ b, T b → G b ∧ ¬ EQ q b) : Both w' q G L B m d r x :=
  ⟨h.at_.keep k fun b e t => (hT b t).2 e, h.ok, h.ref.keepT k fun b _ t => .inl (.inr (hT b t).1), h.rn, fun b e => Nat.lt_of_lt_of_le (h.lt b e) k.size⟩
end Go.Proofs.Ytifemhfpcichfaa

/- Zone: what the three laws share. -/

set_option linter.unusedSimpArgs false
set_option linter.unusedVariables false
set_option maxHeartbeats 4000000
set_option maxRecDepth 1000000
namespace Go.Proofs.Ytifemhfpcichfaa
open Go.RowKit
open Go.Av Go.Maps

/-- A law returns true, and changes nothing. -/
def LawP (w : World) (e : Ending) (w' : World) : Prop := e = .returned (.bool true) ∧ Ext (fun _ => False) w w'
theorem pure_true {f : FuncId} {args : List SV} (h : ∀ (mu : Mem) (w : World) (vs : List Value), MemOK mu w → RepArgs mu args vs → Calls Try.prog f vs.toArray w (LawP w)) : Pure Try.prog f args (.sv (.bool true)) := by
  intro mu w vs hm hr
  refine (h mu w vs hm hr).mono ?_
  rintro e w' ⟨rfl, hx⟩
  refine ⟨_, mu, rfl, hx, Mem.le_refl _, fun b j v hv => ?_, fun _ _ _ => rfl, fun _ => none, .bool true, fun b p h => by cases h⟩
  obtain ⟨h1, h2⟩ := hm b j v hv
  exact ⟨(World.cell?_of_block (hx.block b (hm.lt hv) id)).trans h1, h2⟩
def rcells (p : Option Addr) (n c : Nat) (r : RDv) : Array Value := #[.slice p n c, .int .i64 r.n, .bool r.down, .int .i64 r.ops, .int .i64 r.fails, .bool r.done]
/-- What holds ahead of each call of a law's list. -/
structure LInv (wl : World) (q : Dp) (g : Nat) (L : Nat) (B : Int) (k : Nat) (wr : World) : Prop where
  both : ∃ d r p n c, Both wr q (fun b => b = g) L B (100 * k) d r (rval (.slice p n c) r) ∧ wr.heap[g]? = some (.cells (rcells p n c r) 29)
  ext : Ext (fun b => EQ q b ∨ b = g) wl wr
/-- The laws' worlds behind the beginning: the device is new, so is the document's box. -/
structure Beg (w0 wl : World) (q : Dp) (g : Nat) : Prop where
  ext : Ext (fun _ => False) w0 wl
  hq : ∀ b, EQ q b → w0.heap.size ≤ b
  hg : w0.heap.size ≤ g
  gq : ¬ EQ q g
theorem beg_start {w0 w1 : World} {q : Dp} {p : Option Addr} {n c : Nat} {z b : Int} {L : Nat} (hL : L = z.toNat) (h : Both w1 q (fun k => k < w0.heap.size) z.toNat b 0 (newD z b) (rnewD z b) (rval (.slice p n c) (rnewD z b))) (hq : ∀ k, EQ q k → w0.heap.size ≤ k) (hx : Ext (fun _ => False) w0 w1) :
    Beg w0 (w1.alloc (.cells (rcells p n c (rnewD z b)) 29)) q w1.heap.size ∧ LInv (w1.alloc (.cells (rcells p n c (rnewD z b)) 29)) q w1.heap.size L b 0 (w1.alloc (.cells (rcells p n c (rnewD z b)) 29)) := by
  subst hL
  have hlt := h.at_.lt
  have n0 : ¬ EQ q w1.heap.size := fun e => by rcases e with e | e | e <;> omega
  refine ⟨⟨hx.trans (ext_alloc1 _ _), hq, hx.size, n0⟩, ⟨⟨_, _, p, n, c, h.reG (ext_alloc1 _ _) ?_, ?_⟩, Ext.refl _ _⟩⟩
  · rintro b rfl
    exact ⟨by simp, .inr (Nat.le_refl _)⟩
  · rw [alloc_get, if_pos rfl]
theorem Beg.old {w0 wl wr : World} {q : Dp} {g : Nat} (h : Beg w0 wl q g) {T : Nat → Prop} (k : Ext T wl wr) (hT : ∀ b, T b → EQ q b ∨ b = g ∨ w0.heap.size ≤ b) : Ext (fun _ => False) w0 wr :=
  extF h.ext k fun b e => by
    rcases hT b e with e | e | e
    · exact h.hq b e
    · rw [e]; exact h.hg
    · exact e
/-- A call has been carried out, and the document's device is stored. -/
theorem LInv.next {wl wr w2 : World} {q : Dp} {g : Nat} {L : Nat} {B : Int} {k m : Nat} (h : Ext (fun b => EQ q b ∨ b = g) wl wr) (ng : ¬ EQ q g) {d : Dv} {r : RDv} {p : Option Addr} {n c : Nat} (hb : Both w2 q (fun b => b = g) L B m d r (rval (.slice p n c) r)) (hm : m ≤ 100 * (k + 1)) (hx : Ext (EQ q) wr w2)
    {p0 : Option Addr} {n0 c0 : Nat} {r0 : RDv} (hg : wr.heap[g]? = some (.cells (rcells p0 n0 c0 r0) 29)) {Z : World} (hZ : Z = set6 w2 g (.slice p n c) r.n r.down r.ops r.fails r.done) : LInv wl q g L B (k + 1) Z := by
  subst hZ
  have h3 := set6_ext w2 g (.slice p n c) r.n r.down r.ops r.fails r.done
  have hlt := (Array.getElem?_eq_some_iff.1 hg).1
  have hg2 := (hx.block g hlt ng).trans hg
  refine ⟨⟨d, r, p, n, c, (hb.mono hm).keepT h3 (fun b e => ⟨e, by rw [e]; exact ng⟩), set6_same _ hg2 _ _ _ _ _ _⟩, (h.trans (hx.mono fun _ e => .inl e)).trans (h3.mono fun _ e => .inr e)⟩
end Go.Proofs.Ytifemhfpcichfaa

/- Zone: what fits a list of calls. -/


set_option linter.unusedSimpArgs false
set_option linter.unusedVariables false
set_option maxHeartbeats 4000000
namespace Go.Proofs.Ytifemhfpcichfaa

open Go.Av
theorem wfi64 {n : Int} (h : (Lit.int .i64 n).wf = true) : I64 n := by
  simp [Lit.wf, IntKind.min, IntKind.max, IntKind.signed, IntKind.bits] at h
  exact ⟨by omega, by omega⟩
theorem wfu8 {n : Int} (h : (Lit.int .u8 n).wf = true) : ∃ b : UInt8, n = b.toNat := by
  simp [Lit.wf, IntKind.min, IntKind.max, IntKind.signed, IntKind.bits] at h
  exact ⟨UInt8.ofNat n.toNat, by simp; omega⟩
def WkM (a b : SV) : Prop := ∀ (mu : Mem) (v : Value), Rep mu a v → Rep mu b v
theorem WkM.refl (a : SV) : WkM a a := fun _ _ h => h
theorem wkM_agg {l m : List SV} (hl : l.length = m.length) (h : ∀ j, j < l.length → WkM (l.getD j .undef) (m.getD j .undef)) : WkM (.agg l) (.agg m) := by
  intro mu v hr
  cases hr with
  | agg cs vs h1 h2 => exact .agg m vs (by omega) (fun j hj => h j (by omega) mu _ (h2 j (by omega)))
theorem wkM_nils (z : Nat) : WkM .nils (.sl z []) := fun mu v h => by rw [h.inv_nils]; exact .slnil z
theorem wkM_sl {z : Nat} {xs ys : List SV} (hl : xs.length = ys.length) (hn : ∀ y ∈ ys, y.nc = z) (h : ∀ i j, i < xs.length → j < z → WkM ((xs.getD i .undef).cell j) ((ys.getD i .undef).cell j)) : WkM (.sl z xs) (.sl z ys) := by
  intro mu v hr
  rcases hr.inv_sl with ⟨⟨p, cap, rfl, hp⟩, hx⟩ | ⟨b0, off, cap, vals, rfl, h1, h2, h3, h4⟩
  · subst hx
    have : ys = [] := by cases ys with | nil => rfl | cons a r => simp at hl
    subst this
    cases p with
    | none => rw [hp rfl]; exact .slnil _
    | some a => exact .sle _ _ _
  · rw [hl] at h1 h3 h4 ⊢
    exact .sl z ys b0 off cap vals h1 hn h3 (fun i j hi hj => h i j (by omega) hj mu _ (h4 i j hi hj))
theorem pure_wkM {P : Program} {f : FuncId} {rv : LV} {l m : List SV} (hl : l.length = m.length) (h : ∀ j, j < l.length → WkM (l.getD j .undef) (m.getD j .undef)) (p : Pure P f m rv) : Pure P f l rv :=
  fun mu w vs hm hr => p mu w vs hm ⟨by rw [hr.1]; exact hl, fun j hj => h j (by omega) mu _ (hr.2 j (by omega))⟩
theorem has_bys : ∀ {xs : List SV}, (∀ x ∈ xs, x = mkE x.cells ∧ (Sh.int .u8).has x.cells) → ∃ l : List UInt8, xs = FL l
  | [], _ => ⟨[], rfl⟩
  | x :: xs, h => by
    obtain ⟨l, rfl⟩ := has_bys (xs := xs) (fun y hy => h y (by simp [hy]))
    obtain ⟨he, n, hn, hw⟩ := h x (by simp)
    rw [hn] at he
    obtain ⟨b, rfl⟩ := wfu8 hw
    exact ⟨b :: l, by rw [he]; rfl⟩
theorem has_fate {l : List SV} (h : (Sh.sl (.int .u8)).has l) : ∃ (x : SV) (fs : List UInt8), l = [x] ∧ WkM x (.sl 1 (FL fs)) := by
  simp only [Sh.has] at h
  rcases h with rfl | ⟨xs, rfl, _, hx⟩
  · exact ⟨.nils, [], rfl, wkM_nils 1⟩
  · obtain ⟨fs, rfl⟩ := has_bys (xs := xs) (fun x hm => by have := hx x hm; simp only [Sh.has]; exact this)
    exact ⟨_, fs, rfl, WkM.refl _⟩
theorem has_fateV {v : SV} (h : (Sh.sl (.int .u8)).hasV v) : ∃ fs : List UInt8, WkM v (.sl 1 (FL fs)) := by
  obtain ⟨x, fs, e, hw⟩ := has_fate (show (Sh.sl (.int .u8)).has [v] from h)
  cases e
  exact ⟨fs, hw⟩
abbrev shAct : Sh := .st [.int .u8, .int .i64, .int .i64, .int .u8, .int .u8, .bool, .sl (.int .u8)]
theorem has_actL {l : List SV} (h : Sh.hasL [.int .u8, .int .i64, .int .i64, .int .u8, .int .u8, .bool, .sl (.int .u8)] l) : ∃ a : ActD, l.length = 7 ∧ ∀ j, j < 7 → WkM (l.getD j .undef) ((acC a).getD j .undef) := by
  simp only [Sh.hasL] at h
  obtain ⟨_, _, rfl, ⟨k, rfl, w1⟩, _, _, rfl, ⟨z, rfl, _⟩, _, _, rfl, ⟨n, rfl, _⟩, _, _, rfl, ⟨c, rfl, w4⟩, _, _, rfl, ⟨cu, rfl, w5⟩, _, _, rfl, ⟨dn, rfl⟩, x, _, rfl, hx, rfl⟩ := h
  obtain ⟨x', fs, rfl, hw⟩ := has_fate hx
  obtain ⟨k', rfl⟩ := wfu8 w1
  obtain ⟨c', rfl⟩ := wfu8 w4
  obtain ⟨cu', rfl⟩ := wfu8 w5
  refine ⟨⟨k', z, n, c', cu', dn, fs⟩, rfl, fun j hj => ?_⟩
  match j, hj with
  | 0, _ => exact WkM.refl _
  | 1, _ => exact WkM.refl _
  | 2, _ => exact WkM.refl _
  | 3, _ => exact WkM.refl _
  | 4, _ => exact WkM.refl _
  | 5, _ => exact WkM.refl _
  | 6, _ => exact hw
theorem has_act {v : SV} (h : shAct.hasV v) : ∃ a : ActD, WkM v (acS a) := by
  obtain ⟨l, rfl, h⟩ := h
  obtain ⟨a, hl, hw⟩ := has_actL h
  exact ⟨a, wkM_agg hl (fun j hj => hw j (by omega))⟩
theorem has_acts : ∀ {xs : List SV}, (∀ x ∈ xs, x = mkE x.cells ∧ shAct.has x.cells) → ∃ l : List ActD, xs.length = l.length ∧ ∀ i j, i < xs.length → j < 7 → WkM ((xs.getD i .undef).cell j) ((acS (l.getD i ac0)).cell j)
  | [], _ => ⟨[], rfl, fun i j hi => by simp at hi⟩
  | x :: xs, h => by
    obtain ⟨l, hl, hw⟩ := has_acts (xs := xs) (fun y hy => h y (by simp [hy]))
    obtain ⟨he, hx⟩ := h x (by simp)
    simp only [Sh.has] at hx
    obtain ⟨a, h7, ha⟩ := has_actL hx
    refine ⟨a :: l, by simp [hl], fun i j hi hj => ?_⟩
    cases i with
    | zero => exact ha j hj
    | succ i => simpa using hw i j (by simpa using hi) hj
theorem has_actsV {v : SV} (h : (Sh.sl shAct).hasV v) : ∃ l : List ActD, WkM v (.sl 7 (AcL l)) := by
  have h' : (Sh.sl shAct).has [v] := h
  simp only [Sh.has] at h'
  rcases h' with h' | ⟨xs, h', _, hx⟩
  · cases h'
    exact ⟨[], wkM_nils 7⟩
  · cases h'
    obtain ⟨l, hl, hw⟩ := has_acts (xs := xs) (fun x hm => by have := hx x hm; simp only [Sh.has]; exact this)
    refine ⟨l, wkM_sl (by simpa using hl) (fun y hy => ?_) (fun i j hi hj => ?_)⟩
    · obtain ⟨a, _, rfl⟩ := List.mem_map.1 hy; rfl
    · have := hw i j hi hj
      rwa [show (AcL l).getD i .undef = acS (l.getD i ac0) by simp [AcL, List.getD_eq_getElem?_getD, show i < l.length by omega]]
theorem has_two {v : SV} (h : (Sh.st [.int .u8, .int .u8]).hasV v) : ∃ m n : UInt8, v = .agg [.int .u8 m.toNat, .int .u8 n.toNat] := by
  obtain ⟨l, rfl, h⟩ := h
  have h' : Sh.hasL [.int .u8, .int .u8] l := h
  simp only [Sh.hasL] at h'
  obtain ⟨_, _, rfl, ⟨m, rfl, w1⟩, _, _, rfl, ⟨n, rfl, w2⟩, rfl⟩ := h'
  obtain ⟨m', rfl⟩ := wfu8 w1
  obtain ⟨n', rfl⟩ := wfu8 w2
  exact ⟨m', n', rfl⟩
theorem has_byte {v : SV} (h : Sh.hasV (.int .u8) v) : ∃ b : UInt8, v = .int .u8 b.toNat := by
  obtain ⟨n, e, w⟩ := (h : (Sh.int .u8).has [v])
  cases e
  obtain ⟨b, rfl⟩ := wfu8 w
  exact ⟨b, rfl⟩
end Go.Proofs.Ytifemhfpcichfaa

/- Zalloc: a state's zones (the walk ahead of the sort). -/

set_option linter.unusedSimpArgs false
set_option linter.unusedVariables false
set_option maxHeartbeats 4000000
set_option maxRecDepth 1000000
namespace Go.Proofs.Ytifemhfpcichfaa
open Go.RowKit
open Go.Av Go.Maps

/-- A chain's links, chains, a state, as they stand in memory: by their zones. -/
def LkW (w : World) (p : Option Addr) (zs : List Int) : Prop := ∀ k, k < zs.length → ∃ b o u, p = some ⟨b, o, none⟩ ∧ w.cell? ⟨b, o + k * 2, none⟩ = some (.int .i64 (zs.getD k 0)) ∧ w.cell? ⟨b, o + k * 2 + 1, none⟩ = some (.int .i64 u)
def ChW (w : World) (p : Option Addr) (cs : List (List Int)) : Prop := ∀ i, i < cs.length → ∃ b o t x s lp lc, p = some ⟨b, o, none⟩ ∧
  (w.cell? ⟨b, o + i * 4, none⟩ = some (.int .i64 t) ∧ w.cell? ⟨b, o + i * 4 + 1, none⟩ = some (.int .i64 x) ∧ w.cell? ⟨b, o + i * 4 + 2, none⟩ = some (.int .i64 s) ∧ w.cell? ⟨b, o + i * 4 + 3, none⟩ = some (.slice lp (cs.getD i []).length lc)) ∧ LkW w lp (cs.getD i [])
def stV (nx : Int) (tp : Option Addr) (tn tc : Nat) (cp : Option Addr) (cn cc : Nat) : Value := .agg #[.int .i64 nx, .slice tp tn tc, .slice cp cn cc]
def StW (w : World) (v : Value) (cs : List (List Int)) : Prop := ∃ nx tp tn tc cp cc, v = stV nx tp tn tc cp cs.length cc ∧ ChW w cp cs
theorem cell_ext {w w' : World} (k : Ext (fun _ => False) w w') {a : Addr} {v : Value} (h : w.cell? a = some v) : w'.cell? a = some v :=
  (World.cell?_of_block (k.block a.block (World.block_lt_of_cell? w a h) id)).trans h
theorem LkW.ext {w w' : World} {p : Option Addr} {zs : List Int} (h : LkW w p zs) (k : Ext (fun _ => False) w w') : LkW w' p zs := fun i hi => by
  obtain ⟨b, o, u, h1, h2, h3⟩ := h i hi
  exact ⟨b, o, u, h1, cell_ext k h2, cell_ext k h3⟩
theorem ChW.ext {w w' : World} {p : Option Addr} {cs : List (List Int)} (h : ChW w p cs) (k : Ext (fun _ => False) w w') : ChW w' p cs := fun i hi => by
  obtain ⟨b, o, t, x, s, lp, lc, h1, ⟨h2, h3, h4, h5⟩, h6⟩ := h i hi
  exact ⟨b, o, t, x, s, lp, lc, h1, ⟨cell_ext k h2, cell_ext k h3, cell_ext k h4, cell_ext k h5⟩, h6.ext k⟩
theorem StW.ext {w w' : World} {v : Value} {cs : List (List Int)} (h : StW w v cs) (k : Ext (fun _ => False) w w') : StW w' v cs := by
  obtain ⟨nx, tp, tn, tc, cp, cc, h1, h2⟩ := h
  exact ⟨nx, tp, tn, tc, cp, cc, h1, h2.ext k⟩
theorem own_ext {w w' : World} {base e size n : Nat} {v : Value} {xs : List Value} (h : w.ownsRow base e size v n xs) (k : Ext (fun _ => False) w w') : w'.ownsRow base e size v n xs := by
  refine ⟨h.1, ?_⟩
  rcases h.2 with h2 | ⟨g, cap, cur, h1, h2, h3, h4⟩
  · exact .inl h2
  · exact .inr ⟨g, cap, cur, h1, h2, (k.block g (Array.getElem?_eq_some_iff.1 h3).1 id).trans h3, h4⟩
def I3 (l : List Int) : List Value := l.map (Value.int .i64)
/-- A call that keeps the blocks below b. -/
theorem grown_ext {w0 w w' : World} {base e size n : Nat} {v : Value} {xs : List Value} (h : w.ownsRow base e size v n xs) (g : w.grownBy w' v.ownBlock) (hb : w0.heap.size ≤ base) (k : Ext (fun _ => False) w0 w) : Ext (fun _ => False) w0 w' := by
  obtain ⟨g1, g2, g3, g4, g5⟩ := g
  refine ⟨g1.trans k.os, g2.trans k.tape, g3.trans k.output, Nat.le_trans k.size g4, fun i hi _ => (g5 i (Nat.lt_of_lt_of_le hi k.size) ?_).trans (k.block i hi id)⟩
  rcases h.2 with ⟨e, _⟩ | ⟨g, cap, cur, e, hg, _⟩
  · rw [e]; simp [Value.ownBlock]
  · rw [e]; simp only [Value.ownBlock]; intro q; injection q with q; omega
/-- Ahead of a chain. -/
def ZInv (w0 : World) (xs : List Int) (v : Value) (wr : World) : Prop := wr.ownsRow (w0.heap.size) 3 1 v xs.length (I3 xs) ∧ Ext (fun _ => False) w0 wr
end Go.Proofs.Ytifemhfpcichfaa

/- Zalloc: a state's zones (the walk). -/

set_option linter.unusedSimpArgs false
set_option linter.unusedVariables false
set_option maxHeartbeats 4000000
set_option maxRecDepth 1000000
namespace Go.Proofs.Ytifemhfpcichfaa
open Go.RowKit
open Go.Av Go.Maps

/-- What the sort does, of a row of the call's own. -/
def SortC : Prop := ∀ (W : World) (base : Nat) (v : Value) (ts : List Int), ts.length ≤ 100000 → W.ownsRow base 3 1 v ts.length (I3 ts) → Calls Try.prog 67 #[v] W fun e W' => e = .returned (.tuple #[]) ∧ ∃ us : List Int, (∀ z, z ∈ us ↔ z ∈ ts) ∧ us.length = ts.length ∧ W'.ownsRow base 3 1 v us.length (I3 us) ∧ W.grownBy W' v.ownBlock
def ZonesP (cs : List (List Int)) (w : World) (e : Ending) (w' : World) : Prop := ∃ v, ∃ us : List Int, e = .returned v ∧ us.length = cs.flatten.length ∧ (∀ z, z ∈ us ↔ z ∈ cs.flatten) ∧ w'.ownsRow w.heap.size 3 1 v us.length (I3 us) ∧ Ext (fun _ => False) w w'
theorem one_new (W : World) (z : Value) (t : TypeId) (b : Nat) (hb : W.heap.size = b) : ∀ j u, [z][j]? = some u → (W.alloc (.cells #[z] t)).cell? ((⟨b, 0, none⟩ : Addr).add j) = some u := by
  intro j u hj
  cases j with
  | zero =>
    simp at hj
    subst hj
    rw [Addr.add_lit, cell_of_block (show (W.alloc (.cells #[z] t)).heap[b]? = some (.cells #[z] t) by rw [alloc_get, if_pos hb.symm])]
    rfl
  | succ j => simp at hj
theorem ZInv.next {w0 w : World} {xs zs ys : List Int} {k : Nat} {z : Int} {v : Value} (h1 : xs ++ zs.take k = ys) (h2 : zs.take (k + 1) = zs.take k ++ [z]) (h3 : w.ownsRow w0.heap.size 3 1 v (ys.length + 1) (I3 ys ++ [.int .i64 z])) (h4 : Ext (fun _ => False) w0 w) : ZInv w0 (xs ++ zs.take (k + 1)) v w := by
  refine ⟨?_, h4⟩
  rw [h2, ← List.append_assoc, h1]
  have e : I3 (ys ++ [z]) = I3 ys ++ [.int .i64 z] := by simp [I3]
  rw [e, List.length_append]
  exact h3
theorem own_slice {w : World} {base e size n : Nat} {v : Value} {xs : List Value} (h : w.ownsRow base e size v n xs) : ∃ p c, v = .slice p n c := by
  rcases h.2 with ⟨h1, h2⟩ | ⟨g, cap, cur, h1, _⟩
  · rw [h1, h2]; exact ⟨_, _, rfl⟩
  · exact ⟨_, _, h1⟩
theorem stzones_raw (hS : SortC) {w : World} {v : Value} {cs : List (List Int)} (h : StW w v cs) (hb : cs.flatten.length ≤ 100000) (hcl : cs.length ≤ 1000000) : Calls Try.prog 58 #[v] w (ZonesP cs w) := by
  obtain ⟨nx, tp, tn, tc, cp, cc, rfl, hC⟩ := h
  obtain ⟨i0, hi, hz0, hz1, hz2⟩ := info_parts (P := Try.prog) (e := 3) (z := .int .i64 0) (size := 1) (bytes := 8) (by kernel_rfl)
  have hu : Try.prog.underlying 53 = some (.slice 3) := by kernel_rfl
  have HC := asideI hC
  have HI := asideI hi
  have HZ0 := asideI hz0
  have HZ1 := asideI hz1
  have HZ2 := asideI hz2
  have HU := asideI hu
  have HX0 := asideI (ext_alloc1 w (.cells #[.int .i64 nx, .slice tp tn tc, .slice cp cs.length cc] 58))
  have HLC : Aside (cs.length ≤ 1000000) := hcl
  clear hC hi hz0 hz1 hz2 hu hcl
  show Calls Try.prog 58 #[.agg #[.int .i64 nx, .slice tp tn tc, .slice cp cs.length cc]] w _
  go_enter Try.func58, Try.ntmps58
  go_wp2
  go_loopg [3, 11] cs.length (fun gg s3 s11 wr => ∃ (i : Nat), s11 = .int .i64 i ∧ i ≤ cs.length ∧ cs.length - i ≤ gg ∧ Aside (ZInv w (cs.take i).flatten s3 wr))
  case atStart => exact ⟨0, rfl, by omega, by omega, ⟨rfl, .inl ⟨rfl, rfl⟩⟩, HX0.out⟩
  case round =>
    obtain ⟨i, rfl, hi, hgg, H2⟩ := hrel
    obtain ⟨sp, sc, rfl⟩ := own_slice H2.out.1
    by_cases hlt : i < cs.length
    · have hz : (i : Int) < (cs.length : Int) := by omega
      have hw : IntKind.i64.wrap ((i : Int) + 1) = (i : Int) + 1 := by have : cs.length ≤ 1000000 := HLC.out; rw [IntKind.wrap_i64]; omega
      obtain ⟨b, o, t, x, s, lp, lc, rfl, ⟨c0, c1, c2, c3⟩, hL⟩ := HC.out i hlt
      replace c0 := cell_ext H2.out.2 c0
      replace c1 := cell_ext H2.out.2 c1
      replace c2 := cell_ext H2.out.2 c2
      replace c3 := cell_ext H2.out.2 c3
      have hfl : (cs.take (i + 1)).flatten = (cs.take i).flatten ++ cs.getD i [] := by
        rw [List.take_add_one, List.flatten_append, List.getD_eq_getElem?_getD, List.getElem?_eq_getElem hlt]; simp
      have hmx : ((cs.take i).flatten ++ cs.getD i []).length ≤ 100000 := by
        rw [← hfl]
        have : (cs.take (i + 1)).flatten.length ≤ cs.flatten.length := by
          conv => rhs; rw [← List.take_append_drop (i + 1) cs]
          rw [List.flatten_append, List.length_append]; omega
        omega
      generalize (cs.take i).flatten = xs at H2 hfl hmx
      generalize cs.getD i [] = zs at hL hfl hmx c3
      have HL := asideI hL
      have HFL := asideI hfl
      clear hL hfl
      have hlz : zs.length ≤ 100000 := by rw [List.length_append] at hmx; omega
      go_wp2
      go_loopg [3, 18] zs.length (fun gg s3 s18 wr2 => ∃ (k : Nat), s18 = .int .i64 k ∧ k ≤ zs.length ∧ zs.length - k ≤ gg ∧ Aside (ZInv w (xs ++ zs.take k) s3 wr2 ∧ Ext (fun _ => False) w wr2))
      case atStart => exact ⟨0, rfl, by omega, by omega, ⟨by simpa using own_ext H2.out.1 (ext_alloc1 _ _), H2.out.2.trans (ext_alloc1 _ _)⟩, H2.out.2.trans (ext_alloc1 _ _)⟩
      case round =>
        obtain ⟨k, rfl, hk, hgg2, H4⟩ := hrel
        obtain ⟨sp2, sc2, rfl⟩ := own_slice H4.out.1.1
        by_cases hlt2 : k < zs.length
        · have hz2 : (k : Int) < (zs.length : Int) := by omega
          have hw2 : IntKind.i64.wrap ((k : Int) + 1) = (k : Int) + 1 := by rw [IntKind.wrap_i64]; omega
          obtain ⟨lb, lo, u, rfl, d0, d1⟩ := HL.out k hlt2
          replace d0 := cell_ext H4.out.2 d0
          replace d1 := cell_ext H4.out.2 d1
          have htk : zs.take (k + 1) = zs.take k ++ [zs.getD k 0] := by rw [List.take_add_one, List.getD_eq_getElem?_getD, List.getElem?_eq_getElem hlt2]; rfl
          have hlk : (xs ++ zs.take k).length ≤ 100000 := by rw [List.length_append, List.length_take] at *; omega
          generalize zs.getD k 0 = zz at d0 htk
          have HTK := asideI htk
          clear htk
          generalize hys : xs ++ zs.take k = ys at H4 hlk
          have HYS := asideI hys
          clear hys
          have hown := own_ext H4.out.1.1 ((ext_alloc1 wr (.cells #[.int .i64 zz, .int .i64 u] 100)).trans (ext_alloc1 _ (.cells #[.int .i64 zz] 3)))
          have HOWN := asideI hown
          have HWX := asideI (H4.out.2.trans ((ext_alloc1 wr (.cells #[.int .i64 zz, .int .i64 u] 100)).trans (ext_alloc1 _ (.cells #[.int .i64 zz] 3))))
          clear hown
          go_wp2_with (first
            | (at_builtin; refine wpList_append_own _ rfl _ _ 53 rfl w.heap.size 3 i0 (.int .i64 0) 1 8 HU.out HI.out HZ0.out HZ1.out HZ2.out rfl (by decide) _ _ _ rfl HOWN.out ⟨wr.heap.size + 1, 0, none⟩ 1 1 [.int .i64 zz] rfl ?qc1 ?qc2 ?qc3 ?qc4 ?qc5 ?qc6 ?_)
            | go_in)
          case qc1 => rfl
          case qc2 => exact one_new _ _ _ _ (by simp)
          case qc3 => intro u hu; rw [List.mem_singleton] at hu; rw [hu]; rfl
          case qc4 => unfold maxLen; omega
          case qc5 => omega
          case qc6 => have := HWX.out.size; exact this
          intro v' w6 hown6 hgrow hnil
          obtain ⟨p6, c6, rfl⟩ := own_slice hown6
          have HZI := asideI (ZInv.next (w0 := w) HYS.out HTK.out hown6 (grown_ext HOWN.out hgrow (Nat.le_refl _) HWX.out))
          clear hown6 hgrow hnil
          go_wp2
          go_roundg (zs.length - (k + 1))
          case measure => omega
          case rel => exact ⟨k + 1, by simp, by omega, by omega, HZI.out, HZI.out.2⟩
        · obtain rfl : k = zs.length := by omega
          have HZI := H4.out.1
          rw [List.take_length] at HZI
          have HZJ := asideI HZI
          clear HZI
          go_wp2
          go_roundg (cs.length - (i + 1))
          case measure => omega
          case rel => exact ⟨i + 1, by simp, by omega, by omega, by rw [HFL.out, List.take_length]; exact HZJ.out⟩
    · obtain rfl : i = cs.length := by omega
      have hall : (cs.take cs.length).flatten = cs.flatten := by rw [List.take_length]
      have HAL := asideI hall
      have hbb : (cs.take cs.length).flatten.length ≤ 100000 := by rw [hall]; exact hb
      generalize (cs.take cs.length).flatten = ts at H2 HAL hbb
      have HST := asideI (hS wr w.heap.size _ ts hbb H2.out.1)
      have HH2 := asideI H2.out
      clear H2 hall hS
      go_wp2_with (first
        | (go_at_call 67; refine HST.out.mono ?_; rintro e w7 ⟨rfl, us, hu1, hu2, hu3, hu4⟩; have HR := asideI (And.intro hu1 (And.intro hu2 (And.intro hu3 (grown_ext HH2.out.1 hu4 (Nat.le_refl _) HH2.out.2)))); clear hu1 hu2 hu3 hu4; simp only [])
        | go_in)
      go_ret
      refine ⟨_, us, rfl, ?_, ?_, HR.out.2.2.1, HR.out.2.2.2⟩
      · rw [HR.out.2.1, HAL.out]
      · intro z; rw [HR.out.1 z, HAL.out]
end Go.Proofs.Ytifemhfpcichfaa

/- Zalloc: a set of numbers, as a map; kinds (plain). -/


set_option linter.unusedSimpArgs false
set_option linter.unusedVariables false
set_option maxHeartbeats 4000000
set_option maxRecDepth 1000000
namespace Go.Proofs.Ytifemhfpcichfaa
open Go.RowKit
open Go.Av Go.Maps

theorem und103 : Try.prog.underlying 103 = some (.map 3 4) := by kernel_rfl
theorem K3 : Keyed Try.prog 3 := int_keyed (q := .i64) und3
theorem key3 {z : Int} (h : I64 z) : keyOf Try.prog 3 (.int .i64 z) = some (.int .i64 z) := keyOf_int_mk und3 (i64_wf h)
theorem zero4 (w : World) : (zeroValue 4).run Try.prog w = .ok (.bool false) w := by kernel_rfl
/-- A map in which just these numbers are true. -/
def SetM (w : World) (b m : Nat) (zs : List Int) : Prop := ∃ D, w.ownsMap Try.prog 3 RH b m D ∧ ∀ z, I64 z → D.atKey (.int .i64 z) (.held (.bool false)) = .held (.bool (decide (z ∈ zs)))
theorem SetM.new (w : World) : SetM (w.alloc (.map #[] 0)) w.heap.size 0 [] := ⟨_, World.ownsMap_made w _ _ _, fun z _ => rfl⟩
theorem SetM.keep {w w' : World} {b m : Nat} {zs : List Int} (h : SetM w b m zs) (k : w'.heap[b]? = w.heap[b]?) : SetM w' b m zs := by
  obtain ⟨D, ⟨es, clock, h1, h2⟩, h3⟩ := h
  exact ⟨D, ⟨es, clock, k.trans h1, h2⟩, h3⟩
theorem SetM.lt {w : World} {b m : Nat} {zs : List Int} (h : SetM w b m zs) : b < w.heap.size := by
  obtain ⟨D, ⟨es, clock, h1, h2⟩, h3⟩ := h
  exact (Array.getElem?_eq_some_iff.1 h1).1
theorem SetM.put {w : World} {b m : Nat} {zs : List Int} (h : SetM w b m zs) (hm : m ≤ 100000) {z : Int} (hz : I64 z) : ∃ w', (Instr.mapUpdate 103 (.map (some b)) (.int .i64 z) (.bool true)).run Try.prog w = .ok () w' ∧ SetM w' b (m + 1) (zs ++ [z]) ∧ w.grownBy w' (some b) := by
  obtain ⟨D, h1, h2⟩ := h
  obtain ⟨w', k1, k2, k3⟩ := h1.update (t := 103) (e := 4) K3 und103 (by unfold maxLen; omega) (val := .bool true) (d := .held (.bool true)) (ps := []) (key3 hz) rfl
  refine ⟨w', k1, ⟨_, k2, fun y hy => ?_⟩, k3⟩
  by_cases e : y = z
  · subst e
    rw [atKey_put_same h1.isMap (show WideAt.IsKeyLit (.int .i64 y) from trivial)]
    simp
  · rw [atKey_put_other (by intro q; injection q with _ q; exact e q), h2 y hy]
    simp [e]
theorem SetM.look {w : World} {b m : Nat} {zs : List Int} (h : SetM w b m zs) {z : Int} (hz : I64 z) : (Instr.lookup 103 (.map (some b)) (.int .i64 z) false).run Try.prog w = .ok (.bool (decide (z ∈ zs))) w := by
  obtain ⟨D, h1, h2⟩ := h
  obtain ⟨v, ps, hrun, hv⟩ := h1.lookup (t := 103) (e := 4) K3 und103 (zero4 w) (zd := .held (.bool false)) (zp := []) rfl (key3 hz)
  rw [h2 z hz] at hv
  obtain rfl : v = .bool (decide (z ∈ zs)) := by
    simp only [RH, Option.some.injEq, Prod.mk.injEq, DataW.held.injEq] at hv
    exact hv.1
  exact hrun
/-- A zone's kind: S are the zones that are owned. -/
def kindD (d : Dv) (S : List Int) (z : Nat) : UInt8 := if z < 2 then 1 else if (z : Int) ∈ S then 2 else if stD d z = 0 then 0 else 3
def kindsB (d : Dv) (S : List Int) : List UInt8 := (List.range d.zs.length).map (kindD d S)
theorem kindsB_len (d : Dv) (S : List Int) : (kindsB d S).length = d.zs.length := by simp [kindsB]
theorem kindsB_take (d : Dv) (S : List Int) {z : Nat} (hz : z < d.zs.length) : (kindsB d S).take (z + 1) = (kindsB d S).take z ++ [kindD d S z] := by
  rw [List.take_add_one]
  simp [kindsB, hz]
theorem kindD_iff {d : Dv} {S T : List Int} (h : ∀ z, z ∈ S ↔ z ∈ T) (z : Nat) : kindD d S z = kindD d T z := by
  unfold kindD
  simp only [h]
theorem kindsB_iff {d : Dv} {S T : List Int} (h : ∀ z, z ∈ S ↔ z ∈ T) : kindsB d S = kindsB d T := by
  unfold kindsB
  exact List.map_congr_left fun z _ => kindD_iff h z
end Go.Proofs.Ytifemhfpcichfaa
