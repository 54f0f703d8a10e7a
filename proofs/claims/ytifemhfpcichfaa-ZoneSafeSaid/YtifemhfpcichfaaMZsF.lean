import Derived.Test.YtifemhfpcichfaaMZsB
import Derived.Test.YtifemhfpcichfaaAvAD

set_option linter.unusedVariables false
set_option linter.unusedSimpArgs false

/- Zone: a call on both (Do), and how both begin. -/

set_option linter.unusedSimpArgs false
set_option linter.unusedVariables false
set_option maxHeartbeats 4000000
set_option maxRecDepth 1000000
namespace Go.Proofs.Ytifemhfpcichfaa
open Go.RowKit
open Go.Av Go.Maps

def doD (d : Dv) (a : ActD) : Dv :=
  if a.k.toNat % 9 = 4 then (flushD d).1 else if a.k.toNat % 9 = 5 then (resetD d a.z).1 else if a.k.toNat % 9 = 6 then (finishD d a.z).1 else if a.k.toNat % 9 = 7 then (failD d a.n a.done).1
  else if a.k.toNat % 9 = 8 then crashD d a.fs else (appendD d a.z (cutA a) (u8s (blkA a))).1
theorem Both.mono {w : World} {q : Dp} {G : Nat → Prop} {L : Nat} {B : Int} {m m' : Nat} {d : Dv} {r : RDv} {x : Value} (h : Both w q G L B m d r x) (k : m ≤ m') : Both w q G L B m' d r x := ⟨h.at_, h.ok.mono k, h.ref, h.rn, h.lt⟩
theorem DoP.up {w : World} {q : Dp} {G : Nat → Prop} {L : Nat} {B : Int} {m m' : Nat} {d : Dv} {e : Ending} {w' : World} (k : m ≤ m') (h : DoP w q G L B m d e w') : DoP w q G L B m' d e w' := by
  obtain ⟨r', x', bb, h1, h2, h3⟩ := h
  exact ⟨r', x', bb, h1, h2.mono k, h3⟩
theorem do_raw {w : World} {q : Dp} {G : Nat → Prop} {L : Nat} {B : Int} {m : Nat} {d : Dv} {r : RDv} {x v : Value} (h : Both w q G L B m d r x) (a : ActD) (hf : FtV w (QG q G) v a.fs) (hm : m < 90000) :
    Calls Try.prog 11 #[.pointer (some ⟨q.p, 0, none⟩), x, actV a v] w (DoP w q G L B (m + 100) (doD d a)) := by
  have hL : L ≤ 64 := by have := h.ok.ok.len; have := h.ok.len; omega
  obtain ⟨pa, cap, rfl, _⟩ := hf.1
  unfold doD
  by_cases h4 : a.k.toNat % 9 = 4
  · rw [if_pos h4]; exact (do_flush h a pa _ cap h4).mono fun e w' => DoP.up (by omega)
  rw [if_neg h4]
  by_cases h5 : a.k.toNat % 9 = 5
  · rw [if_pos h5]; exact (do_reset h a pa _ cap h5).mono fun e w' => DoP.up (by omega)
  rw [if_neg h5]
  by_cases h6 : a.k.toNat % 9 = 6
  · rw [if_pos h6]; exact (do_finish h a pa _ cap h6).mono fun e w' => DoP.up (by omega)
  rw [if_neg h6]
  by_cases h7 : a.k.toNat % 9 = 7
  · rw [if_pos h7]; exact (do_fail h a pa _ cap h7).mono fun e w' => DoP.up (by omega)
  rw [if_neg h7]
  by_cases h8 : a.k.toNat % 9 = 8
  · rw [if_pos h8]; exact (do_crash h a pa _ cap hf hm h8).mono fun e w' => DoP.up (by omega)
  rw [if_neg h8]
  exact (do_append h a pa _ cap hm (by omega)).mono fun e w' => DoP.up (by omega)

theorem rnew_raw (w : World) (z b : Int) (h : newOk z b = true) (N : Nat → Prop) :
    Calls Try.prog 30 #[.int .i64 z, .int .i64 b] w fun e w' => ∃ x, e = .returned (.tuple #[x, .int .i64 0]) ∧ RefAt w' (fun k => k < w.heap.size) (rnewD z b) x ∧ Ext (fun _ => False) w w' := by
  refine (rnew_pure z b h (fun _ _ => none) w [.int .i64 z, .int .i64 b] (fun b j v hv => by cases hv) (RepArgs.cons (.int _ _) (RepArgs.cons (.int _ _) ⟨rfl, fun j hj => by simp at hj⟩))).mono ?_
  rintro e w' ⟨val, mu', rfl, hx, _, hm, hb, ⟨gx, hrep, _⟩⟩
  obtain ⟨us, rfl, hl, hu⟩ := hrep
  match us, hl with
  | [x, y], _ =>
    have h0 : Rep mu' (rnewD z b).sv x := hu 0 (by simp)
    have h1 : Rep mu' (.int .i64 0) y := hu 1 (by simp)
    rw [h1.inv_int]
    exact ⟨x, rfl, ⟨strip mu', strip_ok hm, fun b j e => strip_none (by rw [hb b j e]), fun b j n e => (strip_le e).2 n rfl, rep_strip h0⟩, hx⟩
theorem newOk_iff {z b : Int} (h : newOk z b = true) : 4 ≤ z ∧ z ≤ 64 ∧ 4 ≤ b ∧ b ≤ 256 := by
  simp only [newOk, Bool.and_eq_true, decide_eq_true_eq] at h; omega
theorem RN.new {z b : Int} (h : newOk z b = true) : RN z.toNat b (rnewD z b) := by
  have := newOk_iff h
  refine ⟨by simp [rnewD], rfl, by omega, fun r hr => ?_⟩
  have : r = rz0 := by simp [rnewD] at hr; exact hr.2
  rw [this]
  exact rz0_k (by omega)
theorem zAt_new (z b : Int) (i : Nat) : zAt (newD z b) i = z0 := by
  unfold zAt newD
  rw [List.getD_eq_getElem?_getD, List.getElem?_replicate]
  split <;> rfl
theorem OkN.new {z b : Int} (h : newOk z b = true) : OkN z.toNat b 0 (newD z b) := by
  have := newOk_iff h
  refine ⟨⟨?_, ⟨[], rfl⟩, ?_, fun i _ => ?_, fun i _ _ => ?_, fun i _ j hj => ?_⟩, by simp [newD], rfl, Nat.le_refl _⟩
  · simp [newD]; omega
  · show 0 ≤ b ∧ b ≤ 1000; omega
  · rw [zAt_new]; show 0 ≤ 0 ∧ 0 ≤ b; omega
  · rw [zAt_new]; exact ⟨Int.le_refl _, Int.le_refl _⟩
  · rw [zAt_new] at hj; simp [z0] at hj; omega
/-- Both, as they begin. -/
def BegP (w : World) (z b : Int) (e : Ending) (w' : World) : Prop := ∃ q p n c, e = .returned (.tuple #[.pointer (some ⟨q.p, 0, none⟩), rval (.slice p n c) (rnewD z b), .bool true]) ∧ Both w' q (fun k => k < w.heap.size) z.toNat b 0 (newD z b) (rnewD z b) (rval (.slice p n c) (rnewD z b)) ∧ (∀ k, EQ q k → w.heap.size ≤ k) ∧ Ext (fun _ => False) w w'
theorem results_tmp_cell_tmp {P : Program} {fn : Func} {s p t : Tmp} {ty : TypeId} (h : fn.results = #[.tmp s, .cell p ty, .tmp t]) (tmps : Array Value) (w : World) (g : Nat) (te : TypeId) (cs : Array Value) (fr : Nat × Nat) (d : TypeDesc)
    (hp : tmps.getD p Go.undef = .pointer (some ⟨g, 0, none⟩)) (hg : w.heap[g]? = some (.cells cs te fr))
    (hu : P.underlying ty = some d) (hd : (match d with | .struct _ | .array _ _ => true | _ => false) = true) (hi : (P.info? ty).map (·.size) = some cs.size) :
    (results fn tmps).run P w = .ok (.tuple #[tmps.getD s Go.undef, .agg cs, tmps.getD t Go.undef]) w := by
  have hp' : tmps[p]?.getD Go.undef = .pointer (some ⟨g, 0, none⟩) := by simpa using hp
  simp [results, h, hp', asAddr, run_loadVar_row w g te ty cs fr d hg hu hd hi]
theorem drew_get (w : World) (k : Nat) : w.drew.heap[k]? = w.heap[k]? := rfl
theorem extF {w Z Y : World} {T : Nat → Prop} (h : Ext (fun _ => False) w Z) (k : Ext T Z Y) (hT : ∀ b, T b → w.heap.size ≤ b) : Ext (fun _ => False) w Y :=
  ⟨k.os.trans h.os, k.tape.trans h.tape, k.output.trans h.output, Nat.le_trans h.size k.size, fun b hb _ => (k.block b (Nat.lt_of_lt_of_le hb h.size) (fun e => by have := hT b e; omega)).trans (h.block b hb id)⟩
theorem begun_raw (w : World) (z b : Int) (h : newOk z b = true) : Calls Try.prog 10 #[.int .i64 z, .int .i64 b] w (BegP w z b) := by
  obtain ⟨W, hW⟩ : ∃ W, W = w.alloc (.cells #[.slice none 0 0, .int .i64 0, .bool false, .int .i64 0, .int .i64 0, .bool false] 29) := ⟨_, rfl⟩
  have HW := asideI hW
  have k0 : W.heap[w.heap.size]? = some (.cells #[.slice none 0 0, .int .i64 0, .bool false, .int .i64 0, .int .i64 0, .bool false] 29) := by rw [hW, alloc_get, if_pos rfl]
  have ks : W.heap.size = w.heap.size + 1 := by rw [hW]; simp
  have K0 := asideI k0
  have KX : Aside (Ext (fun _ => False) w W) := by rw [hW]; exact ext_alloc1 _ _
  clear hW k0
  go_enter Try.func10, Try.ntmps10
  go_wp2_with (first
    | (go_at_call 23; rw [← HW.out]; refine (new_raw W z b).mono ?_
       rintro e w1 ⟨hx1, h1⟩
       rcases h1 with ⟨h1, _⟩ | ⟨_, q, rfl, hq1, hd1⟩
       · exact absurd h (by rw [h1]; simp)
       have HX1 := asideI hx1
       have HD1 := asideI hd1
       have HQ1 : Aside (∀ k, EQ q k → w.heap.size + 1 ≤ k) := fun k e => by rw [← ks]; exact hq1 k e
       clear hx1 hd1 hq1
       simp only [])
    | (go_at_call 30; refine (rnew_raw w1 z b h (fun _ => False)).mono ?_
       rintro e w2 ⟨x, rfl, hr2, hx2⟩
       obtain ⟨px, nx, cx, rfl⟩ := hr2.val
       have HR2 := asideI hr2
       have HX2 := asideI hx2
       have S2 := asideI (show w.heap.size + 1 ≤ w2.heap.size by have := HX1.out.size; have := hx2.size; omega)
       have K2 := asideI ((hx2.block w.heap.size (by have := HX1.out.size; omega) id).trans ((HX1.out.block w.heap.size (by omega) id).trans K0.out))
       clear hr2 hx2
       simp only [rval])
    | go_in)
  have s2 := S2.out
  obtain ⟨Z, hZ⟩ : ∃ Z, Z = w2.alloc (.cells #[.slice px nx cx, .int .i64 (rnewD z b).n, .bool (rnewD z b).down, .int .i64 (rnewD z b).ops, .int .i64 (rnewD z b).fails, .bool (rnewD z b).done] 29) := ⟨_, rfl⟩
  have hne : ¬ w.heap.size = w2.heap.size := by omega
  have hne' : ¬ w2.heap.size = w.heap.size := by omega
  have z1 : Z.heap[w2.heap.size]? = some (.cells #[.slice px nx cx, .int .i64 (rnewD z b).n, .bool (rnewD z b).down, .int .i64 (rnewD z b).ops, .int .i64 (rnewD z b).fails, .bool (rnewD z b).done] 29) := by rw [hZ, alloc_get, if_pos rfl]
  have z0 := (show Z.heap[w.heap.size]? = w2.heap[w.heap.size]? by rw [hZ, alloc_get, if_neg hne]).trans K2.out
  have Z0 := asideI z0
  have Z2 : Aside (Ext (fun _ => False) w2 Z) := by rw [hZ]; exact ext_alloc1 _ _
  rw [← hZ]
  clear hZ
  obtain ⟨⟨c0, c1, c2, c3, c4, c5⟩, _⟩ := box6 z1
  obtain ⟨_, f0, f1, f2, f3, f4, f5⟩ := box6 z0
  clear z0 z1 s2
  go_region_held (fun W2 => (W2.cell? ⟨w2.heap.size, 0, none⟩ = some (.slice px nx cx) ∧ W2.cell? ⟨w2.heap.size, 1, none⟩ = some (.int .i64 (rnewD z b).n) ∧ W2.cell? ⟨w2.heap.size, 2, none⟩ = some (.bool (rnewD z b).down) ∧ W2.cell? ⟨w2.heap.size, 3, none⟩ = some (.int .i64 (rnewD z b).ops) ∧ W2.cell? ⟨w2.heap.size, 4, none⟩ = some (.int .i64 (rnewD z b).fails) ∧ W2.cell? ⟨w2.heap.size, 5, none⟩ = some (.bool (rnewD z b).done)) ∧
    (W2.frozen? ⟨w.heap.size, 0, none⟩ = false ∧ W2.frozen? ⟨w.heap.size, 1, none⟩ = false ∧ W2.frozen? ⟨w.heap.size, 2, none⟩ = false ∧ W2.frozen? ⟨w.heap.size, 3, none⟩ = false ∧ W2.frozen? ⟨w.heap.size, 4, none⟩ = false ∧ W2.frozen? ⟨w.heap.size, 5, none⟩ = false)) (simp [*, World.cell?_setCell_far]) (fail)
  go_wp2
  obtain ⟨Y, hY⟩ : ∃ Y, Y = (set6 Z w.heap.size (.slice px nx cx) (rnewD z b).n (rnewD z b).down (rnewD z b).ops (rnewD z b).fails (rnewD z b).done).drew := ⟨_, rfl⟩
  have y0 : Y.heap[w.heap.size]? = some (.cells #[.slice px nx cx, .int .i64 (rnewD z b).n, .bool (rnewD z b).down, .int .i64 (rnewD z b).ops, .int .i64 (rnewD z b).fails, .bool (rnewD z b).done] 29) := by rw [hY, drew_get]; exact set6_same Z Z0.out _ _ _ _ _ _
  have e1 : Ext (fun k => k = w.heap.size) Z Y := by rw [hY]; exact (set6_ext _ _ _ _ _ _ _ _).trans ((ext_drew _).mono fun _ e => e.elim)
  unfold set6 at hY
  rw [← hY]
  clear hY
  have e2 : Ext (fun _ => False) w Z := ((KX.out.trans HX1.out).trans HX2.out).trans Z2.out
  obtain ⟨l0, l1, l2⟩ := HD1.out.lt
  have lw := (KX.out.trans HX1.out).size
  have lw1 := HX1.out.size
  refine bodyPost_ret (results_tmp_cell_tmp rfl _ _ w.heap.size _ _ _ _ rfl y0 (show Try.prog.underlying 29 = some (Try.prog.underlying 29).get! by kernel_rfl) (by kernel_rfl) (by kernel_rfl)) rfl ?_
  refine ⟨q, px, nx, cx, rfl, ⟨((HD1.out.ext HX2.out).ext Z2.out).keep e1 ?_, OkN.new h, ((HR2.out.ext Z2.out).keepT e1 ?_).sub ?_, RN.new h, ?_⟩, ?_, extF e2 e1 ?_⟩
  · rintro k e rfl
    have := HQ1.out _ e; omega
  · rintro k _ rfl
    left; show w.heap.size < w1.heap.size; omega
  · intro k e
    show k < w1.heap.size
    rcases e with (e | e | e) | e
    · omega
    · omega
    · omega
    · have e2 : k < w.heap.size := e
      omega
  · intro k e
    have e3 : k < w.heap.size := e
    have := e1.size; have := e2.size; omega
  · intro k e
    have := HQ1.out _ e; omega
  · rintro k rfl
    omega
end Go.Proofs.Ytifemhfpcichfaa

/- Zone: the law's own run on a fixed device (awake). -/

set_option linter.unusedSimpArgs false
set_option linter.unusedVariables false
set_option maxHeartbeats 4000000
set_option maxRecDepth 1000000
namespace Go.Proofs.Ytifemhfpcichfaa
open Go.RowKit
open Go.Av Go.Maps

def k7 : List UInt8 := List.replicate 64 7
def k9 : List UInt8 := List.replicate 64 9
def wA : Dv := (appendD (newD 4 4) 2 64 (u8s k7)).1
def wB : Dv := (flushD wA).1
def wC : Dv := (appendD wB 2 64 (u8s k9)).1
def wD : Dv := crashD wC [0, 5]
theorem wA_2 : (appendD (newD 4 4) 2 64 (u8s k7)).2 = (0, 0) := by decide +kernel
theorem wB_2 : (flushD wA).2 = 0 := by decide +kernel
theorem wC_2 : (appendD wB 2 64 (u8s k9)).2 = (1, 0) := by decide +kernel
theorem wD_r : readE wD 2 1 = 0 := by decide +kernel
theorem wD_w : wrD wD 2 = 2 := by decide +kernel
theorem wD_s : stD wD 2 = 1 := by decide +kernel
theorem wD_o : wD.ops = 3 := by decide +kernel
theorem wD_4 : (blkB wD 2 1).getD 4 0 = 9 := by decide +kernel
theorem wD_5 : (blkB wD 2 1).getD 5 0 = 0 := by decide +kernel
theorem O0 : OkN 4 4 0 (newD 4 4) := OkN.new (z := 4) (b := 4) (by decide)
theorem OA : OkN 4 4 1 wA := O0.append 2 64 (bs := k7) (fun _ => rfl)
theorem OB : OkN 4 4 1 wB := OA.flush
theorem OC : OkN 4 4 2 wC := OB.append 2 64 (bs := k9) (fun _ => rfl)
theorem OD : OkN 4 4 6 wD := OC.crash [0, 5]
theorem okw {L : Nat} {B : Int} {m : Nat} {d : Dv} (h : OkN L B m d) : ∀ i, i < d.zs.length → 0 ≤ (d.zs.getD i z0).wr ∧ (d.zs.getD i z0).wr ≤ 100000 ∧ 0 ≤ (d.zs.getD i z0).lo ∧ (d.zs.getD i z0).lo ≤ 100000 := fun i hi => by
  have := h.ok.wr i hi; have := h.ok.lo i (Nat.zero_le _) hi; have := h.ok.nb; unfold zAt at *; omega
theorem full7 (w : World) : Calls Try.prog 16 #[.int .u8 7] w fun e w' => e = .returned (.slice (some ⟨w.heap.size, 0, none⟩) 64 64) ∧ BB w' w.heap.size k7 ∧ Ext (fun _ => False) w w' := full_raw w 7
theorem full9 (w : World) : Calls Try.prog 16 #[.int .u8 9] w fun e w' => e = .returned (.slice (some ⟨w.heap.size, 0, none⟩) 64 64) ∧ BB w' w.heap.size k9 ∧ Ext (fun _ => False) w w' := full_raw w 9
theorem bb_bytes {w : World} {q : Dp} {b : Nat} {bs : List UInt8} (h : BB w b bs) (hn : ¬ EQ q b) (hl : bs.length = 64) : BytesV w q (some ⟨b, 0, none⟩) 64 (u8s bs) := fun _ => ⟨b, 0, rfl, hn, bb_range h, by simp [u8s, hl]⟩
/-- Append of a block that Full has made. -/
theorem app_full {w : World} {q : Dp} {L : Nat} {B : Int} {m : Nat} {d : Dv} (h : DevAt w q d) (ho : OkN L B m d) (hm : m < 90000) (z : Int) {b : Nat} {bs : List UInt8} (hb : BB w b bs) (hn : ¬ EQ q b) (hl : bs.length = 64) {i e : Int} (hr : (appendD d z 64 (u8s bs)).2 = (i, e)) :
    Calls Try.prog 15 #[.pointer (some ⟨q.p, 0, none⟩), .int .i64 z, .slice (some ⟨b, 0, none⟩) 64 64] w fun en w' => en = .returned (.tuple #[.int .i64 i, .int .i64 e]) ∧ DevAt w' q (appendD d z 64 (u8s bs)).1 ∧ Ext (EQ q) w w' := by
  refine (append_raw h z (bb_bytes hb hn hl) (by have := ho.n; omega) (okw ho)).mono ?_
  rintro en w' ⟨rfl, h1, h2⟩
  rw [hr]
  exact ⟨rfl, h1, h2⟩
theorem fate05 {w : World} {N : Nat → Prop} (hN : ¬ N w.heap.size) (t : TypeId) : FateV (w.alloc (.cells #[.int .u8 0, .int .u8 5] t)) N (.slice (some ⟨w.heap.size, 0, none⟩) 2 2) [0, 5] := by
  refine ⟨_, 2, rfl, by decide, fun _ => ⟨_, 0, rfl, hN, fun j v hv => ?_⟩⟩
  rw [Nat.zero_add]
  have : (w.alloc (.cells #[.int .u8 0, .int .u8 5] t)).heap[w.heap.size]? = some (.cells #[.int .u8 0, .int .u8 5] t) := by rw [alloc_get, if_pos rfl]
  rw [cell_of_block this]
  simpa [u8s] using hv
theorem app7 {w : World} {q : Dp} (h : DevAt w q (newD 4 4)) {b : Nat} (hb : BB w b k7) (hn : ¬ EQ q b) :
    Calls Try.prog 15 #[.pointer (some ⟨q.p, 0, none⟩), .int .i64 2, .slice (some ⟨b, 0, none⟩) 64 64] w fun en w' => en = .returned (.tuple #[.int .i64 0, .int .i64 0]) ∧ DevAt w' q wA ∧ Ext (EQ q) w w' := by
  unfold wA
  exact app_full h O0 (by omega) 2 hb hn (by simp [k7]) wA_2
theorem app9 {w : World} {q : Dp} (h : DevAt w q wB) {b : Nat} (hb : BB w b k9) (hn : ¬ EQ q b) :
    Calls Try.prog 15 #[.pointer (some ⟨q.p, 0, none⟩), .int .i64 2, .slice (some ⟨b, 0, none⟩) 64 64] w fun en w' => en = .returned (.tuple #[.int .i64 1, .int .i64 0]) ∧ DevAt w' q wC ∧ Ext (EQ q) w w' := by
  unfold wC
  exact app_full h OB (by omega) 2 hb hn (by simp [k9]) wC_2
theorem flushW {w : World} {q : Dp} (h : DevAt w q wA) : Calls Try.prog 14 #[.pointer (some ⟨q.p, 0, none⟩)] w fun e w' => e = .returned (.int .i64 0) ∧ DevAt w' q wB ∧ Ext (EQ q) w w' := by
  refine (flush_raw h).mono ?_
  rintro e w' ⟨rfl, h1, h2⟩
  rw [wB_2]
  exact ⟨rfl, h1, h2⟩
theorem crashW {w : World} {q : Dp} (h : DevAt w q wC) {v : Value} (hf : FateV w (EQ q) v [0, 5]) : Calls Try.prog 12 #[.pointer (some ⟨q.p, 0, none⟩), v] w fun e w' => e = .returned (.tuple #[]) ∧ DevAt w' q wD ∧ Ext (EQ q) w w' := by
  unfold wD
  exact crash_raw h OC.ok (by have := OC.n; omega) hf
theorem readW {w : World} {q : Dp} (h : DevAt w q wD) : Calls Try.prog 19 #[.pointer (some ⟨q.p, 0, none⟩), .int .i64 2, .int .i64 1] w fun e w' => ∃ b, e = .returned (.tuple #[.slice (some ⟨b, 0, none⟩) 64 64, .int .i64 0]) ∧ w'.cell? ⟨b, 4, none⟩ = some (.int .u8 9) ∧ w'.cell? ⟨b, 5, none⟩ = some (.int .u8 0) ∧ Ext (fun _ => False) w w' := by
  obtain ⟨bs, hbs⟩ := OD.ok.b 2 (by have := OD.len; omega) 1 (by decide +kernel)
  have hbs' : BlkIs wD 2 1 bs := hbs
  have hw4 := wD_4
  have hw5 := wD_5
  rw [blkB_of hbs'] at hw4 hw5
  have hbl := hbs'.2
  refine (read_raw h 2 1 bs (fun _ => hbs') ⟨by omega, by omega⟩).mono ?_
  rintro e w' ⟨hx, h1⟩
  rcases h1 with ⟨h1, _⟩ | ⟨_, b, te, rfl, _, hb⟩
  · exact absurd wD_r h1
  · refine ⟨b, rfl, ?_, ?_, hx⟩
    · rw [cell_of_block hb]
      have : bs[4]? = some 9 := by rw [← hw4, List.getD_eq_getElem?_getD, List.getElem?_eq_getElem (by omega)]; rfl
      simp [u8s, this]
    · rw [cell_of_block hb]
      have : bs[5]? = some 0 := by rw [← hw5, List.getD_eq_getElem?_getD, List.getElem?_eq_getElem (by omega)]; rfl
      simp [u8s, this]
theorem writW {w : World} {q : Dp} (h : DevAt w q wD) : Calls Try.prog 17 #[.pointer (some ⟨q.p, 0, none⟩), .int .i64 2] w fun e w' => e = .returned (.int .i64 2) ∧ w' = w := by
  have := written_raw h 2
  rw [wD_w] at this
  exact this
theorem statW {w : World} {q : Dp} (h : DevAt w q wD) : Calls Try.prog 21 #[.pointer (some ⟨q.p, 0, none⟩), .int .i64 2] w fun e w' => e = .returned (.int .u8 1) ∧ Ext (fun _ => False) w w' := by
  have := state_raw h 2
  rw [wD_s] at this
  exact this
theorem opsW {w : World} {q : Dp} (h : DevAt w q wD) : Calls Try.prog 35 #[.pointer (some ⟨q.p, 0, none⟩)] w fun e w' => e = .returned (.int .i64 3) ∧ w' = w := by
  have := ops_raw h
  rw [wD_o] at this
  exact this
end Go.Proofs.Ytifemhfpcichfaa

/- Zone: the law's own run on a fixed device: the walk. -/

set_option linter.unusedSimpArgs false
set_option linter.unusedVariables false
set_option maxHeartbeats 4000000
set_option maxRecDepth 1000000
namespace Go.Proofs.Ytifemhfpcichfaa
open Go.RowKit
open Go.Av Go.Maps

theorem awake_raw (w : World) : Calls Try.prog 9 #[] w fun e w' => e = .returned (.bool true) ∧ Ext (fun _ => False) w w' := by
  go_enter Try.func9, Try.ntmps9
  go_wp2_with (first
    | (go_at_call 35; refine (opsW HD10.out).mono ?_; rintro e w11 ⟨rfl, h11⟩; obtain rfl := h11; simp only [])
    | (go_at_call 21; refine (statW HD8.out).mono ?_; rintro e w10 ⟨rfl, hx10⟩; have HD10 := asideI (HD8.out.ext hx10); have HX10 := asideI (HX8.out.trans (extQ hx10)); clear hx10; simp only [])
    | (go_at_call 17; refine (writW HD8.out).mono ?_; rintro e w9 ⟨rfl, h9⟩; obtain rfl := h9; simp only [])
    | (go_at_call 19; refine (readW HD7.out).mono ?_; rintro e w8 ⟨b, rfl, c4, c5, hx8⟩; have HD8 := asideI (HD7.out.ext hx8); have HX8 := asideI (HX7.out.trans (extQ hx8)); clear hx8; simp only [])
    | (go_at_call 12; refine (crashW (HD6.out.ext (ext_alloc1 _ _)) (fate05 (HL1.out _ HX6.out.size) _)).mono ?_; rintro e w7 ⟨rfl, hd7, hx7⟩; have HD7 := asideI hd7; have HX7 := asideI ((HX6.out.trans (extQ (ext_alloc1 _ _))).trans hx7); clear hd7 hx7; simp only [])
    | (go_at_call 15; refine (app9 (HD4.out.ext HX5.out) HB5.out (HL1.out _ HX4.out.size)).mono ?_; rintro e w6 ⟨rfl, hd6, hx6⟩; have HD6 := asideI hd6; have HX6 := asideI ((HX4.out.trans (extQ HX5.out)).trans hx6); clear hd6 hx6; simp only [])
    | (go_at_call 16; refine (full9 w4).mono ?_; rintro e w5 ⟨rfl, hb5, hx5⟩; have HB5 := asideI hb5; have HX5 := asideI hx5; clear hb5 hx5; simp only [])
    | (go_at_call 14; refine (flushW HD3.out).mono ?_; rintro e w4 ⟨rfl, hd4, hx4⟩; have HD4 := asideI hd4; have HX4 := asideI (HX3.out.trans hx4); clear hd4 hx4; simp only [])
    | (go_at_call 15; refine (app7 (HD1.out.ext HX2.out) HB2.out (HL1.out _ (Nat.le_refl _))).mono ?_; rintro e w3 ⟨rfl, hd3, hx3⟩; have HD3 := asideI hd3; have HX3 := asideI ((extQ HX2.out).trans hx3); clear hd3 hx3; simp only [])
    | (go_at_call 16; refine (full7 w1).mono ?_; rintro e w2 ⟨rfl, hb2, hx2⟩; have HB2 := asideI hb2; have HX2 := asideI hx2; clear hb2 hx2; simp only [])
    | (go_at_call 23; refine (new_raw w 4 4).mono ?_
       rintro e w1 ⟨hx1, h1⟩
       rcases h1 with ⟨h1, _⟩ | ⟨_, q, rfl, hq1, hd1⟩
       · exact absurd h1 (by decide)
       have HX1 := asideI hx1
       have HD1 := asideI hd1
       have HQ1 : Aside (∀ k, EQ q k → w.heap.size ≤ k) := hq1
       have HL1 : Aside (∀ W, w1.heap.size ≤ W → ¬ EQ q W) := fun W hW e => by obtain ⟨l0, l1, l2⟩ := hd1.lt; rcases e with e | e | e <;> omega
       clear hx1 hd1 hq1
       simp only [])
    | go_in)
  go_ret
  exact ⟨rfl, extF HX1.out HX10.out HQ1.out⟩
end Go.Proofs.Ytifemhfpcichfaa

/- Zone: a law's calls, as they stand in memory; the devices beside what a law holds. -/

set_option linter.unusedSimpArgs false
set_option linter.unusedVariables false
set_option maxHeartbeats 4000000
set_option maxRecDepth 1000000
namespace Go.Proofs.Ytifemhfpcichfaa
open Go.RowKit
open Go.Av Go.Maps

def acC (a : ActD) : List SV := [.int .u8 a.k.toNat, .int .i64 a.z, .int .i64 a.n, .int .u8 a.c.toNat, .int .u8 a.cut.toNat, .bool a.done, .sl 1 (FL a.fs)]
def acS (a : ActD) : SV := .agg (acC a)
def AcL (l : List ActD) : List SV := l.map acS
@[simp] theorem AcL_length (l : List ActD) : (AcL l).length = l.length := by simp [AcL]
/-- Bytes in memory, as a fate. -/
theorem fate_of {mu : Mem} {w : World} (hm : MemOK mu w) {fs : List UInt8} {v : Value} (h : Rep mu (.sl 1 (FL fs)) v) : ∃ p c, v = .slice p fs.length c ∧ FtV w (fun k => w.heap.size ≤ k) v fs := by
  rcases h.inv_sl with ⟨⟨p, cap, rfl, hp⟩, hx⟩ | ⟨b, off, cap, vals, rfl, h1, h2, h3, h4⟩
  · have e : fs = [] := by cases fs with | nil => rfl | cons a r => simp [FL] at hx
    subst e
    exact ⟨p, cap, rfl, ⟨p, cap, rfl, Nat.zero_le _, fun hn => absurd rfl hn⟩, fun c hc => by cases hc; exact hp rfl⟩
  · rw [FL_length] at h1 h3 h4 ⊢
    refine ⟨_, cap, rfl, ⟨_, cap, rfl, h1, fun hn => ⟨b, off, rfl, ?_, ?_⟩⟩, fun c hc => by cases hc⟩
    · intro hb
      cases fs with
      | nil => exact hn rfl
      | cons a r =>
        have := hm.lt (h3 0 0 (by simp) (by omega))
        omega
    · intro j u hu
      have hj : j < fs.length := by
        have := (List.getElem?_eq_some_iff.1 hu).1
        simpa [u8s] using this
      have q := h4 j 0 hj (by omega)
      have q2 := h3 j 0 hj (by omega)
      rw [show ((FL fs).getD j .undef).cell 0 = .int .u8 (fs[j]).toNat by simp [FL, List.getD_eq_getElem?_getD, hj, SV.cell, SV.cells]] at q
      rw [q.inv_int] at q2
      rw [show off + j * 1 + 0 = off + j by omega] at q2
      rw [(hm _ _ _ q2).1]
      rw [← hu]
      simp [u8s, hj]
/-- The seven cells of a call. -/
def C7 (w : World) (b o : Nat) (a : ActD) (p : Option Addr) (n c : Nat) : Prop :=
  w.cell? ⟨b, o, none⟩ = some (.int .u8 a.k.toNat) ∧ w.cell? ⟨b, o + 1, none⟩ = some (.int .i64 a.z) ∧ w.cell? ⟨b, o + 2, none⟩ = some (.int .i64 a.n) ∧ w.cell? ⟨b, o + 3, none⟩ = some (.int .u8 a.c.toNat) ∧ w.cell? ⟨b, o + 4, none⟩ = some (.int .u8 a.cut.toNat) ∧ w.cell? ⟨b, o + 5, none⟩ = some (.bool a.done) ∧ w.cell? ⟨b, o + 6, none⟩ = some (.slice p n c)
theorem C7.ext {w w' : World} {b o : Nat} {a : ActD} {p : Option Addr} {n c : Nat} (h : C7 w b o a p n c) (k : Ext (fun _ => False) w w') : C7 w' b o a p n c := by
  obtain ⟨h0, h1, h2, h3, h4, h5, h6⟩ := h
  have hb := World.block_lt_of_cell? w _ h0
  have e : w'.heap[b]? = w.heap[b]? := k.block b hb id
  exact ⟨(World.cell?_of_block e).trans h0, (World.cell?_of_block e).trans h1, (World.cell?_of_block e).trans h2, (World.cell?_of_block e).trans h3, (World.cell?_of_block e).trans h4, (World.cell?_of_block e).trans h5, (World.cell?_of_block e).trans h6⟩
def ac0 : ActD := ⟨0, 0, 0, 0, 0, false, []⟩
theorem acts_at {mu : Mem} {w : World} (hm : MemOK mu w) {l : List ActD} {v : Value} (h : Rep mu (.sl 7 (AcL l)) v) :
    ∃ p cap, v = .slice p l.length cap ∧ ∀ i, i < l.length → ∃ b off fp fc, p = some ⟨b, off, none⟩ ∧ b < w.heap.size ∧ C7 w b (off + i * 7) (l.getD i ac0) fp (l.getD i ac0).fs.length fc ∧ FtV w (fun k => w.heap.size ≤ k) (.slice fp (l.getD i ac0).fs.length fc) (l.getD i ac0).fs := by
  rcases h.inv_sl with ⟨⟨p, cap, rfl, hp⟩, hx⟩ | ⟨b, off, cap, vals, rfl, h1, h2, h3, h4⟩
  · have e : l = [] := by cases l with | nil => rfl | cons a r => simp [AcL] at hx
    subst e
    exact ⟨p, cap, rfl, fun i hi => by simp at hi⟩
  · rw [AcL_length] at h1 h3 h4 ⊢
    refine ⟨_, cap, rfl, fun i hi => ?_⟩
    have hg : (AcL l).getD i .undef = acS (l.getD i ac0) := by simp [AcL, List.getD_eq_getElem?_getD, hi]
    generalize l.getD i ac0 = a at hg ⊢
    have hc : ∀ j, j < 7 → mu b (off + i * 7 + j) = some (vals i j) ∧ Rep mu ((acC a).getD j .undef) (vals i j) := fun j hj => by
      have := h4 i j hi hj
      rw [hg] at this
      exact ⟨h3 i j hi hj, this⟩
    have r6 : Rep mu (.sl 1 (FL a.fs)) (vals i 6) := (hc 6 (by omega)).2
    obtain ⟨fp, fc, e6, hf⟩ := fate_of hm r6
    have hcell : ∀ j, j < 7 → w.cell? ⟨b, off + i * 7 + j, none⟩ = some (vals i j) := fun j hj => (hm _ _ _ (hc j hj).1).1
    have e0 : vals i 0 = .int .u8 a.k.toNat := Rep.inv_int (hc 0 (by omega)).2
    have e1 : vals i 1 = .int .i64 a.z := Rep.inv_int (hc 1 (by omega)).2
    have e2 : vals i 2 = .int .i64 a.n := Rep.inv_int (hc 2 (by omega)).2
    have e3 : vals i 3 = .int .u8 a.c.toNat := Rep.inv_int (hc 3 (by omega)).2
    have e4 : vals i 4 = .int .u8 a.cut.toNat := Rep.inv_int (hc 4 (by omega)).2
    have e5 : vals i 5 = .bool a.done := Rep.inv_bool (hc 5 (by omega)).2
    refine ⟨b, off, fp, fc, rfl, hm.lt (hc 0 (by omega)).1, ⟨?_, ?_, ?_, ?_, ?_, ?_, ?_⟩, by rw [← e6]; exact hf⟩
    · rw [← e0]; exact hcell 0 (by omega)
    · rw [← e1]; exact hcell 1 (by omega)
    · rw [← e2]; exact hcell 2 (by omega)
    · rw [← e3]; exact hcell 3 (by omega)
    · rw [← e4]; exact hcell 4 (by omega)
    · rw [← e5]; exact hcell 5 (by omega)
    · rw [← e6]; exact hcell 6 (by omega)
theorem FtV.sub {w : World} {N M : Nat → Prop} {v : Value} {fs : List UInt8} (h : FtV w N v fs) (k : ∀ b, M b → N b) : FtV w M v fs := ⟨h.1.sub k, h.2⟩
/-- Other blocks are held apart. -/
theorem Both.reG {w w' : World} {q : Dp} {G M : Nat → Prop} {L : Nat} {B : Int} {m : Nat} {d : Dv} {r : RDv} {x : Value} (h : Both w q G L B m d r x) (k : Ext (fun _ => False) w w') (hM : ∀ b, M b → b < w'.heap.size ∧ (G b ∨ w.heap.size ≤ b)) : Both w' q M L B m d r x :=
  ⟨h.at_.ext k, h.ok, ((h.ref.fresh w'.heap.size).ext k).sub (fun b e => by
    rcases e with e | e
    · exact .inl (.inl e)
    · obtain ⟨h1, h2⟩ := hM b e
      rcases h2 with h2 | h2
      · exact .inl (.inr h2)
      · exact .inr ⟨h2, h1⟩), h.rn, fun b e => (hM b e).1⟩
/-- What is held apart may be written to. -/
theorem Both.keepT {w w' : World} {q : Dp} {G T : Nat → Prop} {L : Nat} {B : Int} {m : Nat} {d : Dv} {r : RDv} {x : Value} (h : Both w q G L B m d r x) (k : Ext T w w') (hT : ∀ b, T b → G b ∧ ¬ EQ q b) : Both w' q G L B m d r x :=
  ⟨h.at_.keep k fun b e t => (hT b t).2 e, h.ok, h.ref.keepT k fun b _ t => .inl (.inr (hT b t).1), h.rn, fun b e => Nat.lt_of_lt_of_le (h.lt b e) k.size⟩
end Go.Proofs.Ytifemhfpcichfaa

/- Zone: what the three laws share. -/

set_option linter.unusedSimpArgs false
set_option linter.unusedVariables false
set_option maxHeartbeats 4000000
set_option maxRecDepth 1000000
namespace Go.Proofs.Ytifemhfpcichfaa
open Go.RowKit
open Go.Av Go.Maps

/-- A law returns true, and changes nothing. -/
def LawP (w : World) (e : Ending) (w' : World) : Prop := e = .returned (.bool true) ∧ Ext (fun _ => False) w w'
theorem pure_true {f : FuncId} {args : List SV} (h : ∀ (mu : Mem) (w : World) (vs : List Value), MemOK mu w → RepArgs mu args vs → Calls Try.prog f vs.toArray w (LawP w)) : Pure Try.prog f args (.sv (.bool true)) := by
  intro mu w vs hm hr
  refine (h mu w vs hm hr).mono ?_
  rintro e w' ⟨rfl, hx⟩
  refine ⟨_, mu, rfl, hx, Mem.le_refl _, fun b j v hv => ?_, fun _ _ _ => rfl, fun _ => none, .bool true, fun b p h => by cases h⟩
  obtain ⟨h1, h2⟩ := hm b j v hv
  exact ⟨(World.cell?_of_block (hx.block b (hm.lt hv) id)).trans h1, h2⟩
def rcells (p : Option Addr) (n c : Nat) (r : RDv) : Array Value := #[.slice p n c, .int .i64 r.n, .bool r.down, .int .i64 r.ops, .int .i64 r.fails, .bool r.done]
/-- What holds ahead of each call of a law's list. -/
structure LInv (wl : World) (q : Dp) (g : Nat) (L : Nat) (B : Int) (k : Nat) (wr : World) : Prop where
  both : ∃ d r p n c, Both wr q (fun b => b = g) L B (100 * k) d r (rval (.slice p n c) r) ∧ wr.heap[g]? = some (.cells (rcells p n c r) 29)
  ext : Ext (fun b => EQ q b ∨ b = g) wl wr
/-- The laws' worlds behind the beginning: the device is new, so is the document's box. -/
structure Beg (w0 wl : World) (q : Dp) (g : Nat) : Prop where
  ext : Ext (fun _ => False) w0 wl
  hq : ∀ b, EQ q b → w0.heap.size ≤ b
  hg : w0.heap.size ≤ g
  gq : ¬ EQ q g
theorem beg_start {w0 w1 : World} {q : Dp} {p : Option Addr} {n c : Nat} {z b : Int} {L : Nat} (hL : L = z.toNat) (h : Both w1 q (fun k => k < w0.heap.size) z.toNat b 0 (newD z b) (rnewD z b) (rval (.slice p n c) (rnewD z b))) (hq : ∀ k, EQ q k → w0.heap.size ≤ k) (hx : Ext (fun _ => False) w0 w1) :
    Beg w0 (w1.alloc (.cells (rcells p n c (rnewD z b)) 29)) q w1.heap.size ∧ LInv (w1.alloc (.cells (rcells p n c (rnewD z b)) 29)) q w1.heap.size L b 0 (w1.alloc (.cells (rcells p n c (rnewD z b)) 29)) := by
  subst hL
  have hlt := h.at_.lt
  have n0 : ¬ EQ q w1.heap.size := fun e => by rcases e with e | e | e <;> omega
  refine ⟨⟨hx.trans (ext_alloc1 _ _), hq, hx.size, n0⟩, ⟨⟨_, _, p, n, c, h.reG (ext_alloc1 _ _) ?_, ?_⟩, Ext.refl _ _⟩⟩
  · rintro b rfl
    exact ⟨by simp, .inr (Nat.le_refl _)⟩
  · rw [alloc_get, if_pos rfl]
theorem Beg.old {w0 wl wr : World} {q : Dp} {g : Nat} (h : Beg w0 wl q g) {T : Nat → Prop} (k : Ext T wl wr) (hT : ∀ b, T b → EQ q b ∨ b = g ∨ w0.heap.size ≤ b) : Ext (fun _ => False) w0 wr :=
  extF h.ext k fun b e => by
    rcases hT b e with e | e | e
    · exact h.hq b e
    · rw [e]; exact h.hg
    · exact e
/-- A call has been carried out, and the document's device is stored. -/
theorem LInv.next {wl wr w2 : World} {q : Dp} {g : Nat} {L : Nat} {B : Int} {k m : Nat} (h : Ext (fun b => EQ q b ∨ b = g) wl wr) (ng : ¬ EQ q g) {d : Dv} {r : RDv} {p : Option Addr} {n c : Nat} (hb : Both w2 q (fun b => b = g) L B m d r (rval (.slice p n c) r)) (hm : m ≤ 100 * (k + 1)) (hx : Ext (EQ q) wr w2)
    {p0 : Option Addr} {n0 c0 : Nat} {r0 : RDv} (hg : wr.heap[g]? = some (.cells (rcells p0 n0 c0 r0) 29)) {Z : World} (hZ : Z = set6 w2 g (.slice p n c) r.n r.down r.ops r.fails r.done) : LInv wl q g L B (k + 1) Z := by
  subst hZ
  have h3 := set6_ext w2 g (.slice p n c) r.n r.down r.ops r.fails r.done
  have hlt := (Array.getElem?_eq_some_iff.1 hg).1
  have hg2 := (hx.block g hlt ng).trans hg
  refine ⟨⟨d, r, p, n, c, (hb.mono hm).keepT h3 (fun b e => ⟨e, by rw [e]; exact ng⟩), set6_same _ hg2 _ _ _ _ _ _⟩, (h.trans (hx.mono fun _ e => .inl e)).trans (h3.mono fun _ e => .inr e)⟩
end Go.Proofs.Ytifemhfpcichfaa

/- Zone: what fits a list of calls. -/


set_option linter.unusedSimpArgs false
set_option linter.unusedVariables false
set_option maxHeartbeats 4000000
namespace Go.Proofs.Ytifemhfpcichfaa

open Go.Av
theorem wfi64 {n : Int} (h : (Lit.int .i64 n).wf = true) : I64 n := by
  simp [Lit.wf, IntKind.min, IntKind.max, IntKind.signed, IntKind.bits] at h
  exact ⟨by omega, by omega⟩
theorem wfu8 {n : Int} (h : (Lit.int .u8 n).wf = true) : ∃ b : UInt8, n = b.toNat := by
  simp [Lit.wf, IntKind.min, IntKind.max, IntKind.signed, IntKind.bits] at h
  exact ⟨UInt8.ofNat n.toNat, by simp; omega⟩
def WkM (a b : SV) : Prop := ∀ (mu : Mem) (v : Value), Rep mu a v → Rep mu b v
theorem WkM.refl (a : SV) : WkM a a := fun _ _ h => h
theorem wkM_agg {l m : List SV} (hl : l.length = m.length) (h : ∀ j, j < l.length → WkM (l.getD j .undef) (m.getD j .undef)) : WkM (.agg l) (.agg m) := by
  intro mu v hr
  cases hr with
  | agg cs vs h1 h2 => exact .agg m vs (by omega) (fun j hj => h j (by omega) mu _ (h2 j (by omega)))
theorem wkM_nils (z : Nat) : WkM .nils (.sl z []) := fun mu v h => by rw [h.inv_nils]; exact .slnil z
theorem wkM_sl {z : Nat} {xs ys : List SV} (hl : xs.length = ys.length) (hn : ∀ y ∈ ys, y.nc = z) (h : ∀ i j, i < xs.length → j < z → WkM ((xs.getD i .undef).cell j) ((ys.getD i .undef).cell j)) : WkM (.sl z xs) (.sl z ys) := by
  intro mu v hr
  rcases hr.inv_sl with ⟨⟨p, cap, rfl, hp⟩, hx⟩ | ⟨b0, off, cap, vals, rfl, h1, h2, h3, h4⟩
  · subst hx
    have : ys = [] := by cases ys with | nil => rfl | cons a r => simp at hl
    subst this
    cases p with
    | none => rw [hp rfl]; exact .slnil _
    | some a => exact .sle _ _ _
  · rw [hl] at h1 h3 h4 ⊢
    exact .sl z ys b0 off cap vals h1 hn h3 (fun i j hi hj => h i j (by omega) hj mu _ (h4 i j hi hj))
theorem pure_wkM {P : Program} {f : FuncId} {rv : LV} {l m : List SV} (hl : l.length = m.length) (h : ∀ j, j < l.length → WkM (l.getD j .undef) (m.getD j .undef)) (p : Pure P f m rv) : Pure P f l rv :=
  fun mu w vs hm hr => p mu w vs hm ⟨by rw [hr.1]; exact hl, fun j hj => h j (by omega) mu _ (hr.2 j (by omega))⟩
theorem has_bys : ∀ {xs : List SV}, (∀ x ∈ xs, x = mkE x.cells ∧ (Sh.int .u8).has x.cells) → ∃ l : List UInt8, xs = FL l
  | [], _ => ⟨[], rfl⟩
  | x :: xs, h => by
    obtain ⟨l, rfl⟩ := has_bys (xs := xs) (fun y hy => h y (by simp [hy]))
    obtain ⟨he, n, hn, hw⟩ := h x (by simp)
    rw [hn] at he
    obtain ⟨b, rfl⟩ := wfu8 hw
    exact ⟨b :: l, by rw [he]; rfl⟩
theorem has_fate {l : List SV} (h : (Sh.sl (.int .u8)).has l) : ∃ (x : SV) (fs : List UInt8), l = [x] ∧ WkM x (.sl 1 (FL fs)) := by
  simp only [Sh.has] at h
  rcases h with rfl | ⟨xs, rfl, _, hx⟩
  · exact ⟨.nils, [], rfl, wkM_nils 1⟩
  · obtain ⟨fs, rfl⟩ := has_bys (xs := xs) (fun x hm => by have := hx x hm; simp only [Sh.has]; exact this)
    exact ⟨_, fs, rfl, WkM.refl _⟩
theorem has_fateV {v : SV} (h : (Sh.sl (.int .u8)).hasV v) : ∃ fs : List UInt8, WkM v (.sl 1 (FL fs)) := by
  obtain ⟨x, fs, e, hw⟩ := has_fate (show (Sh.sl (.int .u8)).has [v] from h)
  cases e
  exact ⟨fs, hw⟩
abbrev shAct : Sh := .st [.int .u8, .int .i64, .int .i64, .int .u8, .int .u8, .bool, .sl (.int .u8)]
theorem has_actL {l : List SV} (h : Sh.hasL [.int .u8, .int .i64, .int .i64, .int .u8, .int .u8, .bool, .sl (.int .u8)] l) : ∃ a : ActD, l.length = 7 ∧ ∀ j, j < 7 → WkM (l.getD j .undef) ((acC a).getD j .undef) := by
  simp only [Sh.hasL] at h
  obtain ⟨_, _, rfl, ⟨k, rfl, w1⟩, _, _, rfl, ⟨z, rfl, _⟩, _, _, rfl, ⟨n, rfl, _⟩, _, _, rfl, ⟨c, rfl, w4⟩, _, _, rfl, ⟨cu, rfl, w5⟩, _, _, rfl, ⟨dn, rfl⟩, x, _, rfl, hx, rfl⟩ := h
  obtain ⟨x', fs, rfl, hw⟩ := has_fate hx
  obtain ⟨k', rfl⟩ := wfu8 w1
  obtain ⟨c', rfl⟩ := wfu8 w4
  obtain ⟨cu', rfl⟩ := wfu8 w5
  refine ⟨⟨k', z, n, c', cu', dn, fs⟩, rfl, fun j hj => ?_⟩
  match j, hj with
  | 0, _ => exact WkM.refl _
  | 1, _ => exact WkM.refl _
  | 2, _ => exact WkM.refl _
  | 3, _ => exact WkM.refl _
  | 4, _ => exact WkM.refl _
  | 5, _ => exact WkM.refl _
  | 6, _ => exact hw
theorem has_act {v : SV} (h : shAct.hasV v) : ∃ a : ActD, WkM v (acS a) := by
  obtain ⟨l, rfl, h⟩ := h
  obtain ⟨a, hl, hw⟩ := has_actL h
  exact ⟨a, wkM_agg hl (fun j hj => hw j (by omega))⟩
theorem has_acts : ∀ {xs : List SV}, (∀ x ∈ xs, x = mkE x.cells ∧ shAct.has x.cells) → ∃ l : List ActD, xs.length = l.length ∧ ∀ i j, i < xs.length → j < 7 → WkM ((xs.getD i .undef).cell j) ((acS (l.getD i ac0)).cell j)
  | [], _ => ⟨[], rfl, fun i j hi => by simp at hi⟩
  | x :: xs, h => by
    obtain ⟨l, hl, hw⟩ := has_acts (xs := xs) (fun y hy => h y (by simp [hy]))
    obtain ⟨he, hx⟩ := h x (by simp)
    simp only [Sh.has] at hx
    obtain ⟨a, h7, ha⟩ := has_actL hx
    refine ⟨a :: l, by simp [hl], fun i j hi hj => ?_⟩
    cases i with
    | zero => exact ha j hj
    | succ i => simpa using hw i j (by simpa using hi) hj
theorem has_actsV {v : SV} (h : (Sh.sl shAct).hasV v) : ∃ l : List ActD, WkM v (.sl 7 (AcL l)) := by
  have h' : (Sh.sl shAct).has [v] := h
  simp only [Sh.has] at h'
  rcases h' with h' | ⟨xs, h', _, hx⟩
  · cases h'
    exact ⟨[], wkM_nils 7⟩
  · cases h'
    obtain ⟨l, hl, hw⟩ := has_acts (xs := xs) (fun x hm => by have := hx x hm; simp only [Sh.has]; exact this)
    refine ⟨l, wkM_sl (by simpa using hl) (fun y hy => ?_) (fun i j hi hj => ?_)⟩
    · obtain ⟨a, _, rfl⟩ := List.mem_map.1 hy; rfl
    · have := hw i j hi hj
      rwa [show (AcL l).getD i .undef = acS (l.getD i ac0) by simp [AcL, List.getD_eq_getElem?_getD, show i < l.length by omega]]
theorem has_two {v : SV} (h : (Sh.st [.int .u8, .int .u8]).hasV v) : ∃ m n : UInt8, v = .agg [.int .u8 m.toNat, .int .u8 n.toNat] := by
  obtain ⟨l, rfl, h⟩ := h
  have h' : Sh.hasL [.int .u8, .int .u8] l := h
  simp only [Sh.hasL] at h'
  obtain ⟨_, _, rfl, ⟨m, rfl, w1⟩, _, _, rfl, ⟨n, rfl, w2⟩, rfl⟩ := h'
  obtain ⟨m', rfl⟩ := wfu8 w1
  obtain ⟨n', rfl⟩ := wfu8 w2
  exact ⟨m', n', rfl⟩
end Go.Proofs.Ytifemhfpcichfaa

/- Zone: behind a crash, a reset; what a zone's calls leave of the others (plain). -/

set_option linter.unusedSimpArgs false
set_option linter.unusedVariables false
set_option maxHeartbeats 4000000
set_option maxRecDepth 1000000
namespace Go.Proofs.Ytifemhfpcichfaa
open Go.RowKit
open Go.Av Go.Maps

theorem crash_fresh (d : Dv) (fs : List UInt8) : (crashD d fs).down = false ∧ (crashD d fs).fails = -1 := ⟨rfl, rfl⟩
theorem hasZ_of {d : Dv} {z : Nat} (h : z < d.zs.length) : hasZ d z = true := by simp [hasZ]; omega
theorem at_fresh {d : Dv} (hd : d.down = false) {z : Nat} (hz : z < d.zs.length) : atD d z = 0 := by
  rcases at_cases d z with ⟨h1, _⟩ | ⟨_, h1, _⟩ | ⟨_, _, h1⟩
  · rw [hd] at h1; cases h1
  · rw [hasZ_of hz] at h1; cases h1
  · exact h1
theorem step_fresh {d x : Dv} (hf : d.fails = -1) : stepD d x = (x, 0) := by
  unfold stepD
  rw [if_neg (by omega)]
theorem reset_fresh {d : Dv} (hd : d.down = false) (hf : d.fails = -1) {z : Nat} (hz : z < d.zs.length) : resetD d z = (emptyD (tick1 d) z, 0) := by
  unfold resetD
  rw [at_fresh hd hz, if_neg (by simp), step_fresh hf]
  rfl
theorem empty_zAt (d : Dv) {z : Nat} (hz : z < d.zs.length) : (emptyD (tick1 d) z).zs.getD z z0 = ⟨0, 0, false⟩ := by
  simp [emptyD, tick1, List.getD_eq_getElem?_getD, hz]
/-- A zone that was just reset. -/
theorem empty_looks {d : Dv} {z : Nat} (hz : z < d.zs.length) (hb : d.nb ≠ 0) : stD (emptyD (tick1 d) z) z = 0 ∧ wrD (emptyD (tick1 d) z) z = 0 ∧ loD (emptyD (tick1 d) z) z = 0 := by
  have h1 : hasZ (emptyD (tick1 d) z) z = true := hasZ_of (by simp [emptyD, tick1]; exact hz)
  have h2 := empty_zAt d hz
  have h3 : ((z : Int)).toNat = z := by omega
  have h4 : (emptyD (tick1 d) z).nb = d.nb := rfl
  unfold stD wrD loD
  rw [if_pos h1, if_pos h1, if_pos h1, h3, h2, h4]
  refine ⟨?_, rfl, rfl⟩
  unfold stZ
  rw [if_neg (by simp; omega), if_pos rfl]
/-- Another zone is as it was. -/
def SameAt (d e : Dv) (z : Nat) : Prop := e.zs.length = d.zs.length ∧ e.nb = d.nb ∧ e.zs.getD z z0 = d.zs.getD z z0
theorem SameAt.looks {d e : Dv} {z : Nat} (h : SameAt d e z) : stD e z = stD d z ∧ wrD e z = wrD d z ∧ loD e z = loD d z := by
  obtain ⟨h1, h2, h3⟩ := h
  have h4 : ((z : Int)).toNat = z := by omega
  unfold stD wrD loD hasZ
  rw [h1, h2, h4, h3]
  exact ⟨rfl, rfl, rfl⟩
theorem SameAt.refl (d : Dv) (z : Nat) : SameAt d d z := ⟨rfl, rfl, rfl⟩
theorem SameAt.step {d x : Dv} {z : Nat} (h : SameAt d x z) : SameAt d (stepD d x).1 z := by
  unfold stepD
  split
  · split
    · exact h
    · exact ⟨rfl, rfl, rfl⟩
  · exact h
theorem set_other (l : List Zn) (y : Zn) {z i : Nat} (h : i ≠ z) : (l.set i y).getD z z0 = l.getD z z0 := by
  rw [List.getD_eq_getElem?_getD, List.getD_eq_getElem?_getD, List.getElem?_set_ne h]
theorem doD_other (d : Dv) (a : ActD) (h4 : ¬ a.k.toNat % 9 = 4) (h6 : a.k.toNat % 9 ≤ 6) (z : Nat) (hz : (z : Int) ≠ a.z) : SameAt d (doD d a) z := by
  have hne : ∀ {i : Nat}, a.z = i → i ≠ z := fun e q => hz (by omega)
  unfold doD
  rw [if_neg h4]
  by_cases h5 : a.k.toNat % 9 = 5
  · rw [if_pos h5]
    unfold resetD
    split
    · exact SameAt.refl _ _
    · rename_i h
      obtain ⟨_, i, hi, hl, _⟩ := at_zero h
      rw [hi, show ((i : Int)).toNat = i by omega]
      exact SameAt.step ⟨by simp [emptyD, tick1], rfl, set_other _ _ (hne hi)⟩
  rw [if_neg h5]
  by_cases h66 : a.k.toNat % 9 = 6
  · rw [if_pos h66]
    unfold finishD
    split
    · exact SameAt.refl _ _
    · rename_i h
      obtain ⟨_, i, hi, hl, _⟩ := at_zero h
      rw [hi, show ((i : Int)).toNat = i by omega]
      exact SameAt.step ⟨by simp [finZ, tick1], rfl, set_other _ _ (hne hi)⟩
  rw [if_neg h66, if_neg (by omega), if_neg (by omega)]
  unfold appendD
  split
  · exact SameAt.refl _ _
  · rename_i h
    obtain ⟨_, i, hi, hl, _⟩ := at_zero h
    rw [hi, show ((i : Int)).toNat = i by omega]
    have hs : SameAt d (stepD d (putD (tick1 d) i (u8s (blkA a)))).1 z := SameAt.step ⟨by simp [putD, tick1], rfl, set_other _ _ (hne hi)⟩
    split
    · exact SameAt.refl _ _
    · split
      · exact SameAt.refl _ _
      · split
        · exact SameAt.refl _ _
        · split
          · exact hs
          · exact hs
end Go.Proofs.Ytifemhfpcichfaa

/- Zone: a crash behind a crash (plain). -/

set_option linter.unusedSimpArgs false
set_option linter.unusedVariables false
set_option maxHeartbeats 4000000
set_option maxRecDepth 1000000
namespace Go.Proofs.Ytifemhfpcichfaa
open Go.RowKit
open Go.Av Go.Maps

/-- Nothing is loose. -/
def Tight (d : Dv) : Prop := ∀ z, z < d.zs.length → (d.zs.getD z z0).lo = 0
theorem safe_tight (d : Dv) : Tight (safeD d) := fun z hz => by
  have hz2 : z < d.zs.length := by simpa [safeD] using hz
  simp [safeD, safeZ, List.getD_eq_getElem?_getD, hz2]
theorem crash_tight (d : Dv) (fs : List UInt8) : Tight (crashD d fs) := safe_tight _
theorem tight_map {l : List Zn} (h : ∀ z, z < l.length → (l.getD z z0).lo = 0) : l.map safeZ = l := by
  apply List.ext_getElem (by simp)
  intro i h1 h2
  have := h i h2
  rw [List.getD_eq_getElem?_getD, List.getElem?_eq_getElem h2] at this
  simp only [List.getElem_map]
  generalize l[i] = x at this ⊢
  obtain ⟨a, b, c⟩ := x
  simp only [Option.getD_some] at this
  subst this
  rfl
theorem tight_safe {d : Dv} (h : Tight d) : safeD d = d := by
  unfold safeD
  rw [tight_map h]
theorem tight_to {d : Dv} (h : Tight d) (fs : List UInt8) : ∀ k, k ≤ d.zs.length → crashTo (d, fs) k = (d, fs)
  | 0, _ => rfl
  | k + 1, hk => by
    rw [crashTo, tight_to h fs k (by omega)]
    unfold crash1
    rw [if_pos (show (zAt (d, fs).1 k).lo = 0 from h k (by omega))]
theorem tight_crash {d : Dv} (h : Tight d) (fs : List UInt8) : crashD d fs = { d with down := false, fails := -1, done := false } := by
  unfold crashD
  rw [tight_to h fs _ (Nat.le_refl _), tight_safe h]
/-- A crash behind a crash changes nothing. -/
theorem crash_again (d : Dv) (f s : List UInt8) : crashD (crashD d f) s = crashD d f := by
  rw [tight_crash (crash_tight d f)]
  rfl
theorem flush_fresh {d : Dv} (hd : d.down = false) (hf : d.fails = -1) : flushD d = (safeD (tick1 d), 0) := by
  unfold flushD
  rw [if_neg (by simp [hd]), step_fresh hf]
theorem safe_looks (d : Dv) (z : Int) : wrD (safeD d) z = wrD d z := by
  unfold wrD hasZ
  have hl : (safeD d).zs.length = d.zs.length := by simp [safeD]
  rw [hl]
  split
  · rename_i h
    have hz : z.toNat < d.zs.length := by simp at h; omega
    simp [safeD, safeZ, List.getD_eq_getElem?_getD, hz]
  · rfl
/-- What was flushed is kept by a crash. -/
theorem flush_crash {d : Dv} (hd : d.down = false) (hf : d.fails = -1) (fs : List UInt8) (z : Int) : wrD (crashD (flushD d).1 fs) z = wrD d z := by
  rw [flush_fresh hd hf, tight_crash (safe_tight _)]
  show wrD (safeD (tick1 d)) z = _
  rw [safe_looks]
  rfl
theorem app_fresh {d : Dv} (hd : d.down = false) (hf : d.fails = -1) (h6 : d.zs.length ≤ 6) {z : Nat} (hz : z < d.zs.length) (bs : List UInt8) :
    ((appendD d z 64 (u8s bs)).2.2 = 0 ∨ (appendD d z 64 (u8s bs)).2.2 = 15) ∧ (appendD d z 64 (u8s bs)).1.down = false ∧ (appendD d z 64 (u8s bs)).1.fails = -1 := by
  unfold appendD
  rw [at_fresh hd hz, if_neg (by simp), if_neg (by simp)]
  split
  · exact ⟨.inr rfl, hd, hf⟩
  · rw [if_neg (by have := openN_le d.nb d.zs; omega), step_fresh hf, if_neg (by simp)]
    refine ⟨.inl rfl, hd, ?_⟩
    simp [putD, tick1, hf]
theorem lo_tight {d : Dv} (h : Tight d) (z : Nat) : loD d z = 0 := by
  unfold loD
  split
  · rename_i hz
    have : z < d.zs.length := by simp [hasZ] at hz; omega
    rw [show ((z : Int)).toNat = z by omega]
    exact h z this
  · rfl
theorem read_ok {d : Dv} (hd : d.down = false) {z i : Nat} (hz : z < d.zs.length) (hi : (i : Int) < wrD d z) : readE d z i = 0 := by
  unfold readE
  rw [at_fresh hd hz, if_neg (by simp)]
  unfold wrD at hi
  rw [if_pos (hasZ_of hz)] at hi
  rw [if_neg (by omega)]
end Go.Proofs.Ytifemhfpcichfaa

/- Zone: what a crash leaves of a zone (plain). -/

set_option linter.unusedSimpArgs false
set_option linter.unusedVariables false
set_option maxHeartbeats 4000000
set_option maxRecDepth 1000000
namespace Go.Proofs.Ytifemhfpcichfaa
open Go.RowKit
open Go.Av Go.Maps

/-- Zone y is in e as it is in d. -/
def KeptAt (d e : Dv) (y : Nat) : Prop := zAt e y = zAt d y ∧ ∀ (j : Nat) bs, j ≤ 1000 → BlkIs d y j bs → BlkIs e y j bs
theorem KeptAt.refl (d : Dv) (y : Nat) : KeptAt d d y := ⟨rfl, fun _ _ _ h => h⟩
theorem KeptAt.trans {a b c : Dv} {y : Nat} (h : KeptAt a b y) (k : KeptAt b c y) : KeptAt a c y := ⟨k.1.trans h.1, fun j bs hj q => k.2 j bs hj (h.2 j bs hj q)⟩
theorem cut_other {d : Dv} {z n y : Nat} (hy : y ≠ z) (h1 : z ≤ 1000) (h2 : y ≤ 1000) (hn : n + ((zAt d z).wr - n).toNat ≤ 2000) : KeptAt d (cutD d z n) y :=
  ⟨by show (d.zs.set z _).getD y z0 = d.zs.getD y z0; exact set_other _ _ (Ne.symm hy), fun j bs hj h => ⟨by
    show (dels d.D z n _).atKey _ _ = _
    rw [dels_other d.D n _ h1 h2 hj _ (by unfold zAt at hn; omega) (fun e => hy e.1)]
    exact h.1, h.2⟩⟩
theorem cut_below {d : Dv} {z n j : Nat} {bs : List UInt8} (h1 : z ≤ 1000) (hn : n + ((zAt d z).wr - n).toNat ≤ 2000) (hj : j < n) (hj2 : j ≤ 1000) (h : BlkIs d z j bs) : BlkIs (cutD d z n) z j bs :=
  ⟨by
    show (dels d.D z n _).atKey _ _ = _
    rw [dels_other d.D n _ h1 h1 hj2 _ (by unfold zAt at hn; omega) (fun e => by omega)]
    exact h.1, h.2⟩
theorem torn_other {d : Dv} {z keep y : Nat} {bs : List UInt8} (hy : y ≠ z) (h1 : z ≤ 1000) (h2 : y ≤ 1000) (h3 : keep ≤ 1000) : KeptAt d (tornD d z keep bs) y :=
  ⟨by show (d.zs.set z _).getD y z0 = d.zs.getD y z0; exact set_other _ _ (Ne.symm hy), fun j b hj h => blk_put_other h1 h3 h2 hj (fun e => hy e.1) rfl h⟩
theorem crash1_other {z : Nat} {s : Dv × List UInt8} (h : OkD z s.1) (hz : z < s.1.zs.length) {y : Nat} (hy : y ≠ z) (hy2 : y ≤ 1000) : KeptAt s.1 (crash1 s z).1 y := by
  obtain ⟨d, fs⟩ := s
  simp only at h hz
  unfold crash1
  have hlen := h.len
  have hnb := h.nb
  have hw := h.wr z hz
  simp only
  split
  · exact KeptAt.refl _ _
  · rename_i h0
    obtain ⟨r1, r2, r3⟩ := keep_rng h (Nat.le_refl z) hz fs h0
    split
    · exact KeptAt.refl _ _
    · have hc : KeptAt d (cutD d z (keepOf d fs z)) y := cut_other hy (by omega) hy2 (by omega)
      split
      · exact hc
      · exact hc.trans (torn_other hy (by omega) hy2 (by omega))
/-- What is left of zone z: the first ones, of the last ones a beginning, and perhaps a torn one. -/
def Left (d e : Dv) (z : Nat) : Prop := ∃ keep : Nat, (zAt d z).wr - (zAt d z).lo ≤ keep ∧ (keep : Int) ≤ (zAt d z).wr ∧ (∀ (j : Nat) bs, j < keep → BlkIs d z j bs → BlkIs e z j bs) ∧
  ((zAt e z).wr = keep ∨ ((zAt e z).wr = keep + 1 ∧ (keep : Int) < (zAt d z).wr ∧ ∃ t, 1 ≤ t ∧ t < 64 ∧ BlkIs e z keep (tornB t (blkB d z keep))))
theorem crash1_at {z : Nat} {s : Dv × List UInt8} (h : OkD z s.1) (hz : z < s.1.zs.length) : Left s.1 (crash1 s z).1 z := by
  obtain ⟨d, fs⟩ := s
  simp only at h hz
  have hlen := h.len
  have hnb := h.nb
  have hw := h.wr z hz
  have hl := h.lo z (Nat.le_refl z) hz
  show Left d (crash1 (d, fs) z).1 z
  unfold crash1
  simp only
  split
  · rename_i h0
    refine ⟨(zAt d z).wr.toNat, by omega, by omega, fun j bs _ q => q, .inl (show (zAt d z).wr = _ by omega)⟩
  · rename_i h0
    obtain ⟨r1, r2, r3⟩ := keep_rng h (Nat.le_refl z) hz fs h0
    split
    · refine ⟨(zAt d z).wr.toNat, by omega, by omega, fun j bs _ q => q, .inl (show (zAt d z).wr = _ by omega)⟩
    · rename_i h1
      have hcat := cut_at d z (keepOf d fs z) hz
      have hb : ∀ (j : Nat) bs, j < keepOf d fs z → BlkIs d z j bs → BlkIs (cutD d z (keepOf d fs z)) z j bs := fun j bs hj q => cut_below (by omega) (by omega) hj (by omega) q
      split
      · refine ⟨keepOf d fs z, by omega, by omega, hb, .inl ?_⟩
        rw [hcat]
      · rename_i ht
        have hcl : (cutD d z (keepOf d fs z)).zs.length = d.zs.length := by simp [cutD]
        have hM : IsMap (cutD d z (keepOf d fs z)).D := isMap_dels h.isM _ _ _
        have hbl := (h.blk hz (show ((keepOf d fs z : Nat) : Int) < _ by omega)).2
        refine ⟨keepOf d fs z, by omega, by omega, fun j bs hj q => blk_put_other (by omega) (by omega) (by omega) (by omega) (fun e => by omega) rfl (hb j bs hj q), .inr ⟨?_, by omega, tOf fs, by omega, tOf_lt fs, blk_put_same hM (tornB_len hbl (Nat.le_of_lt (tOf_lt fs))) rfl⟩⟩
        show ((cutD d z (keepOf d fs z)).zs.set z _ |>.getD z z0).wr = _
        rw [List.getD_eq_getElem?_getD, List.getElem?_set_self (by rw [hcl]; exact hz)]
        show ((cutD d z (keepOf d fs z)).zs.getD z z0).wr + 1 = _
        have : (cutD d z (keepOf d fs z)).zs.getD z z0 = zAt (cutD d z (keepOf d fs z)) z := rfl
        rw [this, hcat]
theorem crashTo_before {s : Dv × List UInt8} (h : OkD 0 s.1) {y : Nat} (hy : y ≤ 1000) : ∀ k, k ≤ y → k ≤ s.1.zs.length → KeptAt s.1 (crashTo s k).1 y
  | 0, _, _ => KeptAt.refl _ _
  | k + 1, h1, h2 => (crashTo_before h hy k (by omega) (by omega)).trans (crash1_other (OkD.crashTo h k (by omega)) (by rw [(crashTo_len s k).1]; omega) (by omega) hy)
theorem crashTo_after {s : Dv × List UInt8} (h : OkD 0 s.1) {y : Nat} (hy : y ≤ 1000) : ∀ n, y + 1 + n ≤ s.1.zs.length → KeptAt (crashTo s (y + 1)).1 (crashTo s (y + 1 + n)).1 y
  | 0, _ => KeptAt.refl _ _
  | n + 1, h2 => (crashTo_after h hy n (by omega)).trans (crash1_other (OkD.crashTo h (y + 1 + n) (by omega)) (by rw [(crashTo_len s (y + 1 + n)).1]; omega) (by omega) hy)
theorem crash_left {d : Dv} (h : OkD 0 d) (fs : List UInt8) {y : Nat} (hy : y < d.zs.length) : Left d (crashD d fs) y := by
  have hlen := h.len
  have hb := crashTo_before (s := (d, fs)) h (y := y) (by omega) y (Nat.le_refl _) (by simp only; omega)
  have ha := crashTo_after (s := (d, fs)) h (y := y) (by omega) (d.zs.length - (y + 1)) (by simp only; omega)
  rw [show y + 1 + (d.zs.length - (y + 1)) = d.zs.length by omega] at ha
  have hO := OkD.crashTo (s := (d, fs)) h y (by simp only; omega)
  have hL : y < (crashTo (d, fs) y).1.zs.length := by rw [(crashTo_len (d, fs) y).1]; exact hy
  have hm := crash1_at hO hL
  obtain ⟨keep, k1, k2, k3, k4⟩ := hm
  rw [hb.1] at k1 k2 k4
  have hnb := h.nb
  have hwr := h.wr y hy
  have hy0 : (zAt (d, fs).1 y) = zAt d y := rfl
  rw [hy0] at k1 k2 k4
  have hcl : (crashTo (d, fs) d.zs.length).1.zs.length = d.zs.length := (crashTo_len (d, fs) _).1
  have hz : zAt (crashD d fs) y = safeZ (zAt (crashTo (d, fs) (y + 1)).1 y) := by
    rw [← ha.1]
    show ((safeD (crashTo (d, fs) d.zs.length).1).zs.getD y z0) = _
    simp [safeD, zAt, List.getD_eq_getElem?_getD, hcl, hy]
  have hblk : ∀ (j : Nat) bs, j ≤ 1000 → BlkIs (crashTo (d, fs) (y + 1)).1 y j bs → BlkIs (crashD d fs) y j bs := fun j bs hj q => ha.2 j bs hj q
  refine ⟨keep, k1, k2, fun j bs hj q => hblk j bs (by omega) (k3 j bs hj (hb.2 j bs (by omega) q)), ?_⟩
  rw [hz]
  rcases k4 with k4 | ⟨k4, k5, t, t1, t2, t3⟩
  · exact .inl k4
  · refine .inr ⟨k4, k5, t, t1, t2, hblk _ _ (by omega) ?_⟩
    have q := h.blk hy k5
    rw [blkB_of (hb.2 _ _ (by omega) q)] at t3
    exact t3
/-- Zone 3, as the law writes it. -/
def rowC (i : Nat) : List UInt8 := List.replicate 64 (UInt8.ofNat (10 + i))
structure SafeI (i lo : Nat) (d : Dv) : Prop where
  down : d.down = false
  fails : d.fails = -1
  nb : d.nb = 20
  len : d.zs.length = 6
  m : IsMap d.D
  z : d.zs.getD 3 z0 = ⟨i, lo, false⟩
  b : ∀ j : Nat, j < i → BlkIs d ((3 : Nat) : Int) j (rowC j)
theorem SafeI.reset {d : Dv} (hd : d.down = false) (hf : d.fails = -1) (hn : d.nb = 20) (hl : d.zs.length = 6) (hm : IsMap d.D) : SafeI 0 0 (emptyD (tick1 d) 3) :=
  ⟨hd, by simp [emptyD, cutD, tick1, hf], hn, by simp [emptyD, tick1, hl], isMap_dels hm _ _ _, empty_zAt d (by omega), fun j hj => by omega⟩
theorem SafeI.flush {i lo : Nat} {d : Dv} (h : SafeI i lo d) : (flushD d).2 = 0 ∧ SafeI i 0 (flushD d).1 := by
  rw [flush_fresh h.down h.fails]
  refine ⟨rfl, h.down, by simp [safeD, tick1, h.fails], h.nb, by simp [safeD, tick1, h.len], h.m, ?_, h.b⟩
  have := h.z
  simp only [safeD, tick1, List.getD_eq_getElem?_getD, List.getElem?_map, List.getElem?_eq_getElem (show 3 < d.zs.length by rw [h.len]; omega), Option.map_some, Option.getD_some] at this ⊢
  rw [this]
  rfl
theorem SafeI.append {i lo : Nat} {d : Dv} (h : SafeI i lo d) (hi : i < 20) (hi2 : lo ≤ 20) : (appendD d ((3 : Nat) : Int) 64 (u8s (rowC i))).2 = ((i : Int), 0) ∧ SafeI (i + 1) (lo + 1) (appendD d ((3 : Nat) : Int) 64 (u8s (rowC i))).1 := by
  have hl := h.len
  have hz3 : (((3 : Nat) : Int)).toNat = 3 := rfl
  unfold appendD
  rw [at_fresh h.down (show 3 < d.zs.length by omega), if_neg (by simp), if_neg (by simp)]
  have hst : stD d ((3 : Nat) : Int) ≠ 2 := by
    unfold stD
    rw [if_pos (hasZ_of (by omega)), hz3, h.z, h.nb]
    unfold stZ
    rw [if_neg (by simp; omega)]
    split <;> simp
  rw [if_neg hst, if_neg (by have := openN_le d.nb d.zs; omega), step_fresh h.fails, if_neg (by simp), hz3, h.z]
  refine ⟨rfl, h.down, by simp [putD, tick1, h.fails], h.nb, by simp [putD, tick1, hl], isMap_put h.m _ _, ?_, fun j hj => ?_⟩
  · show (d.zs.set 3 ⟨(d.zs.getD 3 z0).wr + 1, (d.zs.getD 3 z0).lo + 1, (d.zs.getD 3 z0).fin⟩).getD 3 z0 = _
    rw [List.getD_eq_getElem?_getD, List.getElem?_set_self (by omega), h.z]
    simp
  · have hD : (putD (tick1 d) 3 (u8s (rowC i))).D = d.D.put (kl ((3 : Nat) : Int) (i : Int)) (.held (.agg (u8s (rowC i)).toArray)) := by
      show d.D.put (kl ((3 : Nat) : Int) (d.zs.getD 3 z0).wr) _ = _
      rw [h.z]
    by_cases e : j = i
    · subst e
      exact blk_put_same h.m (by simp [rowC]) hD
    · exact blk_put_other (by omega) (by omega) (by omega) (by omega) (fun q => e q.2) hD (h.b j (by omega))
theorem torn_all (i : Nat) : tornB 64 (rowC i) = rowC i := by
  simp [tornB, rowC]
theorem torn_get {t i k : Nat} (ht : t ≤ 64) (hk : k < 64) : (tornB t (rowC i))[k]? = some (if k < t then UInt8.ofNat (10 + i) else 0) := by
  unfold tornB rowC
  rw [List.take_replicate, show min t 64 = t by omega, List.getElem?_append]
  split
  · rename_i h
    have h2 : k < t := by simpa using h
    rw [if_pos h2, List.getElem?_replicate, if_pos h2]
  · rename_i h
    have h2 : ¬ k < t := by simpa using h
    rw [if_neg h2, List.getElem?_replicate, if_pos (by simp; omega)]
theorem ofNat10 {i : Nat} (hi : i ≤ 100) : (((UInt8.ofNat (10 + i)).toNat : Nat) : Int) = 10 + (i : Int) := by
  simp; omega
theorem torn_cell {w : World} {b te t i k : Nat} (hb : w.heap[b]? = some (.cells (u8s (tornB t (rowC i))).toArray te (0, 0))) (ht : t ≤ 64) (hi : i ≤ 100) (hk : k < 64) : w.cell? ⟨b, k, none⟩ = some (.int .u8 (if k < t then 10 + (i : Int) else 0)) := by
  rw [cell_of_block hb]
  have := torn_get (i := i) ht hk
  simp only [u8s, List.getElem?_toArray, List.getElem?_map, this, Option.map_some]
  split
  · rw [ofNat10 hi]
  · rfl
/-- What the crash leaves of zone 3. -/
theorem safe_left {n lo a : Nat} {d : Dv} (h : SafeI n lo d) (hO : OkD 0 d) (fs : List UInt8) (ha : a + lo = n) (hn : n ≤ 20) : ∃ w : Nat, wrD (crashD d fs) ((3 : Nat) : Int) = w ∧ a ≤ w ∧ w ≤ n ∧ loD (crashD d fs) ((3 : Nat) : Int) = 0 ∧
    ∀ i : Nat, i < w → ∃ t, 1 ≤ t ∧ t ≤ 64 ∧ BlkIs (crashD d fs) ((3 : Nat) : Int) i (tornB t (rowC i)) ∧ (t = 64 ∨ (i + 1 = w ∧ a ≤ i)) ∧ readE (crashD d fs) ((3 : Nat) : Int) i = 0 := by
  have hl := h.len
  obtain ⟨keep, k1, k2, k3, k4⟩ := crash_left hO fs (y := 3) (by omega)
  have hz : zAt d 3 = ⟨n, lo, false⟩ := h.z
  rw [hz] at k1 k2 k4
  simp only at k1 k2 k4
  have hel : (crashD d fs).zs.length = 6 := by
    have := (crashTo_len (d, fs) d.zs.length).1
    simp only [crashD, safeD, List.length_map]
    rw [this]; exact hl
  have hwr : wrD (crashD d fs) ((3 : Nat) : Int) = (zAt (crashD d fs) 3).wr := by
    unfold wrD
    rw [if_pos (hasZ_of (by omega))]
    rfl
  have hlo := lo_tight (crash_tight d fs) 3
  rcases k4 with k4 | ⟨k4, k5, t, t1, t2, t3⟩
  · refine ⟨keep, by rw [hwr, k4], by omega, by omega, hlo, fun i hi => ⟨64, by omega, by omega, ?_, .inl rfl, read_ok rfl (by omega) (by rw [hwr, k4]; omega)⟩⟩
    rw [torn_all]
    exact k3 i _ hi (h.b i (by omega))
  · refine ⟨keep + 1, by rw [hwr, k4]; rfl, by omega, by omega, hlo, fun i hi => ?_⟩
    by_cases e : i = keep
    · subst e
      refine ⟨t, t1, by omega, ?_, .inr ⟨rfl, by omega⟩, read_ok rfl (by omega) (by rw [hwr, k4]; omega)⟩
      rw [blkB_of (h.b i (by omega))] at t3
      exact t3
    · refine ⟨64, by omega, by omega, ?_, .inl rfl, read_ok rfl (by omega) (by rw [hwr, k4]; omega)⟩
      rw [torn_all]
      exact k3 i _ (by omega) (h.b i (by omega))
end Go.Proofs.Ytifemhfpcichfaa
