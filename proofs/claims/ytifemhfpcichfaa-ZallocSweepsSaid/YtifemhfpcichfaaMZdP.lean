import Derived.Test.YtifemhfpcichfaaMZdK
import Derived.Lib.SliceRun
import Derived.Shelf.SlMaps.Clone
import Derived.OwnWalk
import Derived.Test.YtifemhfpcichfaaMZdC

set_option linter.unusedVariables false
set_option linter.unusedSimpArgs false

/- Zone: Crash. -/


set_option linter.unusedSimpArgs false
set_option linter.unusedVariables false
set_option maxHeartbeats 4000000
set_option maxRecDepth 1000000
namespace Go.Proofs.Ytifemhfpcichfaa
open Go.RowKit
open Go.Av Go.Maps

theorem DevAt.keep {w w' : World} {q : Dp} {d : Dv} (h : DevAt w q d) {T : Nat → Prop} (k : Ext T w w') (hT : ∀ b, EQ q b → ¬ T b) : DevAt w' q d := by
  obtain ⟨c, te, fr, h1, h2, h3, h4⟩ := h.bz
  obtain ⟨es, cl, m1, m2⟩ := h.bm
  exact ⟨(k.block _ (Array.getElem?_eq_some_iff.1 h.bp).1 (hT _ (.inl rfl))).trans h.bp, ⟨c, te, fr, (k.block _ (Array.getElem?_eq_some_iff.1 h1).1 (hT _ (.inr (.inl rfl)))).trans h1, h2, h3, h4⟩, ⟨es, cl, (k.block _ (Array.getElem?_eq_some_iff.1 m1).1 (hT _ (.inr (.inr rfl)))).trans m1, m2⟩, h.ne1, h.ne2, h.ne3, h.len⟩
/-- A copy of a zone in a box. -/
def SB (w : World) (b : Nat) (x : Zn) : Prop := w.heap[b]? = some (.cells #[.int .i64 x.wr, .int .i64 x.lo, .bool x.fin] 85 (0, 0))
theorem SB.keep {w w' : World} {b : Nat} {x : Zn} (h : SB w b x) {T : Nat → Prop} (k : Ext T w w') (hT : ¬ T b) : SB w' b x :=
  (k.block b (Array.getElem?_eq_some_iff.1 h).1 hT).trans h
theorem SB.cells {w : World} {b : Nat} {x : Zn} (h : SB w b x) : w.cell? ⟨b, 0, none⟩ = some (.int .i64 x.wr) ∧ w.cell? ⟨b, 1, none⟩ = some (.int .i64 x.lo) := by
  constructor <;> simp [World.cell?, show w.heap[b]? = _ from h]
def NB (q : Dp) (b0 : Nat) (k : Nat) : Prop := EQ q k ∨ k = b0
/-- What holds ahead of each zone of a crash. -/
structure CInv (w wr : World) (q : Dp) (b0 : Nat) (d0 : Dv) (f0 : List UInt8) (k : Nat) : Prop where
  dev : DevAt wr q (crashTo (d0, f0) k).1
  ext : Ext (EQ q) w wr
  box : ∃ v, BoxV wr b0 v ∧ FateV wr (NB q b0) v (crashTo (d0, f0) k).2
theorem look_blk {w : World} {q : Dp} {d : Dv} (h : DevAt w q d) {z i : Int} {bs : List UInt8} (hb : BlkIs d z i bs) (hz : I64 z) (hi : I64 i) : (Instr.lookup 81 (.map (some q.mb)) (.agg #[.int .i64 z, .int .i64 i]) false).run Try.prog w = .ok (.agg (u8s bs).toArray) w := by
  obtain ⟨v, ps, hrun, hv⟩ := h.bm.lookup (t := 81) (e := 86) K88 (by kernel_rfl) (zero86 w) (zd := .held zb) (zp := []) rfl (key := kv z i) (kl := kl z i) (key88 hz hi)
  rw [hb.1] at hv
  obtain rfl : v = .agg (u8s bs).toArray := by
    simp only [RH, Option.some.injEq, Prod.mk.injEq, DataW.held.injEq] at hv
    exact hv.1
  exact hrun
def ZBlk (w : World) (b : Nat) (bs : List UInt8) : Prop := w.heap[b]? = some (.cells (u8s bs).toArray 86 (0, 0))
theorem ZBlk.keep {w w' : World} {b : Nat} {bs : List UInt8} (h : ZBlk w b bs) {T : Nat → Prop} (k : Ext T w w') (hT : ¬ T b) : ZBlk w' b bs :=
  (k.block b (Array.getElem?_eq_some_iff.1 h).1 hT).trans h
theorem ZBlk.range {w : World} {b : Nat} {bs : List UInt8} (h : ZBlk w b bs) : w.rangeAt b 0 (u8s bs) := fun j v hv => by
  rw [cell_of_block (show w.heap[b]? = _ from h)]
  simpa using hv
theorem clear_new {w : World} {b : Nat} {bs : List UInt8} {t : Nat} (h : ZBlk w b bs) (hl : bs.length = 64) (ht : t < 64) :
    (∀ ty, (Builtin.clear_ #[24] ty #[.slice (some ⟨b, t, none⟩) (64 - t) (64 - t)]).run Try.prog w = .ok (.tuple #[]) (w.setCells b t (List.replicate (64 - t) (.int .u8 0)))) ∧
    ZBlk (w.setCells b t (List.replicate (64 - t) (.int .u8 0))) b (tornB t bs) ∧ Ext (fun k => k = b) w (w.setCells b t (List.replicate (64 - t) (.int .u8 0))) := by
  have hb : w.heap[b]? = some (.cells (u8s bs).toArray 86 (0, 0)) := h
  refine ⟨fun ty => ?_, ?_, ?_⟩
  · refine Go.Lib.run_clear_slice w 24 5 ty (.int .u8 0) (by kernel_rfl) (fun _ => by kernel_rfl) rfl rfl b t (64 - t) (64 - t) (by omega) (fun j hj => ?_) (fun j hj => ?_)
    · rw [cell_of_block hb, Array.getElem?_eq_getElem (by simp [hl]; omega)]; rfl
    · simp only [World.frozen?, hb]; simp
  · obtain ⟨_, c', k1, k2, k3, k4⟩ := setCells_at (P := Try.prog) (o := t) (vs := List.replicate (64 - t) (.int .u8 0)) hb (.inl rfl) (by simp [hl]; omega) (by simp; intro _; rfl)
    unfold ZBlk
    rw [k1]
    congr 2
    have htl := tornB_len (t := t) hl (by omega)
    refine Array.ext (by rw [k2]; simp [hl, htl]) fun j h1 h2 => ?_
    have hj : j < 64 := by simpa [htl] using h2
    have h5 := k4 j
    rw [Array.getD_eq_getD_getElem?, Array.getElem?_eq_getElem h1] at h5
    simp only [Option.getD_some] at h5
    rw [h5]
    by_cases e : j < t
    · rw [if_neg (by omega)]
      rw [Array.getD_eq_getD_getElem?, Array.getElem?_eq_getElem (by simp [hl]; omega)]
      simp [u8s, tornB]
      rw [List.getElem_append_left (by simp; omega)]
      simp
    · rw [if_pos (by simp; omega)]
      simp [u8s, tornB]
      rw [List.getElem_append_right (by simp; omega)]
      simp [List.getD_eq_getElem?_getD]
      rw [List.getElem?_replicate, if_pos (by omega)]; rfl
  · obtain ⟨g1, g2, g3, g4, g5, _⟩ := setCells_heap b (List.replicate (64 - t) (.int .u8 0)) t w
    exact ⟨g1, g2, g3, by rw [g4]; exact Nat.le_refl _, fun k hk hne => g5 k hne⟩
theorem i64_k {n : Nat} (h : n ≤ 5000) : I64 (n : Int) := ⟨by omega, by omega⟩
theorem extB {q : Dp} {w wr W : World} (h : Ext (EQ q) w wr) {T : Nat → Prop} (k : Ext T wr W) (hT : ∀ b, T b → EQ q b ∨ w.heap.size ≤ b) : Ext (EQ q) w W :=
  ⟨k.os.trans h.os, k.tape.trans h.tape, k.output.trans h.output, Nat.le_trans h.size k.size, fun j hj ht => (k.block j (Nat.lt_of_lt_of_le hj h.size) (fun q => by rcases hT j q with e | e; exact ht e; omega)).trans (h.block j hj ht)⟩
theorem crash_raw {w : World} {q : Dp} {d : Dv} (h : DevAt w q d) (hO : OkD 0 d) (hn : d.n < 90000) {v : Value} {fs : List UInt8} (hf : FateV w (EQ q) v fs) : Calls Try.prog 12 #[.pointer (some ⟨q.p, 0, none⟩), v] w fun e w' => e = .returned (.tuple #[]) ∧ EffD q w w' (crashD d fs) := by
  obtain ⟨w1, hw1⟩ : ∃ w1, w1 = w.alloc (.cells #[v] 24) := ⟨_, rfl⟩
  have hx1 : Ext (fun _ => False) w w1 := by rw [hw1]; exact ext_alloc1 _ _
  have hI0 : CInv w w1 q w.heap.size d fs 0 := ⟨h.ext hx1, extQ hx1, v, by rw [hw1]; exact BoxV.new w v 24, by
    obtain ⟨pa, cap, e1, e2, e3⟩ := hf
    refine ⟨pa, cap, e1, e2, fun hne => ?_⟩
    obtain ⟨fb, off, k1, k2, k3⟩ := e3 hne
    refine ⟨fb, off, k1, ?_, fun j u hu => ?_⟩
    · rintro (k4 | k4)
      · exact k2 k4
      · subst k4
        have h0 : 0 < fs.length := by cases fs with | nil => exact absurd rfl hne | cons b r => simp
        have := World.block_lt_of_cell? w ⟨w.heap.size, off + 0, none⟩ (k3 0 ((u8s fs)[0]'(by simpa using h0)) (by simp [List.getElem?_eq_getElem, h0]))
        simp at this
    · rw [← k3 j u hu]
      have hlt := World.block_lt_of_cell? w ⟨fb, off + j, none⟩ (k3 j u hu)
      exact World.cell?_of_block (hx1.block fb hlt id)⟩
  have HI0 := asideI hI0
  have HO := asideI hO
  have hlen := hO.len
  have hp0 : ¬ (q.p = w.heap.size) := by have := h.lt.1; omega
  have n0 := asideI (notEQ h (Nat.le_refl w.heap.size))
  have hlt := h.lt.1
  obtain ⟨⟨a0, a1, a2, a3, a4, a5, a6⟩, b0, b1, b2, b3, b4, b5, b6⟩ := h.cells
  have HW1 := asideI hw1
  obtain ⟨pa, cap, rfl, hcap, hzz⟩ := hf
  clear hzz
  clear h hI0 hO hx1
  go_enter Try.func12, Try.ntmps12
  clear hw1 a1 a2 a3 a4 a5 a6 b0 b1 b2 b3 b4 b5 b6
  go_wp2
  go_loopg [19] d.zs.length (fun gg s19 wr => ∃ (k : Nat), s19 = .int .i64 k ∧ k ≤ d.zs.length ∧ d.zs.length - k ≤ gg ∧ Aside (CInv w wr q w.heap.size d fs k))
  case atStart => exact ⟨0, rfl, by omega, by omega, by rw [← HW1.out]; exact HI0.out⟩
  case round =>
    obtain ⟨k, rfl, hk, hgg, H2⟩ := hrel
    clear a0 hlt hp0
    have HOk := asideI (OkD.crashTo (s := (d, fs)) HO.out k hk)
    have hln := crashTo_len (d, fs) k
    have HS : Aside (crashTo (d, fs) (k + 1) = crash1 (crashTo (d, fs) k) k) := rfl
    obtain ⟨v, hbx, hft⟩ := H2.out.box
    have hdv := H2.out.dev
    have HE := asideI H2.out.ext
    clear H2
    by_cases hkl : k < d.zs.length
    · generalize crashTo (d, fs) k = s at *
      obtain ⟨d1, f1⟩ := s
      obtain ⟨hl1, hl2, hl3, hl4, hl5, hl6, hl7⟩ := hln
      simp only at hl1 hl2 hl3 hl4 hl5 hl6 hl7 hft hdv
      have hk1 : k < d1.zs.length := by omega
      obtain ⟨⟨a0, a1, a2, a3, a4, a5, a6⟩, b0, b1, b2, b3, b4, b5, b6⟩ := hdv.cells
      obtain ⟨⟨c0, c1, c2⟩, e0, e1, e2⟩ := hdv.zcells hk1
      obtain ⟨l1, l2, l3⟩ := hdv.lt
      have l4 := hbx.lt
      have hkz : (k : Int) < (d.zs.length : Int) := by omega
      have HB := asideI (And.intro hbx hft)
      have HDV := asideI hdv
      have hwr : IntKind.i64.wrap ((k : Int) + 1) = (k : Int) + 1 := by rw [IntKind.wrap_i64]; omega
      obtain ⟨x, hx⟩ : ∃ x, x = zAt d1 k := ⟨_, rfl⟩
      have hx' : d1.zs.getD k z0 = x := hx.symm
      rw [hx'] at c0 c1 c2
      rw [hl1] at a0
      have HX := asideI hx
      clear hbx hft hdv hx hx'
      by_cases h0 : x.lo = 0
      · have hc : crash1 (d1, f1) k = (d1, f1) := by unfold crash1; rw [if_pos (by simp only [← HX.out]; exact h0)]
        rw [h0] at c1
        rw [hc] at HS
        clear hc
        go_wp2
        go_roundg (d.zs.length - (k + 1))
        case measure => omega
        case rel =>
          refine ⟨k + 1, by simp, by omega, by omega, ?_, HE.out.trans (extQ (ext_alloc1 _ _)), v, HB.out.1.ext (ext_alloc1 _ _), ?_⟩
          · rw [HS.out]; exact HDV.out.ext (ext_alloc1 _ _)
          · rw [HS.out]; exact HB.out.2.keeps (fun _ q => absurd q id) (ext_alloc1 _ _)
      · have hok := HOk.out.lo k (Nat.le_refl k) hk1
        have hokw := HOk.out.wr k hk1
        have hnb := HOk.out.nb
        have hkk := keep_rng HOk.out (Nat.le_refl k) hk1 f1 (by rw [← HX.out]; exact h0)
        rw [← HX.out] at hok hokw hkk
        have h0b : (x.lo == 0) = false := by simpa using h0
        have hw1 : IntKind.i64.wrap (x.wr - x.lo) = x.wr - x.lo := by rw [IntKind.wrap_i64]; omega
        have hw2 : IntKind.i64.wrap (x.lo + 1) = x.lo + 1 := by rw [IntKind.wrap_i64]; omega
        have hSB : SB (wr.alloc (.cells #[.int .i64 x.wr, .int .i64 x.lo, .bool x.fin] 85)) wr.heap.size x := by unfold SB; rw [alloc_get, if_pos rfl]
        have HSB := asideI hSB
        have hc1 := hSB.cells.2
        have hNB : Aside (∀ b, b = w.heap.size → ¬ EQ q b) := asideI (by rintro b rfl; exact n0.out)
        have hrn := nextF_rng f1
        have hS1 : wr.heap.size ≠ w.heap.size := by omega
        have hko : kOf d1 f1 k = (nextF f1).1 % (x.lo + 1) := by unfold kOf; rw [← HX.out]
        clear hSB
        by_cases h1 : kOf d1 f1 k = x.lo
        · have hc : crash1 (d1, f1) k = (d1, (nextF f1).2) := by unfold crash1; rw [if_neg (by simp only [← HX.out]; exact h0), if_pos (by simp only [← HX.out]; exact h1)]
          rw [hc] at HS
          clear hc
          have hrem : (nextF f1).1.tmod (x.lo + 1) = x.lo := by rw [Int.tmod_eq_emod_of_nonneg hrn.1, ← hko, h1]
          obtain ⟨m, hm⟩ : ∃ m, m = nextF f1 := ⟨_, rfl⟩
          have HM := asideI hm
          rw [← hm] at hrem hrn hko HS
          obtain ⟨m, f2⟩ := m
          simp only at hrem hrn hko
          clear hm hko
          go_wp2
          go_region_held (fun W2 => W2.cell? ⟨wr.heap.size, 1, none⟩ = some (.int .i64 x.lo)) (assumption)
            (first
              | (go_at_call 43
                 refine (next_raw (N := NB q w.heap.size) (BoxV.ext HB.out.1 (by exact (ext_alloc1 _ _).trans (ext_drew _))) (HB.out.2.keeps (fun _ q => absurd q id) (by exact (ext_alloc1 _ _).trans (ext_drew _))) (.inr rfl)).mono ?_
                 rintro e w5 ⟨rfl, v2, hf5, hb5, hx5⟩
                 rw [← HM.out] at hf5 ⊢
                 have hs5 := (HSB.out.keep (ext_drew _) id).keep hx5 hS1
                 have hc5 := hs5.cells.2
                 have H5 := asideI (And.intro hf5 (And.intro hb5 (And.intro hx5 hs5)))
                 clear hf5 hb5 hx5 hs5
                 simp only []))
          go_wp2
          go_roundg (d.zs.length - (k + 1))
          case measure => omega
          case rel =>
            have hxa : Ext (fun j => j = w.heap.size) wr w5 := Ext.trans ((Ext.trans (ext_alloc1 _ _) (ext_drew _)).mono fun _ q => absurd q id) H5.out.2.2.1
            refine ⟨k + 1, by simp, by omega, by omega, ?_, extB HE.out hxa (by rintro b rfl; exact .inr (Nat.le_refl _)), v2, H5.out.2.1, ?_⟩
            · rw [HS.out]; exact HDV.out.keep hxa fun b hb e => hNB.out b e hb
            · rw [HS.out]; exact H5.out.1
        · have hrem : (nextF f1).1.tmod (x.lo + 1) = kOf d1 f1 k := by rw [Int.tmod_eq_emod_of_nonneg hrn.1, ← hko]
          have h1b : (kOf d1 f1 k == x.lo) = false := by simpa using h1
          obtain ⟨K, hK⟩ : ∃ K, K = keepOf d1 f1 k := ⟨_, rfl⟩
          obtain ⟨T, hT⟩ : ∃ T, T = tOf f1 := ⟨_, rfl⟩
          have hT64 := tOf_lt f1
          have hrn2 := nextF_rng (nextF f1).2
          have hrem2 : (nextF (nextF f1).2).1.tmod 64 = (T : Int) := by
            rw [Int.tmod_eq_emod_of_nonneg hrn2.1, hT]
            unfold tOf
            have := Int.emod_nonneg (nextF (nextF f1).2).1 (show (64 : Int) ≠ 0 by omega)
            omega
          have hKi : ((K : Nat) : Int) = x.wr - x.lo + kOf d1 f1 k := by rw [hK]; exact hkk.2.2
          have hKw : (K : Int) < x.wr := by
            have : kOf d1 f1 k < x.lo := Int.lt_iff_le_and_ne.2 ⟨hkk.2.1, h1⟩
            rw [hKi]; omega
          have hBK := HOk.out.blk hk1 (i := K) (by rw [← HX.out]; exact hKw)
          have hBL := hBK.2
          have HBK := asideI hBK
          have HKT := asideI (And.intro hK hT)
          rw [← hT] at hT64
          have HC : Aside (crash1 (d1, f1) k = if T = 0 then (cutD d1 k K, (nextF (nextF f1).2).2) else (tornD (cutD d1 k K) k K (tornB T (blkB d1 k K)), (nextF (nextF f1).2).2)) := by
            unfold crash1; rw [if_neg (by simp only [← HX.out]; exact h0), if_neg (by simp only [← HX.out]; exact h1), hK, hT]; rfl
          obtain ⟨r, hr⟩ : ∃ r, r = kOf d1 f1 k := ⟨_, rfl⟩
          rw [← hr] at hrem h1b hKi h1 hkk
          have hrl : 0 ≤ r ∧ r < x.lo := by omega
          have hK2 : IntKind.i64.wrap (x.wr - x.lo + r) = (K : Int) := by rw [← hKi, IntKind.wrap_i64]; omega
          obtain ⟨m, hm⟩ : ∃ m, m = nextF f1 := ⟨_, rfl⟩
          have HM := asideI hm
          rw [← hm] at hrem hrn hrn2 hrem2
          obtain ⟨m, f2⟩ := m
          simp only at hrem hrn hrn2 hrem2
          obtain ⟨n, hn2⟩ : ∃ n, n = nextF f2 := ⟨_, rfl⟩
          have HN := asideI hn2
          rw [← hn2] at hrn2 hrem2
          obtain ⟨n, f3⟩ := n
          simp only at hrn2 hrem2
          obtain ⟨CS, hCS⟩ : ∃ CS, CS = (u8s (blkB d1 k K)).toArray := ⟨_, rfl⟩
          have HCS := asideI hCS
          have HSZ := asideI (show CS.size = 64 by rw [hCS]; simp [hBL])
          have hi86 : (Try.prog.info? 86).map (·.size) = some CS.size := by rw [HSZ.out]; kernel_rfl
          have HI := asideI hi86
          have hUU := asideI (fun w (c : Array Value) (hc : c.size = 64) => stored_new w c 86 (u8s (blkB d1 k K)) (by simp [hc, hBL]) (u8s_one _))
          have HBL := asideI hBL
          have HIK : Aside (I64 (k : Int) ∧ I64 (K : Int)) := ⟨i64_k (by omega), i64_k (by omega)⟩
          have hnn : Aside (d1.n < Go.maxLen) := Nat.lt_trans (show d1.n < 100000 by omega) (by decide)
          have HCW : Aside ((d1.zs.getD k z0).wr ≤ 100000 ∧ K ≤ 100000) := ⟨by rw [show (d1.zs.getD k z0).wr = x.wr by rw [HX.out]; rfl]; omega, by omega⟩
          have HO1 := asideI (all_oneCell_toArray (u8s_one (blkB d1 k K)))
          rw [← hCS] at HO1
          clear hm hn2 hr hK hT hko hBK hBL hCS hi86 hKi hkk hok
          by_cases hT0 : T = 0
          · rw [if_pos hT0] at HC
            subst hT0
            go_wp2
            go_region_held (fun W2 => W2.cell? ⟨wr.heap.size, 1, none⟩ = some (.int .i64 x.lo)) (assumption)
              (first
                | (go_at_call 43
                   refine (next_raw (N := NB q w.heap.size) (BoxV.ext HB.out.1 (by exact (ext_alloc1 _ _).trans (ext_drew _))) (HB.out.2.keeps (fun _ q => absurd q id) (by exact (ext_alloc1 _ _).trans (ext_drew _))) (.inr rfl)).mono ?_
                   rintro e w5 ⟨rfl, v2, hf5, hb5, hx5⟩
                   rw [← HM.out] at hf5 ⊢
                   have hs5 := (HSB.out.keep (ext_drew _) id).keep hx5 hS1
                   have hc5 := hs5.cells.2
                   have H5 := asideI (And.intro hf5 (And.intro hb5 (And.intro hx5 hs5)))
                   clear hf5 hb5 hx5 hs5
                   simp only []))
            go_wp2_with (first
              | (go_at_call 43
                 refine (next_raw (N := NB q w.heap.size) H5.out.2.1 H5.out.1 (.inr rfl)).mono ?_
                 rintro e w6 ⟨rfl, v3, hf6, hb6, hx6⟩
                 simp only [] at hf6 ⊢
                 rw [← HN.out] at hf6 ⊢
                 have hxa : Ext (fun j => j = w.heap.size) wr w6 := Ext.trans (Ext.trans ((Ext.trans (ext_alloc1 _ _) (ext_drew _)).mono fun _ q => absurd q id) H5.out.2.2.1) hx6
                 have hd6 := HDV.out.keep hxa fun b hb e => hNB.out b e hb
                 have hlk := look_blk hd6 HBK.out HIK.out.1 HIK.out.2
                 rw [← HCS.out] at hlk
                 obtain ⟨⟨_, _, g2, _⟩, _⟩ := hd6.cells
                 have H6 := asideI (And.intro hf6 (And.intro hb6 (And.intro hxa hd6)))
                 have ST6 := asideI (fun (c : Array Value) (hc : c.size = 64) => show Ext (fun _ => False) w6 ((w6.alloc (.cells c 86)).setCells w6.heap.size 0 CS.toList) by rw [HCS.out]; exact (hUU.out w6 c hc).2)
                 have SB6 := asideI (fun (c : Array Value) (hc : c.size = 64) => show ZBlk ((w6.alloc (.cells c 86)).setCells w6.heap.size 0 CS.toList) w6.heap.size (blkB d1 k K) by rw [HCS.out]; exact (hUU.out w6 c hc).1)
                 clear hf6 hb6 hx6 hxa hd6
                 simp only [])
              | (go_at_call 44
                 refine (cut_raw (q := q) (d := d1) (H6.out.2.2.2.ext (by exact ST6.out _ rfl)) k K hk1 HCW.out.1 HCW.out.2).mono ?_
                 rintro e w8 ⟨rfl, hx8⟩
                 have hE8 : Ext (EQ q) w6 w8 := (extQ (ST6.out _ (by rfl))).trans hx8.2
                 have hb8 : ZBlk w8 w6.heap.size (blkB d1 k K) := ZBlk.keep (by exact SB6.out _ rfl) hx8.2 (notEQ H6.out.2.2.2 (Nat.le_refl _))
                 have H8 := asideI (And.intro hx8.1 (And.intro hE8 hb8))
                 clear hE8 hb8 hx8
                 simp only [])
              | (refine wpList_store_mid rfl 86 _ _ rfl _ 0 CS rfl rfl (there_new _ _ _ _ (by rw [HSZ.out]; rfl)) HI.out HO1.out ?_)
              | go_in)
            go_roundg (d.zs.length - (k + 1))
            case measure => omega
            case rel =>
              refine ⟨k + 1, by simp, by omega, by omega, ?_, extB HE.out ((H6.out.2.2.1.mono (fun _ h => .inr h)).trans (H8.out.2.1.mono (fun _ h => .inl h)) : Ext (NB q w.heap.size) wr w8) (by rintro b (h | rfl); exact .inl h; exact .inr (Nat.le_refl _)), v3, H6.out.2.1.keeps n0.out H8.out.2.1, ?_⟩
              · rw [HS.out, HC.out]; exact H8.out.1
              · rw [HS.out, HC.out]; simp only [← HM.out, ← HN.out]; exact H6.out.1.keeps (fun j h _ => .inl h) H8.out.2.1
          · rw [if_neg hT0] at HC
            have hTp : (0 : Int) < (T : Int) := by omega
            have hT65 : (T : Int) ≤ 64 := by omega
            have hT66 : T ≤ 64 := by omega
            have hwK1 : IntKind.i64.wrap ((K : Int) + 1) = (K : Int) + 1 := by rw [IntKind.wrap_i64]; omega
            have hwK2 : wrap64 ((K : Int) + 1) = (K : Int) + 1 := by unfold wrap64; omega
            have hu86 : Try.prog.underlying 86 = some (.array 64 5) := by kernel_rfl
            go_wp2
            go_region_held (fun W2 => W2.cell? ⟨wr.heap.size, 1, none⟩ = some (.int .i64 x.lo)) (assumption)
              (first
                | (go_at_call 43
                   refine (next_raw (N := NB q w.heap.size) (BoxV.ext HB.out.1 (by exact (ext_alloc1 _ _).trans (ext_drew _))) (HB.out.2.keeps (fun _ q => absurd q id) (by exact (ext_alloc1 _ _).trans (ext_drew _))) (.inr rfl)).mono ?_
                   rintro e w5 ⟨rfl, v2, hf5, hb5, hx5⟩
                   rw [← HM.out] at hf5 ⊢
                   have hs5 := (HSB.out.keep (ext_drew _) id).keep hx5 hS1
                   have hc5 := hs5.cells.2
                   have H5 := asideI (And.intro hf5 (And.intro hb5 (And.intro hx5 hs5)))
                   clear hf5 hb5 hx5 hs5
                   simp only []))
            go_wp2_with (first
              | (go_at_call 43
                 refine (next_raw (N := NB q w.heap.size) H5.out.2.1 H5.out.1 (.inr rfl)).mono ?_
                 rintro e w6 ⟨rfl, v3, hf6, hb6, hx6⟩
                 simp only [] at hf6 ⊢
                 rw [← HN.out] at hf6 ⊢
                 have hxa : Ext (fun j => j = w.heap.size) wr w6 := Ext.trans (Ext.trans ((Ext.trans (ext_alloc1 _ _) (ext_drew _)).mono fun _ q => absurd q id) H5.out.2.2.1) hx6
                 have hd6 := HDV.out.keep hxa fun b hb e => hNB.out b e hb
                 have hlk := look_blk hd6 HBK.out HIK.out.1 HIK.out.2
                 rw [← HCS.out] at hlk
                 obtain ⟨⟨_, _, g2, _⟩, _⟩ := hd6.cells
                 have H6 := asideI (And.intro hf6 (And.intro hb6 (And.intro hxa hd6)))
                 have ST6 := asideI (fun (c : Array Value) (hc : c.size = 64) => show Ext (fun _ => False) w6 ((w6.alloc (.cells c 86)).setCells w6.heap.size 0 CS.toList) by rw [HCS.out]; exact (hUU.out w6 c hc).2)
                 have SB6 := asideI (fun (c : Array Value) (hc : c.size = 64) => show ZBlk ((w6.alloc (.cells c 86)).setCells w6.heap.size 0 CS.toList) w6.heap.size (blkB d1 k K) by rw [HCS.out]; exact (hUU.out w6 c hc).1)
                 clear hf6 hb6 hx6 hxa hd6
                 simp only [])
              | (go_at_call 44
                 refine (cut_raw (q := q) (d := d1) (H6.out.2.2.2.ext (by exact ST6.out _ rfl)) k K hk1 HCW.out.1 HCW.out.2).mono ?_
                 rintro e w8 ⟨rfl, hx8⟩
                 have hE8 : Ext (EQ q) w6 w8 := (extQ (ST6.out _ (by rfl))).trans hx8.2
                 have hb8 : ZBlk w8 w6.heap.size (blkB d1 k K) := ZBlk.keep (by exact SB6.out _ rfl) hx8.2 (notEQ H6.out.2.2.2 (Nat.le_refl _))
                 obtain ⟨hcl, hb9, hx9⟩ := clear_new hb8 HBL.out hT64
                 obtain ⟨w9, hw9⟩ : ∃ w9, w9 = w8.setCells w6.heap.size T (List.replicate (64 - T) (.int .u8 0)) := ⟨_, rfl⟩
                 rw [← hw9] at hcl hb9 hx9
                 have hd9 := hx8.1.keep hx9 (by rintro b hb rfl; exact notEQ H6.out.2.2.2 (Nat.le_refl _) hb)
                 have hlt9 := hd9.lt.1
                 have hE9 : Ext (fun j => EQ q j ∨ w6.heap.size ≤ j) w6 w9 := (hE8.mono fun _ h => .inl h).trans (hx9.mono fun _ h => .inr (by omega))
                 obtain ⟨w10, hrun, ho, ht⟩ := hd9.drew.bm.store (t := 81) (e := 86) K88 (by kernel_rfl) hnn.out (key := kv k K) (val := .agg (u8s (tornB T (blkB d1 k K))).toArray) (kl := kl k K) (d := .held (.agg (u8s (tornB T (blkB d1 k K))).toArray)) (ps := [])
                   (key88 HIK.out.1 HIK.out.2) rfl
                 have hT10 := hd9.drew.turn ho ht
                 have hE10 : Ext (fun j => EQ q j ∨ w6.heap.size ≤ j) w6 w10 := (hE9.trans ((ext_drew w9).mono fun _ h => absurd h id)).trans (hT10.2.mono fun _ h => .inl h)
                 obtain ⟨TB, hTB⟩ : ∃ TB, TB = u8s (tornB T (blkB d1 k K)) := ⟨_, rfl⟩
                 have hk16 : (Instr.mapUpdate 81 (.map (some q.mb)) (.agg #[.int .i64 k, .int .i64 K]) (.agg TB.toArray)).run Try.prog w9.drew = .ok () w10 := by rw [hTB]; exact hrun
                 have hr9 : w9.rangeAt w6.heap.size 0 TB := by rw [hTB]; exact hb9.range
                 have hi16 : (Try.prog.info? 86).map (·.size) = some TB.length := by rw [hTB, u8s_len, tornB_len HBL.out hT66]; kernel_rfl
                 obtain ⟨⟨_, _, g2, _⟩, _⟩ := hd9.cells
                 obtain ⟨⟨t0, _, t2, _⟩, t1, _⟩ := hT10.1.cells
                 have hr10 : w10.rangeAt w6.heap.size 0 TB := by rw [hTB]; exact ((hb9.keep (ext_drew _) id).keep hT10.2 (notEQ H6.out.2.2.2 (Nat.le_refl _))).range
                 obtain ⟨⟨y0, _⟩, y1, _⟩ := hT10.1.zcells (i := k) (show k < (cutD d1 k K).zs.length by simpa [cutD] using hk1)
                 have hcat : ((cutD d1 k K).zs.getD k z0).wr = K := by rw [show (cutD d1 k K).zs.getD k z0 = zAt (cutD d1 k K) k from rfl, cut_at d1 k K hk1]
                 have hcl9 : (cutD d1 k K).zs.length = d.zs.length := by simp [cutD, hl1]
                 simp only [hcat, hcl9] at t0 y0
                 have hHT := asideI hTB
                 have H10 := asideI (And.intro hT10.1 hE10)
                 clear hrun ho ht hT10 hE10 hE9 hd9 hx9 hb9 hw9 hTB hcat hcl9
                 have H8 := asideI (And.intro hx8.1 (And.intro hE8 hb8))
                 clear hE8 hb8 hx8
                 simp only [])
              | (refine wpList_store_mid rfl 86 _ _ rfl _ 0 CS rfl rfl (there_new _ _ _ _ (by rw [HSZ.out]; rfl)) HI.out HO1.out ?_)
              | go_in)
            go_region_held (fun W2 => W2.cell? ⟨q.p, 2, none⟩ = some (.map (some q.mb)) ∧ W2.rangeAt w6.heap.size 0 TB) (first | (simp [*]; done) | (refine ⟨?_, ?_⟩ <;> assumption)) (fail)
            clear hk16 hr9 hcl
            go_wp2
            go_roundg (d.zs.length - (k + 1))
            case measure => omega
            case rel =>
              have hz2 : k < (cutD d1 k K).zs.length := by simpa [cutD] using hk1
              have hca := cut_at d1 k K hk1
              have hcb : (cutD d1 k K).zs.getD k z0 = ⟨K, (zAt d1 k).lo, (zAt d1 k).fin⟩ := hca
              have s1 := H10.out.1.setZ (i := k) (k := 0) hz2 (by omega) (.int .i64 ((K : Int) + 1)) ⟨(K : Int) + 1, (zAt d1 k).lo, (zAt d1 k).fin⟩ (by show (encZ ((cutD d1 k K).zs.getD k z0)).set 0 _ = _; rw [hcb]; rfl)
              have hE11 : Ext (fun j => EQ q j ∨ w6.heap.size ≤ j) w6 (w10.setCell ⟨q.za, k * 3, none⟩ (.int .i64 ((K : Int) + 1))) := H10.out.2.trans ((ext_set1 _ _ _ _).mono (by rintro b rfl; exact .inl (.inr (.inl rfl))))
              have hs6 := H6.out.2.2.1.size
              have hsw := HE.out.size
              have hb6 : BoxV (w10.setCell ⟨q.za, k * 3, none⟩ (.int .i64 ((K : Int) + 1))) w.heap.size v3 := by
                obtain ⟨te, fr, e1, e2⟩ := H6.out.2.1
                refine ⟨te, fr, (hE11.block _ (Array.getElem?_eq_some_iff.1 e1).1 ?_).trans e1, e2⟩
                rintro (h | h)
                · exact n0.out h
                · omega
              refine ⟨k + 1, by simp, by omega, by omega, ?_, extB HE.out (T := fun j => EQ q j ∨ w.heap.size ≤ j) ((H6.out.2.2.1.mono (by rintro b rfl; exact .inr (Nat.le_refl _))).trans (hE11.mono (by rintro b (h | h); exact .inl h; exact .inr (by omega)))) (fun _ h => h), v3, hb6, ?_⟩
              · rw [HS.out, HC.out]
                have e : tornD (cutD d1 k K) k K (tornB T (blkB d1 k K)) = { cutD d1 k K with zs := (cutD d1 k K).zs.set k ⟨(K : Int) + 1, (zAt d1 k).lo, (zAt d1 k).fin⟩, n := (cutD d1 k K).n + 1, D := (cutD d1 k K).D.put (kl k K) (.held (.agg (u8s (tornB T (blkB d1 k K))).toArray)) } := by
                  unfold tornD
                  rw [hcb]
                simp only
                rw [e]
                exact s1
              · rw [HS.out, HC.out]
                simp only [← HM.out, ← HN.out]
                exact H6.out.1.keeps (fun j h hj => by rcases h with h | h; exact .inl h; omega) hE11
    · obtain rfl : k = d.zs.length := by omega
      have HSF := asideI (safe_raw hdv)
      have hlz := hdv.lt
      have HDV := asideI hdv
      clear hbx hft hdv HS
      go_wp2_with (first
        | (go_at_call 45
           refine HSF.out.mono ?_
           rintro e w5 ⟨rfl, hx5⟩
           have HX5 := asideI hx5
           obtain ⟨⟨a0, a1, a2, a3, a4, a5, a6⟩, b0, b1, b2, b3, b4, b5, b6⟩ := hx5.1.cells
           clear hx5
           simp only [])
        | go_in)
      go_end0
      refine ⟨rfl, ?_, extQ_set (extQ_set (extQ_set (HE.out.trans HX5.out.2) (.inl (.inl rfl)) _ _) (.inl (.inl rfl)) _ _) (.inl (.inl rfl)) _ _⟩
      have s1 := HX5.out.1.setP 3 (.bool false) { safeD (crashTo (d, fs) d.zs.length).1 with down := false } rfl rfl rfl rfl
      have s2 := s1.setP 6 (.bool false) { safeD (crashTo (d, fs) d.zs.length).1 with down := false, done := false } rfl rfl rfl rfl
      exact s2.setP 5 (.int .i64 (-1)) (crashD d fs) rfl rfl rfl rfl
end Go.Proofs.Ytifemhfpcichfaa

/- Zone: copies; a new device. -/



set_option linter.unusedSimpArgs false
set_option linter.unusedVariables false
set_option maxHeartbeats 4000000
set_option maxRecDepth 1000000
namespace Go.Proofs.Ytifemhfpcichfaa
open Go.RowKit
open Go.Av Go.Maps

theorem und81 : Try.prog.underlying 81 = some (.map 88 86) := by kernel_rfl
theorem clone54_raw {w : World} {b : Nat} {es : Array MapEntry} {clock : Nat} (hb : w.heap[b]? = some (.map es clock)) :
    Calls Try.prog 54 #[.map (some b)] w fun e w' => e = .returned (.map (some w.heap.size)) ∧ w' = w.alloc (.map es clock) := by
  have hq := fun w => Go.Proofs.run_eql_map_nil_sl (P := Try.prog) w 81 _ _ (some b) und81
  go_enter Try.func54, Try.ntmps54
  go_wp2_with (first | (go_at_call 66; fail) | fail)
  rw [run_callFunc_extern Try.func66 (by kernel_rfl) (by kernel_rfl) (by kernel_rfl) (e := Extern.MapsClone.clone) (by kernel_rfl), Go.Proofs.run_maps_clone_sl w _ hb]
  simp only [Result.andThen]
  rw [Oper.upon_value]
  go_wp2
  rw [Go.Proofs.run_typeAssert_map_sl _ _ _ _ _ _ und81]
  simp only [Result.andThen]
  rw [Oper.upon_value]
  go_wp2
  go_ret
  exact ⟨rfl, rfl⟩
def flatZ (l : List Zn) : List Value := l.flatMap encZ
theorem flatZ_len (l : List Zn) : (flatZ l).length = l.length * 3 := by
  induction l with
  | nil => rfl
  | cons x r ih => simp only [flatZ, List.flatMap_cons, List.length_append, List.length_cons] at ih ⊢; rw [ih]; simp [encZ]; omega
theorem flatZ_get : ∀ (l : List Zn) (i q : Nat), i < l.length → q < 3 → (flatZ l)[i * 3 + q]? = some ((encZ (l.getD i z0)).getD q Go.undef)
  | [], i, q, hi, _ => by simp at hi
  | x :: r, 0, q, _, hq => by
    simp only [flatZ, List.flatMap_cons, Nat.zero_mul, Nat.zero_add, List.getD_cons_zero]
    have hl : (encZ x).length = 3 := rfl
    rw [List.getElem?_append_left (by omega), List.getD_eq_getElem?_getD, List.getElem?_eq_getElem (by omega)]; rfl
  | x :: r, i + 1, q, hi, hq => by
    have ih := flatZ_get r i q (by simpa using hi) hq
    have hl : (encZ x).length = 3 := rfl
    simp only [flatZ, List.flatMap_cons, List.getD_cons_succ] at ih ⊢
    rw [List.getElem?_append_right (by omega), hl, show (i + 1) * 3 + q - 3 = i * 3 + q by omega]
    exact ih
theorem flatZ_one (l : List Zn) : ∀ v ∈ flatZ l, v.oneCell' = true := by
  intro v hv
  obtain ⟨x, _, hx⟩ := List.mem_flatMap.1 hv
  simp only [encZ, List.mem_cons, List.not_mem_nil, or_false] at hx
  rcases hx with rfl | rfl | rfl <;> rfl
def ZRow (w : World) (b : Nat) (l : List Zn) (cap : Nat) : Prop := ∃ c, w.heap[b]? = some (.cells c 85 (0, 0)) ∧ c.size = cap * 3 ∧ l.length ≤ cap ∧ RowZ c l
theorem clone53_raw {w : World} {q : Dp} {d : Dv} (h : DevAt w q d) :
    Calls Try.prog 53 #[.slice (some ⟨q.za, 0, none⟩) d.zs.length q.cap] w fun e w' => ∃ b cap, e = .returned (.slice (some ⟨b, 0, none⟩) d.zs.length cap) ∧ w.heap.size ≤ b ∧ ZRow w' b d.zs cap ∧ Ext (fun _ => False) w w' := by
  obtain ⟨i0, hi, hz0, hz1, hz2⟩ := info_parts (P := Try.prog) (e := 85) (z := .agg #[.int .i64 0, .int .i64 0, .bool false]) (size := 3) (bytes := 24) (by kernel_rfl)
  have hu : Try.prog.underlying 80 = some (.slice 85) := by kernel_rfl
  have hlen := h.len
  have hza := h.lt.2.1
  obtain ⟨c, te, fr, h1, h2, h3, h4⟩ := h.bz
  have A := asideI (fun (j : Nat) (u : Value) (hj : (flatZ d.zs)[j]? = some u) => show w.cell? ⟨q.za, 0 + j, none⟩ = some u by
    have hjl := (List.getElem?_eq_some_iff.1 hj).1
    rw [flatZ_len] at hjl
    have := flatZ_get d.zs (j / 3) (j % 3) (by omega) (Nat.mod_lt _ (by omega))
    rw [show j / 3 * 3 + j % 3 = j by omega] at this
    have h5 := h4 (j / 3) (by omega) (j % 3) (Nat.mod_lt _ (by omega))
    rw [show j / 3 * 3 + j % 3 = j by omega] at h5
    rw [cell_of_block h1, Nat.zero_add, h5, ← this, hj])
  have q80 : ∀ (w : World) (a : Option Addr) (n c n' c' : Nat), (binOp .eql 80 (.slice a n c) (.slice none n' c')).run Try.prog w = .ok (.bool a.isNone) w := fun w a n c n' c' => Go.Lib.run_eql_slice_nil w _ _ a n c n' c' hu
  clear h h1 h2 h3 h4
  go_enter Try.func53, Try.ntmps53
  go_wp2_with (at_builtin; refine wpList_append_own _ rfl _ _ 80 rfl w.heap.size 85 i0 (.agg #[.int .i64 0, .int .i64 0, .bool false]) 3 24 hu hi hz0 hz1 hz2 rfl (by decide) _ _ _ rfl (World.ownsRow_made w #[] 0 (Nat.le_refl _) (Nat.zero_le _) rfl) ⟨q.za, 0, none⟩ d.zs.length q.cap (flatZ d.zs) rfl ?qc1 ?qc2 ?qc3 ?qc4 ?qc5 ?qc6 ?_)
  case qc1 => exact flatZ_len _
  case qc2 =>
    intro j u hj
    rw [Addr.add_lit]
    have := A.out j u hj
    exact (World.cell?_of_block (ext_alloc1 w _ |>.block q.za hza id)).trans this
  case qc3 => exact flatZ_one _
  case qc4 => unfold maxLen; omega
  case qc5 => omega
  case qc6 => simp
  intro v' w1 hown hgrow hnil
  go_wp2
  go_ret
  have hB := ((Below.refl w.heap.size w).alloc (Nat.le_refl _) _).grown hgrow (by simp) (by intro k hk; simp [Value.ownBlock] at hk; omega)
  obtain ⟨hl, hor⟩ := hown
  rcases hor with ⟨e, _⟩ | ⟨g, cap, cur, rfl, hb, hg, hn, _, hs, ht⟩
  · exact (hnil e).elim
  · refine ⟨g, cap, rfl, hb, ⟨cur, hg, hs, hn, fun i hi q hq => ?_⟩, ⟨hB.os, hB.tape, hB.output, hB.size, fun k hk _ => hB.block k hk⟩⟩
    rw [← flatZ_get d.zs i q hi hq, ← ht, List.getElem?_take, if_pos (by omega), Array.getElem?_toList]
def newD (z b : Int) : Dv := ⟨List.replicate z.toNat z0, b, 0, .map [], false, 0, -1, false⟩
def newOk (z b : Int) : Bool := decide (4 ≤ z) && decide (z ≤ 64) && decide (4 ≤ b) && decide (b ≤ 256)
def NewP (w : World) (z b : Int) (e : Ending) (w' : World) : Prop :=
  Ext (fun _ => False) w w' ∧ ((newOk z b = false ∧ e = .returned (.tuple #[.pointer none, .int .i64 2])) ∨ (newOk z b = true ∧ ∃ q, e = .returned (.tuple #[.pointer (some ⟨q.p, 0, none⟩), .int .i64 0]) ∧ (∀ k, EQ q k → w.heap.size ≤ k) ∧ DevAt w' q (newD z b)))
theorem newAt (w : World) (n : Nat) (b : Int) (CC : Array Value) (t : TypeId) (h : CC = madeCells (Value.agg #[.int .i64 0, .int .i64 0, .bool false]).cells (n * 3)) (hn : n ≤ 64) (ht : t = 83 := by rfl) :
    DevAt (((w.alloc (.cells CC 85)).alloc (.map #[] 0)).alloc (.cells #[.slice (some ⟨w.heap.size, 0, none⟩) n n, .int .i64 b, .map (some (w.heap.size + 1)), .bool false, .int .i64 0, .int .i64 (-1), .bool false] t)) ⟨w.heap.size + 1 + 1, w.heap.size, w.heap.size + 1, n⟩ (newD n b) := by
  subst ht
  have e1 : (w.alloc (.cells CC 85)).heap.size = w.heap.size + 1 := by simp
  have e2 : ((w.alloc (.cells CC 85)).alloc (.map #[] 0)).heap.size = w.heap.size + 1 + 1 := by simp
  have hM := World.ownsMap_made (w.alloc (.cells CC 85)) Try.prog 88 RH
  rw [e1] at hM
  refine ⟨?_, ⟨CC, 85, (0, 0), ?_, .inl rfl, ?_, ?_⟩, ?_, Nat.ne_of_gt (show w.heap.size < w.heap.size + 1 + 1 by omega), Nat.ne_of_gt (show w.heap.size + 1 < w.heap.size + 1 + 1 by omega), Nat.ne_of_lt (show w.heap.size < w.heap.size + 1 by omega), by simp [newD]; omega⟩
  · rw [alloc_get, e2, if_pos rfl]; simp [devCells, newD]
  · simp only
    rw [alloc_get, e2, if_neg (by omega), alloc_get, e1, if_neg (by omega), alloc_get, if_pos rfl]
  · rw [h, size_madeCells]; simp [newD]
  · intro i hi q hq
    have hi' : i < n := by simpa [newD] using hi
    have e : (newD n b).zs.getD i z0 = z0 := by simp [newD, List.getD_eq_getElem?_getD, hi']
    rw [e, h]
    have hlt : i * 3 + q < n * 3 := by omega
    simp only [madeCells, Array.getElem?_map, Array.getElem?_range, hlt, if_true, Option.map_some]
    have : (Value.agg #[.int .i64 0, .int .i64 0, .bool false]).cells = #[.int .i64 0, .int .i64 0, .bool false] := rfl
    rw [this]
    have hm : (i * 3 + q) % 3 = q := by omega
    simp only [List.size_toArray, List.length_cons, List.length_nil, Nat.zero_add, hm]
    match q, hq with
    | 0, _ => rfl
    | 1, _ => rfl
    | 2, _ => rfl
  · obtain ⟨es, cl, m1, m2⟩ := hM
    have hlt := (Array.getElem?_eq_some_iff.1 m1).1
    exact ⟨es, cl, by rw [alloc_get, if_neg (by simp only; omega)]; exact m1, m2⟩
theorem new_raw (w : World) (z b : Int) : Calls Try.prog 23 #[.int .i64 z, .int .i64 b] w (NewP w z b) := by
  by_cases h1 : 4 ≤ z
  · by_cases h2 : z ≤ 64
    · by_cases h3 : 4 ≤ b
      · by_cases h4 : b ≤ 256
        · have hk : newOk z b = true := by simp [newOk, h1, h2, h3, h4]
          obtain ⟨n, rfl⟩ : ∃ n : Nat, z = n := ⟨z.toNat, by omega⟩
          have HK := asideI hk
          have hn : n ≤ 64 := by omega
          clear hk
          obtain ⟨i0, hi, hz0, hz1, hz2⟩ := info_parts (P := Try.prog) (e := 85) (z := .agg #[.int .i64 0, .int .i64 0, .bool false]) (size := 3) (bytes := 24) (by kernel_rfl)
          have hms := run_make (P := Try.prog) w 80 85 i0 _ (by kernel_rfl) hi hz0 .i64 .i64 n n (by omega) (Int.le_refl _) (by rw [hz2]; omega) (by omega)
          rw [hz1, Int.toNat_natCast] at hms
          obtain ⟨CC, hCC⟩ : ∃ CC, CC = madeCells (Value.agg #[.int .i64 0, .int .i64 0, .bool false]).cells (n * 3) := ⟨_, rfl⟩
          rw [← hCC] at hms
          have HCC := asideI hCC
          have hmm := fun w => run_makeMap (P := Try.prog) 81 w
          clear hCC hi hz0 hz1 hz2
          go_enter Try.func23, Try.ntmps23
          go_wp2
          go_ret2
          refine ⟨((ext_alloc1 _ _).trans (ext_alloc1 _ _)).trans (ext_alloc1 _ _), .inr ⟨HK.out, ⟨w.heap.size + 1 + 1, w.heap.size, w.heap.size + 1, n⟩, rfl, ?_, newAt w n b CC 83 HCC.out hn⟩⟩
          rintro k (h | h | h) <;> simp only at h <;> omega
        · have hk : newOk z b = false := by simp [newOk, h4]
          have HK := asideI hk
          clear hk
          go_enter Try.func23, Try.ntmps23
          go_wp2
          go_ret2
          exact ⟨Ext.refl _ _, .inl ⟨HK.out, rfl⟩⟩
      · have hk : newOk z b = false := by simp [newOk, h3]
        have HK := asideI hk
        clear hk
        go_enter Try.func23, Try.ntmps23
        go_wp2
        go_ret2
        exact ⟨Ext.refl _ _, .inl ⟨HK.out, rfl⟩⟩
    · have hk : newOk z b = false := by simp [newOk, h2]
      have HK := asideI hk
      clear hk
      go_enter Try.func23, Try.ntmps23
      go_wp2
      go_ret2
      exact ⟨Ext.refl _ _, .inl ⟨HK.out, rfl⟩⟩
  · have hk : newOk z b = false := by simp [newOk, h1]
    have HK := asideI hk
    clear hk
    go_enter Try.func23, Try.ntmps23
    go_wp2
    go_ret2
    exact ⟨Ext.refl _ _, .inl ⟨HK.out, rfl⟩⟩
end Go.Proofs.Ytifemhfpcichfaa

/- Zone: Full, Fork. -/

set_option linter.unusedSimpArgs false
set_option linter.unusedVariables false
set_option maxHeartbeats 4000000
set_option maxRecDepth 1000000
namespace Go.Proofs.Ytifemhfpcichfaa
open Go.RowKit
open Go.Av Go.Maps

def BB (w : World) (b : Nat) (bs : List UInt8) : Prop := w.heap[b]? = some (.cells (u8s bs).toArray 5 (0, 0))
theorem BB.cell {w : World} {b i : Nat} {bs : List UInt8} (h : BB w b bs) (hi : i < bs.length) : w.cell? ⟨b, i, none⟩ = some (.int .u8 (bs.getD i 0).toNat) ∧ w.frozen? ⟨b, i, none⟩ = false := by
  constructor
  · rw [cell_of_block (show w.heap[b]? = _ from h)]
    simp [u8s, List.getElem?_eq_getElem hi, List.getD_eq_getElem?_getD]
  · simp [World.frozen?, show w.heap[b]? = _ from h]
theorem BB.set {w : World} {b i : Nat} {bs : List UInt8} (h : BB w b bs) (x : UInt8) : BB (w.setCell ⟨b, i, none⟩ (.int .u8 x.toNat)) b (bs.set i x) := by
  unfold BB
  rw [blk_same (show w.heap[b]? = _ from h)]
  congr 2
  simp [u8s, List.map_set]
def fullB (c : UInt8) (k : Nat) : List UInt8 := List.replicate k c ++ List.replicate (64 - k) 0
theorem fullB_len (c : UInt8) {k : Nat} (h : k ≤ 64) : (fullB c k).length = 64 := by simp [fullB]; omega
theorem fullB_set (c : UInt8) {k : Nat} (h : k < 64) : (fullB c k).set k c = fullB c (k + 1) := by
  unfold fullB
  rw [List.set_append_right _ _ (by simp), List.length_replicate, Nat.sub_self, show 64 - k = (64 - (k + 1)) + 1 by omega, List.replicate_succ, List.set_cons_zero, List.replicate_succ', List.append_assoc]
  rfl
theorem full_raw (w : World) (c : UInt8) : Calls Try.prog 16 #[.int .u8 c.toNat] w fun e w' => e = .returned (.slice (some ⟨w.heap.size, 0, none⟩) 64 64) ∧ BB w' w.heap.size (List.replicate 64 c) ∧ Ext (fun _ => False) w w' := by
  obtain ⟨i0, hi, hz0, hz1, hz2⟩ := info_parts (P := Try.prog) (e := 5) (z := .int .u8 0) (size := 1) (bytes := 1) (by kernel_rfl)
  have hms := run_make (P := Try.prog) w 24 5 i0 _ (by kernel_rfl) hi hz0 .i64 .i64 64 64 (by omega) (Int.le_refl _) (by rw [hz2]; omega) (by omega)
  rw [hz1] at hms
  obtain ⟨w1, hw1⟩ : ∃ w1, w1 = w.alloc (.cells (madeCells (Value.int .u8 0).cells ((64 : Int).toNat * 1)) 5) := ⟨_, rfl⟩
  rw [← hw1] at hms
  have hE : Ext (fun _ => False) w w1 := by rw [hw1]; exact ext_alloc1 _ _
  have hB : BB w1 w.heap.size (fullB c 0) := by
    unfold BB
    rw [hw1, alloc_get, if_pos rfl]
    congr 2
    show madeCells #[.int .u8 0] 64 = _
    refine Array.toList_inj.1 ?_
    rw [toList_madeCells_one]
    simp [u8s, fullB]
  have HB := asideI (And.intro hB hE)
  have hms2 : (Instr.makeSlice 24 (.int .i64 64) (.int .i64 64)).run Try.prog w = .ok (.slice (some ⟨w.heap.size, 0, none⟩) 64 64) w1 := hms
  clear hms hw1 hE hB hi hz0 hz1 hz2
  go_enter Try.func16, Try.ntmps16
  go_wp2
  go_loopg [4] 64 (fun gg s4 wr => ∃ (k : Nat), s4 = .int .i64 k ∧ k ≤ 64 ∧ 64 - k ≤ gg ∧ Aside (BB wr w.heap.size (fullB c k) ∧ Ext (fun j => j = w.heap.size) w1 wr))
  case atStart => exact ⟨0, rfl, by omega, by omega, HB.out.1, Ext.refl _ _⟩
  case round =>
    obtain ⟨k, rfl, hk, hgg, H2⟩ := hrel
    clear hms2
    by_cases hlt : k < 64
    · have hz : (k : Int) < 64 := by omega
      have hw : IntKind.i64.wrap ((k : Int) + 1) = (k : Int) + 1 := by rw [IntKind.wrap_i64]; omega
      obtain ⟨c0, c1⟩ := H2.out.1.cell (i := k) (by rw [fullB_len c hk]; exact hlt)
      go_wp2
      go_roundg (64 - (k + 1))
      case measure => omega
      case rel => exact ⟨k + 1, by simp, by omega, by omega, by rw [← fullB_set c hlt]; exact H2.out.1.set c, H2.out.2.trans (ext_set1 _ _ _ _)⟩
    · obtain rfl : k = 64 := by omega
      go_wp2
      go_ret
      refine ⟨rfl, ?_, ?_⟩
      · have := H2.out.1
        simpa [fullB] using this
      · obtain ⟨e1, e2, e3, e4, e5⟩ := HB.out.2
        obtain ⟨f1, f2, f3, f4, f5⟩ := H2.out.2
        exact ⟨f1.trans e1, f2.trans e2, f3.trans e3, Nat.le_trans e4 f4, fun j hj _ => (f5 j (by omega) (by omega)).trans (e5 j hj id)⟩
theorem fork_fin {W : World} {q : Dp} {d : Dv} {t g b cap : Nat} (hp : W.heap[t]? = some (.cells (devCells q d).toArray 83 (0, 0))) (hz : ZRow W g d.zs cap) (hm : W.ownsMap Try.prog 88 RH b d.n d.D) (n1 : t ≠ g) (n2 : t ≠ b) (n3 : g ≠ b) (hl : d.zs.length ≤ 1000) :
    DevAt ((W.setCell ⟨t, 0, none⟩ (.slice (some ⟨g, 0, none⟩) d.zs.length cap)).setCell ⟨t, 2, none⟩ (.map (some b))) ⟨t, g, b, cap⟩ d := by
  obtain ⟨c, h1, h2, h3, h4⟩ := hz
  refine ⟨?_, ⟨c, 85, (0, 0), ?_, .inl rfl, by omega, h4⟩, ?_, n1, n2, n3, hl⟩
  · simp only
    rw [blk_same (blk_same hp _)]
    simp [devCells]
  · simp only
    rw [blk_other n1.symm, blk_other n1.symm]; exact h1
  · exact (hm.setCell (a := ⟨t, 0, none⟩) n2.symm _).setCell (a := ⟨t, 2, none⟩) n2.symm _
theorem fork_raw {w : World} {q : Dp} {d : Dv} (h : DevAt w q d) : Calls Try.prog 20 #[.pointer (some ⟨q.p, 0, none⟩)] w fun e w' => ∃ q', e = .returned (.pointer (some ⟨q'.p, 0, none⟩)) ∧ (∀ k, EQ q' k → w.heap.size ≤ k) ∧ DevAt w' q' d ∧ Ext (fun _ => False) w w' := by
  obtain ⟨⟨a0, a1, a2, a3, a4, a5, a6⟩, e0, e1, e2, e3, e4, e5, e6⟩ := h.cells
  obtain ⟨hlt, hlz, hlm⟩ := h.lt
  obtain ⟨es, cl, hmb, hown⟩ := h.bm
  have HD := asideI h
  have hlen := h.len
  have HM := asideI (And.intro hmb hown)
  have hne : ¬ (q.p = w.heap.size) := by omega
  have hne2 : ¬ (w.heap.size = q.p) := by omega
  obtain ⟨wa, hwa⟩ : ∃ wa, wa = w.alloc (.cells (devCells q d).toArray 83) := ⟨_, rfl⟩
  have hta : wa.heap[w.heap.size]? = some (.cells (devCells q d).toArray 83 (0, 0)) := by rw [hwa, alloc_get, if_pos rfl]
  have HA := asideI (And.intro hta (show Ext (fun _ => False) w wa by rw [hwa]; exact ext_alloc1 _ _))
  have HWA := asideI hwa
  clear h hmb hown hwa hta
  go_enter Try.func20, Try.ntmps20
  go_wp2
  go_region_held (fun W2 => W2.cell? ⟨q.p, 0, none⟩ = some (.slice (some ⟨q.za, 0, none⟩) d.zs.length q.cap) ∧ W2.cell? ⟨q.p, 2, none⟩ = some (.map (some q.mb))) (first | (simp [*, World.cell?_alloc_some, World.cell?_setCell_far]; done) | (refine ⟨?_, ?_⟩ <;> assumption))
    (first
      | (go_at_call 53
         refine (clone53_raw (q := q) (d := d) (by exact (HD.out.ext (ext_alloc1 _ _)).drew)).mono ?_
         rintro e w5 ⟨b5, cap5, rfl, hb5, hz5, hx5⟩
         have hxa : Ext (fun _ => False) wa w5 := by rw [HWA.out]; exact (ext_drew _).trans hx5
         have hsa : wa.heap.size = w.heap.size + 1 := by rw [HWA.out]; simp
         have hb5' : w.heap.size + 1 ≤ b5 := by rw [← hsa, HWA.out]; exact hb5
         have hd5 := (HD.out.ext HA.out.2).ext hxa
         have ht5 := (hxa.block w.heap.size (by omega) id).trans HA.out.1
         have hm5 := ((HA.out.2.trans hxa).block q.mb hlm id).trans HM.out.1
         have hs5 := hxa.size
         obtain ⟨⟨f0, _, f2, _⟩, _⟩ := hd5.cells
         obtain ⟨cz, hz51, hz52⟩ := hz5
         have hz53 := (Array.getElem?_eq_some_iff.1 hz51).1
         have H5 := asideI (And.intro hxa (And.intro ht5 (And.intro hm5 (And.intro (show ZRow w5 b5 d.zs cap5 from ⟨cz, hz51, hz52⟩) (And.intro hb5' (And.intro hd5 hz53))))))
         clear hb5 hz51 hz52 hx5 hxa hsa hd5 ht5 hm5
         simp only [])
      | (go_at_call 54
         refine (clone54_raw (b := q.mb) (es := es) (clock := cl) H5.out.2.2.1).mono ?_
         rintro e w6 ⟨rfl, hw6⟩
         have hx6 : Ext (fun _ => False) w5 w6 := by rw [hw6]; exact ext_alloc1 _ _
         have ht6 := (hx6.block w.heap.size (by omega) id).trans H5.out.2.1
         have hm6 : w6.ownsMap Try.prog 88 RH w5.heap.size d.n d.D := ⟨es, cl, by rw [hw6, alloc_get, if_pos rfl], HM.out.2⟩
         obtain ⟨cz, hz51, hz52⟩ := H5.out.2.2.2.1
         have hz6 : ZRow w6 b5 d.zs cap5 := ⟨cz, (hx6.block b5 hz53 id).trans hz51, hz52⟩
         obtain ⟨⟨g0, _, g2, _⟩, _⟩ := (H5.out.2.2.2.2.2.1.ext hx6).cells
         have t0 : w6.cell? ⟨w.heap.size, 0, none⟩ = some (.slice (some ⟨q.za, 0, none⟩) d.zs.length q.cap) := by simp [World.cell?, ht6, devCells]
         have t1 : w6.frozen? ⟨w.heap.size, 0, none⟩ = false := by simp [World.frozen?, ht6]
         have t2 : w6.cell? ⟨w.heap.size, 2, none⟩ = some (.map (some q.mb)) := by simp [World.cell?, ht6, devCells]
         have t3 : w6.frozen? ⟨w.heap.size, 2, none⟩ = false := by simp [World.frozen?, ht6]
         have H6 := asideI (And.intro hx6 (And.intro ht6 (And.intro hm6 hz6)))
         clear hw6 hx6 ht6 hm6 hz6 hz51 hz52
         simp only []))
  go_wp2
  go_ret
  have hb5 := H5.out.2.2.2.2.1
  have hb53 := H5.out.2.2.2.2.2.2
  refine ⟨⟨w.heap.size, b5, w5.heap.size, cap5⟩, rfl, ?_, fork_fin H6.out.2.1 H6.out.2.2.2 H6.out.2.2.1 (by omega) (by omega) (by omega) hlen, ?_⟩
  · rintro k (h | h | h) <;> simp only at h <;> omega
  · have hx := (HA.out.2.trans H5.out.1).trans H6.out.1
    exact ⟨hx.os, hx.tape, hx.output, by have := hx.size; simp [World.setCell]; omega, fun k hk _ => (blk_other (by omega) _).trans ((blk_other (by omega) _).trans (hx.block k hk id))⟩
end Go.Proofs.Ytifemhfpcichfaa

/- Zone: New of the document. -/


set_option linter.unusedSimpArgs false
set_option linter.unusedVariables false
set_option maxHeartbeats 8000000
namespace Go.Proofs.Ytifemhfpcichfaa

open Go.Av

def rnewD (z b : Int) : RDv := ⟨List.replicate z.toNat rz0, b, false, 0, -1, false⟩
theorem rnew_pure (z b : Int) (h : newOk z b = true) : Pure Try.prog 30 [.int .i64 z, .int .i64 b] (.tup [.sv (rnewD z b).sv, .sv (.int .i64 0)]) := by
  refine pure_go R0_ok Try.func30 Try.ntmps30 comp30 cres30 (by decide) (by simp) ?_
  simp only [newOk, Bool.and_eq_true, decide_eq_true_eq] at h
  obtain ⟨⟨⟨h1, h2⟩, h3⟩, h4⟩ := h
  obtain ⟨n, rfl⟩ : ∃ n : Nat, z = n := ⟨z.toNat, by omega⟩
  have k1 : ¬ (n : Int) < 4 := by omega
  have k2 : ¬ (64 : Int) < n := by omega
  have k3 : ¬ b < 4 := by omega
  have k4 : ¬ (256 : Int) < b := by omega
  have hz : ZL (List.replicate n rz0) = List.replicate n (.agg [.nils, .int .i64 0, .bool false]) := by simp [ZL, RZ.sv, RZ.cells, rz0, bSV]
  simp [ac30, ar30, R0, k1, k2, k3, k4, rnewD, RDv.sv, RDv.cells, hz]
  try omega
theorem rnew_err (z b : Int) (h : newOk z b = false) : Pure Try.prog 30 [.int .i64 z, .int .i64 b] (.tup [.sv (.agg [.nils, .int .i64 0, .bool false, .int .i64 0, .int .i64 0, .bool false]), .sv (.int .i64 2)]) := by
  refine pure_go R0_ok Try.func30 Try.ntmps30 comp30 cres30 (by decide) (by simp) ?_
  unfold newOk at h
  by_cases k1 : z < 4
  · simp [ac30, ar30, R0, k1]
  · by_cases k2 : (64 : Int) < z
    · simp [ac30, ar30, R0, k1, k2]
    · by_cases k3 : b < 4
      · simp [ac30, ar30, R0, k1, k2, k3]
      · have k4 : (256 : Int) < b := by
          have e1 : decide (4 ≤ z) = true := by simp; omega
          have e2 : decide (z ≤ 64) = true := by simp; omega
          have e3 : decide (4 ≤ b) = true := by simp; omega
          rw [e1, e2, e3] at h
          simp at h
          omega
        simp [ac30, ar30, R0, k1, k2, k3, k4]
end Go.Proofs.Ytifemhfpcichfaa
