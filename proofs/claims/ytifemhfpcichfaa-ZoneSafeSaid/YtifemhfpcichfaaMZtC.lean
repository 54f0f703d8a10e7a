import Derived.Test.YtifemhfpcichfaaMZsF
import Derived.Laws.BytesArg

set_option linter.unusedVariables false
set_option linter.unusedSimpArgs false

/- Zone: a crash behind a crash changes nothing (the walk). -/



set_option linter.unusedSimpArgs false
set_option linter.unusedVariables false
set_option maxHeartbeats 4000000
set_option maxRecDepth 1000000
namespace Go.Proofs.Ytifemhfpcichfaa
open Go.RowKit
open Go.Av Go.Maps

/-- A row's bytes as a string. -/
def strB (bs : List UInt8) : ByteArray := strOfNums (bs.map fun b => (b.toNat : Int))
theorem conv_row {w : World} {b : Nat} {bs : List UInt8} {te : TypeId} (hb : w.heap[b]? = some (.cells (u8s bs).toArray te (0, 0))) (hl : bs.length = 64) : (convert 24 9 (.slice (some ⟨b, 0, none⟩) 64 64)).run Try.prog w = .ok (.string (strB bs)) w := by
  refine run_convert_bytes_arg (P := Try.prog) w 24 5 (by kernel_rfl) (by kernel_rfl) b 0 64 64 (bs.map fun b => (b.toNat : Int)) (by simpa using hl) (fun i hi => ?_) 9 (by kernel_rfl)
  rw [Nat.zero_add, cell_of_block hb]
  have hi2 : i < bs.length := by omega
  simp [u8s, List.getD_eq_getElem?_getD, hi2]
/-- Two reads of one block. -/
def RdP (w : World) (bs : List UInt8) (e : Ending) (w' : World) : Prop := ∃ b te, e = .returned (.tuple #[.slice (some ⟨b, 0, none⟩) 64 64, .int .i64 0]) ∧ w'.heap[b]? = some (.cells (u8s bs).toArray te (0, 0)) ∧ Ext (fun _ => False) w w'
theorem read_good {w : World} {q : Dp} {d : Dv} (h : DevAt w q d) {z i : Int} {bs : List UInt8} (hb : BlkIs d z i bs) (hr : readE d z i = 0) (hi : I64 i) : Calls Try.prog 19 #[.pointer (some ⟨q.p, 0, none⟩), .int .i64 z, .int .i64 i] w (RdP w bs) := by
  refine (read_raw h z i bs (fun _ => hb) hi).mono ?_
  rintro e w' ⟨hx, h1⟩
  rcases h1 with ⟨h1, _⟩ | ⟨_, b, te, rfl, _, hb⟩
  · exact absurd hr h1
  · exact ⟨b, te, rfl, hb, hx⟩
theorem again_early {w0 : World} {lp p1 p2 : Option Addr} {ln lc n1 c1 n2 c2 : Nat} (h : 40 < ln) : Calls Try.prog 4 #[.slice lp ln lc, .slice p1 n1 c1, .slice p2 n2 c2] w0 (LawP w0) := by
  have h1' : (40 : Int) < (ln : Int) := by omega
  go_enter Try.func4, Try.ntmps4
  go_wp2_with (first
    | (go_at_call 9; refine (awake_raw _).mono ?_; rintro e w9 ⟨rfl, hx9⟩; have HX9 := asideI hx9; clear hx9; simp only [])
    | go_in)
  go_ret
  exact ⟨rfl, HX9.out⟩
theorem again_main {mu : Mem} {w0 : World} (hm : MemOK mu w0) {l : List ActD} {lp p1 p2 : Option Addr} {ln lc n1 c1 n2 c2 : Nat} (hl : Rep mu (.sl 7 (AcL l)) (.slice lp ln lc)) {f1 f2 : List UInt8}
    (hf1 : FtV w0 (fun k => w0.heap.size ≤ k) (.slice p1 n1 c1) f1) (hf2 : FtV w0 (fun k => w0.heap.size ≤ k) (.slice p2 n2 c2) f2)
    (h40 : l.length ≤ 40) : Calls Try.prog 4 #[.slice lp ln lc, .slice p1 n1 c1, .slice p2 n2 c2] w0 (LawP w0) := by
  obtain ⟨p', cap', e, hat⟩ := acts_at hm hl
  cases e
  have HAT := asideI hat
  have HF1 := asideI hf1
  have HF2 := asideI hf2
  have hl1 : ¬ (40 : Int) < (l.length : Int) := by omega
  clear hat hm hl hf1 hf2
  go_enter Try.func4, Try.ntmps4
  go_wp2_with (first
    | (go_at_call 10; refine (begun_raw w0 6 5 (by decide)).mono ?_
       rintro e w1 ⟨q, px, nx, cx, rfl, hb, hq, hx⟩
       have HB := asideI hb
       have HQ := asideI hq
       have HX := asideI hx
       clear hb hq hx
       simp only [rval])
    | go_in)
  go_loopg [10] l.length (fun gg s10 wr => ∃ (k : Nat), s10 = .int .i64 k ∧ k ≤ l.length ∧ l.length - k ≤ gg ∧ Aside (LInv (w1.alloc (.cells (rcells px nx cx (rnewD 6 5)) 29)) q w1.heap.size 6 5 k wr))
  case atStart => exact ⟨0, rfl, by omega, by omega, (beg_start rfl HB.out HQ.out HX.out).2⟩
  case round =>
    obtain ⟨k, rfl, hk, hgg, H2⟩ := hrel
    have HBG := asideI (beg_start rfl HB.out HQ.out HX.out).1
    obtain ⟨d, r, p, n, c, hb, hg⟩ := H2.out.both
    have HG := asideI hg
    obtain ⟨⟨a0, a1, a2, a3, a4, a5⟩, _⟩ := box6 hg
    have HBR := asideI hb
    have hx0 := HBG.out.old H2.out.ext (fun b e => e.elim .inl fun e => .inr (.inl e))
    have HX0 := asideI hx0
    clear hg hb hx0
    by_cases hlt : k < l.length
    · have hz : (k : Int) < (l.length : Int) := by omega
      have hw : IntKind.i64.wrap ((k : Int) + 1) = (k : Int) + 1 := by rw [IntKind.wrap_i64]; omega
      obtain ⟨lb, lo, fp2, fc2, rfl, hlb, h7, hf7⟩ := HAT.out k hlt
      generalize l.getD k ac0 = ak at h7 hf7
      obtain ⟨s0, s1, s2, s3, s4, s5, s6⟩ := h7.ext HX0.out
      have HF7 := asideI hf7
      clear h7 hf7
      go_wp2
      have HSTEP := asideI (do_raw (w := wr.drew) (HBR.out.reG (ext_drew wr) (fun b e => ⟨HBR.out.lt b e, .inl e⟩)) ak ((HF7.out.keeps (T := fun _ => False) (fun _ e => e.elim) (HX0.out.trans (ext_drew wr))).sub (fun b e => by
        rcases e with e | e
        · exact HBG.out.hq b e
        · have := HBG.out.hg; have e2 : b = w1.heap.size := e; show w0.heap.size ≤ b; omega)) (by omega))
      go_region_with (first
        | (go_at_call 11
           refine HSTEP.out.mono ?_
           rintro e w2 ⟨r', x', bb, rfl, hb2, hx2⟩
           obtain ⟨p2, n2, c2, rfl⟩ := hb2.ref.val
           have hg2 := (hx2.block w1.heap.size (HBR.out.lt _ rfl) HBG.out.gq).trans HG.out
           obtain ⟨_, f0, f1, f2, f3, f4, f5⟩ := box6 hg2
           have HB2 := asideI hb2
           have HX2 := asideI hx2
           clear hb2 hx2 hg2
           simp only [rval]))
      all_goals (
        go_wp2
        go_roundg (l.length - (k + 1))
        case measure => omega
        case rel => exact ⟨k + 1, by simp, by omega, by omega, LInv.next H2.out.ext HBG.out.gq HB2.out (by omega) ((ext_drew wr).mono (fun _ e => e.elim) |>.trans HX2.out) HG.out rfl⟩)
    · obtain rfl : k = l.length := by omega
      have sg : w1.heap.size < wr.heap.size := HBR.out.lt _ rfl
      have HLT := asideI HBR.out.at_.lt
      have hok := HBR.out.ok
      have HC1 := asideI (crash_raw HBR.out.at_ hok.ok (by have := hok.n; omega) (((HF1.out.keeps (T := fun _ => False) (fun _ e => e.elim) HX0.out).sub (fun b e => HBG.out.hq b e)).1))
      obtain ⟨e1, he1⟩ : ∃ e1, e1 = crashD d f1 := ⟨_, rfl⟩
      have hok1 := hok.crash f1
      have hdn : e1.down = false := by rw [he1]; rfl
      have hfl : e1.fails = -1 := by rw [he1]; rfl
      have htt : Tight e1 := by rw [he1]; exact crash_tight _ _
      have hag : crashD e1 f2 = e1 := by rw [he1]; exact crash_again _ _ _
      rw [← he1] at HC1 hok1
      have HOK1 := asideI hok1
      have HAG := asideI hag
      have HTT := asideI htt
      clear he1 hok hok1 hag htt
      go_wp2_with (first
        | (go_at_call 12; have hh := HQF
           have HC2 := crash_raw (HDA.out.ext HXF.out) HOK1.out.ok (by have := HOK1.out.n; omega) (((HF2.out.keeps (T := fun _ => False) (fun _ e => e.elim) HX0.out).keeps (fun b e h => HBG.out.hq b (show EQ q b from e)) (HXA.out.trans (extQ HXF.out))).sub (fun b e => HBG.out.hq b e)).1
           rw [HAG.out] at HC2
           refine HC2.mono ?_
           rintro e wC ⟨rfl, hdC, hxC⟩
           have HDC := asideI hdC
           have HDC' := asideI (HDF.out.keep hxC (fun b e1 e2 => by have := HQF.out b e1; obtain ⟨l0, l1, l2⟩ := HLT.out; have := HXA.out.size; rcases e2 with e2 | e2 | e2 <;> omega))
           have HXC := asideI ((HXA.out.trans (extQ HXF.out)).trans hxC)
           clear hdC hxC HC2 hh
           simp only [])
        | (go_at_call 20
           refine (fork_raw HDA.out).mono ?_
           rintro e wF ⟨q', rfl, hqF, hdF, hxF⟩
           have HQF := asideI hqF
           have HDF := asideI hdF
           have HXF := asideI hxF
           clear hqF hdF hxF
           simp only [])
        | (go_at_call 12
           refine HC1.out.mono ?_
           rintro e wA ⟨rfl, hdA, hxA⟩
           have HDA := asideI hdA
           have HXA := asideI hxA
           clear hdA hxA a0 a1 a2 a3 a4 a5
           simp only [])
        | go_in)
      have hnb : e1.nb = 5 := HOK1.out.nb
      have hzl : e1.zs.length = 6 := HOK1.out.len
      have HS0 := asideI (extF HX0.out HXC.out (fun b e => HBG.out.hq b e))
      go_loopg [12] 6 (fun gg s12 wr => ∃ (z : Nat), s12 = .int .i64 z ∧ z ≤ 6 ∧ 6 - z ≤ gg ∧ Aside (Ext (fun _ => False) wC wr))
      case atStart => exact ⟨0, rfl, by omega, by omega, Ext.refl _ _⟩
      case round =>
        obtain ⟨z, rfl, hz6, hgg, H3⟩ := hrel
        have HD3 := asideI (HDC.out.ext H3.out)
        have HD3' := asideI (HDC'.out.ext H3.out)
        by_cases hlt : z < 6
        · have hz : (z : Int) < 6 := by omega
          have hw : IntKind.i64.wrap ((z : Int) + 1) = (z : Int) + 1 := by rw [IntKind.wrap_i64]; omega
          have hlo := lo_tight HTT.out z
          have hwr : wrD e1 z = (e1.zs.getD z z0).wr := by unfold wrD; rw [if_pos (hasZ_of (by omega)), show ((z : Int)).toNat = z by omega]
          have hok := HOK1.out.ok.wr z (by omega)
          have hbl := HOK1.out.ok.b z (by omega)
          unfold zAt at hok hbl
          rw [← hwr] at hok hbl
          obtain ⟨nz, hnz⟩ : ∃ nz : Nat, wrD e1 z = nz := ⟨(wrD e1 z).toNat, by omega⟩
          have hrd : ∀ i : Nat, i < nz → readE e1 z i = 0 := fun i hi => read_ok hdn (by omega) (by omega)
          rw [hnz] at hbl hok
          have HBL := asideI hbl
          have HRD := asideI hrd
          have HS := asideI (fun (W : World) (k : Ext (fun _ => False) wr W) => state_raw (HD3.out.ext k) z)
          have HS' := asideI (fun (W : World) (k : Ext (fun _ => False) wr W) => state_raw (HD3'.out.ext k) z)
          have HWr := asideI (fun (W : World) (k : Ext (fun _ => False) wr W) => written_raw (HD3.out.ext k) z)
          have HWr' := asideI (fun (W : World) (k : Ext (fun _ => False) wr W) => written_raw (HD3'.out.ext k) z)
          have HLo := asideI (fun (W : World) (k : Ext (fun _ => False) wr W) => loose_raw (HD3.out.ext k) z)
          rw [hnz] at HWr HWr'
          rw [hlo] at HLo
          generalize stD e1 z = sv at HS HS'
          have hnz5 : nz ≤ 5 := by omega
          clear hlo hwr hok hbl hrd hnz
          go_wp2_with (first
            | (go_at_call 18; refine (HLo.out _ HE2.out).mono ?_; rintro e w6 ⟨rfl, h6w⟩; obtain rfl := h6w.symm; simp only [])
            | (go_at_call 21; refine (HS'.out _ HE1.out).mono ?_; rintro e w5 ⟨rfl, hx5⟩; have HE2 := asideI (HE1.out.trans hx5); clear hx5; simp only [])
            | (go_at_call 21; refine (HS.out _ (Ext.refl _ _)).mono ?_; rintro e w4 ⟨rfl, hx4⟩; have HE1 := asideI hx4; clear hx4; simp only [])
            | (go_at_call 17; have hh := HT1; clear hh; refine (HWr'.out _ (Ext.refl _ _)).mono ?_; rintro e w6 ⟨rfl, h6w⟩; obtain rfl := h6w.symm; simp only [])
            | (go_at_call 17; refine (HWr.out _ (Ext.refl _ _)).mono ?_; rintro e w6 ⟨rfl, h6w⟩; obtain rfl := h6w.symm; have HT1 : Aside True := trivial; simp only [])
            | go_in)
          have HD5 := asideI (HD3.out.ext HE2.out)
          have HD5' := asideI (HD3'.out.ext HE2.out)
          have H35 := asideI (H3.out.trans HE2.out)
          go_loopg [13] nz (fun gg s13 wr => ∃ (i : Nat), s13 = .int .i64 i ∧ i ≤ nz ∧ nz - i ≤ gg ∧ Aside (Ext (fun _ => False) w5 wr))
          case atStart => exact ⟨0, rfl, by omega, by omega, Ext.refl _ _⟩
          case round =>
            obtain ⟨i, rfl, hi5, hgg2, H4⟩ := hrel
            have HD6 := asideI (HD5.out.ext H4.out)
            have HD6' := asideI (HD5'.out.ext H4.out)
            have HW6 := asideI (HWr.out wr (HE2.out.trans H4.out))
            by_cases hil : i < nz
            · have hi : (i : Int) < (nz : Int) := by omega
              have hwi : IntKind.i64.wrap ((i : Int) + 1) = (i : Int) + 1 := by rw [IntKind.wrap_i64]; omega
              obtain ⟨bs, hbs⟩ := HBL.out i hi
              have hlb := hbs.2
              have hre := HRD.out i hil
              have HR := asideI (read_good HD6.out hbs hre ⟨by omega, by omega⟩)
              have HR' := asideI (fun (W : World) (k : Ext (fun _ => False) wr W) => read_good (HD6'.out.ext k) hbs hre ⟨by omega, by omega⟩)
              clear hbs hre
              obtain ⟨S, hS⟩ : ∃ S, S = strB bs := ⟨_, rfl⟩
              have HSS := asideI hS
              clear hS
              go_wp2_with (first
                | (go_at_call 19; refine (HR'.out _ HF1.out).mono ?_
                   rintro e w8 ⟨b2, te2, rfl, hb2, hx8⟩
                   have hcv2 := conv_row hb2 hlb
                   have hcv1 := conv_row ((hx8.block b1 (Array.getElem?_eq_some_iff.1 HB1.out).1 id).trans HB1.out) hlb
                   rw [← HSS.out] at hcv1 hcv2
                   have HF2 := asideI (HF1.out.trans hx8)
                   clear hb2 hx8
                   simp only [])
                | (go_at_call 19; refine HR.out.mono ?_
                   rintro e w7 ⟨b1, te1, rfl, hb1, hx7⟩
                   have HB1 := asideI hb1
                   have HF1 := asideI hx7
                   clear hb1 hx7
                   simp only [])
                | (go_at_call 17; refine HW6.out.mono ?_; rintro e w6 ⟨rfl, h6w⟩; obtain rfl := h6w.symm; simp only [])
                | go_in)
              go_roundg (nz - (i + 1))
              case measure => omega
              case rel => exact ⟨i + 1, by simp, by omega, by omega, H4.out.trans HF2.out⟩
            · obtain rfl : i = nz := by omega
              go_wp2_with (first
                | (go_at_call 17; refine HW6.out.mono ?_; rintro e w6 ⟨rfl, h6w⟩; obtain rfl := h6w.symm; simp only [])
                | go_in)
              go_roundg (6 - (z + 1))
              case measure => omega
              case rel => exact ⟨z + 1, by simp, by omega, by omega, H35.out.trans H4.out⟩
        · obtain rfl : z = 6 := by omega
          obtain ⟨ai, ae, hae⟩ : ∃ ai ae, (appendD e1 ((2 : Nat) : Int) 64 (u8s k7)).2 = (ai, ae) := ⟨_, _, rfl⟩
          obtain ⟨hE, hd3, hf3⟩ := app_fresh hdn hfl (by omega) (show 2 < e1.zs.length by omega) k7
          rw [hae] at hE
          have HO3 := HOK1.out.append ((2 : Nat) : Int) 64 (bs := k7) (fun _ => rfl)
          have HAP := asideI (fun (W : World) (hD : DevAt W q e1) (b : Nat) (hb : BB W b k7) (hn : ¬ EQ q b) => app_full hD HOK1.out (by omega) ((2 : Nat) : Int) hb hn (by simp [k7]) hae)
          obtain ⟨e3, he3⟩ : ∃ e3, e3 = (appendD e1 ((2 : Nat) : Int) 64 (u8s k7)).1 := ⟨_, rfl⟩
          rw [← he3] at hd3 hf3 HO3 HAP
          have HFL := asideI (fun (W : World) (hD : DevAt W q e3) => flush_raw hD)
          have hfl3 : (flushD e3).2 = 0 := by rw [flush_fresh hd3 hf3]
          have hcr := flush_crash hd3 hf3 f2 ((2 : Nat) : Int)
          have HO4 := HO3.flush
          rw [hfl3] at HFL
          obtain ⟨e4, he4⟩ : ∃ e4, e4 = (flushD e3).1 := ⟨_, rfl⟩
          rw [← he4] at HFL hcr HO4
          have HCR4 := asideI (fun (W : World) (hD : DevAt W q e4) (hf : FateV W (EQ q) (.slice p2 n2 c2) f2) => crash_raw hD HO4.ok (by have := HO4.n; omega) hf)
          obtain ⟨e5, he5⟩ : ∃ e5, e5 = crashD e4 f2 := ⟨_, rfl⟩
          rw [← he5] at HCR4 hcr
          have HW3 := asideI (fun (W : World) (hD : DevAt W q e3) => written_raw hD ((2 : Nat) : Int))
          have HW5 := asideI (fun (W : World) (hD : DevAt W q e5) => written_raw hD ((2 : Nat) : Int))
          rw [hcr] at HW5
          generalize wrD e3 ((2 : Nat) : Int) = wv at HW3 HW5
          clear hcr hfl3 hd3 hf3 he3 he4 he5 hae HO3 HO4
          have HNQ : Aside (¬ EQ q wr.heap.size) := fun e => by obtain ⟨l0, l1, l2⟩ := HD3.out.lt; rcases e with e | e | e <;> omega
          have HFT := asideI (((HF2.out.keeps (T := fun _ => False) (fun _ e => e.elim) HX0.out).keeps (fun b e h => HBG.out.hq b (show EQ q b from e)) (HXC.out.trans (extQ H3.out))))
          rcases hE with rfl | rfl <;> (
            go_wp2_with (first
              | (go_at_call 9; refine (awake_raw _).mono ?_; rintro e w9 ⟨rfl, hx9⟩; have HX9 := asideI (HX8.out.trans (extQ hx9)); clear hx9; simp only [])
              | (go_at_call 17; refine (HW5.out _ HD8.out).mono ?_; rintro e w6 ⟨rfl, h6w⟩; obtain rfl := h6w.symm; simp only [])
              | (go_at_call 12; refine (HCR4.out _ HD7.out ((HFT.out.keeps (fun b e h => HBG.out.hq b (show EQ q b from e)) HX7.out).sub (fun b e => HBG.out.hq b e)).1).mono ?_; rintro e w8 ⟨rfl, hd8, hx8⟩; have HD8 := asideI hd8; have HX8 := asideI (HX7.out.trans hx8); clear hd8 hx8; simp only [])
              | (go_at_call 14; refine (HFL.out _ HD6.out).mono ?_; rintro e w7 ⟨rfl, hd7, hx7⟩; have HD7 := asideI hd7; have HX7 := asideI (HX6.out.trans hx7); clear hd7 hx7; simp only [])
              | (go_at_call 17; refine (HW3.out _ HD6.out).mono ?_; rintro e w6 ⟨rfl, h6w⟩; obtain rfl := h6w.symm; simp only [])
              | (go_at_call 15; refine (HAP.out _ HD5.out _ HB5.out HNQ.out).mono ?_; rintro e w6 ⟨rfl, hd6, hx6⟩; have HD6 := asideI hd6; have HX6 := asideI (HX5.out.trans hx6); clear hd6 hx6; simp only [])
              | (go_at_call 16; refine (full7 wr).mono ?_; rintro e w5 ⟨rfl, hb5, hx5⟩; have HB5 := asideI hb5; have HD5 := asideI (HD3.out.ext hx5); have HX5 := asideI (extQ (q := q) hx5); clear hb5 hx5; simp only [])
              | go_in)
            go_ret
            exact ⟨rfl, extF HS0.out ((extQ H3.out).trans HX9.out) (fun b e => HBG.out.hq b e)⟩)
theorem law_again (l : List ActD) (f s : List UInt8) : Pure Try.prog 4 [.sl 7 (AcL l), .sl 1 (FL f), .sl 1 (FL s)] (.sv (.bool true)) := by
  refine pure_true fun mu w vs hm hr => ?_
  match vs, hr.1 with
  | [lv, fv, sv], _ =>
    have h0 : Rep mu (.sl 7 (AcL l)) lv := hr.2 0 (by simp)
    obtain ⟨p1, c1, rfl, hf1⟩ := fate_of hm (show Rep mu (.sl 1 (FL f)) fv from hr.2 1 (by simp))
    obtain ⟨p2, c2, rfl, hf2⟩ := fate_of hm (show Rep mu (.sl 1 (FL s)) sv from hr.2 2 (by simp))
    obtain ⟨lp, lc, rfl, _⟩ := acts_at hm h0
    by_cases h : 40 < l.length
    · exact again_early h
    · exact again_main hm h0 hf1 hf2 (by omega)
end Go.Proofs.Ytifemhfpcichfaa

/- Zone: what was flushed stays behind any crash (the walk). -/



set_option linter.unusedSimpArgs false
set_option linter.unusedVariables false
set_option maxHeartbeats 4000000
set_option maxRecDepth 1000000
namespace Go.Proofs.Ytifemhfpcichfaa
open Go.RowKit
open Go.Av Go.Maps

/-- What holds ahead of each block that the law appends. -/
def AInv (wB : World) (q : Dp) (a i : Nat) (wr : World) : Prop := ∃ d lo, DevAt wr q d ∧ SafeI i lo d ∧ OkN 6 20 (5000 + i) d ∧ Ext (EQ q) wB wr ∧ lo = (if i ≤ a then i else i - a)
theorem full_row (w : World) {i : Nat} (hi : i ≤ 100) : Calls Try.prog 16 #[.int .u8 (10 + (i : Int))] w fun e w' => e = .returned (.slice (some ⟨w.heap.size, 0, none⟩) 64 64) ∧ BB w' w.heap.size (rowC i) ∧ Ext (fun _ => False) w w' := by
  have := full_raw w (UInt8.ofNat (10 + i))
  rw [ofNat10 hi] at this
  exact this
theorem safe_early {w0 : World} {lp p2 : Option Addr} {ln lc n2 c2 : Nat} (ma na : UInt8) (h : 40 < ln) : Calls Try.prog 3 #[.slice lp ln lc, .agg #[.int .u8 ma.toNat, .int .u8 na.toNat], .slice p2 n2 c2] w0 (LawP w0) := by
  have h1' : (40 : Int) < (ln : Int) := by omega
  have hx0 := asideI (ext_alloc1 w0 (.cells #[.int .u8 ma.toNat, .int .u8 na.toNat] 23))
  go_enter Try.func3, Try.ntmps3
  go_wp2_with (first
    | (go_at_call 9; refine (awake_raw _).mono ?_; rintro e w9 ⟨rfl, hx9⟩; have HX9 := asideI hx9; clear hx9; simp only [])
    | go_in)
  go_ret
  exact ⟨rfl, hx0.out.trans HX9.out⟩
theorem safe_main {mu : Mem} {w0 : World} (hm : MemOK mu w0) {l : List ActD} {lp p2 : Option Addr} {ln lc n2 c2 : Nat} (hl : Rep mu (.sl 7 (AcL l)) (.slice lp ln lc)) {f2 : List UInt8} (ma na : UInt8)
    (hf2 : FtV w0 (fun k => w0.heap.size ≤ k) (.slice p2 n2 c2) f2)
    (h40 : l.length ≤ 40) : Calls Try.prog 3 #[.slice lp ln lc, .agg #[.int .u8 ma.toNat, .int .u8 na.toNat], .slice p2 n2 c2] w0 (LawP w0) := by
  obtain ⟨p', cap', e, hat⟩ := acts_at hm hl
  cases e
  have HAT := asideI hat
  have HF2 := asideI hf2
  obtain ⟨W0, hW⟩ : ∃ W0, W0 = w0.alloc (.cells #[.int .u8 ma.toNat, .int .u8 na.toNat] 23) := ⟨_, rfl⟩
  have k1 : W0.heap[w0.heap.size]? = some (.cells #[.int .u8 ma.toNat, .int .u8 na.toNat] 23) := by rw [hW, alloc_get, if_pos rfl]
  have HW := asideI hW
  have K1 := asideI k1
  have KX : Aside (Ext (fun _ => False) w0 W0) := by rw [hW]; exact ext_alloc1 _ _
  have hs : W0.heap.size = w0.heap.size + 1 := by rw [hW]; simp
  clear hW k1
  have hl1 : ¬ (40 : Int) < (l.length : Int) := by omega
  clear hat hm hl hf2
  go_enter Try.func3, Try.ntmps3
  go_wp2_with (first
    | (go_at_call 10; rw [← HW.out]; refine (begun_raw W0 6 20 (by decide)).mono ?_
       rintro e w1 ⟨q, px, nx, cx, rfl, hb, hq, hx⟩
       have HB := asideI hb
       have HQ := asideI hq
       have HX := asideI hx
       clear hb hq hx
       simp only [rval])
    | go_in)
  go_loopg [10] l.length (fun gg s10 wr => ∃ (k : Nat), s10 = .int .i64 k ∧ k ≤ l.length ∧ l.length - k ≤ gg ∧ Aside (LInv (w1.alloc (.cells (rcells px nx cx (rnewD 6 20)) 29)) q w1.heap.size 6 20 k wr))
  case atStart => exact ⟨0, rfl, by omega, by omega, (beg_start rfl HB.out HQ.out HX.out).2⟩
  case round =>
    obtain ⟨k, rfl, hk, hgg, H2⟩ := hrel
    have HBG := asideI (beg_start rfl HB.out HQ.out HX.out).1
    obtain ⟨d, r, p, n, c, hb, hg⟩ := H2.out.both
    have HG := asideI hg
    obtain ⟨⟨a0, a1, a2, a3, a4, a5⟩, _⟩ := box6 hg
    have HBR := asideI hb
    have hx0 := HBG.out.old H2.out.ext (fun b e => e.elim .inl fun e => .inr (.inl e))
    have HX0 := asideI hx0
    clear hg hb hx0
    by_cases hlt : k < l.length
    · have hz : (k : Int) < (l.length : Int) := by omega
      have hw : IntKind.i64.wrap ((k : Int) + 1) = (k : Int) + 1 := by rw [IntKind.wrap_i64]; omega
      obtain ⟨lb, lo, fp2, fc2, rfl, hlb, h7, hf7⟩ := HAT.out k hlt
      generalize l.getD k ac0 = ak at h7 hf7
      obtain ⟨s0, s1, s2, s3, s4, s5, s6⟩ := h7.ext (KX.out.trans HX0.out)
      have HF7 := asideI hf7
      clear h7 hf7
      go_wp2
      have HSTEP := asideI (do_raw (w := wr.drew) (HBR.out.reG (ext_drew wr) (fun b e => ⟨HBR.out.lt b e, .inl e⟩)) ak ((HF7.out.keeps (T := fun _ => False) (fun _ e => e.elim) ((KX.out.trans HX0.out).trans (ext_drew wr))).sub (fun b e => by
        rcases e with e | e
        · have := HBG.out.hq b e; show w0.heap.size ≤ b; omega
        · have := HBG.out.hg; have e2 : b = w1.heap.size := e; show w0.heap.size ≤ b; omega)) (by omega))
      go_region_with (first
        | (go_at_call 11
           refine HSTEP.out.mono ?_
           rintro e w2 ⟨r', x', bb, rfl, hb2, hx2⟩
           obtain ⟨p2, n2, c2, rfl⟩ := hb2.ref.val
           have hg2 := (hx2.block w1.heap.size (HBR.out.lt _ rfl) HBG.out.gq).trans HG.out
           obtain ⟨_, f0, f1, f2, f3, f4, f5⟩ := box6 hg2
           have HB2 := asideI hb2
           have HX2 := asideI hx2
           clear hb2 hx2 hg2
           simp only [rval]))
      all_goals (
        go_wp2
        go_roundg (l.length - (k + 1))
        case measure => omega
        case rel => exact ⟨k + 1, by simp, by omega, by omega, LInv.next H2.out.ext HBG.out.gq HB2.out (by omega) ((ext_drew wr).mono (fun _ e => e.elim) |>.trans HX2.out) HG.out rfl⟩)
    · obtain rfl : k = l.length := by omega
      have hx00 : Ext (fun _ => False) w0 wr := KX.out.trans HX0.out
      have HX00 := asideI hx00
      have K1r := asideI ((HX0.out.block w0.heap.size (by omega) id).trans K1.out)
      clear hx00
      have hok := HBR.out.ok
      have HC1 := asideI (crash_raw HBR.out.at_ hok.ok (by have := hok.n; omega) (v := .slice none 0 0) (fs := []) ⟨none, 0, rfl, Nat.le_refl _, fun hn => absurd rfl hn⟩)
      obtain ⟨e1, he1⟩ : ∃ e1, e1 = crashD d [] := ⟨_, rfl⟩
      have hok1 := hok.crash []
      have hdn : e1.down = false := by rw [he1]; rfl
      have hfl : e1.fails = -1 := by rw [he1]; rfl
      rw [← he1] at HC1 hok1
      clear he1
      have h3l : 3 < e1.zs.length := by rw [hok1.len]; omega
      have hrs := reset_fresh hdn hfl h3l
      have hS0 := SafeI.reset hdn hfl hok1.nb hok1.len hok1.ok.isM
      have HRS := asideI (fun (W : World) (k : DevAt W q e1) => reset_raw k ((3 : Nat) : Int) (fun i hi => by have := hok1.ok.wr i hi; have := hok1.ok.nb; unfold zAt at *; omega))
      have hO0 := hok1.reset ((3 : Nat) : Int)
      rw [hrs] at HRS hO0
      obtain ⟨e2, he2⟩ : ∃ e2, e2 = emptyD (tick1 e1) 3 := ⟨_, rfl⟩
      simp only [← he2] at HRS hO0 hS0
      have HS0 := asideI hS0
      have HO0 := asideI hO0
      clear hrs hdn hfl h3l he2 hok1 hok hS0 hO0
      go_wp2_with (first
        | (go_at_call 13; refine (HRS.out _ HDA.out).mono ?_
           rintro e wB ⟨rfl, hdB, hxB⟩
           have HDB := asideI hdB
           have HXB := asideI (HXA.out.trans hxB)
           have hf2F := asideI (((HF2.out.keeps (T := fun _ => False) (fun _ e => e.elim) HX00.out).keeps (fun b e h => (by have := HBG.out.hq b (show EQ q b from e); show w0.heap.size ≤ b; omega)) (HXA.out.trans hxB)))
           have kB := ((HXA.out.trans hxB).block w0.heap.size (by have := HX0.out.size; omega) (fun e => by have := HBG.out.hq _ e; omega)).trans K1r.out
           have c0 : wB.cell? ⟨w0.heap.size, 0, none⟩ = some (.int .u8 ma.toNat) := by simp [World.cell?, kB]
           have c1 : wB.cell? ⟨w0.heap.size, 1, none⟩ = some (.int .u8 na.toNat) := by simp [World.cell?, kB]
           clear hdB hxB kB
           simp only [])
        | (go_at_call 12
           refine HC1.out.mono ?_
           rintro e wA ⟨rfl, hdA, hxA⟩
           have HDA := asideI hdA
           have HXA := asideI hxA
           clear hdA hxA a0 a1 a2 a3 a4 a5
           simp only [])
        | go_in)
      have hm9 := kmod (k := ma) (j := ma.toNat % 9) rfl
      have hn9 := kmod (k := na) (j := na.toNat % 9) rfl
      go_region_held (fun W2 => W2.cell? ⟨w0.heap.size, 0, none⟩ = some (.int .u8 ma.toNat) ∧ W2.cell? ⟨w0.heap.size, 1, none⟩ = some (.int .u8 na.toNat)) (simp [*]) (fail)
      all_goals go_wp2
      obtain ⟨a, ha⟩ : ∃ a : Nat, a = ma.toNat % 9 := ⟨_, rfl⟩
      obtain ⟨b, hb⟩ : ∃ b : Nat, b = na.toNat % 9 := ⟨_, rfl⟩
      have hai : IntKind.i64.wrap ((ma.toNat : Int).tmod 9) = (a : Int) := by rw [Int.tmod_eq_emod_of_nonneg (by omega), IntKind.wrap_i64]; omega
      have hbi : IntKind.i64.wrap ((na.toNat : Int).tmod 9) = (b : Int) := by rw [Int.tmod_eq_emod_of_nonneg (by omega), IntKind.wrap_i64]; omega
      have HA8 : a ≤ 8 := by omega
      have hb8 : b ≤ 8 := by omega
      simp only [hai, hbi]
      clear hai hbi ha hb hm9 hn9
      have hab : IntKind.i64.wrap ((a : Int) + (b : Int)) = (a : Int) + (b : Int) := by rw [IntKind.wrap_i64]; omega
      have HFT := asideI (hf2F.out)
      go_loopg [13] (a + b) (fun gg s13 wr => ∃ (i : Nat), s13 = .int .i64 i ∧ i ≤ a + b ∧ a + b - i ≤ gg ∧ Aside (AInv wB q a i wr))
      case atStart => exact ⟨0, rfl, by omega, by omega, ⟨e2, 0, HDB.out.drew, HS0.out, HO0.out.mono (by omega), extQ (ext_drew _), by simp⟩⟩
      case round =>
        obtain ⟨i, rfl, hi, hgg2, H3⟩ := hrel
        obtain ⟨d3, lo, hd3, hs3, ho3, hx3, hlo⟩ := H3.out
        have HD3 := asideI hd3
        have HX3 := asideI hx3
        have HS3 := asideI hs3
        have HO3 := asideI ho3
        clear hd3 hx3 hs3 ho3 H3
        by_cases hlt : i < a + b
        · have hz : (i : Int) < (a : Int) + (b : Int) := by omega
          have hwi : IntKind.i64.wrap ((i : Int) + 1) = (i : Int) + 1 := by rw [IntKind.wrap_i64]; omega
          have hw10 : IntKind.i64.wrap (10 + (i : Int)) = 10 + (i : Int) := by rw [IntKind.wrap_i64]; omega
          have hm10 : ((10 + (i : Int)) % 256) = 10 + (i : Int) := by omega
          by_cases hia : i = a
          · obtain rfl : a = i := hia.symm
            clear hia
            obtain ⟨f1, f2⟩ := HS3.out.flush
            obtain ⟨p1, p2⟩ := f2.append (by omega) (by omega)
            have ho4 := HO3.out.flush
            have ho5 := ho4.append ((3 : Nat) : Int) 64 (bs := rowC a) (fun _ => by simp [rowC])
            have HAP := asideI (fun (W : World) (hD : DevAt W q (flushD d3).1) (b : Nat) (hb : BB W b (rowC a)) (hn : ¬ EQ q b) => app_full hD ho4 (by omega) ((3 : Nat) : Int) hb hn (by simp [rowC]) p1)
            have HFL := asideI (fun (W : World) (hD : DevAt W q d3) => flush_raw hD)
            rw [f1] at HFL
            have P2 := asideI p2
            have O5 := asideI ho5
            clear f1 f2 p1 p2 ho4 ho5
            go_wp2_with (first
              | (go_at_call 15; refine (HAP.out _ HD5.out _ HB5.out HNQ.out).mono ?_; rintro e w6 ⟨rfl, hd6, hx6⟩; have HD6 := asideI hd6; have HX6 := asideI (HX5.out.trans hx6); clear hd6 hx6; simp only [])
              | (go_at_call 16; refine (full_row w4 (i := a) (by omega)).mono ?_; rintro e w5 ⟨rfl, hb5, hx5⟩; have HB5 := asideI hb5; have HD5 := asideI (HD4.out.ext hx5); have HX5 := asideI (HX4.out.trans (extQ (q := q) hx5)); have HNQ : Aside (¬ EQ q w4.heap.size) := (fun e => by obtain ⟨l0, l1, l2⟩ := HD4.out.lt; rcases e with e | e | e <;> omega); clear hb5 hx5; simp only [])
              | (go_at_call 14; refine (HFL.out _ HD3.out).mono ?_; rintro e w4 ⟨rfl, hd4, hx4⟩; have HD4 := asideI hd4; have HX4 := asideI hx4; clear hd4 hx4; simp only [])
              | go_in)
            go_roundg (a + b - (a + 1))
            case measure => omega
            case rel => exact ⟨a + 1, by simp, by omega, by omega, ⟨_, 0 + 1, HD6.out, P2.out, O5.out.mono (by omega), HX3.out.trans HX6.out, by rw [if_neg (by omega)]; omega⟩⟩
          · have hia2 : ¬ (i : Int) = (a : Int) := by omega
            have hia3 : ((i : Int) == (a : Int)) = false := by simpa using hia2
            obtain ⟨p1, p2⟩ := HS3.out.append (by omega) (by split at hlo <;> omega)
            have ho5 := HO3.out.append ((3 : Nat) : Int) 64 (bs := rowC i) (fun _ => by simp [rowC])
            have HAP := asideI (fun (W : World) (hD : DevAt W q d3) (b : Nat) (hb : BB W b (rowC i)) (hn : ¬ EQ q b) => app_full hD HO3.out (by omega) ((3 : Nat) : Int) hb hn (by simp [rowC]) p1)
            have P2 := asideI p2
            have O5 := asideI ho5
            clear p1 p2 ho5
            go_wp2_with (first
              | (go_at_call 15; refine (HAP.out _ HD5.out _ HB5.out HNQ.out).mono ?_; rintro e w6 ⟨rfl, hd6, hx6⟩; have HD6 := asideI hd6; have HX6 := asideI (HX5.out.trans hx6); clear hd6 hx6; simp only [])
              | (go_at_call 16; refine (full_row wr (i := i) (by omega)).mono ?_; rintro e w5 ⟨rfl, hb5, hx5⟩; have HB5 := asideI hb5; have HD5 := asideI (HD3.out.ext hx5); have HX5 := asideI (extQ (q := q) hx5); have HNQ : Aside (¬ EQ q wr.heap.size) := (fun e => by obtain ⟨l0, l1, l2⟩ := HD3.out.lt; rcases e with e | e | e <;> omega); clear hb5 hx5; simp only [])
              | go_in)
            go_roundg (a + b - (i + 1))
            case measure => omega
            case rel => exact ⟨i + 1, by simp, by omega, by omega, ⟨_, lo + 1, HD6.out, P2.out, O5.out.mono (by omega), HX3.out.trans HX6.out, by split at hlo <;> split <;> omega⟩⟩
        · obtain rfl : i = a + b := by omega
          obtain ⟨dX, hsX, hoX, hX0, hX1⟩ : ∃ dX, SafeI (a + b) b dX ∧ OkN 6 20 6000 dX ∧ (b = 0 → dX = (flushD d3).1) ∧ (¬ b = 0 → dX = d3) := by
            by_cases hb0 : b = 0
            · refine ⟨(flushD d3).1, ?_, (HO3.out.flush).mono (by omega), fun _ => rfl, fun h => absurd hb0 h⟩
              have := HS3.out.flush.2
              rw [hb0] at this ⊢
              exact this
            · refine ⟨d3, ?_, HO3.out.mono (by omega), fun h => absurd h hb0, fun _ => rfl⟩
              have := HS3.out
              rw [hlo, if_neg (by omega), show a + b - a = b by omega] at this
              exact this
          obtain ⟨w, hwr, hwa, hwn, hlo0, hbl⟩ := safe_left hsX hoX.ok f2 (a := a) rfl (by omega)
          have HCR := asideI (fun (W : World) (hD : DevAt W q dX) (hf : FateV W (EQ q) (.slice p2 n2 c2) f2) => crash_raw hD hoX.ok (by have := hoX.n; omega) hf)
          obtain ⟨eC, heC⟩ : ∃ eC, eC = crashD dX f2 := ⟨_, rfl⟩
          simp only [← heC] at HCR hwr hlo0 hbl
          have HWr := asideI (fun (W : World) (hD : DevAt W q eC) => written_raw hD ((3 : Nat) : Int))
          have HLo := asideI (fun (W : World) (hD : DevAt W q eC) => loose_raw hD ((3 : Nat) : Int))
          rw [hwr] at HWr
          rw [hlo0] at HLo
          have HBL := asideI hbl
          have hfl := HS3.out.flush.1
          have HFL := asideI (fun (W : World) (hD : DevAt W q d3) => flush_raw hD)
          rw [hfl] at HFL
          clear hwr hlo0 hbl heC hsX hoX hfl hlo
          by_cases hb0 : b = 0
          · rw [← hX0 hb0] at HFL
            have hbe : ((b : Int) == 0) = true := by simp; omega
            clear hb0 hX0 hX1
            have hnab : ¬ ((a : Int) + (b : Int) < (w : Int)) := by omega
            have hnwa : ¬ ((w : Int) < (a : Int)) := by omega
            go_wp2_with (first
              | (go_at_call 18; refine (HLo.out _ HDC.out).mono ?_; rintro e w6 ⟨rfl, h6w⟩; obtain rfl := h6w.symm; simp only [])
              | (go_at_call 17; refine (HWr.out _ HDC.out).mono ?_; rintro e w6 ⟨rfl, h6w⟩; obtain rfl := h6w.symm; simp only [])
              | (go_at_call 12; refine (HCR.out _ HDX.out ((HFT.out.keeps (fun b e h => (by have := HBG.out.hq b (show EQ q b from e); show w0.heap.size ≤ b; omega)) HXX.out).sub (fun b e => by have := HBG.out.hq b e; show w0.heap.size ≤ b; omega)).1).mono ?_; rintro e wC ⟨rfl, hdC, hxC⟩; have HDC := asideI hdC; have HXC := asideI (HXX.out.trans hxC); clear hdC hxC; simp only [])
              | (go_at_call 14; refine (HFL.out _ HD3.out).mono ?_; rintro e w4 ⟨rfl, hd4, hx4⟩; have HDX := asideI hd4; have HXX := asideI (HX3.out.trans hx4); clear hd4 hx4; simp only [])
              | go_in)
            go_loopg [17] w (fun gg s17 wr => ∃ (i : Nat), s17 = .int .i64 i ∧ i ≤ w ∧ w - i ≤ gg ∧ Aside (Ext (fun _ => False) wC wr))
            case atStart => exact ⟨0, rfl, by omega, by omega, Ext.refl _ _⟩
            case round =>
              obtain ⟨i, rfl, hi, hgg3, H4⟩ := hrel
              by_cases hlt2 : i < w
              · have hz : (i : Int) < (w : Int) := by omega
                have hwi : IntKind.i64.wrap ((i : Int) + 1) = (i : Int) + 1 := by rw [IntKind.wrap_i64]; omega
                have hw10 : IntKind.i64.wrap (10 + (i : Int)) = 10 + (i : Int) := by rw [IntKind.wrap_i64]; omega
                have hm10 : ((10 + (i : Int)) % 256) = 10 + (i : Int) := by omega
                have h010 : ((0 : Int) == 10 + (i : Int)) = false := by simp; omega
                obtain ⟨t, t1, t64, hbk, hcases, hre⟩ := HBL.out i hlt2
                have HR := asideI (read_good (HDC.out.ext H4.out) hbk hre ⟨by omega, by omega⟩)
                clear hbk hre
                go_wp2_with (first
                  | (go_at_call 19; refine HR.out.mono ?_
                     rintro e w7 ⟨b1, te1, rfl, hb1, hx7⟩
                     have HTC : Aside (∀ k, k < 64 → w7.cell? ⟨b1, k, none⟩ = some (.int .u8 (if k < t then 10 + (i : Int) else 0))) := fun k hk => torn_cell hb1 t64 (by omega) hk
                     have HX7 := asideI (H4.out.trans hx7)
                     clear hb1 hx7
                     simp only [])
                  | go_in)
                go_loopg [20] t (fun gg s20 wr => ∃ (k : Nat), s20 = .int .i64 k ∧ k ≤ t ∧ t - k ≤ gg ∧ Aside (wr = w7))
                case atStart => exact ⟨0, rfl, by omega, by omega, rfl⟩
                case round =>
                  obtain ⟨k, rfl, hk2, hgg4, hE⟩ := hrel
                  obtain rfl := hE.out.symm
                  by_cases hkt : k < t
                  · have hz : (k : Int) < 64 := by omega
                    have hwk : IntKind.i64.wrap ((k : Int) + 1) = (k : Int) + 1 := by rw [IntKind.wrap_i64]; omega
                    have hc := HTC.out k (by omega)
                    rw [if_pos hkt] at hc
                    go_wp2
                    go_roundg (t - (k + 1))
                    case measure => omega
                    case rel => exact ⟨k + 1, by simp, by omega, by omega, rfl⟩
                  · obtain rfl : k = t := by omega
                    by_cases hk64 : k < 64
                    · have hz : (k : Int) < 64 := by omega
                      have hc := HTC.out k hk64
                      rw [if_neg (by omega)] at hc
                      go_wp2
                      go_loopg [21] 64 (fun gg s21 wr => ∃ (s : Nat), s21 = .int .i64 s ∧ k ≤ s ∧ s ≤ 64 ∧ 64 - s ≤ gg ∧ Aside (wr = w7))
                      case atStart => exact ⟨k, rfl, Nat.le_refl _, by omega, by omega, rfl⟩
                      case round =>
                        obtain ⟨s, rfl, hs1, hs2, hgg5, hE⟩ := hrel
                        obtain rfl := hE.out.symm
                        by_cases hs64 : s < 64
                        · have hz : (s : Int) < 64 := by omega
                          have hws : IntKind.i64.wrap ((s : Int) + 1) = (s : Int) + 1 := by rw [IntKind.wrap_i64]; omega
                          have hc := HTC.out s hs64
                          rw [if_neg (by omega)] at hc
                          obtain ⟨hq1, hq2⟩ : i + 1 = w ∧ a ≤ i := by
                            rcases hcases with hq | hq
                            · omega
                            · exact hq
                          have hwm : IntKind.i64.wrap ((w : Int) - 1) = (i : Int) := by rw [IntKind.wrap_i64]; omega
                          have hiw : (w : Int) - 1 = (i : Int) := by omega
                          have hia : ¬ (i : Int) < (a : Int) := by omega
                          have ht0 : ((k : Int) == 0) = false := by simp; omega
                          clear hq1 hq2 hcases
                          go_wp2
                          go_roundg (64 - (s + 1))
                          case measure => omega
                          case rel => exact ⟨s + 1, by simp, by omega, by omega, by omega, rfl⟩
                        · obtain rfl : s = 64 := by omega
                          go_wp2
                          go_roundg (w - (i + 1))
                          case measure => omega
                          case rel => exact ⟨i + 1, by simp, by omega, by omega, HX7.out⟩
                    · have hz : ¬ (k : Int) < 64 := by omega
                      go_wp2
                      go_loopg [21] 64 (fun gg s21 wr => ∃ (s : Nat), s21 = .int .i64 s ∧ k ≤ s ∧ s ≤ 64 ∧ 64 - s ≤ gg ∧ Aside (wr = w7))
                      case atStart => exact ⟨k, rfl, Nat.le_refl _, by omega, by omega, rfl⟩
                      case round =>
                        obtain ⟨s, rfl, hs1, hs2, hgg5, hE⟩ := hrel
                        obtain rfl := hE.out.symm
                        by_cases hs64 : s < 64
                        · have hz : (s : Int) < 64 := by omega
                          have hws : IntKind.i64.wrap ((s : Int) + 1) = (s : Int) + 1 := by rw [IntKind.wrap_i64]; omega
                          have hc := HTC.out s hs64
                          rw [if_neg (by omega)] at hc
                          obtain ⟨hq1, hq2⟩ : i + 1 = w ∧ a ≤ i := by
                            rcases hcases with hq | hq
                            · omega
                            · exact hq
                          have hwm : IntKind.i64.wrap ((w : Int) - 1) = (i : Int) := by rw [IntKind.wrap_i64]; omega
                          have hiw : (w : Int) - 1 = (i : Int) := by omega
                          have hia : ¬ (i : Int) < (a : Int) := by omega
                          have ht0 : ((k : Int) == 0) = false := by simp; omega
                          clear hq1 hq2 hcases
                          go_wp2
                          go_roundg (64 - (s + 1))
                          case measure => omega
                          case rel => exact ⟨s + 1, by simp, by omega, by omega, by omega, rfl⟩
                        · obtain rfl : s = 64 := by omega
                          go_wp2
                          go_roundg (w - (i + 1))
                          case measure => omega
                          case rel => exact ⟨i + 1, by simp, by omega, by omega, HX7.out⟩
              · obtain rfl : i = w := by omega
                go_wp2_with (first
                  | (go_at_call 9; refine (awake_raw _).mono ?_; rintro e w9 ⟨rfl, hx9⟩; have HX9 := asideI hx9; clear hx9; simp only [])
                  | go_in)
                go_ret
                exact ⟨rfl, extF HX00.out ((HXB.out.trans HXC.out).trans (extQ (H4.out.trans HX9.out))) (fun b e => by have := HBG.out.hq b e; omega)⟩
          · have HDX : Aside (DevAt wr q dX) := by rw [hX1 hb0]; exact HD3.out
            have HXX := asideI HX3.out
            have hbe : ((b : Int) == 0) = false := by simp; omega
            clear hb0 hX0 hX1 HFL
            have hnab : ¬ ((a : Int) + (b : Int) < (w : Int)) := by omega
            have hnwa : ¬ ((w : Int) < (a : Int)) := by omega
            go_wp2_with (first
              | (go_at_call 18; refine (HLo.out _ HDC.out).mono ?_; rintro e w6 ⟨rfl, h6w⟩; obtain rfl := h6w.symm; simp only [])
              | (go_at_call 17; refine (HWr.out _ HDC.out).mono ?_; rintro e w6 ⟨rfl, h6w⟩; obtain rfl := h6w.symm; simp only [])
              | (go_at_call 12; refine (HCR.out _ HDX.out ((HFT.out.keeps (fun b e h => (by have := HBG.out.hq b (show EQ q b from e); show w0.heap.size ≤ b; omega)) HXX.out).sub (fun b e => by have := HBG.out.hq b e; show w0.heap.size ≤ b; omega)).1).mono ?_; rintro e wC ⟨rfl, hdC, hxC⟩; have HDC := asideI hdC; have HXC := asideI (HXX.out.trans hxC); clear hdC hxC; simp only [])
              | (go_at_call 1400; refine (HFL.out _ HD3.out).mono ?_; rintro e w4 ⟨rfl, hd4, hx4⟩; have HDX := asideI hd4; have HXX := asideI (HX3.out.trans hx4); clear hd4 hx4; simp only [])
              | go_in)
            go_loopg [17] w (fun gg s17 wr => ∃ (i : Nat), s17 = .int .i64 i ∧ i ≤ w ∧ w - i ≤ gg ∧ Aside (Ext (fun _ => False) wC wr))
            case atStart => exact ⟨0, rfl, by omega, by omega, Ext.refl _ _⟩
            case round =>
              obtain ⟨i, rfl, hi, hgg3, H4⟩ := hrel
              by_cases hlt2 : i < w
              · have hz : (i : Int) < (w : Int) := by omega
                have hwi : IntKind.i64.wrap ((i : Int) + 1) = (i : Int) + 1 := by rw [IntKind.wrap_i64]; omega
                have hw10 : IntKind.i64.wrap (10 + (i : Int)) = 10 + (i : Int) := by rw [IntKind.wrap_i64]; omega
                have hm10 : ((10 + (i : Int)) % 256) = 10 + (i : Int) := by omega
                have h010 : ((0 : Int) == 10 + (i : Int)) = false := by simp; omega
                obtain ⟨t, t1, t64, hbk, hcases, hre⟩ := HBL.out i hlt2
                have HR := asideI (read_good (HDC.out.ext H4.out) hbk hre ⟨by omega, by omega⟩)
                clear hbk hre
                go_wp2_with (first
                  | (go_at_call 19; refine HR.out.mono ?_
                     rintro e w7 ⟨b1, te1, rfl, hb1, hx7⟩
                     have HTC : Aside (∀ k, k < 64 → w7.cell? ⟨b1, k, none⟩ = some (.int .u8 (if k < t then 10 + (i : Int) else 0))) := fun k hk => torn_cell hb1 t64 (by omega) hk
                     have HX7 := asideI (H4.out.trans hx7)
                     clear hb1 hx7
                     simp only [])
                  | go_in)
                go_loopg [20] t (fun gg s20 wr => ∃ (k : Nat), s20 = .int .i64 k ∧ k ≤ t ∧ t - k ≤ gg ∧ Aside (wr = w7))
                case atStart => exact ⟨0, rfl, by omega, by omega, rfl⟩
                case round =>
                  obtain ⟨k, rfl, hk2, hgg4, hE⟩ := hrel
                  obtain rfl := hE.out.symm
                  by_cases hkt : k < t
                  · have hz : (k : Int) < 64 := by omega
                    have hwk : IntKind.i64.wrap ((k : Int) + 1) = (k : Int) + 1 := by rw [IntKind.wrap_i64]; omega
                    have hc := HTC.out k (by omega)
                    rw [if_pos hkt] at hc
                    go_wp2
                    go_roundg (t - (k + 1))
                    case measure => omega
                    case rel => exact ⟨k + 1, by simp, by omega, by omega, rfl⟩
                  · obtain rfl : k = t := by omega
                    by_cases hk64 : k < 64
                    · have hz : (k : Int) < 64 := by omega
                      have hc := HTC.out k hk64
                      rw [if_neg (by omega)] at hc
                      go_wp2
                      go_loopg [21] 64 (fun gg s21 wr => ∃ (s : Nat), s21 = .int .i64 s ∧ k ≤ s ∧ s ≤ 64 ∧ 64 - s ≤ gg ∧ Aside (wr = w7))
                      case atStart => exact ⟨k, rfl, Nat.le_refl _, by omega, by omega, rfl⟩
                      case round =>
                        obtain ⟨s, rfl, hs1, hs2, hgg5, hE⟩ := hrel
                        obtain rfl := hE.out.symm
                        by_cases hs64 : s < 64
                        · have hz : (s : Int) < 64 := by omega
                          have hws : IntKind.i64.wrap ((s : Int) + 1) = (s : Int) + 1 := by rw [IntKind.wrap_i64]; omega
                          have hc := HTC.out s hs64
                          rw [if_neg (by omega)] at hc
                          obtain ⟨hq1, hq2⟩ : i + 1 = w ∧ a ≤ i := by
                            rcases hcases with hq | hq
                            · omega
                            · exact hq
                          have hwm : IntKind.i64.wrap ((w : Int) - 1) = (i : Int) := by rw [IntKind.wrap_i64]; omega
                          have hiw : (w : Int) - 1 = (i : Int) := by omega
                          have hia : ¬ (i : Int) < (a : Int) := by omega
                          have ht0 : ((k : Int) == 0) = false := by simp; omega
                          clear hq1 hq2 hcases
                          go_wp2
                          go_roundg (64 - (s + 1))
                          case measure => omega
                          case rel => exact ⟨s + 1, by simp, by omega, by omega, by omega, rfl⟩
                        · obtain rfl : s = 64 := by omega
                          go_wp2
                          go_roundg (w - (i + 1))
                          case measure => omega
                          case rel => exact ⟨i + 1, by simp, by omega, by omega, HX7.out⟩
                    · have hz : ¬ (k : Int) < 64 := by omega
                      go_wp2
                      go_loopg [21] 64 (fun gg s21 wr => ∃ (s : Nat), s21 = .int .i64 s ∧ k ≤ s ∧ s ≤ 64 ∧ 64 - s ≤ gg ∧ Aside (wr = w7))
                      case atStart => exact ⟨k, rfl, Nat.le_refl _, by omega, by omega, rfl⟩
                      case round =>
                        obtain ⟨s, rfl, hs1, hs2, hgg5, hE⟩ := hrel
                        obtain rfl := hE.out.symm
                        by_cases hs64 : s < 64
                        · have hz : (s : Int) < 64 := by omega
                          have hws : IntKind.i64.wrap ((s : Int) + 1) = (s : Int) + 1 := by rw [IntKind.wrap_i64]; omega
                          have hc := HTC.out s hs64
                          rw [if_neg (by omega)] at hc
                          obtain ⟨hq1, hq2⟩ : i + 1 = w ∧ a ≤ i := by
                            rcases hcases with hq | hq
                            · omega
                            · exact hq
                          have hwm : IntKind.i64.wrap ((w : Int) - 1) = (i : Int) := by rw [IntKind.wrap_i64]; omega
                          have hiw : (w : Int) - 1 = (i : Int) := by omega
                          have hia : ¬ (i : Int) < (a : Int) := by omega
                          have ht0 : ((k : Int) == 0) = false := by simp; omega
                          clear hq1 hq2 hcases
                          go_wp2
                          go_roundg (64 - (s + 1))
                          case measure => omega
                          case rel => exact ⟨s + 1, by simp, by omega, by omega, by omega, rfl⟩
                        · obtain rfl : s = 64 := by omega
                          go_wp2
                          go_roundg (w - (i + 1))
                          case measure => omega
                          case rel => exact ⟨i + 1, by simp, by omega, by omega, HX7.out⟩
              · obtain rfl : i = w := by omega
                go_wp2_with (first
                  | (go_at_call 9; refine (awake_raw _).mono ?_; rintro e w9 ⟨rfl, hx9⟩; have HX9 := asideI hx9; clear hx9; simp only [])
                  | go_in)
                go_ret
                exact ⟨rfl, extF HX00.out ((HXB.out.trans HXC.out).trans (extQ (H4.out.trans HX9.out))) (fun b e => by have := HBG.out.hq b e; omega)⟩
theorem law_safe (l : List ActD) (ma na : UInt8) (s : List UInt8) : Pure Try.prog 3 [.sl 7 (AcL l), .agg [.int .u8 ma.toNat, .int .u8 na.toNat], .sl 1 (FL s)] (.sv (.bool true)) := by
  refine pure_true fun mu w vs hm hr => ?_
  match vs, hr.1 with
  | [lv, av, sv], _ =>
    have h0 : Rep mu (.sl 7 (AcL l)) lv := hr.2 0 (by simp)
    obtain ⟨us, rfl, hl, hc⟩ := Rep.inv_agg (show Rep mu (.agg [.int .u8 ma.toNat, .int .u8 na.toNat]) av from hr.2 1 (by simp))
    obtain ⟨p2, c2, rfl, hf2⟩ := fate_of hm (show Rep mu (.sl 1 (FL s)) sv from hr.2 2 (by simp))
    obtain ⟨lp, lc, rfl, _⟩ := acts_at hm h0
    match us, hl with
    | [u, v], _ =>
      have e0 : u = .int .u8 ma.toNat := Rep.inv_int (hc 0 (by simp))
      have e1 : v = .int .u8 na.toNat := Rep.inv_int (hc 1 (by simp))
      subst e0 e1
      by_cases h : 40 < l.length
      · exact safe_early ma na h
      · exact safe_main hm h0 ma na hf2 (by omega)
end Go.Proofs.Ytifemhfpcichfaa
