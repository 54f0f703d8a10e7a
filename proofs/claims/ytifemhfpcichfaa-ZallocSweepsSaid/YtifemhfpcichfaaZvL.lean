/- Zalloc: sweeps (the walk). -/
import Derived.Test.YtifemhfpcichfaaMZvH
import Derived.Deep.RegionHeld3

set_option linter.unusedSimpArgs false
set_option linter.unusedVariables false
set_option maxHeartbeats 40000000
set_option maxRecDepth 1000000
open Go.RowKit
namespace Go.Proofs.Ytifemhfpcichfaa
open Go.Av Go.Maps

theorem written_eq {w : World} {q : Dp} {d : Dv} (h : DevAt w q d) {z n : Int} (e : wrD d z = n) : Calls Try.prog 17 #[.pointer (some ⟨q.p, 0, none⟩), .int .i64 z] w fun e w' => e = .returned (.int .i64 n) ∧ w' = w := by
  rw [← e]; exact written_raw h z
/-- The two early ways out of Zalloc's laws. -/
theorem sw_early {mu : Mem} {w0 : World} (hm : MemOK mu w0) {s : Stt} {nx : Int} {tp cp lp : Option Addr} {tn tc cn cc ln lc : Nat} (hs : Rep mu s.sv (.agg [.int .i64 nx, .slice tp tn tc, .slice cp cn cc].toArray)) (zb : UInt8) (h : 40 < ln ∨ lightS s = false) :
    Calls Try.prog 8 #[.int .u8 zb.toNat, .slice lp ln lc, .agg #[.int .i64 nx, .slice tp tn tc, .slice cp cn cc]] w0 (LawP w0) := by
  have HX := asideI (ext_alloc1 w0 (.cells #[.int .i64 nx, .slice tp tn tc, .slice cp cn cc] 58))
  have HLC := asideI (light_call (mem_ext hm HX.out) hs)
  by_cases h1 : 40 < ln
  · have h1' : (40 : Int) < (ln : Int) := by omega
    clear h
    go_enter Try.func8, Try.ntmps8
    go_wp2_with (first
      | (go_at_call 27; refine (awake11_raw _).mono ?_; rintro e w9 ⟨rfl, hx9⟩; have HX9 := asideI hx9; clear hx9; simp only [])
      | go_in)
    go_ret
    exact ⟨rfl, HX.out.trans HX9.out⟩
  · have h1' : ¬ (40 : Int) < (ln : Int) := by omega
    have hL : lightS s = false := by rcases h with h | h; · exact absurd h h1
                                     · exact h
    rw [hL] at HLC
    clear h hL
    go_enter Try.func8, Try.ntmps8
    go_wp2_with (first
      | (go_at_call 27; refine (awake11_raw _).mono ?_; rintro e w9 ⟨rfl, hx9⟩; have HX9 := asideI (HX8.out.trans hx9); clear hx9; simp only [])
      | (go_at_call 29; refine HLC.out.mono ?_; rintro e w8 ⟨rfl, hx8⟩; have HX8 := asideI hx8; clear hx8; simp only [])
      | go_in)
    go_ret
    exact ⟨rfl, HX.out.trans HX9.out⟩
theorem sw_main {mu : Mem} {w0 : World} (hm : MemOK mu w0) {l : List ActD} {lp : Option Addr} {ln lc : Nat} (hl : Rep mu (.sl 7 (AcL l)) (.slice lp ln lc)) {s : Stt} {nx : Int} {tp cp : Option Addr} {tn tc cn cc : Nat} (hs : Rep mu s.sv (.agg [.int .i64 nx, .slice tp tn tc, .slice cp cn cc].toArray)) (hI : ∀ z ∈ s.zs.flatten, I64 z) (zb : UInt8)
    (h40 : l.length ≤ 40) (hL : lightS s = true) : Calls Try.prog 8 #[.int .u8 zb.toNat, .slice lp ln lc, .agg #[.int .i64 nx, .slice tp tn tc, .slice cp cn cc]] w0 (LawP w0) := by
  obtain ⟨p', cap', e, hat⟩ := acts_at hm hl
  cases e
  obtain ⟨n, hn⟩ : ∃ n : Nat, n = 4 + zb.toNat % 30 := ⟨_, rfl⟩
  have hn4 : 4 ≤ n := by omega
  have hn33 : n ≤ 33 := by omega
  have hzl := zb.toNat_lt
  have hn1 : IntKind.i64.wrap (zb.toNat : Int) = zb.toNat := by rw [IntKind.wrap_i64]; omega
  have hn2 : IntKind.i64.wrap ((zb.toNat : Int).tmod 30) = ((zb.toNat % 30 : Nat) : Int) := by rw [Int.tmod_eq_emod_of_nonneg (by omega), IntKind.wrap_i64]; omega
  have hn3 : IntKind.i64.wrap (4 + ((zb.toNat % 30 : Nat) : Int)) = (n : Int) := by rw [IntKind.wrap_i64]; omega
  have hn5 : (4 + (zb.toNat : Int) % 30) = (n : Int) := by omega
  have hnk : newOk n 5 = true := by simp [newOk]; omega
  clear hn
  obtain ⟨W0, hW⟩ : ∃ W0, W0 = w0.alloc (.cells #[.int .i64 nx, .slice tp tn tc, .slice cp cn cc] 58) := ⟨_, rfl⟩
  have k1 : W0.heap[w0.heap.size]? = some (.cells #[.int .i64 nx, .slice tp tn tc, .slice cp cn cc] 58) := by rw [hW, alloc_get, if_pos rfl]
  have HW := asideI hW
  have K1 := asideI k1
  have KX : Aside (Ext (fun _ => False) w0 W0) := by rw [hW]; exact ext_alloc1 _ _
  have hsz : W0.heap.size = w0.heap.size + 1 := by rw [hW]; simp
  have hLC := light_call (mem_ext hm KX.out) hs
  rw [hL] at hLC
  have HLC := asideI hLC
  have HAT := asideI hat
  have HMU := asideI hm
  have HSV := asideI hs
  have HI := asideI hI
  have HLS := asideI (light_size hL)
  have HNK := asideI hnk
  have hl1 : ¬ (40 : Int) < (l.length : Int) := by omega
  clear hW k1 hat hm hl hs hLC hI hL hnk
  go_enter Try.func8, Try.ntmps8
  go_wp2_with (first
    | (go_at_call 30; refine (rnew_raw w1 n 5 HNK.out (fun _ => False)).mono ?_
       rintro e w2 ⟨x, rfl, hr2, hx2⟩
       obtain ⟨px, ny, cx, rfl⟩ := hr2.val
       have HB := asideI (both_new HNK.out HD1.out HX1.out hr2 hx2)
       have HX := asideI (HX1.out.trans hx2)
       clear hr2 hx2
       simp only [rval])
    | (go_at_call 23; refine (new_raw W8 n 5).mono ?_
       rintro e w1 ⟨hx1, h1⟩
       rcases h1 with ⟨h1, _⟩ | ⟨_, q, rfl, hq1, hd1⟩
       · exact absurd HNK.out (by rw [h1]; simp)
       have HX1 := asideI hx1
       have HD1 := asideI hd1
       have HQ : Aside (∀ k, EQ q k → W8.heap.size ≤ k) := hq1
       clear hx1 hd1 hq1
       simp only [])
    | (go_at_call 29; rw [← HW.out]; refine HLC.out.mono ?_; rintro e W8 ⟨rfl, hx8⟩; have HX8 := asideI hx8; have hs8 : w0.heap.size + 1 ≤ W8.heap.size := by have := hx8.size; omega
       clear hx8; simp only [])
    | go_in)
  have KX8 := asideI (KX.out.trans HX8.out)
  go_loopg [12] l.length (fun gg s12 wr => ∃ (k : Nat), s12 = .int .i64 k ∧ k ≤ l.length ∧ l.length - k ≤ gg ∧ Aside (LInv (w2.alloc (.cells (rcells px ny cx (rnewD n 5)) 29)) q w2.heap.size n 5 k wr))
  case atStart => exact ⟨0, rfl, by omega, by omega, (beg_start (L := n) (by simp) HB.out HQ.out HX.out).2⟩
  case round =>
    obtain ⟨k, rfl, hk, hgg, H2⟩ := hrel
    have HBG := asideI (beg_start (L := n) (by simp) HB.out HQ.out HX.out).1
    obtain ⟨d, r, p, nn, c, hb, hg⟩ := H2.out.both
    have HG := asideI hg
    obtain ⟨⟨a0, a1, a2, a3, a4, a5⟩, _⟩ := box6 hg
    have HBR := asideI hb
    have hx0 := HBG.out.old H2.out.ext (fun b e => e.elim .inl fun e => .inr (.inl e))
    have HX0 := asideI hx0
    clear hg hb hx0
    by_cases hlt : k < l.length
    · have hz : (k : Int) < (l.length : Int) := by omega
      have hw : IntKind.i64.wrap ((k : Int) + 1) = (k : Int) + 1 := by rw [IntKind.wrap_i64]; omega
      obtain ⟨lb, lo, fp2, fc2, rfl, hlb, h7, hf7⟩ := HAT.out k hlt
      generalize l.getD k ac0 = ak at h7 hf7
      obtain ⟨s0, s1, s2, s3, s4, s5, s6⟩ := h7.ext (KX8.out.trans HX0.out)
      have HF7 := asideI hf7
      clear h7 hf7
      go_wp2
      have HSTEP := asideI (do_raw (w := wr.drew) (HBR.out.reG (ext_drew wr) (fun b e => ⟨HBR.out.lt b e, .inl e⟩)) ak ((HF7.out.keeps (T := fun _ => False) (fun _ e => e.elim) ((KX8.out.trans HX0.out).trans (ext_drew wr))).sub (fun b e => by
        rcases e with e | e
        · have := HBG.out.hq b e; show w0.heap.size ≤ b; omega
        · have := HBG.out.hg; have e2 : b = w2.heap.size := e; show w0.heap.size ≤ b; omega)) (by omega))
      go_region_with (first
        | (go_at_call 11
           refine HSTEP.out.mono ?_
           rintro e w5 ⟨r', x', bb, rfl, hb2, hx2⟩
           obtain ⟨p2, n2, c2, rfl⟩ := hb2.ref.val
           have hg2 := (hx2.block w2.heap.size (HBR.out.lt _ rfl) HBG.out.gq).trans HG.out
           obtain ⟨_, f0, f1, f2, f3, f4, f5⟩ := box6 hg2
           have HB2 := asideI hb2
           have HX2 := asideI hx2
           clear hb2 hx2 hg2
           simp only [rval]))
      all_goals (
        go_wp2
        go_roundg (l.length - (k + 1))
        case measure => omega
        case rel => exact ⟨k + 1, by simp, by omega, by omega, LInv.next H2.out.ext HBG.out.gq HB2.out (by omega) ((ext_drew wr).mono (fun _ e => e.elim) |>.trans HX2.out) HG.out rfl⟩)
    · obtain rfl : k = l.length := by omega
      have hz : ¬ ((l.length : Int) < (l.length : Int)) := by omega
      obtain ⟨m, hm100⟩ : ∃ m, m = 100 * l.length + n := ⟨_, rfl⟩
      have hmm : 100 * l.length < 90000 := by omega
      have HBX := asideI (fun (W : World) (k : Ext (fun _ => False) W0 W) => box3 ((k.block w0.heap.size (by rw [hsz]; omega) id).trans K1.out))
      have HO := asideI (fun (W : World) (k : Ext (EQ q) wr W) => HX8.out.trans (HBG.out.old (H2.out.ext.trans (k.mono (fun b e => .inl e))) (fun b e => e.elim .inl fun e => .inr (.inl e))))
      have hSO : StOK w0 (.agg #[.int .i64 nx, .slice tp tn tc, .slice cp cn cc]) s.zs := ⟨st_of HMU.out HSV.out, HLS.out.2.2.1, HLS.out.2.2.2, HI.out⟩
      have HSO := asideI hSO
      have HCR := asideI (crash_raw HBR.out.at_ HBR.out.ok.ok (by have := HBR.out.ok.n; omega) (fs := []) (v := .slice none 0 0) (show FateV _ _ _ _ from ⟨none, 0, rfl, Nat.le_refl _, fun h => absurd rfl h⟩))
      have hOKC := HBR.out.ok.crash []
      rw [← hm100] at hOKC
      have HOKC := asideI hOKC
      have HFR := asideI (crash_fresh d [])
      generalize crashD d [] = dc at HCR HOKC HFR
      have hdn : dc.zs.length = n := HOKC.out.len
      obtain ⟨S, hS⟩ : ∃ S, S = s.zs.flatten := ⟨_, rfl⟩
      have HS := asideI hS
      clear hSO hOKC a0 a1 a2 a3 a4 a5 hS hm100
      go_wp2_with (first
        | (go_at_call 31; refine (kinds_raw sort67 (HD2.out) (HSO.out.ext (KX.out.trans (HO.out _ HE2.out))).st HSO.out.n HSO.out.c HSO.out.i).mono ?_
           rintro e w3 ⟨kv, rfl, hu1, hu2⟩
           rw [← HS.out, hdn] at hu1
           obtain ⟨kp, kc, rfl⟩ := own_slice hu1
           have HR3 := asideI hu1
           have HE3 := asideI (HE2.out.trans (extQ hu2))
           have HD3 := asideI (HD2.out.ext hu2)
           have HF3 := asideI (HF2.out.ext hu2)
           clear hu1 hu2
           simp only [])
        | (go_at_call 20; refine (fork_raw HD1.out).mono ?_
           rintro e w2 ⟨q2, rfl, hq2, hf2, hx2⟩
           have HE2 := asideI (HE1.out.trans (extQ hx2))
           have HD2 := asideI (HD1.out.ext hx2)
           have HF2 := asideI hf2
           have HQ2 : Aside (∀ b, EQ q2 b → ¬ EQ q b) := fun b e1 e2 => by
             have h1 := hq2 b e1
             obtain ⟨l0, l1, l2⟩ := HD1.out.lt
             rcases e2 with e | e | e <;> omega
           obtain ⟨c0, c1, c2⟩ := HBX.out _ (HO.out _ HE2.out)
           clear hq2 hf2 hx2
           simp only [])
        | (go_at_call 12; refine HCR.out.mono ?_
           rintro e w1 ⟨rfl, hd1, hx1⟩
           have HD1 := asideI hd1
           have HE1 := asideI hx1
           clear hd1 hx1
           simp only [])
        | go_in)

      have HNQ : Aside (∀ b, w2.heap.size ≤ b → ¬ EQ q b) := fun b hb e => by
        obtain ⟨l0, l1, l2⟩ := HD2.out.lt
        rcases e with e | e | e <;> omega
      go_loopg [15] n (fun gg s15 wz => ∃ (c : Nat), s15 = .int .i64 c ∧ c ≤ n ∧ n - c ≤ gg ∧ Aside (∃ d2, SwI n m S dc d2 c ∧ DevAt wz q d2 ∧ Ext (EQ q) w3 wz))
      case atStart => exact ⟨0, rfl, by omega, by omega, dc, SwI.start HOKC.out HFR.out.1 HFR.out.2, HD3.out, Ext.refl _ _⟩
      case round =>
        obtain ⟨c, rfl, hcn, hgg, H3⟩ := hrel
        obtain ⟨d2, hsi, hd2, hx2⟩ := H3.out
        have HSI := asideI hsi
        have HDD := asideI hd2
        have HXD := asideI hx2
        clear hsi hd2 hx2
        obtain ⟨c0, c1, c2⟩ := HBX.out _ (HO.out _ (HE3.out.trans HXD.out))
        by_cases hlt : c < n
        · have hz : (c : Int) < (n : Int) := by omega
          have hw : IntKind.i64.wrap ((c : Int) + 1) = (c : Int) + 1 := by rw [IntKind.wrap_i64]; omega
          have hsw := sweep_raw sort67 HDD.out HSI.out.wr (HSO.out.ext (KX.out.trans (HO.out _ (HE3.out.trans HXD.out))))
          rw [← HS.out] at hsw
          by_cases he : ofD d2 S 3 = []
          · rw [HSI.out.done he] at hsw
            have HSW := asideI hsw
            have HSZ : Aside (SwI n m S dc d2 c ∧ ofD d2 S 3 = []) := ⟨HSI.out, he⟩
            clear hsw he
            have hdn2 : d2.zs.length = n := HSZ.out.1.ok.len
            go_wp2_with (first
              | (go_at_call 31; refine (kinds_raw sort67 HD5.out (HSO.out.ext (KX.out.trans (HO.out _ (HE3.out.trans HX5.out)))).st HSO.out.n HSO.out.c HSO.out.i).mono ?_
                 rintro e w6 ⟨kv, rfl, hu1, hu2⟩
                 rw [← HS.out, hdn2] at hu1
                 obtain ⟨np, nc, rfl⟩ := own_slice hu1
                 have HR6 := asideI hu1
                 have HX6 := asideI hu2
                 have HD6 := asideI (HD5.out.ext hu2)
                 clear hu1 hu2
                 simp only [])
              | (go_at_call 34; refine HSW.out.mono ?_
                 rintro e w5 ⟨rfl, hd5, hx5⟩
                 have HD5 := asideI hd5
                 have HX5 := asideI (HXD.out.trans hx5)
                 obtain ⟨c0, c1, c2⟩ := HBX.out _ (HO.out _ (HE3.out.trans HX5.out))
                 clear hd5 hx5
                 simp only [])
              | go_in)
            go_loopg [19] n (fun gg s19 wz => ∃ (z : Nat), s19 = .int .i64 z ∧ z ≤ n ∧ n - z ≤ gg ∧ Aside (Ext (fun _ => False) w6 wz))
            case atStart => exact ⟨0, rfl, by omega, by omega, Ext.refl _ _⟩
            case round =>
              obtain ⟨z, rfl, hzn, hgg2, H4⟩ := hrel
              by_cases hzl : z < n
              · have hzi : (z : Int) < (n : Int) := by omega
                have hw2 : IntKind.i64.wrap ((z : Int) + 1) = (z : Int) + 1 := by rw [IntKind.wrap_i64]; omega
                obtain ⟨b, cc2, hek, hb1, hb2, hb3⟩ := row_at HR3.out hzl
                cases hek
                obtain ⟨b', cc3, hek, hn1, hn2, hn3⟩ := row_at HR6.out hzl
                cases hek
                have hbk : (u8s (kindsB dc S))[z]? = some (.int .u8 (kindD dc S z).toNat) := by simp [u8s, kindsB, hdn, hzl]
                have hbn : (u8s (kindsB d2 S))[z]? = some (.int .u8 (kindD d2 S z).toNat) := by simp [u8s, kindsB, hdn2, hzl]
                rw [hbk] at hb3
                rw [hbn] at hn3
                have HX3 := asideI (HX5.out.trans (extQ (q := q) (HX6.out.trans H4.out)))
                replace hb3 := (World.cell?_of_block (HX3.out.block b hb2 (HNQ.out _ hb1))).trans hb3
                replace hn3 := (World.cell?_of_block (H4.out.block b' hn2 id)).trans hn3
                have hz00 : (0 : Int) ≤ (z : Int) := by omega
                have hzl1 : (z : Int) < (dc.zs.length : Int) := by omega
                have hzl2 : (z : Int) < (d2.zs.length : Int) := by omega
                rcases HSZ.out.1.last HSZ.out.2 hzl with ⟨k3, k0⟩ | ⟨kn3, kk, hwr⟩
                · rw [k3] at hb3
                  rw [k0] at hn3
                  clear k3 k0 hbk hbn hb1 hb2 hn1 hn2
                  go_wp2
                  go_region
                  all_goals (
                    go_wp2
                    go_roundg (n - (z + 1))
                    case measure => omega
                    case rel => exact ⟨z + 1, by simp, by omega, by omega, H4.out.trans (ext_drew _)⟩)
                · rw [kk] at hn3
                  have hkn : ¬ (((kindD dc S z).toNat : Int) = 3) := fun e => kn3 (UInt8.toNat_inj.1 (by show (kindD dc S z).toNat = 3; omega))
                  have hkb : (((kindD dc S z).toNat : Int) == 3) = false := by simpa using hkn
                  have hkc : (((kindD dc S z).toNat : Int) != 3) = true := by simpa using hkn
                  generalize ((kindD dc S z).toNat : Int) = kb at hb3 hn3 hkn hkb hkc
                  have HWR := asideI hwr
                  have hda := HD6.out.ext H4.out
                  have hdb := (HF3.out.keep HX3.out (fun b e e2 => HQ2.out b e e2))
                  clear kn3 kk hwr hbk hbn hb1 hb2 hn1 hn2
                  go_wp2
                  refine wp_region_noPanic ?_
                  refine wp_region_held_drew (S := fun W' => W'.cell? ⟨b, z, none⟩ = some (.int .u8 kb) ∧ W'.cell? ⟨b', z, none⟩ = some (.int .u8 kb) ∧ DevAt W' q d2 ∧ DevAt W' q2 dc) (by kernel_rfl) ?_ (fun hS0 => ?_)
                  · exact ⟨(by go_keep), (by go_keep), hda.ext (ext_drew _), hdb.ext (ext_drew _)⟩
                  refine wpAnyH_take (i := 0) (oi := ?oC0) (v := ?vC0) ?hi (by kernel_rfl) (by kernel_rfl) (by kernel_rfl) (fun _ _ _ h => h) (Or.inl ⟨?hw, ?hy⟩) hS0 ?_
                  case hi => (simp only [List.getElem?_toArray, List.getElem?_cons_succ, List.getElem?_cons_zero]; rfl)
                  case hw => rfl
                  case hy => (intro w hSw; (try dsimp only at hSw); go_simp; try with_reducible rfl)
                  try simp only [Act.put, List.setIfInBounds_toArray, List.set_cons_zero, List.set_cons_succ]
                  refine wpAnyH_take (i := 1) (oi := ?oC1) (v := ?vC1) ?hi (by kernel_rfl) (by kernel_rfl) (by kernel_rfl) (fun _ _ _ h => h) (Or.inl ⟨?hw, ?hy⟩) hS0 ?_
                  case hi => (simp only [List.getElem?_toArray, List.getElem?_cons_succ, List.getElem?_cons_zero]; rfl)
                  case hw => rfl
                  case hy => (intro w hSw; (try dsimp only at hSw); go_simp; try with_reducible rfl)
                  try simp only [Act.put, List.setIfInBounds_toArray, List.set_cons_zero, List.set_cons_succ]
                  refine wpAnyH_take (i := 2) (oi := ?oC2) (v := ?vC2) ?hi (by kernel_rfl) (by kernel_rfl) (by kernel_rfl) (fun _ _ _ h => h) (Or.inl ⟨?hw, ?hy⟩) hS0 ?_
                  case hi => (simp only [List.getElem?_toArray, List.getElem?_cons_succ, List.getElem?_cons_zero]; rfl)
                  case hw => rfl
                  case hy => (intro w hSw; (try dsimp only at hSw); go_simp; try with_reducible rfl)
                  try simp only [Act.put, List.setIfInBounds_toArray, List.set_cons_zero, List.set_cons_succ]
                  refine wpAnyH_take (i := 3) (oi := ?oC3) (v := ?vC3) ?hi (by kernel_rfl) (by kernel_rfl) (by kernel_rfl) (fun _ _ _ h => h) (Or.inl ⟨?hw, ?hy⟩) hS0 ?_
                  case hi => (simp only [List.getElem?_toArray, List.getElem?_cons_succ, List.getElem?_cons_zero]; rfl)
                  case hw => rfl
                  case hy => (intro w hSw; (try dsimp only at hSw); go_simp; try with_reducible rfl)
                  try simp only [Act.put, List.setIfInBounds_toArray, List.set_cons_zero, List.set_cons_succ]
                  refine wpAnyH_take (i := 4) (oi := ?oC4) (v := ?vC4) ?hi (by kernel_rfl) (by kernel_rfl) (by kernel_rfl) (fun _ _ _ h => h) (Or.inl ⟨?hw, ?hy⟩) hS0 ?_
                  case hi => (simp only [List.getElem?_toArray, List.getElem?_cons_succ, List.getElem?_cons_zero]; rfl)
                  case hw => rfl
                  case hy => (intro w hSw; (try dsimp only at hSw); go_simp; try with_reducible rfl)
                  try simp only [Act.put, List.setIfInBounds_toArray, List.set_cons_zero, List.set_cons_succ]
                  refine wpAnyH_take (i := 5) (oi := ?oC5) (v := ?vC5) ?hi (by kernel_rfl) (by kernel_rfl) (by kernel_rfl) (fun _ _ _ h => h) (Or.inl ⟨?hw, ?hy⟩) hS0 ?_
                  case hi => (simp only [List.getElem?_toArray, List.getElem?_cons_succ, List.getElem?_cons_zero]; rfl)
                  case hw => rfl
                  case hy => (intro w hSw; (try dsimp only at hSw); go_simp; try with_reducible rfl)
                  try simp only [Act.put, List.setIfInBounds_toArray, List.set_cons_zero, List.set_cons_succ]
                  refine wpAnyH_take (i := 6) (oi := ?oC6) (v := ?vC6) ?hi (by kernel_rfl) (by kernel_rfl) (by kernel_rfl) (fun _ _ _ h => h) (Or.inl ⟨?hw, ?hy⟩) hS0 ?_
                  case hi => (simp only [List.getElem?_toArray, List.getElem?_cons_succ, List.getElem?_cons_zero]; rfl)
                  case hw => rfl
                  case hy => (intro w hSw; (try dsimp only at hSw); go_simp; try with_reducible rfl)
                  try simp only [Act.put, List.setIfInBounds_toArray, List.set_cons_zero, List.set_cons_succ]
                  refine wpAnyH_take (i := 7) (oi := ?oC7) (v := ?vC7) ?hi (by kernel_rfl) (by kernel_rfl) (by kernel_rfl) (fun _ _ _ h => h) (Or.inl ⟨?hw, ?hy⟩) hS0 ?_
                  case hi => (simp only [List.getElem?_toArray, List.getElem?_cons_succ, List.getElem?_cons_zero]; rfl)
                  case hw => rfl
                  case hy => (intro w hSw; (try dsimp only at hSw); go_simp; try with_reducible rfl)
                  try simp only [Act.put, List.setIfInBounds_toArray, List.set_cons_zero, List.set_cons_succ]
                  refine wpAnyH_take (i := 8) (oi := ?oC8) (v := ?vC8) ?hi (by kernel_rfl) (by kernel_rfl) (by kernel_rfl) (fun _ _ _ h => h) (Or.inl ⟨?hw, ?hy⟩) hS0 ?_
                  case hi => (simp only [List.getElem?_toArray, List.getElem?_cons_succ, List.getElem?_cons_zero]; rfl)
                  case hw => rfl
                  case hy => (intro w hSw; (try dsimp only at hSw); go_simp; try with_reducible rfl)
                  try simp only [Act.put, List.setIfInBounds_toArray, List.set_cons_zero, List.set_cons_succ]
                  refine wpAnyH_take (i := 9) (oi := ?oC9) (v := ?vC9) ?hi (by kernel_rfl) (by kernel_rfl) (by kernel_rfl) (fun _ _ _ h => h) (Or.inl ⟨?hw, ?hy⟩) hS0 ?_
                  case hi => (simp only [List.getElem?_toArray, List.getElem?_cons_succ, List.getElem?_cons_zero]; rfl)
                  case hw => rfl
                  case hy => (intro w hSw; (try dsimp only at hSw); go_simp; try with_reducible rfl)
                  try simp only [Act.put, List.setIfInBounds_toArray, List.set_cons_zero, List.set_cons_succ]
                  refine wpAnyH_take (i := 10) (oi := ?oC10) (v := ?vC10) ?hi (by kernel_rfl) (by kernel_rfl) (by kernel_rfl) (fun _ _ _ h => h) (Or.inl ⟨?hw, ?hy⟩) hS0 ?_
                  case hi => (simp only [List.getElem?_toArray, List.getElem?_cons_succ, List.getElem?_cons_zero]; rfl)
                  case hw => rfl
                  case hy => (intro w hSw; (try dsimp only at hSw); go_simp; try with_reducible rfl)
                  try simp only [Act.put, List.setIfInBounds_toArray, List.set_cons_zero, List.set_cons_succ]
                  refine wpAnyH_take (i := 11) (oi := ?oC11) (v := ?vC11) ?hi (by kernel_rfl) (by kernel_rfl) (by kernel_rfl) (fun _ _ _ h => h) (Or.inl ⟨?hw, ?hy⟩) hS0 ?_
                  case hi => (simp only [List.getElem?_toArray, List.getElem?_cons_succ, List.getElem?_cons_zero]; rfl)
                  case hw => rfl
                  case hy => (intro w hSw; (try dsimp only at hSw); go_simp; try with_reducible rfl)
                  try simp only [Act.put, List.setIfInBounds_toArray, List.set_cons_zero, List.set_cons_succ]
                  refine wpAnyH_take (i := 12) (oi := ?oC12) (v := ?vC12) ?hi (by kernel_rfl) (by kernel_rfl) (by kernel_rfl) (fun _ _ _ h => h) (Or.inl ⟨?hw, ?hy⟩) hS0 ?_
                  case hi => (simp only [List.getElem?_toArray, List.getElem?_cons_succ, List.getElem?_cons_zero]; rfl)
                  case hw => rfl
                  case hy => (intro w hSw; (try dsimp only at hSw); go_simp; try with_reducible rfl)
                  try simp only [Act.put, List.setIfInBounds_toArray, List.set_cons_zero, List.set_cons_succ]
                  refine wpAnyH_take (i := 13) (oi := ?oC13) (v := ?vC13) ?hi (by kernel_rfl) (by kernel_rfl) (by kernel_rfl) (fun _ _ _ h => h) (Or.inl ⟨?hw, ?hy⟩) hS0 ?_
                  case hi => (simp only [List.getElem?_toArray, List.getElem?_cons_succ, List.getElem?_cons_zero]; rfl)
                  case hw => rfl
                  case hy => (intro w hSw; (try dsimp only at hSw); go_simp; try with_reducible rfl)
                  try simp only [Act.put, List.setIfInBounds_toArray, List.set_cons_zero, List.set_cons_succ]
                  refine wpAnyH_take (i := 14) (oi := ?oC14) (v := ?vC14) ?hi (by kernel_rfl) (by kernel_rfl) (by kernel_rfl) (fun _ _ _ h => h) (Or.inl ⟨?hw, ?hy⟩) hS0 ?_
                  case hi => (simp only [List.getElem?_toArray, List.getElem?_cons_succ, List.getElem?_cons_zero]; rfl)
                  case hw => rfl
                  case hy => (intro w hSw; (try dsimp only at hSw); go_simp; try with_reducible rfl)
                  try simp only [Act.put, List.setIfInBounds_toArray, List.set_cons_zero, List.set_cons_succ]
                  refine wpAnyH_take (i := 15) (oi := ?oC15) (v := ?vC15) ?hi (by kernel_rfl) (by kernel_rfl) (by kernel_rfl) (fun _ _ _ h => h) (Or.inl ⟨?hw, ?hy⟩) hS0 ?_
                  case hi => (simp only [List.getElem?_toArray, List.getElem?_cons_succ, List.getElem?_cons_zero]; rfl)
                  case hw => rfl
                  case hy => (intro w hSw; (try dsimp only at hSw); go_simp; try with_reducible rfl)
                  try simp only [Act.put, List.setIfInBounds_toArray, List.set_cons_zero, List.set_cons_succ]
                  refine wpAnyH_take (i := 16) (oi := ?oC16) (v := ?vC16) ?hi (by kernel_rfl) (by kernel_rfl) (by kernel_rfl) (fun _ _ _ h => h) (Or.inl ⟨?hw, ?hy⟩) hS0 ?_
                  case hi => (simp only [List.getElem?_toArray, List.getElem?_cons_succ, List.getElem?_cons_zero]; rfl)
                  case hw => rfl
                  case hy => (intro w hSw; (try dsimp only at hSw); go_simp; try with_reducible rfl)
                  try simp only [Act.put, List.setIfInBounds_toArray, List.set_cons_zero, List.set_cons_succ]
                  refine wpAnyH_take (i := 17) (oi := ?oC17) (v := ?vC17) ?hi (by kernel_rfl) (by kernel_rfl) (by kernel_rfl) (fun _ _ _ h => h) (Or.inl ⟨?hw, ?hy⟩) hS0 ?_
                  case hi => (simp only [List.getElem?_toArray, List.getElem?_cons_succ, List.getElem?_cons_zero]; rfl)
                  case hw => rfl
                  case hy => (intro w hSw; (try dsimp only at hSw); go_simp; try with_reducible rfl)
                  try simp only [Act.put, List.setIfInBounds_toArray, List.set_cons_zero, List.set_cons_succ]
                  refine wpAnyH_take (i := 18) (oi := ?oC18) (v := ?vC18) ?hi (by kernel_rfl) (by kernel_rfl) (by kernel_rfl) (fun _ _ _ h => h) (Or.inl ⟨?hw, ?hy⟩) hS0 ?_
                  case hi => (simp only [List.getElem?_toArray, List.getElem?_cons_succ, List.getElem?_cons_zero]; rfl)
                  case hw => rfl
                  case hy => (intro w hSw; (try dsimp only at hSw); go_simp; try with_reducible rfl)
                  try simp only [Act.put, List.setIfInBounds_toArray, List.set_cons_zero, List.set_cons_succ]
                  refine wpAnyH_take (i := 19) (oi := ?oC19) (v := ?vC19) ?hi (by kernel_rfl) (by kernel_rfl) (by kernel_rfl) (fun _ _ _ h => h) (Or.inl ⟨?hw, ?hy⟩) hS0 ?_
                  case hi => (simp only [List.getElem?_toArray, List.getElem?_cons_succ, List.getElem?_cons_zero]; rfl)
                  case hw => rfl
                  case hy => (intro w hSw; (try dsimp only at hSw); go_simp; try with_reducible rfl)
                  try simp only [Act.put, List.setIfInBounds_toArray, List.set_cons_zero, List.set_cons_succ]
                  refine wpAnyH_take (i := 20) (oi := ?oC20) (v := ?vC20) ?hi (by kernel_rfl) (by kernel_rfl) (by kernel_rfl) (fun _ _ _ h => h) (Or.inl ⟨?hw, ?hy⟩) hS0 ?_
                  case hi => (simp only [List.getElem?_toArray, List.getElem?_cons_succ, List.getElem?_cons_zero]; rfl)
                  case hw => rfl
                  case hy => (intro w hSw; (try dsimp only at hSw); go_simp; try with_reducible rfl)
                  try simp only [Act.put, List.setIfInBounds_toArray, List.set_cons_zero, List.set_cons_succ]
                  refine wpAnyH_take (i := 21) (oi := ?oC21) (v := ?vC21) ?hi (by kernel_rfl) (by kernel_rfl) (by kernel_rfl) (fun _ _ _ h => h) (Or.inl ⟨?hw, ?hy⟩) hS0 ?_
                  case hi => (simp only [List.getElem?_toArray, List.getElem?_cons_succ, List.getElem?_cons_zero]; rfl)
                  case hw => rfl
                  case hy => (intro w hSw; (try dsimp only at hSw); go_simp; try with_reducible rfl)
                  try simp only [Act.put, List.setIfInBounds_toArray, List.set_cons_zero, List.set_cons_succ]
                  refine wpAnyH_take (i := 22) (oi := ?oC22) (v := ?vC22) ?hi (by kernel_rfl) (by kernel_rfl) (by kernel_rfl) (fun _ _ _ h => h) (Or.inl ⟨?hw, ?hy⟩) hS0 ?_
                  case hi => (simp only [List.getElem?_toArray, List.getElem?_cons_succ, List.getElem?_cons_zero]; rfl)
                  case hw => rfl
                  case hy => (intro w hSw; (try dsimp only at hSw); go_simp; try with_reducible rfl)
                  try simp only [Act.put, List.setIfInBounds_toArray, List.set_cons_zero, List.set_cons_succ]
                  refine wpAnyH_take (i := 23) (oi := ?oC23) (v := ?vC23) ?hi (by kernel_rfl) (by kernel_rfl) (by kernel_rfl) (fun _ _ _ h => h) (Or.inl ⟨?hw, ?hy⟩) hS0 ?_
                  case hi => (simp only [List.getElem?_toArray, List.getElem?_cons_succ, List.getElem?_cons_zero]; rfl)
                  case hw => rfl
                  case hy => (intro w hSw; (try dsimp only at hSw); go_simp; try with_reducible rfl)
                  try simp only [Act.put, List.setIfInBounds_toArray, List.set_cons_zero, List.set_cons_succ]
                  refine wpAnyH_take (i := 25) (oi := ?oC25) (v := ?vC25) ?hi (by kernel_rfl) (by kernel_rfl) (by kernel_rfl) (fun _ _ _ h => h) (Or.inl ⟨?hw, ?hy⟩) hS0 ?_
                  case hi => (simp only [List.getElem?_toArray, List.getElem?_cons_succ, List.getElem?_cons_zero]; rfl)
                  case hw => rfl
                  case hy => (intro w hSw; (try dsimp only at hSw); go_simp; try with_reducible rfl)
                  try simp only [Act.put, List.setIfInBounds_toArray, List.set_cons_zero, List.set_cons_succ]
                  refine wpAnyH_take (i := 26) (oi := ?oC26) (v := ?vC26) ?hi (by kernel_rfl) (by kernel_rfl) (by kernel_rfl) (fun _ _ _ h => h) (Or.inl ⟨?hw, ?hy⟩) hS0 ?_
                  case hi => (simp only [List.getElem?_toArray, List.getElem?_cons_succ, List.getElem?_cons_zero]; rfl)
                  case hw => rfl
                  case hy => (intro w hSw; (try dsimp only at hSw); go_simp; try with_reducible rfl)
                  try simp only [Act.put, List.setIfInBounds_toArray, List.set_cons_zero, List.set_cons_succ]
                  refine wpAnyH_ready (rs := [24]) (by kernel_rfl) (by simp) ?_
                  refine AllReadyH.cons (o := ?oC24) ?hi (fun K hK => ?_) AllReadyH.nil
                  case hi => (simp only [List.getElem?_toArray, List.getElem?_cons_succ, List.getElem?_cons_zero]; rfl)
                  go_simp
                  refine (written_eq (hS0.2.2.1) HWR.out).mono ?_
                  rintro e w' ⟨rfl, rfl⟩
                  try simp only []
                  refine hK.out _ _ hS0 (fun _ => ?_)
                  clear hK K
                  try simp only [Act.put, List.setIfInBounds_toArray, List.set_cons_zero, List.set_cons_succ]
                  refine wpAnyH_ready (rs := [27]) (by kernel_rfl) (by simp) ?_
                  refine AllReadyH.cons (o := ?oC27) ?hi (fun K hK => ?_) AllReadyH.nil
                  case hi => (simp only [List.getElem?_toArray, List.getElem?_cons_succ, List.getElem?_cons_zero]; rfl)
                  go_simp
                  refine (written_eq (hS0.2.2.2) rfl).mono ?_
                  rintro e w' ⟨rfl, rfl⟩
                  try simp only []
                  refine hK.out _ _ hS0 (fun _ => ?_)
                  clear hK K
                  try simp only [Act.put, List.setIfInBounds_toArray, List.set_cons_zero, List.set_cons_succ]
                  refine wpAnyH_take (i := 28) (oi := ?oC28) (v := ?vC28) ?hi (by kernel_rfl) (by kernel_rfl) (by kernel_rfl) (fun _ _ _ h => h) (Or.inl ⟨?hw, ?hy⟩) hS0 ?_
                  case hi => (simp only [List.getElem?_toArray, List.getElem?_cons_succ, List.getElem?_cons_zero]; rfl)
                  case hw => rfl
                  case hy => (intro w hSw; (try dsimp only at hSw); go_simp; try with_reducible rfl)
                  try simp only [Act.put, List.setIfInBounds_toArray, List.set_cons_zero, List.set_cons_succ]
                  refine wpAnyH_take (i := 29) (oi := ?oC29) (v := ?vC29) ?hi (by kernel_rfl) (by kernel_rfl) (by kernel_rfl) (fun _ _ _ h => h) (Or.inl ⟨?hw, ?hy⟩) hS0 ?_
                  case hi => (simp only [List.getElem?_toArray, List.getElem?_cons_succ, List.getElem?_cons_zero]; rfl)
                  case hw => rfl
                  case hy => (intro w hSw; (try dsimp only at hSw); go_simp; try with_reducible rfl)
                  try simp only [Act.put, List.setIfInBounds_toArray, List.set_cons_zero, List.set_cons_succ]
                  refine wpAnyH_take (i := 30) (oi := ?oC30) (v := ?vC30) ?hi (by kernel_rfl) (by kernel_rfl) (by kernel_rfl) (fun _ _ _ h => h) (Or.inl ⟨?hw, ?hy⟩) hS0 ?_
                  case hi => (simp only [List.getElem?_toArray, List.getElem?_cons_succ, List.getElem?_cons_zero]; rfl)
                  case hw => rfl
                  case hy => (intro w hSw; (try dsimp only at hSw); go_simp; try with_reducible rfl)
                  try simp only [Act.put, List.setIfInBounds_toArray, List.set_cons_zero, List.set_cons_succ]
                  refine wpAnyH_take (i := 31) (oi := ?oC31) (v := ?vC31) ?hi (by kernel_rfl) (by kernel_rfl) (by kernel_rfl) (fun _ _ _ h => h) (Or.inl ⟨?hw, ?hy⟩) hS0 ?_
                  case hi => (simp only [List.getElem?_toArray, List.getElem?_cons_succ, List.getElem?_cons_zero]; rfl)
                  case hw => rfl
                  case hy => (intro w hSw; (try dsimp only at hSw); go_simp; try with_reducible rfl)
                  try simp only [Act.put, List.setIfInBounds_toArray, List.set_cons_zero, List.set_cons_succ]
                  refine wpAnyH_take (i := 32) (oi := ?oC32) (v := ?vC32) ?hi (by kernel_rfl) (by kernel_rfl) (by kernel_rfl) (fun _ _ _ h => h) (Or.inl ⟨?hw, ?hy⟩) hS0 ?_
                  case hi => (simp only [List.getElem?_toArray, List.getElem?_cons_succ, List.getElem?_cons_zero]; rfl)
                  case hw => rfl
                  case hy => (intro w hSw; (try dsimp only at hSw); go_simp; try with_reducible rfl)
                  try simp only [Act.put, List.setIfInBounds_toArray, List.set_cons_zero, List.set_cons_succ]
                  refine wpAnyH_take (i := 33) (oi := ?oC33) (v := ?vC33) ?hi (by kernel_rfl) (by kernel_rfl) (by kernel_rfl) (fun _ _ _ h => h) (Or.inl ⟨?hw, ?hy⟩) hS0 ?_
                  case hi => (simp only [List.getElem?_toArray, List.getElem?_cons_succ, List.getElem?_cons_zero]; rfl)
                  case hw => rfl
                  case hy => (intro w hSw; (try dsimp only at hSw); go_simp; try with_reducible rfl)
                  try simp only [Act.put, List.setIfInBounds_toArray, List.set_cons_zero, List.set_cons_succ]
                  refine wpAnyH_take (i := 34) (oi := ?oC34) (v := ?vC34) ?hi (by kernel_rfl) (by kernel_rfl) (by kernel_rfl) (fun _ _ _ h => h) (Or.inl ⟨?hw, ?hy⟩) hS0 ?_
                  case hi => (simp only [List.getElem?_toArray, List.getElem?_cons_succ, List.getElem?_cons_zero]; rfl)
                  case hw => rfl
                  case hy => (intro w hSw; (try dsimp only at hSw); go_simp; try with_reducible rfl)
                  try simp only [Act.put, List.setIfInBounds_toArray, List.set_cons_zero, List.set_cons_succ]
                  refine wpAnyH_take (i := 35) (oi := ?oC35) (v := ?vC35) ?hi (by kernel_rfl) (by kernel_rfl) (by kernel_rfl) (fun _ _ _ h => h) (Or.inl ⟨?hw, ?hy⟩) hS0 ?_
                  case hi => (simp only [List.getElem?_toArray, List.getElem?_cons_succ, List.getElem?_cons_zero]; rfl)
                  case hw => rfl
                  case hy => (intro w hSw; (try dsimp only at hSw); go_simp; try with_reducible rfl)
                  try simp only [Act.put, List.setIfInBounds_toArray, List.set_cons_zero, List.set_cons_succ]
                  refine wpAnyH_take (i := 36) (oi := ?oC36) (v := ?vC36) ?hi (by kernel_rfl) (by kernel_rfl) (by kernel_rfl) (fun _ _ _ h => h) (Or.inl ⟨?hw, ?hy⟩) hS0 ?_
                  case hi => (simp only [List.getElem?_toArray, List.getElem?_cons_succ, List.getElem?_cons_zero]; rfl)
                  case hw => rfl
                  case hy => (intro w hSw; (try dsimp only at hSw); go_simp; try with_reducible rfl)
                  try simp only [Act.put, List.setIfInBounds_toArray, List.set_cons_zero, List.set_cons_succ]
                  refine wpAnyH_take (i := 37) (oi := ?oC37) (v := ?vC37) ?hi (by kernel_rfl) (by kernel_rfl) (by kernel_rfl) (fun _ _ _ h => h) (Or.inl ⟨?hw, ?hy⟩) hS0 ?_
                  case hi => (simp only [List.getElem?_toArray, List.getElem?_cons_succ, List.getElem?_cons_zero]; rfl)
                  case hw => rfl
                  case hy => (intro w hSw; (try dsimp only at hSw); go_simp; try with_reducible rfl)
                  try simp only [Act.put, List.setIfInBounds_toArray, List.set_cons_zero, List.set_cons_succ]
                  refine wpAnyH_take (i := 38) (oi := ?oC38) (v := ?vC38) ?hi (by kernel_rfl) (by kernel_rfl) (by kernel_rfl) (fun _ _ _ h => h) (Or.inl ⟨?hw, ?hy⟩) hS0 ?_
                  case hi => (simp only [List.getElem?_toArray, List.getElem?_cons_succ, List.getElem?_cons_zero]; rfl)
                  case hw => rfl
                  case hy => (intro w hSw; (try dsimp only at hSw); go_simp; try with_reducible rfl)
                  try simp only [Act.put, List.setIfInBounds_toArray, List.set_cons_zero, List.set_cons_succ]
                  refine wpAnyH_take (i := 39) (oi := ?oC39) (v := undef) ?hi (by kernel_rfl) (by kernel_rfl) (by kernel_rfl) (fun _ _ _ h => h) (Or.inr ⟨?hw, rfl⟩) hS0 ?_
                  case hi => (simp only [List.getElem?_toArray, List.getElem?_cons_succ, List.getElem?_cons_zero]; rfl)
                  case hw => rfl
                  try simp only [Act.put, List.setIfInBounds_toArray, List.set_cons_zero, List.set_cons_succ]
                  refine wpAnyH_take (i := 40) (oi := ?oC40) (v := undef) ?hi (by kernel_rfl) (by kernel_rfl) (by kernel_rfl) (fun _ _ _ h => h) (Or.inr ⟨?hw, rfl⟩) hS0 ?_
                  case hi => (simp only [List.getElem?_toArray, List.getElem?_cons_succ, List.getElem?_cons_zero]; rfl)
                  case hw => rfl
                  try simp only [Act.put, List.setIfInBounds_toArray, List.set_cons_zero, List.set_cons_succ]
                  refine wpAnyH_take (i := 41) (oi := ?oC41) (v := undef) ?hi (by kernel_rfl) (by kernel_rfl) (by kernel_rfl) (fun _ _ _ h => h) (Or.inr ⟨?hw, rfl⟩) hS0 ?_
                  case hi => (simp only [List.getElem?_toArray, List.getElem?_cons_succ, List.getElem?_cons_zero]; rfl)
                  case hw => rfl
                  try simp only [Act.put, List.setIfInBounds_toArray, List.set_cons_zero, List.set_cons_succ]
                  refine wpAnyH_take (i := 42) (oi := ?oC42) (v := undef) ?hi (by kernel_rfl) (by kernel_rfl) (by kernel_rfl) (fun _ _ _ h => h) (Or.inr ⟨?hw, rfl⟩) hS0 ?_
                  case hi => (simp only [List.getElem?_toArray, List.getElem?_cons_succ, List.getElem?_cons_zero]; rfl)
                  case hw => rfl
                  try simp only [Act.put, List.setIfInBounds_toArray, List.set_cons_zero, List.set_cons_succ]
                  refine wpAnyH_take (i := 43) (oi := ?oC43) (v := undef) ?hi (by kernel_rfl) (by kernel_rfl) (by kernel_rfl) (fun _ _ _ h => h) (Or.inr ⟨?hw, rfl⟩) hS0 ?_
                  case hi => (simp only [List.getElem?_toArray, List.getElem?_cons_succ, List.getElem?_cons_zero]; rfl)
                  case hw => rfl
                  try simp only [Act.put, List.setIfInBounds_toArray, List.set_cons_zero, List.set_cons_succ]
                  refine wpAnyH_take (i := 44) (oi := ?oC44) (v := ?vC44) ?hi (by kernel_rfl) (by kernel_rfl) (by kernel_rfl) (fun _ _ _ h => h) (Or.inl ⟨?hw, ?hy⟩) hS0 ?_
                  case hi => (simp only [List.getElem?_toArray, List.getElem?_cons_succ, List.getElem?_cons_zero]; rfl)
                  case hw => rfl
                  case hy => (intro w hSw; (try dsimp only at hSw); go_simp; try with_reducible rfl)
                  try simp only [Act.put, List.setIfInBounds_toArray, List.set_cons_zero, List.set_cons_succ]
                  refine wpAnyH_take (i := 45) (oi := ?oC45) (v := ?vC45) ?hi (by kernel_rfl) (by kernel_rfl) (by kernel_rfl) (fun _ _ _ h => h) (Or.inl ⟨?hw, ?hy⟩) hS0 ?_
                  case hi => (simp only [List.getElem?_toArray, List.getElem?_cons_succ, List.getElem?_cons_zero]; rfl)
                  case hw => rfl
                  case hy => (intro w hSw; (try dsimp only at hSw); go_simp; try with_reducible rfl)
                  try simp only [Act.put, List.setIfInBounds_toArray, List.set_cons_zero, List.set_cons_succ]
                  refine wpAnyH_done (by kernel_rfl) ?_ _
                  refine NoPanic.normal ?_
                  all_goals (
                    go_wp2
                    go_roundg (n - (z + 1))
                    case measure => omega
                    case rel => exact ⟨z + 1, by simp, by omega, by omega, H4.out.trans (ext_drew _)⟩)
              · obtain rfl : z = n := by omega
                have hzi : ¬ ((z : Int) < (z : Int)) := by omega
                have HEZ := asideI ((HE3.out.trans HX5.out).trans (extQ (HX6.out.trans H4.out)))
                have HDZ := asideI (HD6.out.ext H4.out)
                obtain ⟨c0, c1, c2⟩ := HBX.out _ (HO.out _ HEZ.out)
                go_wp2_with (first
                  | (go_at_call 34; refine (sweep_nil w7 nx tp tn tc cp cn cc).mono ?_
                     rintro e w8 ⟨⟨z8, rfl⟩, hx8⟩
                     have HE8 := asideI (HE7.out.trans (extQ hx8))
                     have HD8 := asideI (HD7.out.ext hx8)
                     obtain ⟨c0, c1, c2⟩ := HBX.out _ (HO.out _ HE8.out)
                     clear hx8
                     simp only [])
                  | (go_at_call 24; refine (next_nil _ nx tp tn tc cp cn cc).mono ?_
                     rintro e w7 ⟨⟨z7, rfl⟩, hx7⟩
                     have HE7 := asideI (HEZ.out.trans (extQ hx7))
                     have HD7 := asideI (HDZ.out.ext hx7)
                     obtain ⟨c0, c1, c2⟩ := HBX.out _ (HO.out _ HE7.out)
                     clear hx7
                     simp only [])
                  | go_in)
                have HSO8 := asideI (fun (W : World) (k : Ext (fun _ => False) w8 W) => HSO.out.ext (KX.out.trans (HO.out _ (HE8.out.trans (extQ k)))))
                have HBX8 := asideI (fun (W : World) (k : Ext (fun _ => False) w8 W) => HBX.out _ (HO.out _ (HE8.out.trans (extQ k))))
                first
                  | go_region_held3 (fun W' => W'.cell? ⟨w0.heap.size, 0, none⟩ = some (.int .i64 nx) ∧ W'.cell? ⟨w0.heap.size, 1, none⟩ = some (.slice tp tn tc) ∧ W'.cell? ⟨w0.heap.size, 2, none⟩ = some (.slice cp cn cc) ∧ Ext (fun _ => False) w8 W') (refine ⟨?_, ?_, ?_, ?_⟩ <;> first | assumption | exact ext_drew _ | (go_keep; done)) (first
                    | (go_at_call 27; (try dsimp only at *); go_split_ands; refine (awake11_raw _).mono ?_; rintro e w12 ⟨rfl, hx⟩
                       have hx12 : Ext (fun _ => False) w8 w12 := Ext.trans (by assumption) hx
                       obtain ⟨c0', c1', c2'⟩ := HBX8.out _ hx12
                       clear hx)
                    | (go_at_call 26; refine (room_nil _).mono ?_; rintro e w' ⟨rfl, rfl⟩)
                    | (go_at_call 31; (try dsimp only at *); go_split_ands; refine (kinds_nil sort67 (HSO8.out _ (by assumption)).st HSO.out.n HSO.out.c HSO.out.i).mono ?_; rintro e w10 ⟨up, uc, rfl, hx⟩
                       have hx10 : Ext (fun _ => False) w8 w10 := Ext.trans (by assumption) hx
                       obtain ⟨c0', c1', c2'⟩ := HBX8.out _ hx10
                       clear hx)
                    | (go_at_call_of 33 (Value.pointer none); (try dsimp only at *); go_split_ands; refine (waiting_nil sort67 (HSO8.out _ (by assumption))).mono ?_; rintro e w11 ⟨vp, vc, rfl, hx⟩
                       have hx11 : Ext (fun _ => False) w8 w11 := Ext.trans (by assumption) hx
                       obtain ⟨c0', c1', c2'⟩ := HBX8.out _ hx11
                       clear hx)
                    | (go_at_call_of 33 (Value.pointer (some ⟨q.p, 0, none⟩)); (try dsimp only at *); go_split_ands; refine (waiting_raw sort67 (HD8.out.ext (by assumption)) (HSO8.out _ (by assumption))).mono ?_; rintro e w9 ⟨wv, rfl, hv1, hv2⟩
                       rw [← HS.out, HSZ.out.2] at hv1
                       simp only [List.length_nil] at hv1
                       obtain ⟨wp9, wc9, rfl⟩ := own_slice hv1
                       have hx9 : Ext (fun _ => False) w8 w9 := Ext.trans (by assumption) hv2
                       obtain ⟨c0', c1', c2'⟩ := HBX8.out _ hx9
                       clear hv1 hv2))
                  | fail
                all_goals (
                  go_wp2
                  go_ret
                  exact ⟨rfl, KX.out.trans (HO.out _ (HE8.out.trans (extQ (by assumption))))⟩)
          · obtain ⟨z, hz2, hzn, hk3, d3, hsd, hsi⟩ := HSI.out.step he
            rw [hsd] at hsw
            have HSW := asideI hsw
            have HSI3 := asideI hsi
            obtain ⟨b, cc2, hek, hb1, hb2, hb3⟩ := row_at HR3.out hzn
            cases hek
            have hby : (u8s (kindsB dc S))[z]? = some (.int .u8 3) := by rw [show (3 : Int) = ((3 : UInt8).toNat : Int) from rfl, ← hk3]; simp [u8s, kindsB, hdn, hzn]
            rw [hby] at hb3
            have HB3 := asideI (And.intro hb1 (And.intro hb2 hb3))
            have hza : ¬ ((z : Int) < 2) := by omega
            have hzb : ¬ ((n : Int) ≤ (z : Int)) := by omega
            have hzc : (z : Int) < (n : Int) := by omega
            clear hsw hsd hsi hk3 hby hb1 hb2 hb3 he
            go_wp2_with (first
              | (go_at_call 34; refine HSW.out.mono ?_
                 rintro e w5 ⟨rfl, hd5, hx5⟩
                 have HD5 := asideI hd5
                 have HX5 := asideI (HXD.out.trans hx5)
                 have hb4 := (World.cell?_of_block (HX5.out.block b HB3.out.2.1 (HNQ.out _ HB3.out.1))).trans HB3.out.2.2
                 clear hd5 hx5
                 simp only [])
              | go_in)
            go_roundg (n - (c + 1))
            case measure => omega
            case rel => exact ⟨c + 1, by simp, by omega, by omega, d3, HSI3.out, HD5.out, HX5.out⟩
        · obtain rfl : c = n := by omega
          have hz : ¬ ((c : Int) < (c : Int)) := by omega
          have HSZ : Aside (SwI c m S dc d2 c ∧ ofD d2 S 3 = []) := ⟨HSI.out, HSI.out.full⟩
          have hdn2 : d2.zs.length = c := HSZ.out.1.ok.len
          go_wp2_with (first
            | (go_at_call 31; refine (kinds_raw sort67 HDD.out (HSO.out.ext (KX.out.trans (HO.out _ (HE3.out.trans HXD.out)))).st HSO.out.n HSO.out.c HSO.out.i).mono ?_
               rintro e w6 ⟨kv, rfl, hu1, hu2⟩
               rw [← HS.out, hdn2] at hu1
               obtain ⟨np, nc, rfl⟩ := own_slice hu1
               have HR6 := asideI hu1
               have HX6 := asideI hu2
               have HD6 := asideI (HDD.out.ext hu2)
               clear hu1 hu2
               simp only [])
            | go_in)
          go_loopg [19] c (fun gg s19 wz => ∃ (z : Nat), s19 = .int .i64 z ∧ z ≤ c ∧ c - z ≤ gg ∧ Aside (Ext (fun _ => False) w6 wz))
          case atStart => exact ⟨0, rfl, by omega, by omega, Ext.refl _ _⟩
          case round =>
            obtain ⟨z, rfl, hzn, hgg2, H4⟩ := hrel
            by_cases hzl : z < c
            · have hzi : (z : Int) < (c : Int) := by omega
              have hw2 : IntKind.i64.wrap ((z : Int) + 1) = (z : Int) + 1 := by rw [IntKind.wrap_i64]; omega
              obtain ⟨b, cc2, hek, hb1, hb2, hb3⟩ := row_at HR3.out hzl
              cases hek
              obtain ⟨b', cc3, hek, hn1, hn2, hn3⟩ := row_at HR6.out hzl
              cases hek
              have hbk : (u8s (kindsB dc S))[z]? = some (.int .u8 (kindD dc S z).toNat) := by simp [u8s, kindsB, hdn, hzl]
              have hbn : (u8s (kindsB d2 S))[z]? = some (.int .u8 (kindD d2 S z).toNat) := by simp [u8s, kindsB, hdn2, hzl]
              rw [hbk] at hb3
              rw [hbn] at hn3
              have HX3 := asideI (HXD.out.trans (extQ (q := q) (HX6.out.trans H4.out)))
              replace hb3 := (World.cell?_of_block (HX3.out.block b hb2 (HNQ.out _ hb1))).trans hb3
              replace hn3 := (World.cell?_of_block (H4.out.block b' hn2 id)).trans hn3
              have hz00 : (0 : Int) ≤ (z : Int) := by omega
              have hzl1 : (z : Int) < (dc.zs.length : Int) := by omega
              have hzl2 : (z : Int) < (d2.zs.length : Int) := by omega
              rcases HSZ.out.1.last HSZ.out.2 hzl with ⟨k3, k0⟩ | ⟨kn3, kk, hwr⟩
              · rw [k3] at hb3
                rw [k0] at hn3
                clear k3 k0 hbk hbn hb1 hb2 hn1 hn2
                go_wp2
                go_region
                all_goals (
                  go_wp2
                  go_roundg (c - (z + 1))
                  case measure => omega
                  case rel => exact ⟨z + 1, by simp, by omega, by omega, H4.out.trans (ext_drew _)⟩)
              · rw [kk] at hn3
                have hkn : ¬ (((kindD dc S z).toNat : Int) = 3) := fun e => kn3 (UInt8.toNat_inj.1 (by show (kindD dc S z).toNat = 3; omega))
                have hkb : (((kindD dc S z).toNat : Int) == 3) = false := by simpa using hkn
                have hkc : (((kindD dc S z).toNat : Int) != 3) = true := by simpa using hkn
                generalize ((kindD dc S z).toNat : Int) = kb at hb3 hn3 hkn hkb hkc
                have HWR := asideI hwr
                have hda := HD6.out.ext H4.out
                have hdb := (HF3.out.keep HX3.out (fun b e e2 => HQ2.out b e e2))
                clear kn3 kk hwr hbk hbn hb1 hb2 hn1 hn2
                go_wp2
                refine wp_region_noPanic ?_
                refine wp_region_held_drew (S := fun W' => W'.cell? ⟨b, z, none⟩ = some (.int .u8 kb) ∧ W'.cell? ⟨b', z, none⟩ = some (.int .u8 kb) ∧ DevAt W' q d2 ∧ DevAt W' q2 dc) (by kernel_rfl) ?_ (fun hS0 => ?_)
                · exact ⟨(by go_keep), (by go_keep), hda.ext (ext_drew _), hdb.ext (ext_drew _)⟩
                refine wpAnyH_take (i := 0) (oi := ?oD0) (v := ?vD0) ?hiD (by kernel_rfl) (by kernel_rfl) (by kernel_rfl) (fun _ _ _ h => h) (Or.inl ⟨?hwD, ?hyD⟩) hS0 ?_
                case hiD => (simp only [List.getElem?_toArray, List.getElem?_cons_succ, List.getElem?_cons_zero]; rfl)
                case hwD => rfl
                case hyD => (intro w hSw; (try dsimp only at hSw); go_simp; try with_reducible rfl)
                try simp only [Act.put, List.setIfInBounds_toArray, List.set_cons_zero, List.set_cons_succ]
                refine wpAnyH_take (i := 1) (oi := ?oD1) (v := ?vD1) ?hiD (by kernel_rfl) (by kernel_rfl) (by kernel_rfl) (fun _ _ _ h => h) (Or.inl ⟨?hwD, ?hyD⟩) hS0 ?_
                case hiD => (simp only [List.getElem?_toArray, List.getElem?_cons_succ, List.getElem?_cons_zero]; rfl)
                case hwD => rfl
                case hyD => (intro w hSw; (try dsimp only at hSw); go_simp; try with_reducible rfl)
                try simp only [Act.put, List.setIfInBounds_toArray, List.set_cons_zero, List.set_cons_succ]
                refine wpAnyH_take (i := 2) (oi := ?oD2) (v := ?vD2) ?hiD (by kernel_rfl) (by kernel_rfl) (by kernel_rfl) (fun _ _ _ h => h) (Or.inl ⟨?hwD, ?hyD⟩) hS0 ?_
                case hiD => (simp only [List.getElem?_toArray, List.getElem?_cons_succ, List.getElem?_cons_zero]; rfl)
                case hwD => rfl
                case hyD => (intro w hSw; (try dsimp only at hSw); go_simp; try with_reducible rfl)
                try simp only [Act.put, List.setIfInBounds_toArray, List.set_cons_zero, List.set_cons_succ]
                refine wpAnyH_take (i := 3) (oi := ?oD3) (v := ?vD3) ?hiD (by kernel_rfl) (by kernel_rfl) (by kernel_rfl) (fun _ _ _ h => h) (Or.inl ⟨?hwD, ?hyD⟩) hS0 ?_
                case hiD => (simp only [List.getElem?_toArray, List.getElem?_cons_succ, List.getElem?_cons_zero]; rfl)
                case hwD => rfl
                case hyD => (intro w hSw; (try dsimp only at hSw); go_simp; try with_reducible rfl)
                try simp only [Act.put, List.setIfInBounds_toArray, List.set_cons_zero, List.set_cons_succ]
                refine wpAnyH_take (i := 4) (oi := ?oD4) (v := ?vD4) ?hiD (by kernel_rfl) (by kernel_rfl) (by kernel_rfl) (fun _ _ _ h => h) (Or.inl ⟨?hwD, ?hyD⟩) hS0 ?_
                case hiD => (simp only [List.getElem?_toArray, List.getElem?_cons_succ, List.getElem?_cons_zero]; rfl)
                case hwD => rfl
                case hyD => (intro w hSw; (try dsimp only at hSw); go_simp; try with_reducible rfl)
                try simp only [Act.put, List.setIfInBounds_toArray, List.set_cons_zero, List.set_cons_succ]
                refine wpAnyH_take (i := 5) (oi := ?oD5) (v := ?vD5) ?hiD (by kernel_rfl) (by kernel_rfl) (by kernel_rfl) (fun _ _ _ h => h) (Or.inl ⟨?hwD, ?hyD⟩) hS0 ?_
                case hiD => (simp only [List.getElem?_toArray, List.getElem?_cons_succ, List.getElem?_cons_zero]; rfl)
                case hwD => rfl
                case hyD => (intro w hSw; (try dsimp only at hSw); go_simp; try with_reducible rfl)
                try simp only [Act.put, List.setIfInBounds_toArray, List.set_cons_zero, List.set_cons_succ]
                refine wpAnyH_take (i := 6) (oi := ?oD6) (v := ?vD6) ?hiD (by kernel_rfl) (by kernel_rfl) (by kernel_rfl) (fun _ _ _ h => h) (Or.inl ⟨?hwD, ?hyD⟩) hS0 ?_
                case hiD => (simp only [List.getElem?_toArray, List.getElem?_cons_succ, List.getElem?_cons_zero]; rfl)
                case hwD => rfl
                case hyD => (intro w hSw; (try dsimp only at hSw); go_simp; try with_reducible rfl)
                try simp only [Act.put, List.setIfInBounds_toArray, List.set_cons_zero, List.set_cons_succ]
                refine wpAnyH_take (i := 7) (oi := ?oD7) (v := ?vD7) ?hiD (by kernel_rfl) (by kernel_rfl) (by kernel_rfl) (fun _ _ _ h => h) (Or.inl ⟨?hwD, ?hyD⟩) hS0 ?_
                case hiD => (simp only [List.getElem?_toArray, List.getElem?_cons_succ, List.getElem?_cons_zero]; rfl)
                case hwD => rfl
                case hyD => (intro w hSw; (try dsimp only at hSw); go_simp; try with_reducible rfl)
                try simp only [Act.put, List.setIfInBounds_toArray, List.set_cons_zero, List.set_cons_succ]
                refine wpAnyH_take (i := 8) (oi := ?oD8) (v := ?vD8) ?hiD (by kernel_rfl) (by kernel_rfl) (by kernel_rfl) (fun _ _ _ h => h) (Or.inl ⟨?hwD, ?hyD⟩) hS0 ?_
                case hiD => (simp only [List.getElem?_toArray, List.getElem?_cons_succ, List.getElem?_cons_zero]; rfl)
                case hwD => rfl
                case hyD => (intro w hSw; (try dsimp only at hSw); go_simp; try with_reducible rfl)
                try simp only [Act.put, List.setIfInBounds_toArray, List.set_cons_zero, List.set_cons_succ]
                refine wpAnyH_take (i := 9) (oi := ?oD9) (v := ?vD9) ?hiD (by kernel_rfl) (by kernel_rfl) (by kernel_rfl) (fun _ _ _ h => h) (Or.inl ⟨?hwD, ?hyD⟩) hS0 ?_
                case hiD => (simp only [List.getElem?_toArray, List.getElem?_cons_succ, List.getElem?_cons_zero]; rfl)
                case hwD => rfl
                case hyD => (intro w hSw; (try dsimp only at hSw); go_simp; try with_reducible rfl)
                try simp only [Act.put, List.setIfInBounds_toArray, List.set_cons_zero, List.set_cons_succ]
                refine wpAnyH_take (i := 10) (oi := ?oD10) (v := ?vD10) ?hiD (by kernel_rfl) (by kernel_rfl) (by kernel_rfl) (fun _ _ _ h => h) (Or.inl ⟨?hwD, ?hyD⟩) hS0 ?_
                case hiD => (simp only [List.getElem?_toArray, List.getElem?_cons_succ, List.getElem?_cons_zero]; rfl)
                case hwD => rfl
                case hyD => (intro w hSw; (try dsimp only at hSw); go_simp; try with_reducible rfl)
                try simp only [Act.put, List.setIfInBounds_toArray, List.set_cons_zero, List.set_cons_succ]
                refine wpAnyH_take (i := 11) (oi := ?oD11) (v := ?vD11) ?hiD (by kernel_rfl) (by kernel_rfl) (by kernel_rfl) (fun _ _ _ h => h) (Or.inl ⟨?hwD, ?hyD⟩) hS0 ?_
                case hiD => (simp only [List.getElem?_toArray, List.getElem?_cons_succ, List.getElem?_cons_zero]; rfl)
                case hwD => rfl
                case hyD => (intro w hSw; (try dsimp only at hSw); go_simp; try with_reducible rfl)
                try simp only [Act.put, List.setIfInBounds_toArray, List.set_cons_zero, List.set_cons_succ]
                refine wpAnyH_take (i := 12) (oi := ?oD12) (v := ?vD12) ?hiD (by kernel_rfl) (by kernel_rfl) (by kernel_rfl) (fun _ _ _ h => h) (Or.inl ⟨?hwD, ?hyD⟩) hS0 ?_
                case hiD => (simp only [List.getElem?_toArray, List.getElem?_cons_succ, List.getElem?_cons_zero]; rfl)
                case hwD => rfl
                case hyD => (intro w hSw; (try dsimp only at hSw); go_simp; try with_reducible rfl)
                try simp only [Act.put, List.setIfInBounds_toArray, List.set_cons_zero, List.set_cons_succ]
                refine wpAnyH_take (i := 13) (oi := ?oD13) (v := ?vD13) ?hiD (by kernel_rfl) (by kernel_rfl) (by kernel_rfl) (fun _ _ _ h => h) (Or.inl ⟨?hwD, ?hyD⟩) hS0 ?_
                case hiD => (simp only [List.getElem?_toArray, List.getElem?_cons_succ, List.getElem?_cons_zero]; rfl)
                case hwD => rfl
                case hyD => (intro w hSw; (try dsimp only at hSw); go_simp; try with_reducible rfl)
                try simp only [Act.put, List.setIfInBounds_toArray, List.set_cons_zero, List.set_cons_succ]
                refine wpAnyH_take (i := 14) (oi := ?oD14) (v := ?vD14) ?hiD (by kernel_rfl) (by kernel_rfl) (by kernel_rfl) (fun _ _ _ h => h) (Or.inl ⟨?hwD, ?hyD⟩) hS0 ?_
                case hiD => (simp only [List.getElem?_toArray, List.getElem?_cons_succ, List.getElem?_cons_zero]; rfl)
                case hwD => rfl
                case hyD => (intro w hSw; (try dsimp only at hSw); go_simp; try with_reducible rfl)
                try simp only [Act.put, List.setIfInBounds_toArray, List.set_cons_zero, List.set_cons_succ]
                refine wpAnyH_take (i := 15) (oi := ?oD15) (v := ?vD15) ?hiD (by kernel_rfl) (by kernel_rfl) (by kernel_rfl) (fun _ _ _ h => h) (Or.inl ⟨?hwD, ?hyD⟩) hS0 ?_
                case hiD => (simp only [List.getElem?_toArray, List.getElem?_cons_succ, List.getElem?_cons_zero]; rfl)
                case hwD => rfl
                case hyD => (intro w hSw; (try dsimp only at hSw); go_simp; try with_reducible rfl)
                try simp only [Act.put, List.setIfInBounds_toArray, List.set_cons_zero, List.set_cons_succ]
                refine wpAnyH_take (i := 16) (oi := ?oD16) (v := ?vD16) ?hiD (by kernel_rfl) (by kernel_rfl) (by kernel_rfl) (fun _ _ _ h => h) (Or.inl ⟨?hwD, ?hyD⟩) hS0 ?_
                case hiD => (simp only [List.getElem?_toArray, List.getElem?_cons_succ, List.getElem?_cons_zero]; rfl)
                case hwD => rfl
                case hyD => (intro w hSw; (try dsimp only at hSw); go_simp; try with_reducible rfl)
                try simp only [Act.put, List.setIfInBounds_toArray, List.set_cons_zero, List.set_cons_succ]
                refine wpAnyH_take (i := 17) (oi := ?oD17) (v := ?vD17) ?hiD (by kernel_rfl) (by kernel_rfl) (by kernel_rfl) (fun _ _ _ h => h) (Or.inl ⟨?hwD, ?hyD⟩) hS0 ?_
                case hiD => (simp only [List.getElem?_toArray, List.getElem?_cons_succ, List.getElem?_cons_zero]; rfl)
                case hwD => rfl
                case hyD => (intro w hSw; (try dsimp only at hSw); go_simp; try with_reducible rfl)
                try simp only [Act.put, List.setIfInBounds_toArray, List.set_cons_zero, List.set_cons_succ]
                refine wpAnyH_take (i := 18) (oi := ?oD18) (v := ?vD18) ?hiD (by kernel_rfl) (by kernel_rfl) (by kernel_rfl) (fun _ _ _ h => h) (Or.inl ⟨?hwD, ?hyD⟩) hS0 ?_
                case hiD => (simp only [List.getElem?_toArray, List.getElem?_cons_succ, List.getElem?_cons_zero]; rfl)
                case hwD => rfl
                case hyD => (intro w hSw; (try dsimp only at hSw); go_simp; try with_reducible rfl)
                try simp only [Act.put, List.setIfInBounds_toArray, List.set_cons_zero, List.set_cons_succ]
                refine wpAnyH_take (i := 19) (oi := ?oD19) (v := ?vD19) ?hiD (by kernel_rfl) (by kernel_rfl) (by kernel_rfl) (fun _ _ _ h => h) (Or.inl ⟨?hwD, ?hyD⟩) hS0 ?_
                case hiD => (simp only [List.getElem?_toArray, List.getElem?_cons_succ, List.getElem?_cons_zero]; rfl)
                case hwD => rfl
                case hyD => (intro w hSw; (try dsimp only at hSw); go_simp; try with_reducible rfl)
                try simp only [Act.put, List.setIfInBounds_toArray, List.set_cons_zero, List.set_cons_succ]
                refine wpAnyH_take (i := 20) (oi := ?oD20) (v := ?vD20) ?hiD (by kernel_rfl) (by kernel_rfl) (by kernel_rfl) (fun _ _ _ h => h) (Or.inl ⟨?hwD, ?hyD⟩) hS0 ?_
                case hiD => (simp only [List.getElem?_toArray, List.getElem?_cons_succ, List.getElem?_cons_zero]; rfl)
                case hwD => rfl
                case hyD => (intro w hSw; (try dsimp only at hSw); go_simp; try with_reducible rfl)
                try simp only [Act.put, List.setIfInBounds_toArray, List.set_cons_zero, List.set_cons_succ]
                refine wpAnyH_take (i := 21) (oi := ?oD21) (v := ?vD21) ?hiD (by kernel_rfl) (by kernel_rfl) (by kernel_rfl) (fun _ _ _ h => h) (Or.inl ⟨?hwD, ?hyD⟩) hS0 ?_
                case hiD => (simp only [List.getElem?_toArray, List.getElem?_cons_succ, List.getElem?_cons_zero]; rfl)
                case hwD => rfl
                case hyD => (intro w hSw; (try dsimp only at hSw); go_simp; try with_reducible rfl)
                try simp only [Act.put, List.setIfInBounds_toArray, List.set_cons_zero, List.set_cons_succ]
                refine wpAnyH_take (i := 22) (oi := ?oD22) (v := ?vD22) ?hiD (by kernel_rfl) (by kernel_rfl) (by kernel_rfl) (fun _ _ _ h => h) (Or.inl ⟨?hwD, ?hyD⟩) hS0 ?_
                case hiD => (simp only [List.getElem?_toArray, List.getElem?_cons_succ, List.getElem?_cons_zero]; rfl)
                case hwD => rfl
                case hyD => (intro w hSw; (try dsimp only at hSw); go_simp; try with_reducible rfl)
                try simp only [Act.put, List.setIfInBounds_toArray, List.set_cons_zero, List.set_cons_succ]
                refine wpAnyH_take (i := 23) (oi := ?oD23) (v := ?vD23) ?hiD (by kernel_rfl) (by kernel_rfl) (by kernel_rfl) (fun _ _ _ h => h) (Or.inl ⟨?hwD, ?hyD⟩) hS0 ?_
                case hiD => (simp only [List.getElem?_toArray, List.getElem?_cons_succ, List.getElem?_cons_zero]; rfl)
                case hwD => rfl
                case hyD => (intro w hSw; (try dsimp only at hSw); go_simp; try with_reducible rfl)
                try simp only [Act.put, List.setIfInBounds_toArray, List.set_cons_zero, List.set_cons_succ]
                refine wpAnyH_take (i := 25) (oi := ?oD25) (v := ?vD25) ?hiD (by kernel_rfl) (by kernel_rfl) (by kernel_rfl) (fun _ _ _ h => h) (Or.inl ⟨?hwD, ?hyD⟩) hS0 ?_
                case hiD => (simp only [List.getElem?_toArray, List.getElem?_cons_succ, List.getElem?_cons_zero]; rfl)
                case hwD => rfl
                case hyD => (intro w hSw; (try dsimp only at hSw); go_simp; try with_reducible rfl)
                try simp only [Act.put, List.setIfInBounds_toArray, List.set_cons_zero, List.set_cons_succ]
                refine wpAnyH_take (i := 26) (oi := ?oD26) (v := ?vD26) ?hiD (by kernel_rfl) (by kernel_rfl) (by kernel_rfl) (fun _ _ _ h => h) (Or.inl ⟨?hwD, ?hyD⟩) hS0 ?_
                case hiD => (simp only [List.getElem?_toArray, List.getElem?_cons_succ, List.getElem?_cons_zero]; rfl)
                case hwD => rfl
                case hyD => (intro w hSw; (try dsimp only at hSw); go_simp; try with_reducible rfl)
                try simp only [Act.put, List.setIfInBounds_toArray, List.set_cons_zero, List.set_cons_succ]
                refine wpAnyH_ready (rs := [24]) (by kernel_rfl) (by simp) ?_
                refine AllReadyH.cons (o := ?oD24) ?hiD (fun K hK => ?_) AllReadyH.nil
                case hiD => (simp only [List.getElem?_toArray, List.getElem?_cons_succ, List.getElem?_cons_zero]; rfl)
                go_simp
                refine (written_eq (hS0.2.2.1) HWR.out).mono ?_
                rintro e w' ⟨rfl, rfl⟩
                try simp only []
                refine hK.out _ _ hS0 (fun _ => ?_)
                clear hK K
                try simp only [Act.put, List.setIfInBounds_toArray, List.set_cons_zero, List.set_cons_succ]
                refine wpAnyH_ready (rs := [27]) (by kernel_rfl) (by simp) ?_
                refine AllReadyH.cons (o := ?oD27) ?hiD (fun K hK => ?_) AllReadyH.nil
                case hiD => (simp only [List.getElem?_toArray, List.getElem?_cons_succ, List.getElem?_cons_zero]; rfl)
                go_simp
                refine (written_eq (hS0.2.2.2) rfl).mono ?_
                rintro e w' ⟨rfl, rfl⟩
                try simp only []
                refine hK.out _ _ hS0 (fun _ => ?_)
                clear hK K
                try simp only [Act.put, List.setIfInBounds_toArray, List.set_cons_zero, List.set_cons_succ]
                refine wpAnyH_take (i := 28) (oi := ?oD28) (v := ?vD28) ?hiD (by kernel_rfl) (by kernel_rfl) (by kernel_rfl) (fun _ _ _ h => h) (Or.inl ⟨?hwD, ?hyD⟩) hS0 ?_
                case hiD => (simp only [List.getElem?_toArray, List.getElem?_cons_succ, List.getElem?_cons_zero]; rfl)
                case hwD => rfl
                case hyD => (intro w hSw; (try dsimp only at hSw); go_simp; try with_reducible rfl)
                try simp only [Act.put, List.setIfInBounds_toArray, List.set_cons_zero, List.set_cons_succ]
                refine wpAnyH_take (i := 29) (oi := ?oD29) (v := ?vD29) ?hiD (by kernel_rfl) (by kernel_rfl) (by kernel_rfl) (fun _ _ _ h => h) (Or.inl ⟨?hwD, ?hyD⟩) hS0 ?_
                case hiD => (simp only [List.getElem?_toArray, List.getElem?_cons_succ, List.getElem?_cons_zero]; rfl)
                case hwD => rfl
                case hyD => (intro w hSw; (try dsimp only at hSw); go_simp; try with_reducible rfl)
                try simp only [Act.put, List.setIfInBounds_toArray, List.set_cons_zero, List.set_cons_succ]
                refine wpAnyH_take (i := 30) (oi := ?oD30) (v := ?vD30) ?hiD (by kernel_rfl) (by kernel_rfl) (by kernel_rfl) (fun _ _ _ h => h) (Or.inl ⟨?hwD, ?hyD⟩) hS0 ?_
                case hiD => (simp only [List.getElem?_toArray, List.getElem?_cons_succ, List.getElem?_cons_zero]; rfl)
                case hwD => rfl
                case hyD => (intro w hSw; (try dsimp only at hSw); go_simp; try with_reducible rfl)
                try simp only [Act.put, List.setIfInBounds_toArray, List.set_cons_zero, List.set_cons_succ]
                refine wpAnyH_take (i := 31) (oi := ?oD31) (v := ?vD31) ?hiD (by kernel_rfl) (by kernel_rfl) (by kernel_rfl) (fun _ _ _ h => h) (Or.inl ⟨?hwD, ?hyD⟩) hS0 ?_
                case hiD => (simp only [List.getElem?_toArray, List.getElem?_cons_succ, List.getElem?_cons_zero]; rfl)
                case hwD => rfl
                case hyD => (intro w hSw; (try dsimp only at hSw); go_simp; try with_reducible rfl)
                try simp only [Act.put, List.setIfInBounds_toArray, List.set_cons_zero, List.set_cons_succ]
                refine wpAnyH_take (i := 32) (oi := ?oD32) (v := ?vD32) ?hiD (by kernel_rfl) (by kernel_rfl) (by kernel_rfl) (fun _ _ _ h => h) (Or.inl ⟨?hwD, ?hyD⟩) hS0 ?_
                case hiD => (simp only [List.getElem?_toArray, List.getElem?_cons_succ, List.getElem?_cons_zero]; rfl)
                case hwD => rfl
                case hyD => (intro w hSw; (try dsimp only at hSw); go_simp; try with_reducible rfl)
                try simp only [Act.put, List.setIfInBounds_toArray, List.set_cons_zero, List.set_cons_succ]
                refine wpAnyH_take (i := 33) (oi := ?oD33) (v := ?vD33) ?hiD (by kernel_rfl) (by kernel_rfl) (by kernel_rfl) (fun _ _ _ h => h) (Or.inl ⟨?hwD, ?hyD⟩) hS0 ?_
                case hiD => (simp only [List.getElem?_toArray, List.getElem?_cons_succ, List.getElem?_cons_zero]; rfl)
                case hwD => rfl
                case hyD => (intro w hSw; (try dsimp only at hSw); go_simp; try with_reducible rfl)
                try simp only [Act.put, List.setIfInBounds_toArray, List.set_cons_zero, List.set_cons_succ]
                refine wpAnyH_take (i := 34) (oi := ?oD34) (v := ?vD34) ?hiD (by kernel_rfl) (by kernel_rfl) (by kernel_rfl) (fun _ _ _ h => h) (Or.inl ⟨?hwD, ?hyD⟩) hS0 ?_
                case hiD => (simp only [List.getElem?_toArray, List.getElem?_cons_succ, List.getElem?_cons_zero]; rfl)
                case hwD => rfl
                case hyD => (intro w hSw; (try dsimp only at hSw); go_simp; try with_reducible rfl)
                try simp only [Act.put, List.setIfInBounds_toArray, List.set_cons_zero, List.set_cons_succ]
                refine wpAnyH_take (i := 35) (oi := ?oD35) (v := ?vD35) ?hiD (by kernel_rfl) (by kernel_rfl) (by kernel_rfl) (fun _ _ _ h => h) (Or.inl ⟨?hwD, ?hyD⟩) hS0 ?_
                case hiD => (simp only [List.getElem?_toArray, List.getElem?_cons_succ, List.getElem?_cons_zero]; rfl)
                case hwD => rfl
                case hyD => (intro w hSw; (try dsimp only at hSw); go_simp; try with_reducible rfl)
                try simp only [Act.put, List.setIfInBounds_toArray, List.set_cons_zero, List.set_cons_succ]
                refine wpAnyH_take (i := 36) (oi := ?oD36) (v := ?vD36) ?hiD (by kernel_rfl) (by kernel_rfl) (by kernel_rfl) (fun _ _ _ h => h) (Or.inl ⟨?hwD, ?hyD⟩) hS0 ?_
                case hiD => (simp only [List.getElem?_toArray, List.getElem?_cons_succ, List.getElem?_cons_zero]; rfl)
                case hwD => rfl
                case hyD => (intro w hSw; (try dsimp only at hSw); go_simp; try with_reducible rfl)
                try simp only [Act.put, List.setIfInBounds_toArray, List.set_cons_zero, List.set_cons_succ]
                refine wpAnyH_take (i := 37) (oi := ?oD37) (v := ?vD37) ?hiD (by kernel_rfl) (by kernel_rfl) (by kernel_rfl) (fun _ _ _ h => h) (Or.inl ⟨?hwD, ?hyD⟩) hS0 ?_
                case hiD => (simp only [List.getElem?_toArray, List.getElem?_cons_succ, List.getElem?_cons_zero]; rfl)
                case hwD => rfl
                case hyD => (intro w hSw; (try dsimp only at hSw); go_simp; try with_reducible rfl)
                try simp only [Act.put, List.setIfInBounds_toArray, List.set_cons_zero, List.set_cons_succ]
                refine wpAnyH_take (i := 38) (oi := ?oD38) (v := ?vD38) ?hiD (by kernel_rfl) (by kernel_rfl) (by kernel_rfl) (fun _ _ _ h => h) (Or.inl ⟨?hwD, ?hyD⟩) hS0 ?_
                case hiD => (simp only [List.getElem?_toArray, List.getElem?_cons_succ, List.getElem?_cons_zero]; rfl)
                case hwD => rfl
                case hyD => (intro w hSw; (try dsimp only at hSw); go_simp; try with_reducible rfl)
                try simp only [Act.put, List.setIfInBounds_toArray, List.set_cons_zero, List.set_cons_succ]
                refine wpAnyH_take (i := 39) (oi := ?oD39) (v := undef) ?hiD (by kernel_rfl) (by kernel_rfl) (by kernel_rfl) (fun _ _ _ h => h) (Or.inr ⟨?hwD, rfl⟩) hS0 ?_
                case hiD => (simp only [List.getElem?_toArray, List.getElem?_cons_succ, List.getElem?_cons_zero]; rfl)
                case hwD => rfl
                try simp only [Act.put, List.setIfInBounds_toArray, List.set_cons_zero, List.set_cons_succ]
                refine wpAnyH_take (i := 40) (oi := ?oD40) (v := undef) ?hiD (by kernel_rfl) (by kernel_rfl) (by kernel_rfl) (fun _ _ _ h => h) (Or.inr ⟨?hwD, rfl⟩) hS0 ?_
                case hiD => (simp only [List.getElem?_toArray, List.getElem?_cons_succ, List.getElem?_cons_zero]; rfl)
                case hwD => rfl
                try simp only [Act.put, List.setIfInBounds_toArray, List.set_cons_zero, List.set_cons_succ]
                refine wpAnyH_take (i := 41) (oi := ?oD41) (v := undef) ?hiD (by kernel_rfl) (by kernel_rfl) (by kernel_rfl) (fun _ _ _ h => h) (Or.inr ⟨?hwD, rfl⟩) hS0 ?_
                case hiD => (simp only [List.getElem?_toArray, List.getElem?_cons_succ, List.getElem?_cons_zero]; rfl)
                case hwD => rfl
                try simp only [Act.put, List.setIfInBounds_toArray, List.set_cons_zero, List.set_cons_succ]
                refine wpAnyH_take (i := 42) (oi := ?oD42) (v := undef) ?hiD (by kernel_rfl) (by kernel_rfl) (by kernel_rfl) (fun _ _ _ h => h) (Or.inr ⟨?hwD, rfl⟩) hS0 ?_
                case hiD => (simp only [List.getElem?_toArray, List.getElem?_cons_succ, List.getElem?_cons_zero]; rfl)
                case hwD => rfl
                try simp only [Act.put, List.setIfInBounds_toArray, List.set_cons_zero, List.set_cons_succ]
                refine wpAnyH_take (i := 43) (oi := ?oD43) (v := undef) ?hiD (by kernel_rfl) (by kernel_rfl) (by kernel_rfl) (fun _ _ _ h => h) (Or.inr ⟨?hwD, rfl⟩) hS0 ?_
                case hiD => (simp only [List.getElem?_toArray, List.getElem?_cons_succ, List.getElem?_cons_zero]; rfl)
                case hwD => rfl
                try simp only [Act.put, List.setIfInBounds_toArray, List.set_cons_zero, List.set_cons_succ]
                refine wpAnyH_take (i := 44) (oi := ?oD44) (v := ?vD44) ?hiD (by kernel_rfl) (by kernel_rfl) (by kernel_rfl) (fun _ _ _ h => h) (Or.inl ⟨?hwD, ?hyD⟩) hS0 ?_
                case hiD => (simp only [List.getElem?_toArray, List.getElem?_cons_succ, List.getElem?_cons_zero]; rfl)
                case hwD => rfl
                case hyD => (intro w hSw; (try dsimp only at hSw); go_simp; try with_reducible rfl)
                try simp only [Act.put, List.setIfInBounds_toArray, List.set_cons_zero, List.set_cons_succ]
                refine wpAnyH_take (i := 45) (oi := ?oD45) (v := ?vD45) ?hiD (by kernel_rfl) (by kernel_rfl) (by kernel_rfl) (fun _ _ _ h => h) (Or.inl ⟨?hwD, ?hyD⟩) hS0 ?_
                case hiD => (simp only [List.getElem?_toArray, List.getElem?_cons_succ, List.getElem?_cons_zero]; rfl)
                case hwD => rfl
                case hyD => (intro w hSw; (try dsimp only at hSw); go_simp; try with_reducible rfl)
                try simp only [Act.put, List.setIfInBounds_toArray, List.set_cons_zero, List.set_cons_succ]
                refine wpAnyH_done (by kernel_rfl) ?_ _
                refine NoPanic.normal ?_
                all_goals (
                  go_wp2
                  go_roundg (c - (z + 1))
                  case measure => omega
                  case rel => exact ⟨z + 1, by simp, by omega, by omega, H4.out.trans (ext_drew _)⟩)
            · obtain rfl : z = c := by omega
              have hzi : ¬ ((z : Int) < (z : Int)) := by omega
              have HEZ := asideI ((HE3.out.trans HXD.out).trans (extQ (HX6.out.trans H4.out)))
              have HDZ := asideI (HD6.out.ext H4.out)
              obtain ⟨c0, c1, c2⟩ := HBX.out _ (HO.out _ HEZ.out)
              go_wp2_with (first
                | (go_at_call 34; refine (sweep_nil w7 nx tp tn tc cp cn cc).mono ?_
                   rintro e w8 ⟨⟨z8, rfl⟩, hx8⟩
                   have HE8 := asideI (HE7.out.trans (extQ hx8))
                   have HD8 := asideI (HD7.out.ext hx8)
                   obtain ⟨c0, c1, c2⟩ := HBX.out _ (HO.out _ HE8.out)
                   clear hx8
                   simp only [])
                | (go_at_call 24; refine (next_nil _ nx tp tn tc cp cn cc).mono ?_
                   rintro e w7 ⟨⟨z7, rfl⟩, hx7⟩
                   have HE7 := asideI (HEZ.out.trans (extQ hx7))
                   have HD7 := asideI (HDZ.out.ext hx7)
                   obtain ⟨c0, c1, c2⟩ := HBX.out _ (HO.out _ HE7.out)
                   clear hx7
                   simp only [])
                | go_in)
              have HSO8 := asideI (fun (W : World) (k : Ext (fun _ => False) w8 W) => HSO.out.ext (KX.out.trans (HO.out _ (HE8.out.trans (extQ k)))))
              have HBX8 := asideI (fun (W : World) (k : Ext (fun _ => False) w8 W) => HBX.out _ (HO.out _ (HE8.out.trans (extQ k))))
              first
                | go_region_held3 (fun W' => W'.cell? ⟨w0.heap.size, 0, none⟩ = some (.int .i64 nx) ∧ W'.cell? ⟨w0.heap.size, 1, none⟩ = some (.slice tp tn tc) ∧ W'.cell? ⟨w0.heap.size, 2, none⟩ = some (.slice cp cn cc) ∧ Ext (fun _ => False) w8 W') (refine ⟨?_, ?_, ?_, ?_⟩ <;> first | assumption | exact ext_drew _ | (go_keep; done)) (first
                  | (go_at_call 27; (try dsimp only at *); go_split_ands; refine (awake11_raw _).mono ?_; rintro e w12 ⟨rfl, hx⟩
                     have hx12 : Ext (fun _ => False) w8 w12 := Ext.trans (by assumption) hx
                     obtain ⟨c0', c1', c2'⟩ := HBX8.out _ hx12
                     clear hx)
                  | (go_at_call 26; refine (room_nil _).mono ?_; rintro e w' ⟨rfl, rfl⟩)
                  | (go_at_call 31; (try dsimp only at *); go_split_ands; refine (kinds_nil sort67 (HSO8.out _ (by assumption)).st HSO.out.n HSO.out.c HSO.out.i).mono ?_; rintro e w10 ⟨up, uc, rfl, hx⟩
                     have hx10 : Ext (fun _ => False) w8 w10 := Ext.trans (by assumption) hx
                     obtain ⟨c0', c1', c2'⟩ := HBX8.out _ hx10
                     clear hx)
                  | (go_at_call_of 33 (Value.pointer none); (try dsimp only at *); go_split_ands; refine (waiting_nil sort67 (HSO8.out _ (by assumption))).mono ?_; rintro e w11 ⟨vp, vc, rfl, hx⟩
                     have hx11 : Ext (fun _ => False) w8 w11 := Ext.trans (by assumption) hx
                     obtain ⟨c0', c1', c2'⟩ := HBX8.out _ hx11
                     clear hx)
                  | (go_at_call_of 33 (Value.pointer (some ⟨q.p, 0, none⟩)); (try dsimp only at *); go_split_ands; refine (waiting_raw sort67 (HD8.out.ext (by assumption)) (HSO8.out _ (by assumption))).mono ?_; rintro e w9 ⟨wv, rfl, hv1, hv2⟩
                     rw [← HS.out, HSZ.out.2] at hv1
                     simp only [List.length_nil] at hv1
                     obtain ⟨wp9, wc9, rfl⟩ := own_slice hv1
                     have hx9 : Ext (fun _ => False) w8 w9 := Ext.trans (by assumption) hv2
                     obtain ⟨c0', c1', c2'⟩ := HBX8.out _ hx9
                     clear hv1 hv2))
                | fail
              all_goals (
                go_wp2
                go_ret
                exact ⟨rfl, KX.out.trans (HO.out _ (HE8.out.trans (extQ (by assumption))))⟩)
end Go.Proofs.Ytifemhfpcichfaa
