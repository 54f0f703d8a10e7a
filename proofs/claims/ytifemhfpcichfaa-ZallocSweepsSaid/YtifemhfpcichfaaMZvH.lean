import Derived.Test.YtifemhfpcichfaaMZvE
import Derived.Test.YtifemhfpcichfaaMZsF

set_option linter.unusedVariables false
set_option linter.unusedSimpArgs false

/- Zalloc: each zone is of just one kind (the walk). -/

set_option linter.unusedSimpArgs false
set_option linter.unusedVariables false
set_option maxHeartbeats 4000000
set_option maxRecDepth 1000000
namespace Go.Proofs.Ytifemhfpcichfaa
open Go.RowKit
open Go.Av Go.Maps

theorem box3 {w : World} {b : Nat} {a0 a1 a2 : Value} {t : TypeId} (h : w.heap[b]? = some (.cells #[a0, a1, a2] t)) : w.cell? ⟨b, 0, none⟩ = some a0 ∧ w.cell? ⟨b, 1, none⟩ = some a1 ∧ w.cell? ⟨b, 2, none⟩ = some a2 := by
  simp [World.cell?, h]
theorem one_main {mu : Mem} {w0 : World} (hm : MemOK mu w0) {l : List ActD} {lp : Option Addr} {ln lc : Nat} (hl : Rep mu (.sl 7 (AcL l)) (.slice lp ln lc)) {s : Stt} {nx : Int} {tp cp : Option Addr} {tn tc cn cc : Nat} (hs : Rep mu s.sv (.agg [.int .i64 nx, .slice tp tn tc, .slice cp cn cc].toArray)) (hI : ∀ z ∈ s.zs.flatten, I64 z) (zb : UInt8)
    (h40 : l.length ≤ 40) (hL : lightS s = true) : Calls Try.prog 7 #[.int .u8 zb.toNat, .slice lp ln lc, .agg #[.int .i64 nx, .slice tp tn tc, .slice cp cn cc]] w0 (LawP w0) := by
  obtain ⟨p', cap', e, hat⟩ := acts_at hm hl
  cases e
  obtain ⟨n, hn⟩ : ∃ n : Nat, n = 4 + zb.toNat % 30 := ⟨_, rfl⟩
  have hn4 : 4 ≤ n := by omega
  have hn33 : n ≤ 33 := by omega
  have hzl := zb.toNat_lt
  have hn1 : IntKind.i64.wrap (zb.toNat : Int) = zb.toNat := by rw [IntKind.wrap_i64]; omega
  have hn2 : IntKind.i64.wrap ((zb.toNat : Int).tmod 30) = ((zb.toNat % 30 : Nat) : Int) := by rw [Int.tmod_eq_emod_of_nonneg (by omega), IntKind.wrap_i64]; omega
  have hn3 : IntKind.i64.wrap (4 + ((zb.toNat % 30 : Nat) : Int)) = (n : Int) := by rw [IntKind.wrap_i64]; omega
  have hn5 : (4 + (zb.toNat : Int) % 30) = (n : Int) := by omega
  have hnk : newOk n 5 = true := by simp [newOk]; omega
  clear hn
  obtain ⟨W0, hW⟩ : ∃ W0, W0 = w0.alloc (.cells #[.int .i64 nx, .slice tp tn tc, .slice cp cn cc] 58) := ⟨_, rfl⟩
  have k1 : W0.heap[w0.heap.size]? = some (.cells #[.int .i64 nx, .slice tp tn tc, .slice cp cn cc] 58) := by rw [hW, alloc_get, if_pos rfl]
  have HW := asideI hW
  have K1 := asideI k1
  have KX : Aside (Ext (fun _ => False) w0 W0) := by rw [hW]; exact ext_alloc1 _ _
  have hsz : W0.heap.size = w0.heap.size + 1 := by rw [hW]; simp
  have hLC := light_call (mem_ext hm KX.out) hs
  rw [hL] at hLC
  have HLC := asideI hLC
  have HAT := asideI hat
  have HMU := asideI hm
  have HSV := asideI hs
  have HI := asideI hI
  have HLS := asideI (light_size hL)
  have HNK := asideI hnk
  have hl1 : ¬ (40 : Int) < (l.length : Int) := by omega
  clear hW k1 hat hm hl hs hLC hI hL hnk
  go_enter Try.func7, Try.ntmps7
  go_wp2_with (first
    | (go_at_call 30; refine (rnew_raw w1 n 5 HNK.out (fun _ => False)).mono ?_
       rintro e w2 ⟨x, rfl, hr2, hx2⟩
       obtain ⟨px, ny, cx, rfl⟩ := hr2.val
       have HB := asideI (both_new HNK.out HD1.out HX1.out hr2 hx2)
       have HX := asideI (HX1.out.trans hx2)
       clear hr2 hx2
       simp only [rval])
    | (go_at_call 23; refine (new_raw W8 n 5).mono ?_
       rintro e w1 ⟨hx1, h1⟩
       rcases h1 with ⟨h1, _⟩ | ⟨_, q, rfl, hq1, hd1⟩
       · exact absurd HNK.out (by rw [h1]; simp)
       have HX1 := asideI hx1
       have HD1 := asideI hd1
       have HQ : Aside (∀ k, EQ q k → W8.heap.size ≤ k) := hq1
       clear hx1 hd1 hq1
       simp only [])
    | (go_at_call 29; rw [← HW.out]; refine HLC.out.mono ?_; rintro e W8 ⟨rfl, hx8⟩; have HX8 := asideI hx8; have hs8 : w0.heap.size + 1 ≤ W8.heap.size := by have := hx8.size; omega
       clear hx8; simp only [])
    | go_in)
  have KX8 := asideI (KX.out.trans HX8.out)
  go_loopg [12] l.length (fun gg s12 wr => ∃ (k : Nat), s12 = .int .i64 k ∧ k ≤ l.length ∧ l.length - k ≤ gg ∧ Aside (LInv (w2.alloc (.cells (rcells px ny cx (rnewD n 5)) 29)) q w2.heap.size n 5 k wr))
  case atStart => exact ⟨0, rfl, by omega, by omega, (beg_start (L := n) (by simp) HB.out HQ.out HX.out).2⟩
  case round =>
    obtain ⟨k, rfl, hk, hgg, H2⟩ := hrel
    have HBG := asideI (beg_start (L := n) (by simp) HB.out HQ.out HX.out).1
    obtain ⟨d, r, p, nn, c, hb, hg⟩ := H2.out.both
    have HG := asideI hg
    obtain ⟨⟨a0, a1, a2, a3, a4, a5⟩, _⟩ := box6 hg
    have HBR := asideI hb
    have hx0 := HBG.out.old H2.out.ext (fun b e => e.elim .inl fun e => .inr (.inl e))
    have HX0 := asideI hx0
    clear hg hb hx0
    by_cases hlt : k < l.length
    · have hz : (k : Int) < (l.length : Int) := by omega
      have hw : IntKind.i64.wrap ((k : Int) + 1) = (k : Int) + 1 := by rw [IntKind.wrap_i64]; omega
      obtain ⟨lb, lo, fp2, fc2, rfl, hlb, h7, hf7⟩ := HAT.out k hlt
      generalize l.getD k ac0 = ak at h7 hf7
      obtain ⟨s0, s1, s2, s3, s4, s5, s6⟩ := h7.ext (KX8.out.trans HX0.out)
      have HF7 := asideI hf7
      clear h7 hf7
      go_wp2
      have HSTEP := asideI (do_raw (w := wr.drew) (HBR.out.reG (ext_drew wr) (fun b e => ⟨HBR.out.lt b e, .inl e⟩)) ak ((HF7.out.keeps (T := fun _ => False) (fun _ e => e.elim) ((KX8.out.trans HX0.out).trans (ext_drew wr))).sub (fun b e => by
        rcases e with e | e
        · have := HBG.out.hq b e; show w0.heap.size ≤ b; omega
        · have := HBG.out.hg; have e2 : b = w2.heap.size := e; show w0.heap.size ≤ b; omega)) (by omega))
      go_region_with (first
        | (go_at_call 11
           refine HSTEP.out.mono ?_
           rintro e w5 ⟨r', x', bb, rfl, hb2, hx2⟩
           obtain ⟨p2, n2, c2, rfl⟩ := hb2.ref.val
           have hg2 := (hx2.block w2.heap.size (HBR.out.lt _ rfl) HBG.out.gq).trans HG.out
           obtain ⟨_, f0, f1, f2, f3, f4, f5⟩ := box6 hg2
           have HB2 := asideI hb2
           have HX2 := asideI hx2
           clear hb2 hx2 hg2
           simp only [rval]))
      all_goals (
        go_wp2
        go_roundg (l.length - (k + 1))
        case measure => omega
        case rel => exact ⟨k + 1, by simp, by omega, by omega, LInv.next H2.out.ext HBG.out.gq HB2.out (by omega) ((ext_drew wr).mono (fun _ e => e.elim) |>.trans HX2.out) HG.out rfl⟩)
    · obtain rfl : k = l.length := by omega
      have hz : ¬ ((l.length : Int) < (l.length : Int)) := by omega
      have KW := asideI (KX8.out.trans HX0.out)
      have hSO : StOK w0 (.agg #[.int .i64 nx, .slice tp tn tc, .slice cp cn cc]) s.zs := ⟨st_of HMU.out HSV.out, HLS.out.2.2.1, HLS.out.2.2.2, HI.out⟩
      have HSO := asideI hSO
      have hst3 := ((HX8.out.trans HX0.out).block w0.heap.size (by rw [hsz]; omega) id).trans K1.out
      obtain ⟨c0, c1, c2⟩ := box3 hst3
      have HST3 := asideI hst3
      have hdn : d.zs.length = n := HBR.out.ok.len
      have HKS := asideI (kinds_raw sort67 HBR.out.at_ (hSO.st.ext KW.out) hSO.n hSO.c hSO.i)
      clear hSO hst3 a0 a1 a2 a3 a4 a5
      go_wp2_with (first
        | (go_at_call 31; refine HKS.out.mono ?_
           rintro e wk ⟨kv, rfl, hu1, hu2⟩
           rw [hdn] at hu1
           obtain ⟨kp, kc, rfl⟩ := own_slice hu1
           have HR := asideI hu1
           have HXK := asideI hu2
           clear hu1 hu2
           simp only [])
        | go_in)
      go_loopg [14, 15] n (fun gg s14 s15 wz => ∃ (z : Nat), s15 = .int .i64 z ∧ s14 = .int .i64 (ofT d s.zs.flatten 3 z).length ∧ z ≤ n ∧ n - z ≤ gg ∧ Aside (Ext (fun _ => False) wk wz))
      case atStart => exact ⟨0, rfl, by simp [ofT], by omega, by omega, Ext.refl _ _⟩
      case round =>
        obtain ⟨z, rfl, rfl, hz6, hgg2, H3⟩ := hrel
        have hcs : (ofT d s.zs.flatten 3 (z + 1)).length = (ofT d s.zs.flatten 3 z).length + (if kindD d s.zs.flatten z = 3 then 1 else 0) := by
          rw [ofT_succ, List.length_append]; split <;> simp
        have hcl := ofT_len d s.zs.flatten 3 z
        have hcd : z = n → (ofD d s.zs.flatten 3).length = (ofT d s.zs.flatten 3 z).length := by rintro rfl; unfold ofD; rw [hdn]
        generalize (ofT d s.zs.flatten 3 z).length = ct at hcs hcl hcd ⊢
        obtain ⟨c0, c1, c2⟩ := box3 (((HXK.out.trans H3.out).block w0.heap.size (Array.getElem?_eq_some_iff.1 HST3.out).1 id).trans HST3.out)
        have HWZ := asideI (KW.out.trans (HXK.out.trans H3.out))
        by_cases hlt : z < n
        · have hzn : (z : Int) < (n : Int) := by omega
          have hw : IntKind.i64.wrap ((z : Int) + 1) = (z : Int) + 1 := by rw [IntKind.wrap_i64]; omega
          have hwc : IntKind.i64.wrap ((ct : Int) + 1) = (ct : Int) + 1 := by rw [IntKind.wrap_i64]; omega
          obtain ⟨b, c, he, hb1, hb2, hb3⟩ := row_at HR.out hlt
          cases he
          have hby : (u8s (kindsB d s.zs.flatten))[z]? = some (.int .u8 (kindD d s.zs.flatten z).toNat) := by simp [u8s, kindsB, hdn, hlt]
          rw [hby] at hb3
          have hOW := owner_call (mem_ext HMU.out HWZ.out) HSV.out (by have := HLS.out.1; omega) (fun c hc => Nat.le_trans (HLS.out.2.1 c hc) (by omega)) (z : Int)
          have hO : (ownC (z : Int) s.cs).2.2 = decide ((z : Int) ∈ s.zs.flatten) := ownC_iff z s.cs
          rw [hO] at hOW
          have hSTT := fun (W : World) (k : Ext (fun _ => False) _ W) => state_raw (HBR.out.at_.ext k) (z : Int)
          have HB2 := asideI hb2
          generalize (ownC (z : Int) s.cs).1 = o1 at hOW
          generalize (ownC (z : Int) s.cs).2.1 = o2 at hOW
          clear hby hb1 hb2 hO hcd
          rcases Nat.lt_or_ge z 2 with h2 | h2
          · have hkd : kindD d s.zs.flatten z = 1 := by unfold kindD; rw [if_pos h2]
            have h2i : (z : Int) < 2 := by omega
            rw [hkd] at hb3 hcs
            rw [if_neg (by decide)] at hcs
            generalize decide ((z : Int) ∈ s.zs.flatten) = ob at hOW
            generalize stD d (z : Int) = sv at hSTT
            have HCN := asideI hcs
            have HOW := asideI hOW
            have HSTT := asideI hSTT
            have HB0 := asideI hb3
            clear hcs hOW hSTT hb3 hkd
            go_wp2_with (first
              | (go_at_call 21; refine (HSTT.out _ (((HXK.out.trans H3.out).trans HX5.out).trans (ext_alloc1 _ _))).mono ?_; rintro e w6 ⟨rfl, hx6⟩
                 have HZ6 := asideI (((H3.out.trans HX5.out).trans (ext_alloc1 _ _)).trans hx6)
                 have hb4 := (World.cell?_of_block (HZ6.out.block b HB2.out id)).trans HB0.out
                 clear hx6; simp only [])
              | (go_at_call 32; refine HOW.out.mono ?_; rintro e w5 ⟨rfl, hx5⟩; have HX5 := asideI hx5; clear hx5; simp only [])
              | go_in)
            go_roundg (n - (z + 1))
            case measure => omega
            case rel => exact ⟨z + 1, by simp, by rw [HCN.out]; rfl, by omega, by omega, HZ6.out⟩
          · have h2i : ¬ (z : Int) < 2 := by omega
            have h2g : (2 : Int) ≤ (z : Int) := by omega
            by_cases hin : (z : Int) ∈ s.zs.flatten
            · have hkd : kindD d s.zs.flatten z = 2 := by unfold kindD; rw [if_neg (by omega), if_pos hin]
              rw [hkd] at hb3 hcs
              rw [if_neg (by decide)] at hcs
              rw [decide_eq_true hin] at hOW
              generalize stD d (z : Int) = sv at hSTT
              have HCN := asideI hcs
              have HOW := asideI hOW
              have HSTT := asideI hSTT
              have HB0 := asideI hb3
              clear hcs hOW hSTT hb3 hkd hin
              go_wp2_with (first
                | (go_at_call 21; refine (HSTT.out _ (((HXK.out.trans H3.out).trans HX5.out).trans (ext_alloc1 _ _))).mono ?_; rintro e w6 ⟨rfl, hx6⟩
                   have HZ6 := asideI (((H3.out.trans HX5.out).trans (ext_alloc1 _ _)).trans hx6)
                   have hb4 := (World.cell?_of_block (HZ6.out.block b HB2.out id)).trans HB0.out
                   clear hx6; simp only [])
                | (go_at_call 32; refine HOW.out.mono ?_; rintro e w5 ⟨rfl, hx5⟩; have HX5 := asideI hx5; clear hx5; simp only [])
                | go_in)
              go_roundg (n - (z + 1))
              case measure => omega
              case rel => exact ⟨z + 1, by simp, by rw [HCN.out]; rfl, by omega, by omega, HZ6.out⟩
            · rw [decide_eq_false hin] at hOW
              have HOW := asideI hOW
              by_cases hst : stD d (z : Int) = 0
              · have hkd : kindD d s.zs.flatten z = 0 := by unfold kindD; rw [if_neg (by omega), if_neg hin, if_pos hst]
                rw [hkd] at hb3 hcs
                rw [if_neg (by decide)] at hcs
                rw [hst] at hSTT
                have HCN := asideI hcs
                have HSTT := asideI hSTT
                have HB0 := asideI hb3
                clear hcs hOW hSTT hb3 hkd hin hst
                go_wp2_with (first
                  | (go_at_call 21; refine (HSTT.out _ (((HXK.out.trans H3.out).trans HX5.out).trans (ext_alloc1 _ _))).mono ?_; rintro e w6 ⟨rfl, hx6⟩
                     have HZ6 := asideI (((H3.out.trans HX5.out).trans (ext_alloc1 _ _)).trans hx6)
                     have hb4 := (World.cell?_of_block (HZ6.out.block b HB2.out id)).trans HB0.out
                     clear hx6; simp only [])
                  | (go_at_call 32; refine HOW.out.mono ?_; rintro e w5 ⟨rfl, hx5⟩; have HX5 := asideI hx5; clear hx5; simp only [])
                  | go_in)
                go_roundg (n - (z + 1))
                case measure => omega
                case rel => exact ⟨z + 1, by simp, by rw [HCN.out]; rfl, by omega, by omega, HZ6.out⟩
              · have hkd : kindD d s.zs.flatten z = 3 := by unfold kindD; rw [if_neg (by omega), if_neg hin, if_neg hst]
                have hsb : (stD d (z : Int) == 0) = false := by simpa using hst
                rw [hkd] at hb3 hcs
                rw [if_pos rfl] at hcs
                generalize stD d (z : Int) = sv at hSTT hst hsb
                have HCN := asideI hcs
                have HSTT := asideI hSTT
                have HB0 := asideI hb3
                clear hcs hOW hSTT hb3 hkd hin
                go_wp2_with (first
                  | (go_at_call 21; refine (HSTT.out _ (((HXK.out.trans H3.out).trans HX5.out).trans (ext_alloc1 _ _))).mono ?_; rintro e w6 ⟨rfl, hx6⟩
                     have HZ6 := asideI (((H3.out.trans HX5.out).trans (ext_alloc1 _ _)).trans hx6)
                     have hb4 := (World.cell?_of_block (HZ6.out.block b HB2.out id)).trans HB0.out
                     clear hx6; simp only [])
                  | (go_at_call 32; refine HOW.out.mono ?_; rintro e w5 ⟨rfl, hx5⟩; have HX5 := asideI hx5; clear hx5; simp only [])
                  | go_in)
                go_roundg (n - (z + 1))
                case measure => omega
                case rel => exact ⟨z + 1, by simp, by rw [HCN.out]; simp, by omega, by omega, HZ6.out⟩
        · obtain rfl : z = n := by omega
          have hzn : ¬ ((z : Int) < (z : Int)) := by omega
          have hct := hcd rfl
          have HCT := asideI hct
          have HWT := asideI (waiting_raw sort67 (HBR.out.at_.ext (HXK.out.trans H3.out)) (HSO.out.ext HWZ.out))
          clear hct hcd hcs
          go_wp2_with (first
            | (go_at_call 27; refine (awake11_raw _).mono ?_; rintro e w9 ⟨rfl, hx9⟩; have HX9 := asideI (HXV.out.trans hx9); clear hx9; simp only [])
            | (go_at_call 33; refine HWT.out.mono ?_; rintro e w8 ⟨wv, rfl, hv1, hv2⟩
               rw [HCT.out] at hv1
               obtain ⟨vp, vc, rfl⟩ := own_slice hv1
               have HXV := asideI hv2
               clear hv1 hv2; simp only [])
            | go_in)
          go_ret
          exact ⟨rfl, HWZ.out.trans HX9.out⟩
end Go.Proofs.Ytifemhfpcichfaa

/- Zalloc: ZallocOne, the law. -/

set_option linter.unusedSimpArgs false
set_option linter.unusedVariables false
set_option maxHeartbeats 4000000
namespace Go.Proofs.Ytifemhfpcichfaa

open Go.Av
/-- The arguments of Zalloc's laws in memory. -/
theorem law_args {mu : Mem} {w : World} (hm : MemOK mu w) {zb : UInt8} {l : List ActD} {s : Stt} {vs : List Value} (hr : RepArgs mu [.int .u8 zb.toNat, .sl 7 (AcL l), s.sv] vs) :
    ∃ lp lc nx tp tn tc cp cn cc, vs = [.int .u8 zb.toNat, .slice lp l.length lc, .agg #[.int .i64 nx, .slice tp tn tc, .slice cp cn cc]] ∧ Rep mu (.sl 7 (AcL l)) (.slice lp l.length lc) ∧ Rep mu s.sv (.agg [.int .i64 nx, .slice tp tn tc, .slice cp cn cc].toArray) := by
  match vs, hr.1 with
  | [zv, lv, sv], _ =>
    have e0 : zv = .int .u8 zb.toNat := Rep.inv_int (show Rep mu (.int .u8 zb.toNat) zv from hr.2 0 (by simp))
    have h1 : Rep mu (.sl 7 (AcL l)) lv := hr.2 1 (by simp)
    have h2 : Rep mu s.sv sv := hr.2 2 (by simp)
    obtain ⟨lp, lc, rfl, _⟩ := acts_at hm h1
    obtain ⟨nx, tp, tn, tc, cp, cc, rfl, _⟩ := st_of hm h2
    subst e0
    exact ⟨lp, lc, nx, tp, tn, tc, cp, _, cc, rfl, h1, h2⟩
theorem law_one (zb : UInt8) (l : List ActD) (s : Stt) (hI : ∀ z ∈ s.zs.flatten, I64 z) : Pure Try.prog 7 [.int .u8 zb.toNat, .sl 7 (AcL l), s.sv] (.sv (.bool true)) := by
  refine pure_true fun mu w vs hm hr => ?_
  obtain ⟨lp, lc, nx, tp, tn, tc, cp, cn, cc, rfl, h1, h2⟩ := law_args hm hr
  by_cases h : 40 < l.length ∨ lightS s = false
  · exact one_early hm h2 zb h
  · rw [not_or] at h
    exact one_main hm h1 h2 hI zb (by omega) (by simpa using h.2)
end Go.Proofs.Ytifemhfpcichfaa

/- Zalloc: what there is without a device (the walks). -/

set_option linter.unusedSimpArgs false
set_option linter.unusedVariables false
set_option maxHeartbeats 4000000
set_option maxRecDepth 1000000
namespace Go.Proofs.Ytifemhfpcichfaa
open Go.RowKit
open Go.Av Go.Maps

theorem zones_nil (w : World) : Calls Try.prog 56 #[.pointer none] w fun e w' => e = .returned (.int .i64 0) ∧ w' = w := by
  go_enter Try.func56, Try.ntmps56
  go_wp2
  go_ret
  exact ⟨rfl, rfl⟩
theorem kinds_nil (hS : SortC) {w : World} {v : Value} {cs : List (List Int)} (h : StW w v cs) (hb : cs.flatten.length ≤ 50000) (hcl : cs.length ≤ 1000000) (hI : ∀ z ∈ cs.flatten, I64 z) :
    Calls Try.prog 31 #[.pointer none, v] w (fun e w' => ∃ p c, e = .returned (.slice p 0 c) ∧ Ext (fun _ => False) w w') := by
  have hSW := h
  obtain ⟨nx, tp, tn, tc, cp, cc, rfl, hC⟩ := h
  have HSW := asideI hSW
  have HI64 := asideI hI
  have hmm := fun w => run_makeMap (P := Try.prog) 103 w
  obtain ⟨W, hW⟩ : ∃ W, W = (w.alloc (.cells #[.int .i64 nx, .slice tp tn tc, .slice cp cs.length cc] 58)).alloc (.map #[] 0) := ⟨_, rfl⟩
  have HW := asideI hW
  have HX := asideI (show Ext (fun _ => False) w W by rw [hW]; exact (ext_alloc1 _ _).trans (ext_alloc1 _ _))
  have HM := asideI (show SetM W (w.heap.size + 1) 0 [] by rw [hW]; have := SetM.new (w.alloc (.cells #[.int .i64 nx, .slice tp tn tc, .slice cp cs.length cc] 58)); simpa using this)
  have k0 : W.heap[w.heap.size]? = some (.cells #[.int .i64 nx, .slice tp tn tc, .slice cp cs.length cc] 58) := by rw [hW, alloc_get, if_neg (by simp), alloc_get, if_pos rfl]
  have c0 : W.cell? ⟨w.heap.size, 0, none⟩ = some (.int .i64 nx) := by simp [World.cell?, k0]
  have c1 : W.cell? ⟨w.heap.size, 1, none⟩ = some (.slice tp tn tc) := by simp [World.cell?, k0]
  have c2 : W.cell? ⟨w.heap.size, 2, none⟩ = some (.slice cp cs.length cc) := by simp [World.cell?, k0]
  have HZS := asideI (stzones_raw hS (hSW.ext HX.out) (by omega) hcl)
  clear hC hSW hI hW k0
  show Calls Try.prog 31 #[.pointer none, .agg #[.int .i64 nx, .slice tp tn tc, .slice cp cs.length cc]] w _
  go_enter Try.func31, Try.ntmps31
  go_wp2_with (first
    | (go_at_call 58; rw [← HW.out]; refine HZS.out.mono ?_
       rintro e w1 ⟨zv, us, rfl, hu1, hu2, hu3, hu4⟩
       obtain ⟨zp, zc, rfl⟩ := own_slice hu3
       have HR := asideI (And.intro hu2 (And.intro hu3 hu4))
       have HU1 := asideI hu1
       clear hu1 hu2 hu3 hu4
       simp only [])
    | go_in)
  have hlu : us.length ≤ 50000 := by rw [HU1.out]; exact hb
  have hs1 : W.heap.size ≤ w1.heap.size := HR.out.2.2.size
  have hsW : W.heap.size = w.heap.size + 1 + 1 := by rw [HW.out]; simp
  clear c0 c1 c2
  go_loopg [14] us.length (fun gg s14 wr => ∃ (i : Nat), s14 = .int .i64 i ∧ i ≤ us.length ∧ us.length - i ≤ gg ∧ Aside (SetM wr (w.heap.size + 1) i (us.take i) ∧ Ext (fun k => k = w.heap.size + 1) w1 wr))
  case atStart => exact ⟨0, rfl, by omega, by omega, HM.out.keep (HR.out.2.2.block _ (by omega) id), Ext.refl _ _⟩
  case round =>
    obtain ⟨i, rfl, hi, hgg, H2⟩ := hrel
    by_cases hlt : i < us.length
    · have hz : (i : Int) < (us.length : Int) := by omega
      have hw : IntKind.i64.wrap ((i : Int) + 1) = (i : Int) + 1 := by rw [IntKind.wrap_i64]; omega
      obtain ⟨b, c, he, hb1, hb2, hb3⟩ := row_cell HR.out.2.1 hlt
      cases he
      replace hb3 := (World.cell?_of_block (H2.out.2.block b hb2 (by omega))).trans hb3
      have htk : us.take (i + 1) = us.take i ++ [us.getD i 0] := by rw [List.take_add_one, List.getD_eq_getElem?_getD, List.getElem?_eq_getElem hlt]; rfl
      have hmem : us.getD i 0 ∈ us := by rw [List.getD_eq_getElem?_getD, List.getElem?_eq_getElem hlt]; simp
      have h64 := HI64.out _ ((HR.out.1 _).1 hmem)
      obtain ⟨w2, hrun, hset, hgr⟩ := H2.out.1.put (by omega) h64
      rw [← htk] at hset
      have HSET := asideI (And.intro hset (H2.out.2.trans (show Ext (fun k => k = w.heap.size + 1) wr w2 from ⟨hgr.1, hgr.2, hgr.3, hgr.4, fun k hk hne => hgr.5 k hk (fun e => hne (Option.some.inj e))⟩)))
      clear htk hmem h64 hset hgr
      generalize us.getD i 0 = zz at hb3 hrun
      go_wp2
      go_roundg (us.length - (i + 1))
      case measure => omega
      case rel => exact ⟨i + 1, by simp, by omega, by omega, HSET.out⟩
    · obtain rfl : i = us.length := by omega
      have hE0 : Ext (fun _ => False) w wr := extF (HX.out.trans HR.out.2.2) H2.out.2 (by rintro b rfl; omega)
      have hset := H2.out.1
      rw [List.take_length] at hset
      have hms : w1.heap.size ≤ wr.heap.size := H2.out.2.size
      have HSET := asideI hset
      have HE0 := asideI hE0
      clear hset hE0
      go_wp2_with (first
        | (go_at_call 56; refine (zones_nil _).mono ?_; rintro e w4 ⟨rfl, h4w⟩; obtain rfl := h4w.symm; simp only [])
        | go_in)
      go_loopg [8, 23] 0 (fun gg s8 s23 wz => s23 = .int .i64 0 ∧ s8 = .slice none 0 0 ∧ Aside (Ext (fun _ => False) w wz))
      case atStart => exact ⟨rfl, rfl, HE0.out⟩
      case round =>
        obtain ⟨rfl, rfl, H3⟩ := hrel
        go_wp2
        go_ret
        exact ⟨_, _, rfl, H3.out⟩
theorem of_nil (hS : SortC) {w : World} {v : Value} {cs : List (List Int)} (h : StOK w v cs) (kk : UInt8) : Calls Try.prog 55 #[.pointer none, v, .int .u8 kk.toNat] w fun e w' => ∃ p c, e = .returned (.slice p 0 c) ∧ Ext (fun _ => False) w w' := by
  have hv := h.st
  obtain ⟨nx, tp, tn, tc, cp, cc, rfl, hC⟩ := hv
  have HX := asideI (ext_alloc1 w (.cells #[.int .i64 nx, .slice tp tn tc, .slice cp cs.length cc] 58))
  have hO := kinds_nil hS (h.st.ext HX.out) h.n h.c h.i
  have HO : Aside (Calls Try.prog 31 #[.pointer none, .agg #[.int .i64 nx, .slice tp tn tc, .slice cp cs.length cc]] _ _) := hO
  clear hC h hO
  show Calls Try.prog 55 #[.pointer none, .agg #[.int .i64 nx, .slice tp tn tc, .slice cp cs.length cc], .int .u8 kk.toNat] w _
  go_enter Try.func55, Try.ntmps55
  go_wp2_with (first
    | (go_at_call 31; refine HO.out.mono ?_
       rintro e w1 ⟨zp, zc, rfl, hu2⟩
       have HR := asideI hu2
       clear hu2
       simp only [])
    | go_in)
  go_loopg [7, 14] 0 (fun gg s7 s14 wz => s14 = .int .i64 0 ∧ s7 = .slice none 0 0 ∧ Aside (Ext (fun _ => False) w wz))
  case atStart => exact ⟨rfl, rfl, HX.out.trans HR.out⟩
  case round =>
    obtain ⟨rfl, rfl, H3⟩ := hrel
    go_wp2
    go_ret
    exact ⟨_, _, rfl, H3.out⟩
theorem waiting_nil (hS : SortC) {w : World} {v : Value} {cs : List (List Int)} (h : StOK w v cs) : Calls Try.prog 33 #[.pointer none, v] w fun e w' => ∃ p c, e = .returned (.slice p 0 c) ∧ Ext (fun _ => False) w w' := by
  have hv := h.st
  obtain ⟨nx, tp, tn, tc, cp, cc, rfl, hC⟩ := hv
  have HX := asideI (ext_alloc1 w (.cells #[.int .i64 nx, .slice tp tn tc, .slice cp cs.length cc] 58))
  have hO := of_nil hS (h.ext HX.out) 3
  have HO : Aside (Calls Try.prog 55 #[.pointer none, .agg #[.int .i64 nx, .slice tp tn tc, .slice cp cs.length cc], .int .u8 3] _ _) := hO
  clear hC h hO
  show Calls Try.prog 33 #[.pointer none, .agg #[.int .i64 nx, .slice tp tn tc, .slice cp cs.length cc]] w _
  go_enter Try.func33, Try.ntmps33
  go_wp2_with (first
    | (go_at_call 55; refine HO.out.mono ?_
       rintro e w1 ⟨zp, zc, rfl, hu2⟩
       have HR := asideI hu2
       clear hu2
       simp only [])
    | go_in)
  go_ret
  exact ⟨_, _, rfl, HX.out.trans HR.out⟩
theorem room_nil (w : World) : Calls Try.prog 26 #[.pointer none] w fun e w' => e = .returned (.int .i64 0) ∧ w' = w := by
  go_enter Try.func26, Try.ntmps26
  go_wp2
  go_ret
  exact ⟨rfl, rfl⟩
theorem next_nil (w : World) (nx : Int) (tp : Option Addr) (tn tc : Nat) (cp : Option Addr) (cn cc : Nat) : Calls Try.prog 24 #[.pointer none, .agg #[.int .i64 nx, .slice tp tn tc, .slice cp cn cc]] w fun e w' => (∃ z, e = .returned (.tuple #[.int .i64 z, .int .i64 1])) ∧ Ext (fun _ => False) w w' := by
  go_enter Try.func24, Try.ntmps24
  go_wp2
  go_ret2
  exact ⟨⟨_, rfl⟩, ext_alloc1 _ _⟩
theorem sweep_nil (w : World) (nx : Int) (tp : Option Addr) (tn tc : Nat) (cp : Option Addr) (cn cc : Nat) : Calls Try.prog 34 #[.pointer none, .agg #[.int .i64 nx, .slice tp tn tc, .slice cp cn cc]] w fun e w' => (∃ z, e = .returned (.tuple #[.int .i64 z, .int .i64 1])) ∧ Ext (fun _ => False) w w' := by
  go_enter Try.func34, Try.ntmps34
  go_wp2
  go_ret2
  exact ⟨⟨_, rfl⟩, ext_alloc1 _ _⟩
end Go.Proofs.Ytifemhfpcichfaa

/- Zone: behind a crash, a reset; what a zone's calls leave of the others (plain). -/

set_option linter.unusedSimpArgs false
set_option linter.unusedVariables false
set_option maxHeartbeats 4000000
set_option maxRecDepth 1000000
namespace Go.Proofs.Ytifemhfpcichfaa
open Go.RowKit
open Go.Av Go.Maps

theorem crash_fresh (d : Dv) (fs : List UInt8) : (crashD d fs).down = false ∧ (crashD d fs).fails = -1 := ⟨rfl, rfl⟩
theorem hasZ_of {d : Dv} {z : Nat} (h : z < d.zs.length) : hasZ d z = true := by simp [hasZ]; omega
theorem at_fresh {d : Dv} (hd : d.down = false) {z : Nat} (hz : z < d.zs.length) : atD d z = 0 := by
  rcases at_cases d z with ⟨h1, _⟩ | ⟨_, h1, _⟩ | ⟨_, _, h1⟩
  · rw [hd] at h1; cases h1
  · rw [hasZ_of hz] at h1; cases h1
  · exact h1
theorem step_fresh {d x : Dv} (hf : d.fails = -1) : stepD d x = (x, 0) := by
  unfold stepD
  rw [if_neg (by omega)]
theorem reset_fresh {d : Dv} (hd : d.down = false) (hf : d.fails = -1) {z : Nat} (hz : z < d.zs.length) : resetD d z = (emptyD (tick1 d) z, 0) := by
  unfold resetD
  rw [at_fresh hd hz, if_neg (by simp), step_fresh hf]
  rfl
theorem empty_zAt (d : Dv) {z : Nat} (hz : z < d.zs.length) : (emptyD (tick1 d) z).zs.getD z z0 = ⟨0, 0, false⟩ := by
  simp [emptyD, tick1, List.getD_eq_getElem?_getD, hz]
/-- A zone that was just reset. -/
theorem empty_looks {d : Dv} {z : Nat} (hz : z < d.zs.length) (hb : d.nb ≠ 0) : stD (emptyD (tick1 d) z) z = 0 ∧ wrD (emptyD (tick1 d) z) z = 0 ∧ loD (emptyD (tick1 d) z) z = 0 := by
  have h1 : hasZ (emptyD (tick1 d) z) z = true := hasZ_of (by simp [emptyD, tick1]; exact hz)
  have h2 := empty_zAt d hz
  have h3 : ((z : Int)).toNat = z := by omega
  have h4 : (emptyD (tick1 d) z).nb = d.nb := rfl
  unfold stD wrD loD
  rw [if_pos h1, if_pos h1, if_pos h1, h3, h2, h4]
  refine ⟨?_, rfl, rfl⟩
  unfold stZ
  rw [if_neg (by simp; omega), if_pos rfl]
/-- Another zone is as it was. -/
def SameAt (d e : Dv) (z : Nat) : Prop := e.zs.length = d.zs.length ∧ e.nb = d.nb ∧ e.zs.getD z z0 = d.zs.getD z z0
theorem SameAt.looks {d e : Dv} {z : Nat} (h : SameAt d e z) : stD e z = stD d z ∧ wrD e z = wrD d z ∧ loD e z = loD d z := by
  obtain ⟨h1, h2, h3⟩ := h
  have h4 : ((z : Int)).toNat = z := by omega
  unfold stD wrD loD hasZ
  rw [h1, h2, h4, h3]
  exact ⟨rfl, rfl, rfl⟩
theorem SameAt.refl (d : Dv) (z : Nat) : SameAt d d z := ⟨rfl, rfl, rfl⟩
theorem SameAt.step {d x : Dv} {z : Nat} (h : SameAt d x z) : SameAt d (stepD d x).1 z := by
  unfold stepD
  split
  · split
    · exact h
    · exact ⟨rfl, rfl, rfl⟩
  · exact h
theorem set_other (l : List Zn) (y : Zn) {z i : Nat} (h : i ≠ z) : (l.set i y).getD z z0 = l.getD z z0 := by
  rw [List.getD_eq_getElem?_getD, List.getD_eq_getElem?_getD, List.getElem?_set_ne h]
theorem doD_other (d : Dv) (a : ActD) (h4 : ¬ a.k.toNat % 9 = 4) (h6 : a.k.toNat % 9 ≤ 6) (z : Nat) (hz : (z : Int) ≠ a.z) : SameAt d (doD d a) z := by
  have hne : ∀ {i : Nat}, a.z = i → i ≠ z := fun e q => hz (by omega)
  unfold doD
  rw [if_neg h4]
  by_cases h5 : a.k.toNat % 9 = 5
  · rw [if_pos h5]
    unfold resetD
    split
    · exact SameAt.refl _ _
    · rename_i h
      obtain ⟨_, i, hi, hl, _⟩ := at_zero h
      rw [hi, show ((i : Int)).toNat = i by omega]
      exact SameAt.step ⟨by simp [emptyD, tick1], rfl, set_other _ _ (hne hi)⟩
  rw [if_neg h5]
  by_cases h66 : a.k.toNat % 9 = 6
  · rw [if_pos h66]
    unfold finishD
    split
    · exact SameAt.refl _ _
    · rename_i h
      obtain ⟨_, i, hi, hl, _⟩ := at_zero h
      rw [hi, show ((i : Int)).toNat = i by omega]
      exact SameAt.step ⟨by simp [finZ, tick1], rfl, set_other _ _ (hne hi)⟩
  rw [if_neg h66, if_neg (by omega), if_neg (by omega)]
  unfold appendD
  split
  · exact SameAt.refl _ _
  · rename_i h
    obtain ⟨_, i, hi, hl, _⟩ := at_zero h
    rw [hi, show ((i : Int)).toNat = i by omega]
    have hs : SameAt d (stepD d (putD (tick1 d) i (u8s (blkA a)))).1 z := SameAt.step ⟨by simp [putD, tick1], rfl, set_other _ _ (hne hi)⟩
    split
    · exact SameAt.refl _ _
    · split
      · exact SameAt.refl _ _
      · split
        · exact SameAt.refl _ _
        · split
          · exact hs
          · exact hs
end Go.Proofs.Ytifemhfpcichfaa

/- Zalloc: what sweeps do to a device (plain). -/


set_option linter.unusedSimpArgs false
set_option linter.unusedVariables false
set_option maxHeartbeats 4000000
namespace Go.Proofs.Ytifemhfpcichfaa

open Go.Av
theorem filter_le {α : Type} (p q : α → Bool) : ∀ l : List α, (∀ x ∈ l, p x = true → q x = true) → (l.filter p).length ≤ (l.filter q).length
  | [], _ => Nat.le_refl _
  | x :: l, h => by
    have ih := filter_le p q l (fun y hy => h y (by simp [hy]))
    have hx := h x (by simp)
    rw [List.filter_cons, List.filter_cons]
    cases hp : p x
    · cases q x <;> simp <;> omega
    · rw [hx hp]; simpa using ih
theorem filter_lt {α : Type} (p q : α → Bool) : ∀ l : List α, (∀ x ∈ l, p x = true → q x = true) → (∃ x ∈ l, p x = false ∧ q x = true) → (l.filter p).length < (l.filter q).length
  | [], _, h => by obtain ⟨x, hx, _⟩ := h; cases hx
  | x :: l, h, h2 => by
    have hx := h x (by simp)
    have il := filter_le p q l (fun y hy => h y (by simp [hy]))
    rw [List.filter_cons, List.filter_cons]
    obtain ⟨y, hy, hp, hq⟩ := h2
    rcases List.mem_cons.1 hy with rfl | hy
    · rw [hp, hq]; simp; omega
    · have ih := filter_lt p q l (fun y hy => h y (by simp [hy])) ⟨y, hy, hp, hq⟩
      cases hp : p x
      · cases q x <;> simp <;> omega
      · rw [hx hp]; simpa using ih
/-- Behind some sweeps: dc is the device ahead of them, d the one behind. -/
structure SwI (n m : Nat) (S : List Int) (dc d : Dv) (c : Nat) : Prop where
  okc : OkN n 5 m dc
  ok : OkN n 5 m d
  down : d.down = false
  fails : d.fails = -1
  z : ∀ z, z < n → SameAt dc d z ∨ (kindD dc S z = 3 ∧ stD d z = 0)
  cnt : (ofD d S 3).length + c ≤ n
theorem kindD_st {d e : Dv} {S : List Int} {z : Nat} (h : stD e z = stD d z) : kindD e S z = kindD d S z := by
  unfold kindD; rw [h]
theorem kindD_three {d : Dv} {S : List Int} {z : Nat} (h : kindD d S z = 3) : 2 ≤ z ∧ (z : Int) ∉ S ∧ stD d z ≠ 0 := by
  unfold kindD at h
  split at h
  · exact absurd h (by decide)
  · split at h
    · exact absurd h (by decide)
    · split at h
      · exact absurd h (by decide)
      · exact ⟨by omega, by assumption, by assumption⟩
theorem kindD_free {d : Dv} {S : List Int} {z : Nat} (h2 : 2 ≤ z) (hS : (z : Int) ∉ S) (h : stD d z = 0) : kindD d S z = 0 := by
  unfold kindD; rw [if_neg (by omega), if_neg hS, if_pos h]
theorem ofT_mem {d : Dv} {S : List Int} {k : UInt8} {n : Nat} {x : Int} (h : x ∈ ofT d S k n) : ∃ z : Nat, x = z ∧ z < n ∧ kindD d S z = k := by
  unfold ofT at h
  obtain ⟨z, hz, rfl⟩ := List.mem_map.1 h
  obtain ⟨h1, h2⟩ := List.mem_filter.1 hz
  exact ⟨z, rfl, by simpa using h1, by simpa using h2⟩
theorem ofT_nil {d : Dv} {S : List Int} {k : UInt8} {n : Nat} (h : ofT d S k n = []) {z : Nat} (hz : z < n) : kindD d S z ≠ k := by
  intro e
  unfold ofT at h
  have h2 := List.map_eq_nil_iff.1 h
  rw [List.filter_eq_nil_iff] at h2
  exact h2 z (by simpa using hz) (by simpa using e)
theorem SwI.start {n m : Nat} {S : List Int} {dc : Dv} (h : OkN n 5 m dc) (hd : dc.down = false) (hf : dc.fails = -1) : SwI n m S dc dc 0 :=
  ⟨h, h, hd, hf, fun z _ => .inl (SameAt.refl _ _), by have := ofT_len dc S 3 dc.zs.length; have := h.len; unfold ofD; omega⟩
theorem SwI.full {n m : Nat} {S : List Int} {dc d : Dv} (h : SwI n m S dc d n) : ofD d S 3 = [] := List.eq_nil_of_length_eq_zero (by have := h.cnt; omega)
theorem SwI.done {n m : Nat} {S : List Int} {dc d : Dv} {c : Nat} (h : SwI n m S dc d c) (he : ofD d S 3 = []) : sweepD d S = (d, 0, 8) := by
  unfold sweepD; rw [he]
theorem SwI.step {n m : Nat} {S : List Int} {dc d : Dv} {c : Nat} (h : SwI n m S dc d c) (he : ofD d S 3 ≠ []) :
    ∃ z : Nat, 2 ≤ z ∧ z < n ∧ kindD dc S z = 3 ∧ ∃ d', sweepD d S = (d', (z : Int), 0) ∧ SwI n m S dc d' (c + 1) := by
  obtain ⟨x, t, hx⟩ : ∃ x t, ofD d S 3 = x :: t := by
    cases hq : ofD d S 3 with
    | nil => exact absurd hq he
    | cons x t => exact ⟨x, t, rfl⟩
  have hlen := h.ok.len
  obtain ⟨z, rfl, hz, hk⟩ := ofT_mem (show x ∈ ofT d S 3 d.zs.length by rw [show ofT d S 3 d.zs.length = x :: t from hx]; simp)
  obtain ⟨h2, hS, hs⟩ := kindD_three hk
  have hzn : z < n := by omega
  have hr := reset_fresh h.down h.fails hz
  have hnb : d.nb ≠ 0 := by rw [h.ok.nb]; decide
  have hl := (empty_looks hz hnb).1
  have hsame : ∀ y, y ≠ z → SameAt d (emptyD (tick1 d) z) y := fun y hy => ⟨by simp [emptyD, tick1], rfl, by
    show ((tick1 d).zs.set z _).getD y z0 = _
    rw [set_other _ _ (fun e => hy e.symm)]; rfl⟩
  have hok : OkN n 5 m (resetD d z).1 := h.ok.reset z
  rw [hr] at hok
  refine ⟨z, h2, hzn, ?_, emptyD (tick1 d) z, ?_, h.okc, hok, h.down, ?_, fun y hy => ?_, ?_⟩
  · rcases h.z z hzn with q | ⟨q, _⟩
    · rw [← hk]; exact (kindD_st q.looks.1).symm
    · exact q
  · unfold sweepD
    rw [hx]
    simp [hr]
  · show (tick1 d).fails = -1
    unfold tick1; rw [if_pos h.fails]
  · by_cases e : y = z
    · subst e
      right
      refine ⟨?_, hl⟩
      rcases h.z y hy with q | ⟨q, _⟩
      · rw [← hk]; exact (kindD_st q.looks.1).symm
      · exact q
    · have hs2 := hsame y e
      rcases h.z y hy with q | ⟨q, q2⟩
      · left
        exact ⟨hs2.1.trans q.1, hs2.2.1.trans q.2.1, hs2.2.2.trans q.2.2⟩
      · right
        exact ⟨q, hs2.looks.1.trans q2⟩
  · have hll : (emptyD (tick1 d) z).zs.length = d.zs.length := by simp [emptyD, tick1]
    have : (ofD (emptyD (tick1 d) z) S 3).length < (ofD d S 3).length := by
      unfold ofD ofT
      rw [List.length_map, List.length_map, hll]
      refine filter_lt _ _ _ (fun y hy hp => ?_) ⟨z, by simpa using hz, ?_, by simpa using hk⟩
      · have hp' : kindD (emptyD (tick1 d) z) S y = 3 := by simpa using hp
        by_cases e : y = z
        · subst e
          exact absurd hl (kindD_three hp').2.2
        · rw [kindD_st (hsame y e).looks.1] at hp'
          simpa using hp'
      · rw [decide_eq_false_iff_not]
        intro q
        exact (kindD_three q).2.2 hl
    have hc := h.cnt
    omega
theorem SwI.last {n m : Nat} {S : List Int} {dc d : Dv} {c : Nat} (h : SwI n m S dc d c) (he : ofD d S 3 = []) {z : Nat} (hz : z < n) :
    (kindD dc S z = 3 ∧ kindD d S z = 0) ∨ (kindD dc S z ≠ 3 ∧ kindD d S z = kindD dc S z ∧ wrD d z = wrD dc z) := by
  have hn := ofT_nil (show ofT d S 3 d.zs.length = [] from he) (z := z) (by rw [h.ok.len]; exact hz)
  rcases h.z z hz with q | ⟨q, q2⟩
  · have hk := kindD_st (S := S) q.looks.1
    right
    exact ⟨fun e => hn (hk.trans e), hk, q.looks.2.1⟩
  · left
    obtain ⟨h2, hS, _⟩ := kindD_three q
    exact ⟨q, kindD_free h2 hS q2⟩
theorem SwI.wr {n m : Nat} {S : List Int} {dc d : Dv} {c : Nat} (h : SwI n m S dc d c) : ∀ i, i < d.zs.length → (d.zs.getD i z0).wr ≤ 100000 := fun i hi => by
  have h1 := (h.ok.ok.wr i hi).2
  have h2 := h.ok.nb
  rw [h2] at h1
  exact Int.le_trans h1 (by decide)
end Go.Proofs.Ytifemhfpcichfaa
