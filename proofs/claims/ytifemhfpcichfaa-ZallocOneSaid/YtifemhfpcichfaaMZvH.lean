import Derived.Test.YtifemhfpcichfaaMZvE

set_option linter.unusedVariables false
set_option linter.unusedSimpArgs false

/- Zalloc: each zone is of just one kind (the walk). -/

set_option linter.unusedSimpArgs false
set_option linter.unusedVariables false
set_option maxHeartbeats 4000000
set_option maxRecDepth 1000000
namespace Go.Proofs.Ytifemhfpcichfaa
open Go.RowKit
open Go.Av Go.Maps

theorem box3 {w : World} {b : Nat} {a0 a1 a2 : Value} {t : TypeId} (h : w.heap[b]? = some (.cells #[a0, a1, a2] t)) : w.cell? ⟨b, 0, none⟩ = some a0 ∧ w.cell? ⟨b, 1, none⟩ = some a1 ∧ w.cell? ⟨b, 2, none⟩ = some a2 := by
  simp [World.cell?, h]
theorem one_main {mu : Mem} {w0 : World} (hm : MemOK mu w0) {l : List ActD} {lp : Option Addr} {ln lc : Nat} (hl : Rep mu (.sl 7 (AcL l)) (.slice lp ln lc)) {s : Stt} {nx : Int} {tp cp : Option Addr} {tn tc cn cc : Nat} (hs : Rep mu s.sv (.agg [.int .i64 nx, .slice tp tn tc, .slice cp cn cc].toArray)) (hI : ∀ z ∈ s.zs.flatten, I64 z) (zb : UInt8)
    (h40 : l.length ≤ 40) (hL : lightS s = true) : Calls Try.prog 7 #[.int .u8 zb.toNat, .slice lp ln lc, .agg #[.int .i64 nx, .slice tp tn tc, .slice cp cn cc]] w0 (LawP w0) := by
  obtain ⟨p', cap', e, hat⟩ := acts_at hm hl
  cases e
  obtain ⟨n, hn⟩ : ∃ n : Nat, n = 4 + zb.toNat % 30 := ⟨_, rfl⟩
  have hn4 : 4 ≤ n := by omega
  have hn33 : n ≤ 33 := by omega
  have hzl := zb.toNat_lt
  have hn1 : IntKind.i64.wrap (zb.toNat : Int) = zb.toNat := by rw [IntKind.wrap_i64]; omega
  have hn2 : IntKind.i64.wrap ((zb.toNat : Int).tmod 30) = ((zb.toNat % 30 : Nat) : Int) := by rw [Int.tmod_eq_emod_of_nonneg (by omega), IntKind.wrap_i64]; omega
  have hn3 : IntKind.i64.wrap (4 + ((zb.toNat % 30 : Nat) : Int)) = (n : Int) := by rw [IntKind.wrap_i64]; omega
  have hn5 : (4 + (zb.toNat : Int) % 30) = (n : Int) := by omega
  have hnk : newOk n 5 = true := by simp [newOk]; omega
  clear hn
  obtain ⟨W0, hW⟩ : ∃ W0, W0 = w0.alloc (.cells #[.int .i64 nx, .slice tp tn tc, .slice cp cn cc] 58) := ⟨_, rfl⟩
  have k1 : W0.heap[w0.heap.size]? = some (.cells #[.int .i64 nx, .slice tp tn tc, .slice cp cn cc] 58) := by rw [hW, alloc_get, if_pos rfl]
  have HW := asideI hW
  have K1 := asideI k1
  have KX : Aside (Ext (fun _ => False) w0 W0) := by rw [hW]; exact ext_alloc1 _ _
  have hsz : W0.heap.size = w0.heap.size + 1 := by rw [hW]; simp
  have hLC := light_call (mem_ext hm KX.out) hs
  rw [hL] at hLC
  have HLC := asideI hLC
  have HAT := asideI hat
  have HMU := asideI hm
  have HSV := asideI hs
  have HI := asideI hI
  have HLS := asideI (light_size hL)
  have HNK := asideI hnk
  have hl1 : ¬ (40 : Int) < (l.length : Int) := by omega
  clear hW k1 hat hm hl hs hLC hI hL hnk
  go_enter Try.func7, Try.ntmps7
  go_wp2_with (first
    | (go_at_call 30; refine (rnew_raw w1 n 5 HNK.out (fun _ => False)).mono ?_
       rintro e w2 ⟨x, rfl, hr2, hx2⟩
       obtain ⟨px, ny, cx, rfl⟩ := hr2.val
       have HB := asideI (both_new HNK.out HD1.out HX1.out hr2 hx2)
       have HX := asideI (HX1.out.trans hx2)
       clear hr2 hx2
       simp only [rval])
    | (go_at_call 23; refine (new_raw W8 n 5).mono ?_
       rintro e w1 ⟨hx1, h1⟩
       rcases h1 with ⟨h1, _⟩ | ⟨_, q, rfl, hq1, hd1⟩
       · exact absurd HNK.out (by rw [h1]; simp)
       have HX1 := asideI hx1
       have HD1 := asideI hd1
       have HQ : Aside (∀ k, EQ q k → W8.heap.size ≤ k) := hq1
       clear hx1 hd1 hq1
       simp only [])
    | (go_at_call 29; rw [← HW.out]; refine HLC.out.mono ?_; rintro e W8 ⟨rfl, hx8⟩; have HX8 := asideI hx8; have hs8 : w0.heap.size + 1 ≤ W8.heap.size := by have := hx8.size; omega
       clear hx8; simp only [])
    | go_in)
  have KX8 := asideI (KX.out.trans HX8.out)
  go_loopg [12] l.length (fun gg s12 wr => ∃ (k : Nat), s12 = .int .i64 k ∧ k ≤ l.length ∧ l.length - k ≤ gg ∧ Aside (LInv (w2.alloc (.cells (rcells px ny cx (rnewD n 5)) 29)) q w2.heap.size n 5 k wr))
  case atStart => exact ⟨0, rfl, by omega, by omega, (beg_start (L := n) (by simp) HB.out HQ.out HX.out).2⟩
  case round =>
    obtain ⟨k, rfl, hk, hgg, H2⟩ := hrel
    have HBG := asideI (beg_start (L := n) (by simp) HB.out HQ.out HX.out).1
    obtain ⟨d, r, p, nn, c, hb, hg⟩ := H2.out.both
    have HG := asideI hg
    obtain ⟨⟨a0, a1, a2, a3, a4, a5⟩, _⟩ := box6 hg
    have HBR := asideI hb
    have hx0 := HBG.out.old H2.out.ext (fun b e => e.elim .inl fun e => .inr (.inl e))
    have HX0 := asideI hx0
    clear hg hb hx0
    by_cases hlt : k < l.length
    · have hz : (k : Int) < (l.length : Int) := by omega
      have hw : IntKind.i64.wrap ((k : Int) + 1) = (k : Int) + 1 := by rw [IntKind.wrap_i64]; omega
      obtain ⟨lb, lo, fp2, fc2, rfl, hlb, h7, hf7⟩ := HAT.out k hlt
      generalize l.getD k ac0 = ak at h7 hf7
      obtain ⟨s0, s1, s2, s3, s4, s5, s6⟩ := h7.ext (KX8.out.trans HX0.out)
      have HF7 := asideI hf7
      clear h7 hf7
      go_wp2
      have HSTEP := asideI (do_raw (w := wr.drew) (HBR.out.reG (ext_drew wr) (fun b e => ⟨HBR.out.lt b e, .inl e⟩)) ak ((HF7.out.keeps (T := fun _ => False) (fun _ e => e.elim) ((KX8.out.trans HX0.out).trans (ext_drew wr))).sub (fun b e => by
        rcases e with e | e
        · have := HBG.out.hq b e; show w0.heap.size ≤ b; omega
        · have := HBG.out.hg; have e2 : b = w2.heap.size := e; show w0.heap.size ≤ b; omega)) (by omega))
      go_region_with (first
        | (go_at_call 11
           refine HSTEP.out.mono ?_
           rintro e w5 ⟨r', x', bb, rfl, hb2, hx2⟩
           obtain ⟨p2, n2, c2, rfl⟩ := hb2.ref.val
           have hg2 := (hx2.block w2.heap.size (HBR.out.lt _ rfl) HBG.out.gq).trans HG.out
           obtain ⟨_, f0, f1, f2, f3, f4, f5⟩ := box6 hg2
           have HB2 := asideI hb2
           have HX2 := asideI hx2
           clear hb2 hx2 hg2
           simp only [rval]))
      all_goals (
        go_wp2
        go_roundg (l.length - (k + 1))
        case measure => omega
        case rel => exact ⟨k + 1, by simp, by omega, by omega, LInv.next H2.out.ext HBG.out.gq HB2.out (by omega) ((ext_drew wr).mono (fun _ e => e.elim) |>.trans HX2.out) HG.out rfl⟩)
    · obtain rfl : k = l.length := by omega
      have hz : ¬ ((l.length : Int) < (l.length : Int)) := by omega
      have KW := asideI (KX8.out.trans HX0.out)
      have hSO : StOK w0 (.agg #[.int .i64 nx, .slice tp tn tc, .slice cp cn cc]) s.zs := ⟨st_of HMU.out HSV.out, HLS.out.2.2.1, HLS.out.2.2.2, HI.out⟩
      have HSO := asideI hSO
      have hst3 := ((HX8.out.trans HX0.out).block w0.heap.size (by rw [hsz]; omega) id).trans K1.out
      obtain ⟨c0, c1, c2⟩ := box3 hst3
      have HST3 := asideI hst3
      have hdn : d.zs.length = n := HBR.out.ok.len
      have HKS := asideI (kinds_raw sort67 HBR.out.at_ (hSO.st.ext KW.out) hSO.n hSO.c hSO.i)
      clear hSO hst3 a0 a1 a2 a3 a4 a5
      go_wp2_with (first
        | (go_at_call 31; refine HKS.out.mono ?_
           rintro e wk ⟨kv, rfl, hu1, hu2⟩
           rw [hdn] at hu1
           obtain ⟨kp, kc, rfl⟩ := own_slice hu1
           have HR := asideI hu1
           have HXK := asideI hu2
           clear hu1 hu2
           simp only [])
        | go_in)
      go_loopg [14, 15] n (fun gg s14 s15 wz => ∃ (z : Nat), s15 = .int .i64 z ∧ s14 = .int .i64 (ofT d s.zs.flatten 3 z).length ∧ z ≤ n ∧ n - z ≤ gg ∧ Aside (Ext (fun _ => False) wk wz))
      case atStart => exact ⟨0, rfl, by simp [ofT], by omega, by omega, Ext.refl _ _⟩
      case round =>
        obtain ⟨z, rfl, rfl, hz6, hgg2, H3⟩ := hrel
        have hcs : (ofT d s.zs.flatten 3 (z + 1)).length = (ofT d s.zs.flatten 3 z).length + (if kindD d s.zs.flatten z = 3 then 1 else 0) := by
          rw [ofT_succ, List.length_append]; split <;> simp
        have hcl := ofT_len d s.zs.flatten 3 z
        have hcd : z = n → (ofD d s.zs.flatten 3).length = (ofT d s.zs.flatten 3 z).length := by rintro rfl; unfold ofD; rw [hdn]
        generalize (ofT d s.zs.flatten 3 z).length = ct at hcs hcl hcd ⊢
        obtain ⟨c0, c1, c2⟩ := box3 (((HXK.out.trans H3.out).block w0.heap.size (Array.getElem?_eq_some_iff.1 HST3.out).1 id).trans HST3.out)
        have HWZ := asideI (KW.out.trans (HXK.out.trans H3.out))
        by_cases hlt : z < n
        · have hzn : (z : Int) < (n : Int) := by omega
          have hw : IntKind.i64.wrap ((z : Int) + 1) = (z : Int) + 1 := by rw [IntKind.wrap_i64]; omega
          have hwc : IntKind.i64.wrap ((ct : Int) + 1) = (ct : Int) + 1 := by rw [IntKind.wrap_i64]; omega
          obtain ⟨b, c, he, hb1, hb2, hb3⟩ := row_at HR.out hlt
          cases he
          have hby : (u8s (kindsB d s.zs.flatten))[z]? = some (.int .u8 (kindD d s.zs.flatten z).toNat) := by simp [u8s, kindsB, hdn, hlt]
          rw [hby] at hb3
          have hOW := owner_call (mem_ext HMU.out HWZ.out) HSV.out (by have := HLS.out.1; omega) (fun c hc => Nat.le_trans (HLS.out.2.1 c hc) (by omega)) (z : Int)
          have hO : (ownC (z : Int) s.cs).2.2 = decide ((z : Int) ∈ s.zs.flatten) := ownC_iff z s.cs
          rw [hO] at hOW
          have hSTT := fun (W : World) (k : Ext (fun _ => False) _ W) => state_raw (HBR.out.at_.ext k) (z : Int)
          have HB2 := asideI hb2
          generalize (ownC (z : Int) s.cs).1 = o1 at hOW
          generalize (ownC (z : Int) s.cs).2.1 = o2 at hOW
          clear hby hb1 hb2 hO hcd
          rcases Nat.lt_or_ge z 2 with h2 | h2
          · have hkd : kindD d s.zs.flatten z = 1 := by unfold kindD; rw [if_pos h2]
            have h2i : (z : Int) < 2 := by omega
            rw [hkd] at hb3 hcs
            rw [if_neg (by decide)] at hcs
            generalize decide ((z : Int) ∈ s.zs.flatten) = ob at hOW
            generalize stD d (z : Int) = sv at hSTT
            have HCN := asideI hcs
            have HOW := asideI hOW
            have HSTT := asideI hSTT
            have HB0 := asideI hb3
            clear hcs hOW hSTT hb3 hkd
            go_wp2_with (first
              | (go_at_call 21; refine (HSTT.out _ (((HXK.out.trans H3.out).trans HX5.out).trans (ext_alloc1 _ _))).mono ?_; rintro e w6 ⟨rfl, hx6⟩
                 have HZ6 := asideI (((H3.out.trans HX5.out).trans (ext_alloc1 _ _)).trans hx6)
                 have hb4 := (World.cell?_of_block (HZ6.out.block b HB2.out id)).trans HB0.out
                 clear hx6; simp only [])
              | (go_at_call 32; refine HOW.out.mono ?_; rintro e w5 ⟨rfl, hx5⟩; have HX5 := asideI hx5; clear hx5; simp only [])
              | go_in)
            go_roundg (n - (z + 1))
            case measure => omega
            case rel => exact ⟨z + 1, by simp, by rw [HCN.out]; rfl, by omega, by omega, HZ6.out⟩
          · have h2i : ¬ (z : Int) < 2 := by omega
            have h2g : (2 : Int) ≤ (z : Int) := by omega
            by_cases hin : (z : Int) ∈ s.zs.flatten
            · have hkd : kindD d s.zs.flatten z = 2 := by unfold kindD; rw [if_neg (by omega), if_pos hin]
              rw [hkd] at hb3 hcs
              rw [if_neg (by decide)] at hcs
              rw [decide_eq_true hin] at hOW
              generalize stD d (z : Int) = sv at hSTT
              have HCN := asideI hcs
              have HOW := asideI hOW
              have HSTT := asideI hSTT
              have HB0 := asideI hb3
              clear hcs hOW hSTT hb3 hkd hin
              go_wp2_with (first
                | (go_at_call 21; refine (HSTT.out _ (((HXK.out.trans H3.out).trans HX5.out).trans (ext_alloc1 _ _))).mono ?_; rintro e w6 ⟨rfl, hx6⟩
                   have HZ6 := asideI (((H3.out.trans HX5.out).trans (ext_alloc1 _ _)).trans hx6)
                   have hb4 := (World.cell?_of_block (HZ6.out.block b HB2.out id)).trans HB0.out
                   clear hx6; simp only [])
                | (go_at_call 32; refine HOW.out.mono ?_; rintro e w5 ⟨rfl, hx5⟩; have HX5 := asideI hx5; clear hx5; simp only [])
                | go_in)
              go_roundg (n - (z + 1))
              case measure => omega
              case rel => exact ⟨z + 1, by simp, by rw [HCN.out]; rfl, by omega, by omega, HZ6.out⟩
            · rw [decide_eq_false hin] at hOW
              have HOW := asideI hOW
              by_cases hst : stD d (z : Int) = 0
              · have hkd : kindD d s.zs.flatten z = 0 := by unfold kindD; rw [if_neg (by omega), if_neg hin, if_pos hst]
                rw [hkd] at hb3 hcs
                rw [if_neg (by decide)] at hcs
                rw [hst] at hSTT
                have HCN := asideI hcs
                have HSTT := asideI hSTT
                have HB0 := asideI hb3
                clear hcs hOW hSTT hb3 hkd hin hst
                go_wp2_with (first
                  | (go_at_call 21; refine (HSTT.out _ (((HXK.out.trans H3.out).trans HX5.out).trans (ext_alloc1 _ _))).mono ?_; rintro e w6 ⟨rfl, hx6⟩
                     have HZ6 := asideI (((H3.out.trans HX5.out).trans (ext_alloc1 _ _)).trans hx6)
                     have hb4 := (World.cell?_of_block (HZ6.out.block b HB2.out id)).trans HB0.out
                     clear hx6; simp only [])
                  | (go_at_call 32; refine HOW.out.mono ?_; rintro e w5 ⟨rfl, hx5⟩; have HX5 := asideI hx5; clear hx5; simp only [])
                  | go_in)
                go_roundg (n - (z + 1))
                case measure => omega
                case rel => exact ⟨z + 1, by simp, by rw [HCN.out]; rfl, by omega, by omega, HZ6.out⟩
              · have hkd : kindD d s.zs.flatten z = 3 := by unfold kindD; rw [if_neg (by omega), if_neg hin, if_neg hst]
                have hsb : (stD d (z : Int) == 0) = false := by simpa using hst
                rw [hkd] at hb3 hcs
                rw [if_pos rfl] at hcs
                generalize stD d (z : Int) = sv at hSTT hst hsb
                have HCN := asideI hcs
                have HSTT := asideI hSTT
                have HB0 := asideI hb3
                clear hcs hOW hSTT hb3 hkd hin
                go_wp2_with (first
                  | (go_at_call 21; refine (HSTT.out _ (((HXK.out.trans H3.out).trans HX5.out).trans (ext_alloc1 _ _))).mono ?_; rintro e w6 ⟨rfl, hx6⟩
                     have HZ6 := asideI (((H3.out.trans HX5.out).trans (ext_alloc1 _ _)).trans hx6)
                     have hb4 := (World.cell?_of_block (HZ6.out.block b HB2.out id)).trans HB0.out
                     clear hx6; simp only [])
                  | (go_at_call 32; refine HOW.out.mono ?_; rintro e w5 ⟨rfl, hx5⟩; have HX5 := asideI hx5; clear hx5; simp only [])
                  | go_in)
                go_roundg (n - (z + 1))
                case measure => omega
                case rel => exact ⟨z + 1, by simp, by rw [HCN.out]; simp, by omega, by omega, HZ6.out⟩
        · obtain rfl : z = n := by omega
          have hzn : ¬ ((z : Int) < (z : Int)) := by omega
          have hct := hcd rfl
          have HCT := asideI hct
          have HWT := asideI (waiting_raw sort67 (HBR.out.at_.ext (HXK.out.trans H3.out)) (HSO.out.ext HWZ.out))
          clear hct hcd hcs
          go_wp2_with (first
            | (go_at_call 27; refine (awake11_raw _).mono ?_; rintro e w9 ⟨rfl, hx9⟩; have HX9 := asideI (HXV.out.trans hx9); clear hx9; simp only [])
            | (go_at_call 33; refine HWT.out.mono ?_; rintro e w8 ⟨wv, rfl, hv1, hv2⟩
               rw [HCT.out] at hv1
               obtain ⟨vp, vc, rfl⟩ := own_slice hv1
               have HXV := asideI hv2
               clear hv1 hv2; simp only [])
            | go_in)
          go_ret
          exact ⟨rfl, HWZ.out.trans HX9.out⟩
end Go.Proofs.Ytifemhfpcichfaa

/- Zalloc: ZallocOne, the law. -/

set_option linter.unusedSimpArgs false
set_option linter.unusedVariables false
set_option maxHeartbeats 4000000
namespace Go.Proofs.Ytifemhfpcichfaa

open Go.Av
/-- The arguments of Zalloc's laws in memory. -/
theorem law_args {mu : Mem} {w : World} (hm : MemOK mu w) {zb : UInt8} {l : List ActD} {s : Stt} {vs : List Value} (hr : RepArgs mu [.int .u8 zb.toNat, .sl 7 (AcL l), s.sv] vs) :
    ∃ lp lc nx tp tn tc cp cn cc, vs = [.int .u8 zb.toNat, .slice lp l.length lc, .agg #[.int .i64 nx, .slice tp tn tc, .slice cp cn cc]] ∧ Rep mu (.sl 7 (AcL l)) (.slice lp l.length lc) ∧ Rep mu s.sv (.agg [.int .i64 nx, .slice tp tn tc, .slice cp cn cc].toArray) := by
  match vs, hr.1 with
  | [zv, lv, sv], _ =>
    have e0 : zv = .int .u8 zb.toNat := Rep.inv_int (show Rep mu (.int .u8 zb.toNat) zv from hr.2 0 (by simp))
    have h1 : Rep mu (.sl 7 (AcL l)) lv := hr.2 1 (by simp)
    have h2 : Rep mu s.sv sv := hr.2 2 (by simp)
    obtain ⟨lp, lc, rfl, _⟩ := acts_at hm h1
    obtain ⟨nx, tp, tn, tc, cp, cc, rfl, _⟩ := st_of hm h2
    subst e0
    exact ⟨lp, lc, nx, tp, tn, tc, cp, _, cc, rfl, h1, h2⟩
theorem law_one (zb : UInt8) (l : List ActD) (s : Stt) (hI : ∀ z ∈ s.zs.flatten, I64 z) : Pure Try.prog 7 [.int .u8 zb.toNat, .sl 7 (AcL l), s.sv] (.sv (.bool true)) := by
  refine pure_true fun mu w vs hm hr => ?_
  obtain ⟨lp, lc, nx, tp, tn, tc, cp, cn, cc, rfl, h1, h2⟩ := law_args hm hr
  by_cases h : 40 < l.length ∨ lightS s = false
  · exact one_early hm h2 zb h
  · rw [not_or] at h
    exact one_main hm h1 h2 hI zb (by omega) (by simpa using h.2)
end Go.Proofs.Ytifemhfpcichfaa
