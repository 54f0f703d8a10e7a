import Derived.Test.YtikidcgnbcibpaaMCpC
import Derived.Laws.BitsLemmas
import Derived.Laws.Bits64
import Derived.IntWalk
import Derived.Test.YtikidcgnbcibpaaAvAA
import Derived.Laws.Strings
import Derived.Test.YtikidcgnbcibpaaAvL3

set_option linter.unusedVariables false
set_option linter.unusedSimpArgs false

/- Compact: Clean (the walk). -/

set_option linter.unusedSimpArgs false
set_option linter.unusedVariables false
set_option maxRecDepth 100000
set_option maxHeartbeats 40000000
namespace Go.Proofs.Ytikidcgnbcibpaa
open Go.RowKit
open Go.Av Go.Cp
theorem blkO {w : World} {b j k : Nat} (h : k ≠ b) (v : Value) : (w.setCell ⟨b, j, none⟩ v).heap[k]? = w.heap[k]? := by
  simp [World.setCell, Array.getElem?_modify, Ne.symm h]
theorem extS (w : World) (b j : Nat) (v : Value) : Ext (fun k => k = b) w (w.setCell ⟨b, j, none⟩ v) := ⟨rfl, rfl, rfl, by simp [World.setCell], fun k hk ht => blkO ht v⟩
theorem prs_mem2 {l : List Bat} {i : Nat} (hi : i < l.length) : ∀ r ∈ (l.getD i bat0).rs, (l.getD i bat0, r) ∈ prs l := fun r hr => by
  obtain ⟨k, hk, rfl⟩ := List.getElem_of_mem hr
  have := prs_mem hi hk
  rwa [List.getD_eq_getElem?_getD (l := (l.getD i bat0).rs), List.getElem?_eq_getElem hk] at this
theorem pr1_len (b : Bat) : (pr1 b b.rs.length).length = b.rs.length := by simp [pr1]
theorem clean_raw {w : World} {lp : Option Addr} {lc : Nat} {l : List Bat} (h : BatsW w lp l) (hl : LOK l) (now grace : Int) : Calls Try.prog 12 #[.slice lp l.length lc, .int .i64 now, .int .i64 grace] w (CleanP l now grace w) := by
  obtain ⟨i0, hi, hz0, hz1, hz2⟩ := info_parts (P := Try.prog) (e := 30) (z := .agg #[.int .i64 0, .int .i64 0, .int .i64 0, .int .i64 0, .int .i64 0, .slice none 0 0]) (size := 6) (bytes := 64) (by kernel_rfl)
  have hu : Try.prog.underlying 22 = some (.slice 30) := by kernel_rfl
  have HI := asideI hi
  have HZ0 := asideI hz0
  have HZ1 := asideI hz1
  have HZ2 := asideI hz2
  have HU := asideI hu
  have HB := asideI h
  have HL := asideI hl
  have HLR := asideI (last_raw (lc := lc) h hl)
  have hll := hl.l
  have hlm := hl.n
  clear hi hz0 hz1 hz2 hu h hl
  go_enter Try.func12, Try.ntmps12
  go_wp2_with (first
    | (go_at_call 8; refine HLR.out.mono ?_
       rintro e w1 ⟨mb, nn, rfl, hmb, hm1, hx1⟩
       have HM1 := asideI hm1
       have HX1 := asideI hx1
       have hmb1 := hm1.lt
       clear hm1 hx1
       simp only [])
    | go_in)
  have HST : Aside (CInv w (w1.heap.size + 1) mb nn w1.heap.size (prs l) now grace (cleanT (prs l) now grace (l.take 0)) [] (.slice none 0 0) (w1.alloc (.cells #[.map (some mb), .int .i64 now, .int .i64 grace] 48))) :=
    ⟨⟨rfl, .inl ⟨rfl, rfl⟩⟩, fun e he => (by cases he), rfl, HX1.out.trans (extA _ _), HM1.out.ext (extA _ _), by rw [alloc_get, if_pos rfl]⟩
  have hw1 := HX1.out.size
  go_loopg [8, 18] l.length (fun gg s8 s18 wr => ∃ (i : Nat) (es : List En), s18 = .int .i64 i ∧ i ≤ l.length ∧ l.length - i ≤ gg ∧ es.length ≤ i ∧ Aside (CInv w (w1.heap.size + 1) mb nn w1.heap.size (prs l) now grace (cleanT (prs l) now grace (l.take i)) es s8 wr))
  case atStart => exact ⟨0, [], rfl, by omega, by omega, by simp, HST.out⟩
  case round =>
    obtain ⟨i, es, rfl, hil, hgg, hes, H⟩ := hrel
    obtain ⟨sp, sc, rfl⟩ := own_slice H.out.own
    by_cases hlt : i < l.length
    · have hz : (i : Int) < (l.length : Int) := by omega
      have hw : IntKind.i64.wrap ((i : Int) + 1) = (i : Int) + 1 := by rw [IntKind.wrap_i64]; omega
      obtain ⟨wo, rfl⟩ : ∃ wo, wo = wr := ⟨_, rfl⟩
      obtain ⟨b, o, rp, rc, rfl, hbat, hrs, hnl⟩ := HB.out i hlt
      obtain ⟨c0, c1, c2, c3, c4, c5⟩ := hbat.ext H.out.ext
      have hmem := prs_mem2 hlt
      have hxl : (l.getD i bat0).rs.length ≤ 50000 := by
        have := Nat.le_trans (prs_len hlt (Nat.le_refl _)) hlm
        rw [List.length_append, pr1_len] at this
        omega
      have hct := cleanT_succ (prs l) now grace l hlt
      have hk : ∀ r ∈ (l.getD i bat0).rs, r.key.size ≤ 100000 ∧ IntKind.i64.wrap ((l.getD i bat0).ba + r.dl) = atS (l.getD i bat0) r := fun r hr => ⟨HL.out.key _ (hmem r hr), HL.out.at_ _ (hmem r hr)⟩
      generalize l.getD i bat0 = x at hbat hrs hnl c0 c1 c2 c3 c4 c5 hmem hxl hct hk
      have hsz := H.out.ext.size
      have hcbl := (Array.getElem?_eq_some_iff.1 H.out.c).1
      have hmbl := H.out.m.lt
      have hxa := extA wo (.cells #[.int .i64 x.ba, .int .i64 x.co, .int .i64 x.pr, .int .i64 x.ep, .int .i64 x.sq, .slice rp x.rs.length rc] 30)
      have hga : (wo.alloc (.cells #[.int .i64 x.ba, .int .i64 x.co, .int .i64 x.pr, .int .i64 x.ep, .int .i64 x.sq, .slice rp x.rs.length rc] 30)).heap[wo.heap.size]? = some (.cells #[.int .i64 x.ba, .int .i64 x.co, .int .i64 x.pr, .int .i64 x.ep, .int .i64 x.sq, .slice rp x.rs.length rc] 30) := by rw [alloc_get, if_pos rfl]
      have hwas : (wo.alloc (.cells #[.int .i64 x.ba, .int .i64 x.co, .int .i64 x.pr, .int .i64 x.ep, .int .i64 x.sq, .slice rp x.rs.length rc] 30)).heap.size = wo.heap.size + 1 := by simp
      have HCL := asideI (clone_raw (hrs.ext (H.out.ext.trans hxa)) hnl hxl)
      have HXA := asideI hxa
      have HGA := asideI hga
      have HWAS := asideI hwas
      have HK := asideI hk
      clear hbat hrs hnl hmem hxa hga hwas hk
      obtain ⟨fs, hfs⟩ : ∃ fs, fs = x.rs.filter (keepP (prs l) now grace x) := ⟨_, rfl⟩
      have HFS := asideI hfs
      rw [← hfs] at hct
      have HCT := asideI hct
      have hfl : fs.length ≤ 50000 := by rw [hfs]; exact Nat.le_trans (List.length_filter_le _ _) hxl
      clear hct hfs
      by_cases h1 : 0 < fs.length
      · have h1i : (0 : Int) < (fs.length : Int) := by omega
        go_wp2_with (first
          | (at_builtin; refine wpList_append_own_at _ rfl _ _ 22 rfl (w1.heap.size + 1) 30 i0 (.agg #[.int .i64 0, .int .i64 0, .int .i64 0, .int .i64 0, .int .i64 0, .slice none 0 0]) 6 64 HU.out HI.out HZ0.out HZ1.out HZ2.out rfl (by decide) _ _ _ rfl (H.out.keep (T := fun b => wo.heap.size ≤ b) ?qk1 (fun b e => e)).own _ 1 1 (encE ⟨{ x with rs := fs }, p2, c2⟩) rfl ?qa1 ?qb1 ?qc1 ?qd1 ?qe1 ?qf1 ?_)
          | (go_at_call 22; refine HDC.out.mono ?_
             rintro e w3 ⟨rfl, hr3, hx3, hI3⟩
             obtain ⟨⟨b0, b1, b2, b3, b4, b5⟩, f5⟩ := box6 hI3.b
             have HR3 := asideI hr3
             have HX3 := asideI hx3
             have HI3 := asideI hI3
             have hs3 := hx3.size
             clear hr3 hx3 hI3
             simp only [])
          | (go_at_call 23; refine HCL.out.mono ?_
             rintro e w2 ⟨p2, c2, rfl, hr2, hx2⟩
             have HCI : Aside (CI mb nn (prs l) w1.heap.size wo.heap.size now grace x rp x.rs.length rc w2) := ⟨(H.out.m.ext HXA.out).ext hx2, ((HXA.out.trans hx2).block _ hcbl id).trans H.out.c, (hx2.block _ (by rw [HWAS.out]; omega) id).trans HGA.out⟩
             have HP2 : Aside (∀ g o, p2 = some ⟨g, o, none⟩ → g ≠ mb ∧ g ≠ w1.heap.size ∧ g ≠ wo.heap.size ∧ wo.heap.size < g) := fun g o e => by
               have := (hr2.lt e).1
               rw [HWAS.out] at this
               omega
             have hdc := del_call HCI.out hr2 (fun g o e => ⟨(HP2.out g o e).1, (HP2.out g o e).2.1, (HP2.out g o e).2.2.1⟩) hxl HK.out
             rw [← HFS.out] at hdc
             have HDC := asideI hdc
             have HX2 := asideI hx2
             have hs2 := hx2.size
             rw [HWAS.out] at hs2
             clear hr2 hx2 hdc
             simp only [])
          | go_in)
        case qk1 =>
          refine ((((HXA.out.mono fun _ e => e.elim).trans (HX2.out.mono fun _ e => e.elim)).trans (HX3.out.mono ?_)).trans ((extS _ wo.heap.size 5 _).mono ?_)).trans ((extA _ _).mono fun _ e => e.elim)
          · rintro b ⟨o, e⟩
            exact Nat.le_of_lt (HP2.out b o e).2.2.2
          · rintro b rfl
            exact Nat.le_refl _
        case qa1 => rfl
        case qb1 =>
          intro j u hj
          have := enc_new (w3.setCell ⟨wo.heap.size, 5, none⟩ (.slice p2 fs.length c2)) ⟨{ x with rs := fs }, p2, c2⟩ j u hj
          first | exact this | (simpa using this) | (simpa [encE] using hj)
        case qc1 => exact encE_one _
        case qd1 => unfold maxLen; omega
        case qe1 => omega
        case qf1 => first | omega | (simp; omega) | (simp [World.setCell]; omega)
        intro v' w6 hown hgrow hnil hat
        have hkk : Ext (fun b => wo.heap.size ≤ b) wo ((w3.setCell ⟨wo.heap.size, 5, none⟩ (.slice p2 fs.length c2)).alloc (.cells #[.int .i64 x.ba, .int .i64 x.co, .int .i64 x.pr, .int .i64 x.ep, .int .i64 x.sq, .slice p2 fs.length c2] 30)) := by
          refine ((((HXA.out.mono fun _ e => e.elim).trans (HX2.out.mono fun _ e => e.elim)).trans (HX3.out.mono ?_)).trans ((extS _ wo.heap.size 5 _).mono ?_)).trans ((extA _ _).mono fun _ e => e.elim)
          · rintro b ⟨o, e⟩
            exact Nat.le_of_lt (HP2.out b o e).2.2.2
          · rintro b rfl
            exact Nat.le_refl _
        have hap := (H.out.keep hkk (fun b e => e)).app (e := ⟨{ x with rs := fs }, p2, c2⟩) (by omega) (by omega) (by omega) (((HR3.out.base (by rw [HWAS.out]; omega)).keep (extS _ wo.heap.size 5 _) (fun g o e q => (HP2.out g o e).2.2.1 q)).keep (extA _ _) (fun _ _ _ q => q)) (fun g o e q => by
          have h1 := (own_lt H.out.own q).2
          have h2 := (HP2.out g o e).2.2.2
          omega) hown hgrow (hat.imp id (fun e => e.trans (by simp [World.setCell])))
        have hcc := HCT.out
        rw [if_pos (by cases fs with | nil => simp at h1 | cons a r => simp)] at hcc
        rw [← hcc] at hap
        have HAP := asideI hap
        obtain ⟨vp, vc, rfl⟩ := own_slice hown
        clear hown hgrow hnil hat hkk hap hcc
        go_wp2
        go_roundg (l.length - (i + 1))
        case measure => omega
        case rel => exact ⟨i + 1, _, by simp, by omega, by omega, (by rw [List.length_append]; exact Nat.succ_le_succ hes), HAP.out⟩
      · have h1i : ¬ (0 : Int) < (fs.length : Int) := by omega
        by_cases h2 : x.pr = 0
        · have h2c : (x.pr != 0) = false := by simpa using h2
          have H2 := asideI h2
          clear h2
          go_wp2_with (first
            | (go_at_call 22; refine HDC.out.mono ?_
               rintro e w3 ⟨rfl, hr3, hx3, hI3⟩
               obtain ⟨⟨b0, b1, b2, b3, b4, b5⟩, f5⟩ := box6 hI3.b
               have HR3 := asideI hr3
               have HX3 := asideI hx3
               have HI3 := asideI hI3
               have hs3 := hx3.size
               clear hr3 hx3 hI3
               simp only [])
            | (go_at_call 23; refine HCL.out.mono ?_
               rintro e w2 ⟨p2, c2, rfl, hr2, hx2⟩
               have HCI : Aside (CI mb nn (prs l) w1.heap.size wo.heap.size now grace x rp x.rs.length rc w2) := ⟨(H.out.m.ext HXA.out).ext hx2, ((HXA.out.trans hx2).block _ hcbl id).trans H.out.c, (hx2.block _ (by rw [HWAS.out]; omega) id).trans HGA.out⟩
               have HP2 : Aside (∀ g o, p2 = some ⟨g, o, none⟩ → g ≠ mb ∧ g ≠ w1.heap.size ∧ g ≠ wo.heap.size ∧ wo.heap.size < g) := fun g o e => by
                 have := (hr2.lt e).1
                 rw [HWAS.out] at this
                 omega
               have hdc := del_call HCI.out hr2 (fun g o e => ⟨(HP2.out g o e).1, (HP2.out g o e).2.1, (HP2.out g o e).2.2.1⟩) hxl HK.out
               rw [← HFS.out] at hdc
               have HDC := asideI hdc
               have HX2 := asideI hx2
               have hs2 := hx2.size
               rw [HWAS.out] at hs2
               clear hr2 hx2 hdc
               simp only [])
            | go_in)
          have hkk : Ext (fun b => wo.heap.size ≤ b) wo (w3.setCell ⟨wo.heap.size, 5, none⟩ (.slice p2 fs.length c2)) := by
            refine (((HXA.out.mono fun _ e => e.elim).trans (HX2.out.mono fun _ e => e.elim)).trans (HX3.out.mono ?_)).trans ((extS _ wo.heap.size 5 _).mono ?_)
            · rintro b ⟨o, e⟩
              exact Nat.le_of_lt (HP2.out b o e).2.2.2
            · rintro b rfl
              exact Nat.le_refl _
          have hcc := HCT.out
          rw [if_neg (by cases fs with | nil => simp [H2.out] | cons a r => simp at h1), List.append_nil] at hcc
          have hap := H.out.keep hkk (fun b e => e)
          rw [← hcc] at hap
          have HAP := asideI hap
          clear hkk hap hcc
          go_roundg (l.length - (i + 1))
          case measure => omega
          case rel => exact ⟨i + 1, es, by simp, by omega, by omega, by omega, HAP.out⟩
        · have h2b : (x.pr == 0) = false := by simpa using h2
          have h2c : (x.pr != 0) = true := by simpa using h2
          go_wp2_with (first
            | (at_builtin; refine wpList_append_own_at _ rfl _ _ 22 rfl (w1.heap.size + 1) 30 i0 (.agg #[.int .i64 0, .int .i64 0, .int .i64 0, .int .i64 0, .int .i64 0, .slice none 0 0]) 6 64 HU.out HI.out HZ0.out HZ1.out HZ2.out rfl (by decide) _ _ _ rfl (H.out.keep (T := fun b => wo.heap.size ≤ b) ?qk2 (fun b e => e)).own _ 1 1 (encE ⟨{ x with rs := fs }, p2, c2⟩) rfl ?qa2 ?qb2 ?qc2 ?qd2 ?qe2 ?qf2 ?_)
            | (go_at_call 22; refine HDC.out.mono ?_
               rintro e w3 ⟨rfl, hr3, hx3, hI3⟩
               obtain ⟨⟨b0, b1, b2, b3, b4, b5⟩, f5⟩ := box6 hI3.b
               have HR3 := asideI hr3
               have HX3 := asideI hx3
               have HI3 := asideI hI3
               have hs3 := hx3.size
               clear hr3 hx3 hI3
               simp only [])
            | (go_at_call 23; refine HCL.out.mono ?_
               rintro e w2 ⟨p2, c2, rfl, hr2, hx2⟩
               have HCI : Aside (CI mb nn (prs l) w1.heap.size wo.heap.size now grace x rp x.rs.length rc w2) := ⟨(H.out.m.ext HXA.out).ext hx2, ((HXA.out.trans hx2).block _ hcbl id).trans H.out.c, (hx2.block _ (by rw [HWAS.out]; omega) id).trans HGA.out⟩
               have HP2 : Aside (∀ g o, p2 = some ⟨g, o, none⟩ → g ≠ mb ∧ g ≠ w1.heap.size ∧ g ≠ wo.heap.size ∧ wo.heap.size < g) := fun g o e => by
                 have := (hr2.lt e).1
                 rw [HWAS.out] at this
                 omega
               have hdc := del_call HCI.out hr2 (fun g o e => ⟨(HP2.out g o e).1, (HP2.out g o e).2.1, (HP2.out g o e).2.2.1⟩) hxl HK.out
               rw [← HFS.out] at hdc
               have HDC := asideI hdc
               have HX2 := asideI hx2
               have hs2 := hx2.size
               rw [HWAS.out] at hs2
               clear hr2 hx2 hdc
               simp only [])
            | go_in)
          case qk2 =>
            refine ((((HXA.out.mono fun _ e => e.elim).trans (HX2.out.mono fun _ e => e.elim)).trans (HX3.out.mono ?_)).trans ((extS _ wo.heap.size 5 _).mono ?_)).trans ((extA _ _).mono fun _ e => e.elim)
            · rintro b ⟨o, e⟩
              exact Nat.le_of_lt (HP2.out b o e).2.2.2
            · rintro b rfl
              exact Nat.le_refl _
          case qa2 => rfl
          case qb2 =>
            intro j u hj
            have := enc_new (w3.setCell ⟨wo.heap.size, 5, none⟩ (.slice p2 fs.length c2)) ⟨{ x with rs := fs }, p2, c2⟩ j u hj
            first | exact this | (simpa using this) | (simpa [encE] using hj)
          case qc2 => exact encE_one _
          case qd2 => unfold maxLen; omega
          case qe2 => omega
          case qf2 => first | omega | (simp; omega) | (simp [World.setCell]; omega)
          intro v' w6 hown hgrow hnil hat
          have hkk : Ext (fun b => wo.heap.size ≤ b) wo ((w3.setCell ⟨wo.heap.size, 5, none⟩ (.slice p2 fs.length c2)).alloc (.cells #[.int .i64 x.ba, .int .i64 x.co, .int .i64 x.pr, .int .i64 x.ep, .int .i64 x.sq, .slice p2 fs.length c2] 30)) := by
            refine ((((HXA.out.mono fun _ e => e.elim).trans (HX2.out.mono fun _ e => e.elim)).trans (HX3.out.mono ?_)).trans ((extS _ wo.heap.size 5 _).mono ?_)).trans ((extA _ _).mono fun _ e => e.elim)
            · rintro b ⟨o, e⟩
              exact Nat.le_of_lt (HP2.out b o e).2.2.2
            · rintro b rfl
              exact Nat.le_refl _
          have hap := (H.out.keep hkk (fun b e => e)).app (e := ⟨{ x with rs := fs }, p2, c2⟩) (by omega) (by omega) (by omega) (((HR3.out.base (by rw [HWAS.out]; omega)).keep (extS _ wo.heap.size 5 _) (fun g o e q => (HP2.out g o e).2.2.1 q)).keep (extA _ _) (fun _ _ _ q => q)) (fun g o e q => by
            have h1 := (own_lt H.out.own q).2
            have h2 := (HP2.out g o e).2.2.2
            omega) hown hgrow (hat.imp id (fun e => e.trans (by simp [World.setCell])))
          have hcc := HCT.out
          rw [if_pos (by simp [h2])] at hcc
          rw [← hcc] at hap
          have HAP := asideI hap
          obtain ⟨vp, vc, rfl⟩ := own_slice hown
          clear hown hgrow hnil hat hkk hap hcc
          go_wp2
          go_roundg (l.length - (i + 1))
          case measure => omega
          case rel => exact ⟨i + 1, _, by simp, by omega, by omega, (by rw [List.length_append]; exact Nat.succ_le_succ hes), HAP.out⟩
    · obtain rfl : i = l.length := by omega
      have hz : ¬ ((l.length : Int) < (l.length : Int)) := by omega
      go_wp2
      go_ret
      have hc := H.out.con
      rw [List.take_length, cleanT_prs] at hc
      have ho := H.out.own
      refine ⟨_, _, es, rfl, ⟨ho.1, ?_⟩, fun x hx => (H.out.rows x hx).1, hc, H.out.ext⟩
      rcases ho.2 with h2 | ⟨g, cap, cur, k1, k2, k3⟩
      · exact .inl h2
      · exact .inr ⟨g, cap, cur, k1, by omega, k3⟩
end Go.Proofs.Ytikidcgnbcibpaa

/- Compact: Keeps and Clean as contracts. -/

set_option linter.unusedSimpArgs false
set_option linter.unusedVariables false
set_option maxRecDepth 100000
set_option maxHeartbeats 4000000
namespace Go.Proofs.Ytikidcgnbcibpaa
open Go.RowKit
open Go.Av Go.Cp
theorem memX {mu : Mem} {w w' : World} {T : Nat → Prop} (h : MemOK mu w) (k : Ext T w w') (hT : ∀ b, T b → ∀ j, mu b j = none) : MemOK mu w' := fun b j v hv => by
  obtain ⟨h1, h2⟩ := h b j v hv
  exact ⟨(World.cell?_of_block (k.block b (h.lt hv) (fun e => by rw [hT b e j] at hv; cases hv))).trans h1, h2⟩
/-- What a call has made becomes a part of the memory. -/
theorem freeze {mu : Mem} {w w' : World} (hm : MemOK mu w) (hx : Ext (fun _ => False) w w') : ∃ mu' : Mem, mu.le mu' ∧ MemOK mu' w' ∧ (∀ b j, b < w.heap.size → mu' b j = mu b j) ∧ ∀ b j v, w.heap.size ≤ b → w'.cell? ⟨b, j, none⟩ = some v → v.oneCell' = true → mu' b j = some v := by
  refine ⟨fun b j => if b < w.heap.size then mu b j else (w'.cell? ⟨b, j, none⟩).bind fun v => if v.oneCell' = true then some v else none, fun b j v e => ?_, fun b j v e => ?_, fun b j hb => if_pos hb, fun b j v hb h1 h2 => ?_⟩
  · show (if _ then _ else _) = _
    rw [if_pos (hm.lt e)]; exact e
  · simp only at e
    split at e
    · exact memX hm hx (fun _ e => e.elim) b j v e
    · cases hc : w'.cell? ⟨b, j, none⟩ with
      | none => rw [hc] at e; cases e
      | some u =>
        rw [hc] at e
        simp only [Option.bind_some] at e
        split at e
        · cases e; exact ⟨rfl, by assumption⟩
        · cases e
  · show (if _ then _ else _) = _
    rw [if_neg (by omega), h1]
    simp [h2]
theorem getD_memV (L : List Value) (q : Nat) (h : q < L.length) : L.getD q Go.undef ∈ L := by
  rw [List.getD_eq_getElem?_getD, List.getElem?_eq_getElem h]; exact List.getElem_mem _
theorem sv_encL (mu : Mem) (r : Rec) : ∀ q, q < 6 → Rep mu (r.sv.cell q) ((encL r).getD q Go.undef) := fun q hq => by
  match q, hq with
  | 0, _ => exact .int _ _
  | 1, _ => exact .int _ _
  | 2, _ => exact .bool _
  | 3, _ => exact .str _
  | 4, _ => exact .bool _
  | 5, _ => exact .str _
theorem rep_row {mu mu' : Mem} {w w' : World} (hf : ∀ b j v, w.heap.size ≤ b → w'.cell? ⟨b, j, none⟩ = some v → v.oneCell' = true → mu' b j = some v) {p : Option Addr} {c : Nat} {l : List Rec} (h : RRow w' w.heap.size p c l) : Rep mu' (.sl 6 (RcL l)) (.slice p l.length c) := by
  rcases h with ⟨rfl, rfl, rfl⟩ | ⟨g, cur, fr, rfl, hB, hg, _, hc, hsz, hrow⟩
  · exact .slnil 6
  · have hcell : ∀ i q, i < l.length → q < 6 → w'.cell? ⟨g, i * 6 + q, none⟩ = some ((encL (l.getD i rec0)).getD q Go.undef) := fun i q hi hq => by
      have h1 := hrow i (by simpa using hi) q hq
      have e1 : l.toArray[i]! = l.getD i rec0 := by
        rw [getElem!_pos _ i (by simpa using hi), List.getD_eq_getElem?_getD, List.getElem?_eq_getElem hi]; rfl
      rw [e1, Nat.zero_add] at h1
      rw [cell_of_block hg]
      exact h1
    have := Rep.sl (mu := mu') 6 (RcL l) g 0 c (fun i q => (encL (l.getD i rec0)).getD q Go.undef) (by simpa using hc) (fun x hx => by
      obtain ⟨r, _, rfl⟩ := List.mem_map.1 hx; rfl) (fun i q hi hq => ?_) (fun i q hi hq => ?_)
    · rw [RcL_length] at this
      exact this
    · have hil : i < l.length := by simpa using hi
      rw [Nat.zero_add]
      refine hf _ _ _ hB (hcell i q hil hq) ?_
      have h6 : (encL (l.getD i rec0)).length = 6 := rfl
      have hm := getD_memV (encL (l.getD i rec0)) q (by omega)
      exact flatR_one [l.getD i rec0] _ (List.mem_flatMap.2 ⟨_, by simp, hm⟩)
    · have hil : i < l.length := by simpa using hi
      rw [show (RcL l).getD i .undef = (l.getD i rec0).sv by simp [RcL, List.getD_eq_getElem?_getD, hil]]
      exact sv_encL _ _ q hq
def en0 : En := ⟨bat0, none, 0⟩
theorem flatE_len (l : List En) : (flatE l).length = l.length * 6 := by
  induction l with
  | nil => rfl
  | cons r l ih =>
    have h : (flatE (r :: l)).length = 6 + (flatE l).length := by simp [flatE, encE]; omega
    rw [h, ih, List.length_cons]
    omega
theorem flatE_get (l : List En) : ∀ k q, k < l.length → q < 6 → (flatE l)[k * 6 + q]? = some ((encE (l.getD k en0)).getD q Go.undef) := by
  induction l with
  | nil => intro k q hk; simp at hk
  | cons r l ih =>
    intro k q hk hq
    have e : flatE (r :: l) = encE r ++ flatE l := rfl
    have h6 : (encE r).length = 6 := rfl
    rw [e]
    cases k with
    | zero =>
      rw [List.getElem?_append_left (by omega), Nat.zero_mul, Nat.zero_add]
      simp [List.getD_eq_getElem?_getD, h6, hq]
    | succ k =>
      rw [List.getElem?_append_right (by omega), h6, show (k + 1) * 6 + q - 6 = k * 6 + q by omega, ih k q (by simpa using hk) hq]
      simp [List.getD_eq_getElem?_getD]
theorem rep_out {mu' : Mem} {w w' : World} (hf : ∀ b j v, w.heap.size ≤ b → w'.cell? ⟨b, j, none⟩ = some v → v.oneCell' = true → mu' b j = some v) {p : Option Addr} {c : Nat} {es : List En}
    (h : w'.ownsRow w.heap.size 30 6 (.slice p es.length c) es.length (flatE es)) (hr : ∀ x ∈ es, RRow w' w.heap.size x.rp x.rc x.b.rs) : Rep mu' (.sl 6 (BtL (es.map (·.b)))) (.slice p es.length c) := by
  rcases h.2 with ⟨h1, h2⟩ | ⟨g, cap, cur, h1, h2, h3, h4, h5, h6, h7⟩
  · have : es = [] := List.eq_nil_of_length_eq_zero h2
    subst this
    rw [h1]
    exact .slnil 6
  · have hcell : ∀ i q, i < es.length → q < 6 → w'.cell? ⟨g, i * 6 + q, none⟩ = some ((encE (es.getD i en0)).getD q Go.undef) := fun i q hi hq => by
      rw [cell_of_block h3, ← flatE_get es i q hi hq, ← h7, List.getElem?_take, if_pos (by omega), Array.getElem?_toList]
    rw [h1]
    have := Rep.sl (mu := mu') 6 (BtL (es.map (·.b))) g 0 cap (fun i q => (encE (es.getD i en0)).getD q Go.undef) (by simpa using h4) (fun x hx => by
      obtain ⟨r, _, rfl⟩ := List.mem_map.1 hx; rfl) (fun i q hi hq => ?_) (fun i q hi hq => ?_)
    · rw [BtL_length, List.length_map] at this
      exact this
    · have hil : i < es.length := by simpa using hi
      rw [Nat.zero_add]
      refine hf _ _ _ h2 (hcell i q hil hq) ?_
      have h6 : (encE (es.getD i en0)).length = 6 := rfl
      have hm := getD_memV (encE (es.getD i en0)) q (by omega)
      exact encE_one _ _ hm
    · have hil : i < es.length := by simpa using hi
      have hx : es.getD i en0 ∈ es := by
        rw [List.getD_eq_getElem?_getD, List.getElem?_eq_getElem hil]; exact List.getElem_mem hil
      rw [show (BtL (es.map (·.b))).getD i .undef = (es.getD i en0).b.sv by simp [BtL, List.getD_eq_getElem?_getD, hil]]
      generalize es.getD i en0 = x at hx
      match q, hq with
      | 0, _ => exact .int _ _
      | 1, _ => exact .int _ _
      | 2, _ => exact .int _ _
      | 3, _ => exact .int _ _
      | 4, _ => exact .int _ _
      | 5, _ => exact rep_row (mu := mu') hf (hr x hx)
theorem clean_pure (l : List Bat) (now grace : Int) (hl : LOK l) : Pure Try.prog 12 [.sl 6 (BtL l), .int .i64 now, .int .i64 grace] (.sv (.sl 6 (BtL (cleanS l now grace)))) := by
  intro mu w vs hm hr
  match vs, hr.1 with
  | [lv, nv, gv], _ =>
    have h0 : Rep mu (.sl 6 (BtL l)) lv := hr.2 0 (by simp)
    have e1 : nv = .int .i64 now := Rep.inv_int (show Rep mu (.int .i64 now) nv from hr.2 1 (by simp))
    have e2 : gv = .int .i64 grace := Rep.inv_int (show Rep mu (.int .i64 grace) gv from hr.2 2 (by simp))
    subst e1 e2
    obtain ⟨lp, lc, rfl⟩ := sl_shape h0
    rw [BtL_length] at h0 ⊢
    refine (clean_raw (bats_of hm h0) hl now grace).mono ?_
    rintro e w' ⟨p, c, es, rfl, h1, h2, h3, h4⟩
    obtain ⟨mu', k1, k2, k3, k4⟩ := freeze hm h4
    refine ⟨_, mu', rfl, h4, k1, k2, k3, fun _ => none, ?_, fun b p h => by cases h⟩
    show Rep mu' _ _
    rw [← h3]
    exact rep_out k4 h1 h2
theorem keeps_pure (l : List Bat) (i k now grace : Int) (hl : LOK l) : Pure Try.prog 10 [.sl 6 (BtL l), .int .i64 i, .int .i64 k, .int .i64 now, .int .i64 grace] (.sv (.bool (keepsL l i k now grace))) := by
  intro mu w vs hm hr
  match vs, hr.1 with
  | [lv, iv, kv, nv, gv], _ =>
    have h0 : Rep mu (.sl 6 (BtL l)) lv := hr.2 0 (by simp)
    have e1 : iv = .int .i64 i := Rep.inv_int (show Rep mu (.int .i64 i) iv from hr.2 1 (by simp))
    have e2 : kv = .int .i64 k := Rep.inv_int (show Rep mu (.int .i64 k) kv from hr.2 2 (by simp))
    have e3 : nv = .int .i64 now := Rep.inv_int (show Rep mu (.int .i64 now) nv from hr.2 3 (by simp))
    have e4 : gv = .int .i64 grace := Rep.inv_int (show Rep mu (.int .i64 grace) gv from hr.2 4 (by simp))
    subst e1 e2 e3 e4
    obtain ⟨lp, lc, rfl⟩ := sl_shape h0
    rw [BtL_length] at h0 ⊢
    refine (keeps10_raw (bats_of hm h0) hl i k now grace).mono ?_
    rintro e w' ⟨rfl, h4⟩
    exact ⟨_, mu, rfl, h4, Mem.le_refl _, memX hm h4 (fun _ e => e.elim), fun _ _ _ => rfl, fun _ => none, .bool _, fun b p h => by cases h⟩
end Go.Proofs.Ytikidcgnbcibpaa

/- Plain arithmetic: numbers as bytes. -/
namespace Go.Av


theorem ofInt_nat (w a : Nat) : BitVec.ofInt w (a : Int) = BitVec.ofNat w a := by
  apply BitVec.eq_of_toNat_eq
  simp

theorem or_nat (w a b : Nat) : (BitVec.ofInt w (a : Int) ||| BitVec.ofInt w (b : Int)).toNat = (a % 2 ^ w) ||| (b % 2 ^ w) := by simp
theorem and_nat (w a b : Nat) : (BitVec.ofInt w (a : Int) &&& BitVec.ofInt w (b : Int)).toNat = (a % 2 ^ w) &&& (b % 2 ^ w) := by simp
theorem xor_nat (w a b : Nat) : (BitVec.ofInt w (a : Int) ^^^ BitVec.ofInt w (b : Int)).toNat = (a % 2 ^ w) ^^^ (b % 2 ^ w) := by simp

/-- A number with more bytes to come. -/
theorem or128 (a : Nat) (h : a < 256) : a ||| 128 = a % 128 + 128 := by
  have : ∀ x : Fin 256, x.val ||| 128 = x.val % 128 + 128 := by decide +kernel
  exact this ⟨a, h⟩
theorem and127 (a : Nat) (h : a < 256) : a &&& 127 = a % 128 := by
  have : ∀ x : Fin 256, x.val &&& 127 = x.val % 128 := by decide +kernel
  exact this ⟨a, h⟩
theorem and128 (a : Nat) (h : a < 256) : a &&& 128 = if a < 128 then 0 else 128 := by
  have : ∀ x : Fin 256, x.val &&& 128 = if x.val < 128 then 0 else 128 := by decide +kernel
  exact this ⟨a, h⟩

def bs (l : List Nat) : List SV := l.map fun n : Nat => .int .u8 (n : Int)
@[simp] theorem bs_length (l : List Nat) : (bs l).length = l.length := by simp [bs]
@[simp] theorem bs_nil : bs [] = [] := rfl
theorem bs_append (a b : List Nat) : bs (a ++ b) = bs a ++ bs b := by simp [bs]
theorem bs_cons (a : Nat) (b : List Nat) : bs (a :: b) = .int .u8 a :: bs b := rfl
def sOf (l : List Nat) : ByteArray := ⟨(l.map fun n => UInt8.ofNat n).toArray⟩
@[simp] theorem bs_byte (l : List Nat) : ∀ x ∈ bs l, isByte x := by
  intro x hx
  simp only [bs, List.mem_map] at hx
  obtain ⟨n, _, rfl⟩ := hx
  trivial
theorem bs_str (l : List Nat) : (⟨((bs l).map byteOf).toArray⟩ : ByteArray) = sOf l := by
  simp [bs, sOf, byteOf, Function.comp_def]

def layN (u : Nat) : List Nat := if u < 128 then [u] else (u % 128 + 128) :: layN (u / 128)
termination_by u
decreasing_by omega

theorem layN_small {u : Nat} (h : u < 128) : layN u = [u] := by rw [layN, if_pos h]
theorem layN_big {u : Nat} (h : ¬ u < 128) : layN u = (u % 128 + 128) :: layN (u / 128) := by rw [layN, if_neg h]
theorem layN_length : ∀ (k u : Nat), u < 128 ^ k → (layN u).length ≤ max 1 k
  | 0, u, h => by rw [layN_small (by simp at h; omega)]; simp
  | k + 1, u, h => by
    by_cases q : u < 128
    · rw [layN_small q]; simp
    · rw [layN_big q]
      have hk : k ≠ 0 := by rintro rfl; simp at h; omega
      have := layN_length k (u / 128) (by rw [Nat.pow_succ] at h; omega)
      simp only [List.length_cons]
      omega
theorem layN_le10 {u : Nat} (h : u < 18446744073709551616) : (layN u).length ≤ 10 := by
  have := layN_length 10 u (by omega)
  omega
theorem layN_pos (u : Nat) : 1 ≤ (layN u).length := by
  rw [layN]; split <;> simp
end Go.Av
namespace Go.Av
theorem w8_or128 (v : Nat) : IntKind.u8.wrap ↑((IntKind.u8.wrap ↑v % 2 ^ IntKind.u8.bits).toNat ||| 128 % 2 ^ IntKind.u8.bits) = ((v % 128 + 128 : Nat) : Int) := by
  have e1 : (IntKind.u8.wrap ↑v % 2 ^ IntKind.u8.bits).toNat = v % 256 := by rw [IntKind.wrap_u8]; simp [IntKind.bits]; omega
  rw [e1, show (128 % 2 ^ IntKind.u8.bits) = 128 from rfl, or128 _ (by omega), IntKind.wrap_u8]
  omega
theorem w8_nat (v : Nat) : IntKind.u8.wrap (v : Int) = ((v % 256 : Nat) : Int) := by rw [IntKind.wrap_u8]; omega
theorem fdiv_nat (v m : Nat) : (v : Int).fdiv (m : Int) = ((v / m : Nat) : Int) := by
  rw [Int.fdiv_eq_ediv_of_nonneg _ (by omega)]; omega
theorem w8_of_add (v : Nat) : IntKind.u8.wrap ((v : Int) % 128 + 128) = ((v % 128 + 128 : Nat) : Int) := by rw [IntKind.wrap_u8]; omega
end Go.Av
namespace Go.Av
theorem xor_ones (a : Nat) (h : a < 18446744073709551616) : a ^^^ 18446744073709551615 = 18446744073709551615 - a := by
  have h1 : (BitVec.ofNat 64 a ^^^ BitVec.allOnes 64).toNat = (~~~ BitVec.ofNat 64 a).toNat := by rw [BitVec.xor_allOnes]
  simp only [BitVec.toNat_xor, BitVec.toNat_ofNat, BitVec.toNat_allOnes, BitVec.toNat_not] at h1
  rw [Nat.mod_eq_of_lt (by omega)] at h1
  omega
theorem tmod_nat (v m : Nat) : ((v : Int).tmod (m : Int)) = ((v % m : Nat) : Int) := by
  rw [Int.tmod_eq_emod_of_nonneg (by omega)]; omega
def wid (w : Int) : Nat := if w < 0 then 0 else if 8 < w then 8 else w.toNat
def zig (n : Int) : Nat := if 0 ≤ n then (2 * n).toNat else (-2 * n - 1).toNat
def zag (u : Nat) : Int := if u % 2 = 0 then ((u / 2 : Nat) : Int) else -((u / 2 : Nat) : Int) - 1
theorem zag_zig (n : Int) : zag (zig n) = n := by
  unfold zag zig
  by_cases h : 0 ≤ n
  · simp only [h, if_true]
    rw [if_pos (by omega)]; omega
  · simp only [h, if_false]
    rw [if_neg (by omega)]; omega
theorem zig_lt {n : Int} (h0 : -9223372036854775808 ≤ n) (h1 : n < 9223372036854775808) : zig n < 18446744073709551616 := by
  unfold zig; split <;> omega
theorem zag_ge {u : Nat} (h : u < 18446744073709551616) : -9223372036854775808 ≤ zag u ∧ zag u < 9223372036854775808 := by
  unfold zag; split <;> omega
theorem zig_xor {n : Int} (h0 : -9223372036854775808 ≤ n) (h1 : n < 9223372036854775808) : IntKind.u64.wrap
      ↑((IntKind.u64.wrap (IntKind.u64.wrap n * 2 ^ min 1 IntKind.u64.bits) % 2 ^ IntKind.u64.bits).toNat ^^^
          (IntKind.u64.wrap (n.fdiv (2 ^ min 63 IntKind.i64.bits)) % 2 ^ IntKind.u64.bits).toNat) =
    ↑(zig n) := by
  have e1 : (IntKind.u64.wrap (IntKind.u64.wrap n * 2 ^ min 1 IntKind.u64.bits) % 2 ^ IntKind.u64.bits).toNat = ((2 * n) % 18446744073709551616).toNat := by
    rw [IntKind.wrap_u64, IntKind.wrap_u64]; simp [IntKind.bits]; omega
  have e2 : (IntKind.u64.wrap (n.fdiv (2 ^ min 63 IntKind.i64.bits)) % 2 ^ IntKind.u64.bits).toNat = if 0 ≤ n then 0 else 18446744073709551615 := by
    have : (2 ^ min 63 IntKind.i64.bits : Int) = 9223372036854775808 := by decide
    rw [this, Int.fdiv_eq_ediv_of_nonneg _ (by omega), IntKind.wrap_u64]
    simp [IntKind.bits]
    split <;> omega
  rw [e1, e2]
  unfold zig
  by_cases h : 0 ≤ n
  · simp only [h, if_true, Nat.xor_zero]; rw [IntKind.wrap_u64]; omega
  · simp only [h, if_false]; rw [xor_ones _ (by omega), IntKind.wrap_u64]; omega
theorem zag_xor {u : Nat} (hu : u < 18446744073709551616) : IntKind.i64.wrap
      ↑((IntKind.i64.wrap ((↑u : Int).fdiv (2 ^ min 1 IntKind.u64.bits)) % 2 ^ IntKind.i64.bits).toNat ^^^
          (IntKind.i64.wrap
                (-IntKind.i64.wrap (IntKind.u64.wrap ↑(u % 2 ^ IntKind.u64.bits &&& 1 % 2 ^ IntKind.u64.bits))) %
              2 ^ IntKind.i64.bits).toNat) =
    zag u := by
  have e0 : (2 ^ min 1 IntKind.u64.bits : Int) = 2 := by decide
  have e1 : (IntKind.i64.wrap ((↑u : Int).fdiv (2 ^ min 1 IntKind.u64.bits)) % 2 ^ IntKind.i64.bits).toNat = u / 2 := by
    rw [e0, Int.fdiv_eq_ediv_of_nonneg _ (by omega), IntKind.wrap_i64]; simp [IntKind.bits]; omega
  have e2 : (u % 2 ^ IntKind.u64.bits &&& 1 % 2 ^ IntKind.u64.bits) = u % 2 := by
    rw [show (1 % 2 ^ IntKind.u64.bits) = 1 from rfl, Nat.and_one_is_mod]; simp [IntKind.bits]
  have e3 : (IntKind.i64.wrap (-IntKind.i64.wrap (IntKind.u64.wrap ↑(u % 2 ^ IntKind.u64.bits &&& 1 % 2 ^ IntKind.u64.bits))) % 2 ^ IntKind.i64.bits).toNat = if u % 2 = 0 then 0 else 18446744073709551615 := by
    rw [e2, IntKind.wrap_u64, IntKind.wrap_i64, IntKind.wrap_i64]; simp [IntKind.bits]; split <;> omega
  rw [e1, e3]
  unfold zag
  by_cases h : u % 2 = 0
  · simp only [h, if_true, Nat.xor_zero]; rw [IntKind.wrap_i64]; omega
  · simp only [h, if_false]; rw [xor_ones _ (by omega), IntKind.wrap_i64]; omega
end Go.Av

/- Plain facts on numbers as bytes. -/
set_option linter.unusedSimpArgs false
namespace Go.Av


def Bytes (l : List Nat) : Prop := ∀ c ∈ l, c < 256
theorem Bytes.append {a b : List Nat} (h : Bytes a) (k : Bytes b) : Bytes (a ++ b) := fun c hc => by
  rcases List.mem_append.1 hc with q | q
  · exact h c q
  · exact k c q
theorem Bytes.take {a : List Nat} (h : Bytes a) (n : Nat) : Bytes (a.take n) := fun c hc => h c (List.mem_of_mem_take hc)
theorem Bytes.drop {a : List Nat} (h : Bytes a) (n : Nat) : Bytes (a.drop n) := fun c hc => h c (List.mem_of_mem_drop hc)
theorem Bytes.get {a : List Nat} (h : Bytes a) {i : Nat} (hi : i < a.length) : a[i] < 256 := h _ (List.getElem_mem hi)

theorem layN_bytes (u : Nat) : Bytes (layN u) := by
  induction u using Nat.strongRecOn with
  | _ u ih =>
    by_cases h : u < 128
    · rw [layN_small h]; intro c hc; simp at hc; omega
    · rw [layN_big h]
      intro c hc
      rcases List.mem_cons.1 hc with rfl | hc
      · omega
      · exact ih (u / 128) (by omega) c hc

theorem sOf_toList (l : List Nat) : (sOf l).toList = l.map UInt8.ofNat := by
  simp [sOf, ByteArray.toList_eq]
theorem ofNat_inj {a b : Nat} (ha : a < 256) (hb : b < 256) (h : UInt8.ofNat a = UInt8.ofNat b) : a = b := by
  have := congrArg UInt8.toNat h
  simp at this
  omega
theorem map_ofNat_inj : ∀ {a b : List Nat}, Bytes a → Bytes b → a.map UInt8.ofNat = b.map UInt8.ofNat → a = b
  | [], [], _, _, _ => rfl
  | [], _ :: _, _, _, h => by simp at h
  | _ :: _, [], _, _, h => by simp at h
  | x :: a, y :: b, ha, hb, h => by
    simp only [List.map_cons, List.cons.injEq] at h
    rw [ofNat_inj (ha x (by simp)) (hb y (by simp)) h.1, map_ofNat_inj (fun c hc => ha c (by simp [hc])) (fun c hc => hb c (by simp [hc])) h.2]
theorem sOf_eq {a b : List Nat} (ha : Bytes a) (hb : Bytes b) : ((sOf a).toList == (sOf b).toList) = decide (a = b) := by
  rw [sOf_toList, sOf_toList]
  by_cases h : a = b
  · subst h; simp
  · simp only [h, decide_false, beq_eq_false_iff_ne, ne_eq]
    exact fun q => h (map_ofNat_inj ha hb q)

/-! ### numbers of a set width -/
def fixL : Nat → Nat → List Nat
  | 0, _ => []
  | k + 1, u => fixL k (u / 256) ++ [u % 256]
@[simp] theorem fixL_length : ∀ (k u : Nat), (fixL k u).length = k
  | 0, _ => rfl
  | k + 1, u => by simp [fixL, fixL_length k]
theorem fixL_bytes : ∀ (k u : Nat), Bytes (fixL k u)
  | 0, _ => fun c hc => by simp [fixL] at hc
  | k + 1, u => (fixL_bytes k _).append (fun c hc => by simp at hc; omega)
theorem fixL_cons : ∀ (k u : Nat), fixL (k + 1) u = (u / 256 ^ k % 256) :: fixL k u
  | 0, u => by simp [fixL]
  | k + 1, u => by
    rw [fixL, fixL_cons k (u / 256), fixL]
    rw [Nat.pow_succ, Nat.mul_comm, ← Nat.div_div_eq_div_mul]
    rfl
theorem fixL_mod : ∀ (k u : Nat), fixL k (u % 256 ^ k) = fixL k u
  | 0, _ => rfl
  | k + 1, u => by
    rw [fixL, fixL]
    have e1 : u % 256 ^ (k + 1) / 256 = (u / 256) % 256 ^ k := by
      rw [Nat.pow_succ, Nat.mul_comm, Nat.mod_mul_right_div_self]
    have e2 : u % 256 ^ (k + 1) % 256 = u % 256 := by
      rw [Nat.pow_succ]
      exact Nat.mod_mul_left_mod ..
    rw [e1, e2, fixL_mod k]

def unL (l : List Nat) : Nat := l.foldl (fun n c => n * 256 + c) 0
theorem foldl_un : ∀ (l : List Nat) (n : Nat), l.foldl (fun n c => n * 256 + c) n = n * 256 ^ l.length + unL l
  | [], n => by simp [unL]
  | c :: l, n => by
    have e : unL (c :: l) = c * 256 ^ l.length + unL l := by
      show (c :: l).foldl _ 0 = _
      rw [List.foldl_cons, foldl_un l, Nat.zero_mul, Nat.zero_add]
    rw [List.foldl_cons, foldl_un l, e, List.length_cons, Nat.pow_succ, Nat.add_mul, Nat.mul_assoc, Nat.mul_comm 256 (256 ^ l.length), Nat.add_assoc]
theorem unL_append (a b : List Nat) : unL (a ++ b) = unL a * 256 ^ b.length + unL b := by
  rw [unL, List.foldl_append, foldl_un]; rfl
theorem unL_snoc (a : List Nat) (c : Nat) : unL (a ++ [c]) = unL a * 256 + c := by rw [unL_append]; simp [unL]
theorem unL_fixL : ∀ (k u : Nat), unL (fixL k u) = u % 256 ^ k
  | 0, u => by simp [fixL, unL, Nat.mod_one]
  | k + 1, u => by
    rw [fixL, unL_snoc, unL_fixL k]
    have : 256 ^ (k + 1) = 256 * 256 ^ k := by rw [Nat.pow_succ, Nat.mul_comm]
    rw [this, Nat.mod_mul]; omega
def unF (l : List Nat) : Nat := unL l % 18446744073709551616
theorem unF_last8 (l : List Nat) : unF (l.drop (l.length - 8)) = unF l := by
  by_cases h : l.length ≤ 8
  · rw [show l.length - 8 = 0 by omega, List.drop_zero]
  · conv => rhs; rw [← List.take_append_drop (l.length - 8) l]
    unfold unF
    rw [unL_append, List.length_drop, show l.length - (l.length - 8) = 8 by omega]
    omega
theorem unF_lt (l : List Nat) : unF l < 18446744073709551616 := Nat.mod_lt _ (by decide)

theorem or_add {a c k : Nat} (h : c < 2 ^ k) (ha : a % 2 ^ k = 0) : a ||| c = a + c := by
  obtain ⟨q, rfl⟩ : ∃ q, a = q * 2 ^ k := ⟨a / 2 ^ k, by have := Nat.div_add_mod a (2 ^ k); rw [ha] at this; rw [Nat.mul_comm]; omega⟩
  rw [← Nat.shiftLeft_eq, Nat.shiftLeft_add_eq_or_of_lt h]

/-! ### numbers of few bytes -/
def valN : List Nat → Nat
  | [] => 0
  | c :: r => c % 128 + 128 * valN r
theorem valN_append : ∀ (a b : List Nat), valN (a ++ b) = valN a + 128 ^ a.length * valN b
  | [], b => by simp [valN]
  | c :: a, b => by
    simp only [List.cons_append, valN, valN_append a b, List.length_cons, Nat.pow_succ, Nat.mul_add]
    rw [Nat.mul_comm (128 ^ a.length) 128, Nat.mul_assoc]; omega
theorem valN_lt : ∀ (a : List Nat), valN a < 128 ^ a.length
  | [] => by simp [valN]
  | c :: a => by
    have := valN_lt a
    simp only [valN, List.length_cons, Nat.pow_succ]; omega
theorem valN_layN (u : Nat) : valN (layN u) = u := by
  induction u using Nat.strongRecOn with
  | _ u ih =>
    by_cases h : u < 128
    · rw [layN_small h]; simp [valN]; omega
    · rw [layN_big h, valN, ih (u / 128) (by omega)]; omega

/-- Where the first byte stands that is the last one of its number. -/
def endN : List Nat → Nat
  | [] => 0
  | c :: r => if c < 128 then 0 else endN r + 1
theorem endN_le : ∀ (l : List Nat), endN l ≤ l.length
  | [] => Nat.le_refl _
  | c :: r => by simp only [endN, List.length_cons]; have := endN_le r; split <;> omega
theorem endN_big : ∀ (l : List Nat) (i : Nat) (h : i < l.length), i < endN l → 128 ≤ l[i]
  | c :: r, 0, h, q => by simp only [endN] at q; split at q <;> simp at * ; omega
  | c :: r, i + 1, h, q => by
    simp only [endN] at q
    split at q
    · omega
    · simpa using endN_big r i (by simpa using h) (by omega)
theorem endN_small : ∀ (l : List Nat) (h : endN l < l.length), l[endN l] < 128
  | c :: r, h => by
    simp only [endN] at h ⊢
    by_cases q : c < 128
    · simp [q]
    · simp only [q, if_false] at h ⊢
      simpa using endN_small r (by simpa using h)
theorem endN_eq {l : List Nat} {i : Nat} (h1 : ∀ j (h : j < l.length), j < i → 128 ≤ l[j]) (h2 : ∀ h : i < l.length, l[i] < 128) (h3 : i ≤ l.length) : endN l = i := by
  rcases Nat.lt_trichotomy (endN l) i with q | q | q
  · have := endN_small l (by omega); have := h1 _ (by omega) q; omega
  · exact q
  · have h4 := endN_le l
    have := endN_big l i (by omega) q; have := h2 (by omega); omega

/-- What any bytes begin with: the number, its bytes, the error. -/
def getN (l : List Nat) : Int × Nat × Int :=
  let n := endN (l.take 10)
  if n < (l.take 10).length then
    let u := valN (l.take (n + 1)) % 18446744073709551616
    if layN u = l.take (n + 1) then (zag u, n + 1, 0) else (0, 0, 4)
  else if l.length < 10 then (0, 0, 3) else (0, 0, 4)

theorem WkR_refl (a : RV) : WkR a a := by
  unfold WkR
  split <;> simp_all
theorem WkRs_refl : ∀ (l : List RV), WkRs l l
  | [] => trivial
  | a :: r => ⟨WkR_refl a, WkRs_refl r⟩
theorem WkRs_eq {l l' : List RV} (h : l = l') : WkRs l l' := h ▸ WkRs_refl l
theorem wrap_i64_small (n : Nat) (h : n < 9223372036854775808) : IntKind.i64.wrap (n : Int) = n := by rw [IntKind.wrap_i64]; omega
theorem wrap_i64_in {n : Int} (h0 : -9223372036854775808 ≤ n) (h1 : n < 9223372036854775808) : IntKind.i64.wrap n = n := by rw [IntKind.wrap_i64]; omega
theorem wrap_u64_in {n : Int} (h0 : 0 ≤ n) (h1 : n < 18446744073709551616) : IntKind.u64.wrap n = n := by rw [IntKind.wrap_u64]; omega

theorem two_pow_nat (n : Nat) : (2 : Int) ^ n = ((2 ^ n : Nat) : Int) := by simp
theorem shr8 (u i : Nat) (hi : i ≤ 8) : IntKind.u8.wrap ((u : Int).fdiv (2 ^ min (8 * i) IntKind.u64.bits)) = ((u / 256 ^ i % 256 : Nat) : Int) := by
  have h1 : min (8 * i) IntKind.u64.bits = 8 * i := by simp [IntKind.bits]; omega
  have h2 : (2 : Nat) ^ (8 * i) = 256 ^ i := by rw [Nat.pow_mul]
  rw [h1, two_pow_nat, h2, fdiv_nat, w8_nat]
theorem set_zero (k x : Nat) (l : List Nat) : (List.replicate (k + 1) 0 ++ l).set k x = List.replicate k 0 ++ x :: l := by
  rw [List.replicate_succ', List.append_assoc, List.set_append_right _ _ (by simp)]
  simp
theorem bs_set (l : List Nat) (k x : Nat) : (bs l).set k (.int .u8 x) = bs (l.set k x) := by simp [bs, List.map_set]

@[simp] theorem bs_get (l : List Nat) (i : Nat) (h : i < (bs l).length) : (bs l)[i] = .int .u8 ((l[i]'(by simpa using h) : Nat) : Int) := by simp [bs]
theorem unF_step (l : List Nat) (i : Nat) (h : i < l.length) : unF (l.take (i + 1)) = (unF (l.take i) * 256 + l[i]) % 18446744073709551616 := by
  rw [List.take_succ_eq_append_getElem h]
  unfold unF
  rw [unL_snoc]
  omega
theorem shl8_or (n c : Nat) (hn : n < 18446744073709551616) (hc : c < 256) : IntKind.u64.wrap ((((IntKind.u64.wrap (n * 2 ^ min 8 IntKind.u64.bits)) % 2 ^ IntKind.u64.bits).toNat ||| (IntKind.u64.wrap (c : Int) % 2 ^ IntKind.u64.bits).toNat : Nat) : Int) = (((n * 256 + c) % 18446744073709551616 : Nat) : Int) := by
  have e1 : ((IntKind.u64.wrap (n * 2 ^ min 8 IntKind.u64.bits)) % 2 ^ IntKind.u64.bits).toNat = (n * 256) % 18446744073709551616 := by
    rw [IntKind.wrap_u64]; simp [IntKind.bits]; omega
  have e2 : (IntKind.u64.wrap (c : Int) % 2 ^ IntKind.u64.bits).toNat = c := by rw [IntKind.wrap_u64]; simp [IntKind.bits]; omega
  rw [e1, e2, or_add (k := 8) (by omega) (by omega), IntKind.wrap_u64]
  omega

theorem getN_found {l : List Nat} {i : Nat} (hi : i < l.length) (h10 : i < 10) (hb : ∀ j (h : j < l.length), j < i → 128 ≤ l[j]) (hs : l[i] < 128) :
    getN l = if layN (valN (l.take (i + 1)) % 18446744073709551616) = l.take (i + 1) then (zag (valN (l.take (i + 1)) % 18446744073709551616), i + 1, 0) else (0, 0, 4) := by
  have he : endN (l.take 10) = i := endN_eq (fun j h q => by
    rw [List.getElem_take]; exact hb j (by simp at h; omega) q) (fun h => by rw [List.getElem_take]; exact hs) (by simp; omega)
  simp only [getN, he]
  rw [if_pos (by simp; omega)]
theorem getN_none {l : List Nat} (hb : ∀ j (h : j < l.length), j < 10 → 128 ≤ l[j]) : getN l = if l.length < 10 then (0, 0, 3) else (0, 0, 4) := by
  have he : endN (l.take 10) = (l.take 10).length := endN_eq (fun j h q => by
    rw [List.getElem_take]; exact hb j (by simp at h; omega) (by simp at h; omega)) (fun h => absurd h (Nat.lt_irrefl _)) (Nat.le_refl _)
  simp only [getN, he]
  rw [if_neg (by simp)]
theorem valN_snoc (l : List Nat) (i : Nat) (h : i < l.length) : valN (l.take (i + 1)) = valN (l.take i) + 128 ^ i * (l[i] % 128) := by
  rw [List.take_succ_eq_append_getElem h, valN_append]
  simp [valN, Nat.min_eq_left (Nat.le_of_lt h)]

theorem w8_and127 (c : Nat) (h : c < 256) : IntKind.u8.wrap ((c % 2 ^ IntKind.u8.bits &&& 127 % 2 ^ IntKind.u8.bits : Nat) : Int) = ((c % 128 : Nat) : Int) := by
  rw [show 127 % 2 ^ IntKind.u8.bits = 127 from rfl, and127 _ (by simp [IntKind.bits]; omega), IntKind.wrap_u8]; simp [IntKind.bits]; omega
theorem w8_and128 (c : Nat) (h : c < 256) : IntKind.u8.wrap ((c % 2 ^ IntKind.u8.bits &&& 128 % 2 ^ IntKind.u8.bits : Nat) : Int) = if c < 128 then 0 else 128 := by
  have e : c % 2 ^ IntKind.u8.bits = c := by simp [IntKind.bits]; omega
  rw [show 128 % 2 ^ IntKind.u8.bits = 128 from rfl, e, and128 _ h, IntKind.wrap_u8]
  split <;> rfl
theorem u64_val_step (l : List Nat) (i : Nat) (h : i < l.length) (h9 : i < 10) :
    IntKind.u64.wrap (((valN (l.take i) % 18446744073709551616 % 2 ^ IntKind.u64.bits) ||| (IntKind.u64.wrap (IntKind.u64.wrap ((l[i] % 128 : Nat) : Int) * 2 ^ min (7 * i) IntKind.u64.bits) % 2 ^ IntKind.u64.bits).toNat : Nat) : Int) = ((valN (l.take (i + 1)) % 18446744073709551616 : Nat) : Int) := by
  have hm : min (7 * i) IntKind.u64.bits = 7 * i := by simp [IntKind.bits]; omega
  have hp : (2 : Nat) ^ (7 * i) = 128 ^ i := by rw [Nat.pow_mul]
  have hv : valN (l.take i) < 128 ^ i := by
    have := valN_lt (l.take i)
    rwa [List.length_take, Nat.min_eq_left (Nat.le_of_lt h)] at this
  have h63 : 128 ^ i ≤ 128 ^ 9 := Nat.pow_le_pow_right (by decide) (by omega)
  have e1 : (valN (l.take i) % 18446744073709551616) % 2 ^ IntKind.u64.bits = valN (l.take i) := by
    simp [IntKind.bits]; omega
  have e2 : (IntKind.u64.wrap (IntKind.u64.wrap ((l[i] % 128 : Nat) : Int) * 2 ^ min (7 * i) IntKind.u64.bits) % 2 ^ IntKind.u64.bits).toNat = (128 ^ i * (l[i] % 128)) % 18446744073709551616 := by
    rw [hm, two_pow_nat, hp, IntKind.wrap_u64, IntKind.wrap_u64]
    generalize 128 ^ i = q at *
    have : ((l[i] % 128 : Nat) : Int) % 18446744073709551616 = ((l[i] % 128 : Nat) : Int) := by omega
    have hb : (2 : Int) ^ IntKind.u64.bits = 18446744073709551616 := by decide
    rw [this, ← Int.natCast_mul, Nat.mul_comm q, hb]
    generalize l[i] % 128 * q = n
    omega
  have hdiv : (128 ^ i * (l[i] % 128)) % 18446744073709551616 % 2 ^ (7 * i) = 0 := by
    have : 18446744073709551616 = 2 ^ (7 * i) * 2 ^ (64 - 7 * i) := by rw [← Nat.pow_add]; rw [show 7 * i + (64 - 7 * i) = 64 by omega]
    rw [this, hp, Nat.mul_mod_mul_left]
    exact Nat.mul_mod_right ..
  rw [e1, e2, valN_snoc l i h, Nat.or_comm, or_add (k := 7 * i) (by rw [hp]; exact hv) hdiv, IntKind.wrap_u64]
  omega
end Go.Av

/- Compact: what is light. -/



set_option linter.unusedSimpArgs false
set_option linter.unusedVariables false
set_option maxRecDepth 100000
set_option maxHeartbeats 4000000
namespace Go.Proofs.Ytikidcgnbcibpaa
open Go.RowKit
open Go.Av Go.Cp
theorem wrap_succ {i n : Nat} (h : i < n) (hn : n < 4611686018427387904) : IntKind.i64.wrap ((i : Int) + 1) = ((i + 1 : Nat) : Int) := by rw [IntKind.wrap_i64]; omega
theorem RcL_get (l : List Rec) {i : Nat} (h : i < l.length) : (RcL l)[i]?.getD .undef = (l.getD i rec0).sv := by simp [RcL, List.getD_eq_getElem?_getD, h]
theorem BtL_get (l : List Bat) {i : Nat} (h : i < l.length) : (BtL l)[i]?.getD .undef = (l.getD i bat0).sv := by simp [BtL, List.getD_eq_getElem?_getD, h]
theorem bsv_inj : ∀ a b : Rec, a.sv = b.sv → a = b := fun a b h => by
  obtain ⟨a0, a1, a2, a3, a4, a5⟩ := a
  obtain ⟨b0, b1, b2, b3, b4, b5⟩ := b
  simp [Rec.sv, Rec.cells] at h
  obtain ⟨rfl, rfl, rfl, rfl, rfl, rfl⟩ := h
  rfl
theorem RcL_inj : ∀ a b : List Rec, RcL a = RcL b → a = b := map_inj bsv_inj
def eR (r : Rec) : List SV := [r.sv]
theorem eR_inj : ∀ a b, eR a = eR b → a = b := fun a b h => bsv_inj a b (by simpa [eR] using h)
def eB (b : Bat) : List SV := [b.sv]
theorem eB_inj : ∀ a b, eB a = eB b → a = b := fun a b h => by
  obtain ⟨a0, a1, a2, a3, a4, a5⟩ := a
  obtain ⟨b0, b1, b2, b3, b4, b5⟩ := b
  simp [eB, Bat.sv, Bat.cells] at h
  obtain ⟨rfl, rfl, rfl, rfl, rfl, h⟩ := h
  rw [RcL_inj _ _ h]
theorem lightRec_pure (r : Rec) : Pure Try.prog 35 [r.sv] (.sv (.bool (decide ((r.key.size : Int) ≤ 200) && decide ((r.val.size : Int) ≤ 700)))) := by
  refine pure_go R0_ok Try.func35 Try.ntmps35 comp35 cres35 (by decide) (by simp) ?_
  simp [ac35, ar35, Rec.sv, Rec.cells]
noncomputable def RQ : Orc := { p := fun f l => match f with
    | 35 => row eR (fun r => (True, .sv (.bool (decide ((r.key.size : Int) ≤ 200) && decide ((r.val.size : Int) ≤ 700))))) l
    | _ => none }
theorem RQ_ok : RQ.ok Try.prog := by
  refine ⟨fun f l c rv h hc => ?_, fun _ _ _ _ _ _ h => (by cases h), fun _ _ _ _ h => (by cases h), fun _ h => (by cases h), fun _ _ _ _ _ _ h => (by cases h), fun _ _ _ _ _ _ _ h => (by cases h)⟩
  simp only [RQ] at h
  split at h
  · exact row_ok h hc (fun b _ => lightRec_pure b)
  · cases h
theorem RQ_35 (r : Rec) : RQ.p 35 [.agg [.int .i64 r.dl, .int .i64 r.tm, .bool r.kd, .str r.key, .bool r.dd, .str r.val]] = some (True, .sv (.bool (decide ((r.key.size : Int) ≤ 200) && decide ((r.val.size : Int) ≤ 700)))) := row_eq eR_inj _ r
def lightR (r : Rec) : Bool := decide ((r.key.size : Int) ≤ 200) && decide ((r.val.size : Int) ≤ 700)
def lightB (b : Bat) : Bool := decide (b.rs.length ≤ 40) && b.rs.all lightR
theorem all_drop (p : Rec → Bool) (l : List Rec) (i : Nat) (h : i < l.length) : (l.drop i).all p = (p (l.getD i rec0) && (l.drop (i + 1)).all p) := by
  rw [List.drop_eq_getElem_cons h]
  simp only [List.all_cons, List.getD_eq_getElem?_getD, List.getElem?_eq_getElem h, Option.getD_some]
theorem light_bat (b : Bat) : Pure Try.prog 28 [b.sv] (.sv (.bool (lightB b))) := by
  refine pure_go RQ_ok Try.func28 Try.ntmps28 comp28 cres28 (by decide) (by simp) ?_
  unfold lightB
  by_cases h0 : b.rs.length ≤ 40
  case neg =>
    have h0' : (40 : Int) < b.rs.length := by omega
    simp [ac28, ar28, Bat.sv, Bat.cells, h0, h0']
  have h0' : ¬ (40 : Int) < b.rs.length := by omega
  simp [ac28, ar28, Bat.sv, Bat.cells, h0, h0']
  refine awpR_loop (α := Nat) (fun i => i ≤ b.rs.length ∧ b.rs.all lightR = (b.rs.drop i).all lightR) (fun i => { n := 22, sl := [(1, .lptr 1 0), (3, .sv (.int .i64 i))], bx := [(1, b.cells.map .sv)], hp := fun _ => none })
    (fun i => b.rs.length - i) 0 ⟨by omega, rfl⟩ (by simp [Bat.cells]) ?_
  rintro i ⟨hi, he⟩
  by_cases h : i < b.rs.length
  · have h1 : (i : Int) < b.rs.length := by omega
    have hw : IntKind.i64.wrap ((i : Int) + 1) = ((i + 1 : Nat) : Int) := by rw [IntKind.wrap_i64]; omega
    have hg := RcL_get b.rs h
    have hiA : i < (RcL b.rs).length := by simpa using h
    have hg2 : (RcL b.rs)[i] = (b.rs.getD i rec0).sv := by rw [← hg, List.getElem?_eq_getElem hiA]; rfl
    rw [all_drop _ _ _ h] at he
    have hr := RQ_35 (b.rs.getD i rec0)
    generalize b.rs.getD i rec0 = r at hg hg2 he hr
    cases hq : lightR r with
    | true =>
      rw [hq, Bool.true_and] at he
      unfold lightR at hq
      rw [hq] at hr
      simp [Bat.cells, h1, hg, hg2, h, Rec.sv, Rec.cells, hw, hr, WkRs_refl]
      exact ⟨i + 1, ⟨by omega, he⟩, by omega, by omega⟩
    | false =>
      rw [hq, Bool.false_and] at he
      unfold lightR at hq
      rw [hq] at hr
      simp [Bat.cells, h1, hg, hg2, h, Rec.sv, Rec.cells, hw, hr, he]
  · have h1 : ¬ (i : Int) < b.rs.length := by omega
    obtain rfl : i = b.rs.length := by omega
    rw [List.drop_length] at he
    simp [h1, he, Bat.cells]

def lightA (l : List Bat) (n : Int) : Bool := decide ((l.length : Int) ≤ n) && l.all lightB
theorem all_dropB (l : List Bat) {i : Nat} (h : i < l.length) : (l.drop i).all lightB = (lightB (l.getD i bat0) && (l.drop (i + 1)).all lightB) := by
  rw [List.drop_eq_getElem_cons h, List.all_cons, List.getD_eq_getElem?_getD, List.getElem?_eq_getElem h]
  rfl
noncomputable def R90 : Orc := { p := fun f l => match f with
    | 28 => row eB (fun b => (True, .sv (.bool (lightB b)))) l
    | _ => none }
theorem R90_ok : R90.ok Try.prog := by
  refine ⟨fun f l c rv h hc => ?_, fun _ _ _ _ _ _ h => (by cases h), fun _ _ _ _ h => (by cases h), fun _ h => (by cases h), fun _ _ _ _ _ _ h => (by cases h), fun _ _ _ _ _ _ _ h => (by cases h)⟩
  simp only [R90] at h
  split at h
  · exact row_ok h hc (fun b _ => light_bat b)
  · cases h
theorem R90_28 (b : Bat) : R90.p 28 [.agg [.int .i64 b.ba, .int .i64 b.co, .int .i64 b.pr, .int .i64 b.ep, .int .i64 b.sq, .sl 6 (RcL b.rs)]] = some (True, .sv (.bool (lightB b))) := row_eq eB_inj _ b
theorem lightAll (l : List Bat) (n : Int) (hn : n < 4611686018427387904) : Pure Try.prog 17 [.sl 6 (BtL l), .int .i64 n] (.sv (.bool (lightA l n))) := by
  have e := R90_28
  have hR := R90_ok
  generalize R90 = R at hR e
  refine pure_go hR Try.func17 Try.ntmps17 comp17 cres17 (by decide) (by simp) ?_
  unfold lightA
  by_cases h0 : (l.length : Int) ≤ n
  case neg =>
    have h0' : n < (l.length : Int) := by omega
    simp [ac17, ar17, h0, h0']
  have h0' : ¬ n < (l.length : Int) := by omega
  have hl : l.length < 4611686018427387904 := by omega
  simp [ac17, ar17, h0, h0']
  refine awpR_loop (α := Nat) (fun i => i ≤ l.length ∧ l.all lightB = (l.drop i).all lightB) (fun i => { n := 22, sl := [(0, .sv (.sl 6 (BtL l))), (5, .sv (.int .i64 i))], bx := [], hp := fun _ => none })
    (fun i => l.length - i) 0 ⟨by omega, by simp⟩ (by simp) ?_
  rintro i ⟨hi, ha⟩
  by_cases h : i < l.length
  · have hlt : (i : Int) < l.length := by omega
    have hw := wrap_succ h hl
    have hg1 := BtL_get l h
    have e1 : (BtL l)[i]'(by simpa using h) = (l.getD i bat0).sv := by rw [← hg1, List.getElem?_eq_getElem]; rfl
    rw [all_dropB l h] at ha
    generalize l.getD i bat0 = x at *
    have e := e x
    cases q : lightB x with
    | true =>
      rw [q] at e ha
      rw [Bool.true_and] at ha
      simp [hlt, h, hg1, e1, Bat.sv, Bat.cells, e, q, hw]
      refine ⟨i + 1, ⟨by omega, ha⟩, by omega, by omega⟩
    | false =>
      rw [q] at e ha
      rw [Bool.false_and] at ha
      rw [ha]
      simp [hlt, h, hg1, e1, Bat.sv, Bat.cells, e, q]
  · obtain rfl : i = l.length := by omega
    have hlt : ¬ ((l.length : Nat) : Int) < l.length := by omega
    rw [List.drop_length] at ha
    rw [ha]
    simp [hlt]
end Go.Proofs.Ytikidcgnbcibpaa
