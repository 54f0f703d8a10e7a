import Derived.Test.YtikidcgnbcibpaaMCqE
import Derived.BigRegion

set_option linter.unusedVariables false
set_option linter.unusedSimpArgs false

/- Compact: CompactStays (the walk). -/


set_option linter.unusedSimpArgs false
set_option linter.unusedVariables false
set_option maxRecDepth 100000
set_option maxHeartbeats 40000000
namespace Go.Proofs.Ytikidcgnbcibpaa
open Go.RowKit
open Go.Av Go.Cp
def stL (l c : List Bat) (mb i n : Nat) : St := { n := 210, sl := [(0, .sv (.sl 6 (BtL l))), (7, .sv (.sl 6 (BtL c))), (8, .sv (.map mb)), (9, .sv (.int .i64 n)), (10, .sv (.int .i64 i))], bx := [], hp := fun _ => none }
def stB (l c : List Bat) (mb i n : Nat) (a0 a1 a2 a3 a4 : Int) (f : List Rec) : St := { n := 210, sl := [(0, .sv (.sl 6 (BtL l))), (7, .sv (.sl 6 (BtL c))), (8, .sv (.map mb)), (9, .sv (.int .i64 n)), (10, .sv (.int .i64 i)), (11, .lptr 11 0)], bx := [(11, [.sv (.int .i64 a0), .sv (.int .i64 a1), .sv (.int .i64 a2), .sv (.int .i64 a3), .sv (.int .i64 a4), .sv (.sl 6 (RcL f))])], hp := fun _ => none }
def stM (l c : List Bat) (mb i n : Nat) (a0 a1 a2 a3 a4 : Int) (f : List Rec) (k m : Nat) : St := { n := 210, sl := [(0, .sv (.sl 6 (BtL l))), (7, .sv (.sl 6 (BtL c))), (8, .sv (.map mb)), (9, .sv (.int .i64 n)), (10, .sv (.int .i64 i)), (11, .lptr 11 0), (12, .sv (.int .i64 k)), (13, .sv (.int .i64 m))], bx := [(11, [.sv (.int .i64 a0), .sv (.int .i64 a1), .sv (.int .i64 a2), .sv (.int .i64 a3), .sv (.int .i64 a4), .sv (.sl 6 (RcL f))])], hp := fun _ => none }
def stR (l c : List Bat) (mb i n : Nat) (a0 a1 a2 a3 a4 : Int) (f : List Rec) (k m : Nat) (r : Rec) : St := { n := 210, sl := [(0, .sv (.sl 6 (BtL l))), (7, .sv (.sl 6 (BtL c))), (8, .sv (.map mb)), (9, .sv (.int .i64 n)), (10, .sv (.int .i64 i)), (11, .lptr 11 0), (12, .sv (.int .i64 k)), (13, .sv (.int .i64 m)), (14, .lptr 14 0)], bx := [(14, [.sv (.int .i64 r.dl), .sv (.int .i64 r.tm), .sv (.bool r.kd), .sv (.str r.key), .sv (.bool r.dd), .sv (.str r.val)]), (11, [.sv (.int .i64 a0), .sv (.int .i64 a1), .sv (.int .i64 a2), .sv (.int .i64 a3), .sv (.int .i64 a4), .sv (.sl 6 (RcL f))])], hp := fun _ => none }
def stR2 (l c : List Bat) (mb i n : Nat) (a0 a1 a2 a3 a4 : Int) (f : List Rec) (k m : Nat) (r : Rec) : St := { stR l c mb i n a0 a1 a2 a3 a4 f k m r with sl := (190, .sv (.bool false)) :: (stR l c mb i n a0 a1 a2 a3 a4 f k m r).sl }
theorem stays_law {mu : Mem} {w0 : World} (hm : MemOK mu w0) {l : List Bat} {lp : Option Addr} {lc : Nat} (hr : Rep mu (.sl 6 (BtL l)) (.slice lp l.length lc)) (now grace : Int) :
    Calls Try.prog 4 #[.slice lp l.length lc, .int .i64 now, .int .i64 grace] w0 (LawP w0) := by
  have HA := asideI awake_raw
  have HMM := asideI (fun (W : World) (k : Ext (fun _ => False) w0 W) => memX hm k (fun _ e => e.elim))
  have HR := asideI hr
  have HB := asideI (bats_of hm hr)
  have HLI := asideI (light_at hm hr)
  clear hm hr
  cases hL : lightL l with
  | false =>
    rw [hL] at HLI
    clear hL
    go_enter Try.func4, Try.ntmps4
    go_wp2_with (first
      | (go_at_call 7; refine (HA.out _).mono ?_; rintro e w2 ⟨rfl, hx⟩; have HX2 := asideI (HX1.out.trans hx); clear hx; simp only [])
      | (go_at_call 6; refine HLI.out.mono ?_; rintro e w1 ⟨rfl, hx⟩; have HX1 := asideI hx; clear hx; simp only [])
      | go_in)
    go_ret
    exact ⟨rfl, HX2.out⟩
  | true =>
    rw [hL] at HLI
    have HOK := asideI (light_ok hL)
    have hll := HOK.out.l
    clear hL
    go_enter Try.func4, Try.ntmps4
    go_wp2_with (first
      | (go_at_call 8
         refine (last_raw (lc := lc) (HB.out.ext HX2.out) HOK.out).mono ?_
         rintro e w3 ⟨mb, nn, rfl, hmb, hm3, hx⟩
         have HM3 := asideI hm3
         have HX3 := asideI hx
         clear hm3 hx hmb
         simp only [])
      | (go_at_call 12
         refine (clean_raw (lc := lc) (HB.out.ext HX1.out) HOK.out now grace).mono ?_
         rintro e w2 hCL
         obtain ⟨cp, cc, rfl, hrc, hx⟩ := clean_rep hCL
         have HX2 := asideI (HX1.out.trans hx)
         have HRL := asideI (Rep.mono (le_all (HMM.out _ HX2.out)) HR.out)
         have HRC := asideI hrc
         have hct := cleanT_prs l now grace
         have hcl2 := (clean_prs (prs l) now grace l).2.1
         rw [hct] at hcl2
         have hcl3 : ∀ i, i < (cleanS l now grace).length → ((cleanS l now grace).getD i bat0).rs.length ≤ 50000 := fun i hi => by
           have := Nat.le_trans (prs_len hi (Nat.le_refl _)) (HOK.out.clean now grace).n
           rw [List.length_append, pr1_len] at this
           omega
         have HCT := asideI hct
         clear hCL hrc hx hct
         generalize cleanS l now grace = c at HRC HCT hcl2 hcl3
         simp only [])
      | (go_at_call 6; refine HLI.out.mono ?_; rintro e w1 ⟨rfl, hx⟩; have HX1 := asideI hx; clear hx; simp only [])
      | go_in)
    rename_i K hK
    have hmw3 := memX (memAll_ok w2) HX3.out (fun _ e => e.elim)
    have hx03 := HX2.out.trans HX3.out
    have HN := asideI hcl3
    refine wp_mono ((?hSW : SW Try.prog w3 (memAll w2) 210 _ (fun e st => e = .exit 0 ∧ Wk st (stL l c mb l.length c.length)) (stL l c mb 0 0)) (g0 (memAll w2) w3) _ _ ?hsim rfl) ?hK
    case hsim =>
      refine sim_start (n := 210) hmw3 rfl rfl (sl := (stL l c mb 0 0).sl) (fun p hp => ?_)
      simp only [stL] at hp
      simp only [List.mem_cons, List.not_mem_nil, or_false] at hp
      rcases hp with rfl | rfl | rfl | rfl | rfl
      · exact HRL.out
      · exact HRC.out
      · exact .map mb
      · exact .int _ _
      · exact .int _ _
    case hK =>
      intro e a' w' hp
      cases e with
      | normal => obtain ⟨g', st', q1, q2, q3, q4⟩ := hp; cases q3
      | ret => obtain ⟨g', st', q1, q2, q3, q4⟩ := hp; cases q3
      | exit id =>
        obtain ⟨g', st', q1, q2, q3, q4⟩ := hp
        cases q3
        refine hK a' w' ?_
        refine wp_mono ((SW.ac RS_ok (ac := p4_18) (by kernel_rfl) ?_ : SW Try.prog w3 (memAll w2) 210 _ (Done [.t 6] (.sv (.bool true))) (stL l c mb l.length c.length)) g' a' w' (q1.wk q4) (q4.1.trans q2)) (fun e a w hp => end_true (rs := [.t 6]) (by kernel_rfl) (by decide) hx03 hp)
        have r7 := RS_7
        generalize RS = R at r7
        simp [p4_18, stL, r7]
      | goto l => exact hp.elim
      | panic ch => exact hp.elim
      | outgrown => exact hp.elim
    case hSW =>
      clear hK
      refine SW.loop (α := Nat × Nat) (fun p => p.1 ≤ l.length ∧ p.2 = (cleanT (prs l) now grace (l.take p.1)).length) (fun p => stL l c mb p.1 p.2) (fun p => l.length - p.1) (0, 0) ⟨Nat.zero_le _, rfl⟩ (by simp [stL]) ?_
      rintro ⟨i, n⟩ ⟨hi, hn⟩
      simp only at hi hn ⊢
      refine SW.hide fun Q hQ => ?_
      refine SW.seq_k fun K1 hK1 => SW.ac RS_ok (ac := p4_6) (by kernel_rfl) ?_
      by_cases h : i < l.length
      · have hlt : (i : Int) < l.length := by omega
        have hwi : IntKind.i64.wrap ((i : Int) + 1) = (i : Int) + 1 := by rw [IntKind.wrap_i64]; omega
        simp [p4_6, stL, hlt]
        refine hK1 _ (SW.seq_k fun K2 hK2 => SW.block ?_)
        clear hK1
        replace hQ := hQ .normal
        simp only at hQ
        have hK3 : ∀ n', n' = (cleanT (prs l) now grace (l.take (i + 1))).length → ∀ st', Wk st' (stL l c mb i n') → K2 st' := fun n' hn' st' hw => by
          refine hK2 st' (SW.wk _ hw (SW.ac RS_ok (ac := p4_17) (by kernel_rfl) ?_))
          simp [p4_17, stL, hwi]
          refine hQ _ ⟨(i + 1, n'), ⟨h, hn'⟩, by simp; omega, by simp [stL]⟩
        clear hK2 hQ
        obtain ⟨x, hx⟩ : ∃ x, x = l.getD i bat0 := ⟨_, rfl⟩
        have hg1 := BtL_get l h
        have e1 : (BtL l)[i]'(by simpa using h) = (l.getD i bat0).sv := by rw [← hg1, List.getElem?_eq_getElem]; rfl
        rw [← hx] at hg1 e1
        have hxl : x.rs.length ≤ 50000 := by
          have := Nat.le_trans (prs_len h (Nat.le_refl _)) HOK.out.n
          rw [List.length_append, pr1_len] at this
          rw [hx]; omega
        refine SW.seq_k fun K4 hK4 => SW.ac RS_ok (ac := p4_7) (by kernel_rfl) ?_
        simp [p4_7]
        refine hK4 _ (SW.seq_k fun K5 hK5 => ?_)
        clear hK4
        have hK6 : ∀ (a0 a1 a2 a3 a4 : Int) (f : List Rec), f = x.rs.filter (keepP (prs l) now grace x) → ∀ st', Wk st' (stB l c mb i n a0 a1 a2 a3 a4 f) → K5 st' := by
          intro a0 a1 a2 a3 a4 f hf st' hw
          refine hK5 st' (SW.wk _ hw ?_)
          clear hw hK5
          refine SW.seq_k fun K7 hK7 => SW.ac RS_ok (ac := p4_9) (by kernel_rfl) ?_
          simp [p4_9, stB]
          refine hK7 _ (SW.seq_k fun K8 hK8 => SW.seq_k fun K9 hK9 => SW.ac RS_ok (ac := p4_10) (by kernel_rfl) ?_)
          simp [p4_10]
          refine hK9 _ (SW.block ?_)
          clear hK7 hK9
          have hK8' : ∀ st', Wk st' (stM l c mb i n a0 a1 a2 a3 a4 f f.length x.rs.length) → K8 st' := fun st' hw => by
            refine hK8 st' (SW.wk _ hw (SW.ac RS_ok (ac := p4_16) (by kernel_rfl) ?_))
            have hni : n ≤ i := by
              have := (clean_prs (prs l) now grace (l.take i)).2.1
              rw [List.length_take] at this
              omega
            have hwn : IntKind.i64.wrap ((n : Int) + 1) = ((n + 1 : Nat) : Int) := by rw [IntKind.wrap_i64]; omega
            cases hkp : kept (prs l) now grace x with
            | true =>
              have hs1 := (clean_at h (by rw [← hx]; exact hkp)).1
              have hk3 := hK3 (n + 1) (by rw [hs1, hn])
              by_cases hfp : 0 < f.length
              · have hfp2 : (0 : Int) < (f.length : Int) := by omega
                simp [p4_16, stM, h, hlt, hg1, e1, Bat.sv, Bat.cells, hfp, hfp2, hwn]
                exact hk3 _ (by simp [stL])
              · have hfp2 : ¬ (0 : Int) < (f.length : Int) := by omega
                have hpr : x.pr ≠ 0 := by
                  unfold kept at hkp
                  have : x.rs.filter (keepP (prs l) now grace x) = [] := by rw [← hf]; exact List.eq_nil_of_length_eq_zero (by omega)
                  rw [this] at hkp
                  simpa using hkp
                simp [p4_16, stM, h, hlt, hg1, e1, Bat.sv, Bat.cells, hfp, hfp2, hpr, hwn]
                exact hk3 _ (by simp [stL])
            | false =>
              have hk3 := hK3 n (by rw [clean_skip h (by rw [← hx]; exact hkp)]; exact hn)
              unfold kept at hkp
              rw [← hf] at hkp
              have hf0 : f = [] := by simpa using (Bool.or_eq_false_iff.1 hkp).1
              have hpr : x.pr = 0 := by simpa using (Bool.or_eq_false_iff.1 hkp).2
              subst hf0
              simp [p4_16, stM, h, hlt, hg1, e1, Bat.sv, Bat.cells, hpr]
              exact hk3 _ (by simp [stL])
          clear hK8 hK3
          refine SW.loop (α := Nat) (fun m => m ≤ x.rs.length) (fun m => stM l c mb i n a0 a1 a2 a3 a4 f ((x.rs.take m).filter (keepP (prs l) now grace x)).length m) (fun m => x.rs.length - m) 0 (Nat.zero_le _) (by simp [stM]) ?_
          intro m hm
          refine SW.hide fun Q2 hQ2 => ?_
          refine SW.seq_k fun K10 hK10 => SW.ac RS_ok (ac := p4_11) (by kernel_rfl) ?_
          by_cases hmr : m < x.rs.length
          · have hmt : (m : Int) < (x.rs.length : Int) := by omega
            have hwm : IntKind.i64.wrap ((m : Int) + 1) = (m : Int) + 1 := by rw [IntKind.wrap_i64]; omega
            have hgr := RcL_get x.rs hmr
            have er : (RcL x.rs)[m]'(by simpa using hmr) = (x.rs.getD m rec0).sv := by rw [← hgr, List.getElem?_eq_getElem]; rfl
            have hfs := congrArg List.length (filt_succ (keepP (prs l) now grace x) x.rs hmr)
            rw [List.length_append] at hfs
            obtain ⟨hn1, hn2⟩ := filt_next (keepP (prs l) now grace x) x.rs hmr
            have hpm : (x, x.rs.getD m rec0) ∈ prs l := by rw [hx]; exact prs_mem h (by rw [← hx]; exact hmr)
            have hkl : ((x.rs.take m).filter (keepP (prs l) now grace x)).length ≤ m := by
              have := List.length_filter_le (keepP (prs l) now grace x) (x.rs.take m)
              rw [List.length_take] at this; omega
            rw [← hf] at hn1 hn2
            simp [p4_11, stM, h, hlt, hg1, e1, Bat.sv, Bat.cells, hmt]
            refine hK10 _ (SW.seq_k fun K11 hK11 => SW.block ?_)
            have hq := hQ2 .normal
            simp only at hq
            have hK12 : ∀ k', k' = ((x.rs.take (m + 1)).filter (keepP (prs l) now grace x)).length → ∀ st', Wk st' (stM l c mb i n a0 a1 a2 a3 a4 f k' m) → K11 st' := fun k' hk' st' hw => by
              refine hK11 st' (SW.wk _ hw (SW.ac RS_ok (ac := p4_15) (by kernel_rfl) ?_))
              subst hk'
              simp [p4_15, stM, hwm]
              refine hq _ ⟨m + 1, hmr, by omega, by simp [stM]⟩
            clear hK10 hK11 hq hQ2
            generalize x.rs.getD m rec0 = r at *
            generalize ((x.rs.take m).filter (keepP (prs l) now grace x)).length = k at *
            refine SW.seq_k fun K13 hK13 => SW.ac RS_ok (ac := p4_12) (by kernel_rfl) ?_
            simp [p4_12, h, hlt, hg1, e1, Bat.sv, Bat.cells, hmr, hmt, hgr, er, Rec.sv, Rec.cells]
            refine hK13 _ (SW.seq_k fun K14 hK14 => SW.ac RS_ok (ac := p4_13) (by kernel_rfl) ?_)
            clear hK13
            cases hkr : keepP (prs l) now grace x r with
            | true =>
              obtain ⟨hk1, hk2⟩ := hn1 hkr
              rw [if_pos hkr] at hfs
              have hk12 := hK12 (k + 1) (by rw [hfs]; rfl)
              have hgf := RcL_get f hk1
              have ef : (RcL f)[k]'(by simpa using hk1) = r.sv := by rw [← hk2, ← hgf, List.getElem?_eq_getElem]; rfl
              rw [hk2] at hgf
              have hkt : (k : Int) < (f.length : Int) := by omega
              have hwk : IntKind.i64.wrap ((k : Int) + 1) = ((k + 1 : Nat) : Int) := by rw [IntKind.wrap_i64]; omega
              simp [p4_13, hk1, hkt, hgf, ef, Rec.sv, Rec.cells, hwk]
              exact hk12 _ (by simp [stM])
            | false =>
              rw [if_neg (by rw [hkr]; simp)] at hfs
              have hk12 := hK12 k (by rw [hfs]; rfl)
              have hk14 : ∀ st', Wk st' (stR l c mb i n a0 a1 a2 a3 a4 f k m r) → K14 st' := fun st' hw => by
                refine hK14 st' (SW.wk _ hw ?_)
                clear hw hK14
                refine SW.seq_k fun K15 hK15 => ?_
                have hk15 : ∀ st', Wk st' (stR2 l c mb i n a0 a1 a2 a3 a4 f k m r) → K15 st' := fun st' hw => by
                  refine hK15 st' (SW.wk _ hw (SW.ac RS_ok (ac := p4_14) (by kernel_rfl) ?_))
                  simp [p4_14, stR2]
                  exact hk12 _ (by simp [stM, stR])
                clear hK15 hk12
                obtain ⟨hkd, hgo⟩ := goes hpm hkr
                have hat := HOK.out.at_ _ hpm
                have hkey := HOK.out.key _ hpm
                simp only at hat hkey
                intro g a w hs hsn
                have hx3w : Ext (fun _ => False) w3 w := hs.ext.mono (fun k hk => by rcases hk with ⟨s, hs⟩ | hk; cases hs; exact hk)
                have hlk := ((HM3.out.ext hx3w).ext (extD w)).look hkey
                have ha := lit210 a (hs.size.trans hsn) hs.defers
                obtain ⟨lp2, lc2, h0⟩ := sl_shape (show Rep g.mu (.sl 6 (BtL l)) (slotv a 0) from hs.slots 0)
                rw [BtL_length] at h0
                have hr0 := (show Rep g.mu (.sl 6 (BtL l)) (slotv a 0) from hs.slots 0)
                rw [h0] at hr0
                obtain ⟨lb, lo, xp, xc, hlp2, ⟨c0, _, _, _, _, _⟩, _⟩ := bat_at hs.mem hr0 h
                subst hlp2
                rw [← hx] at c0
                have h8 : slotv a 8 = .map (some mb) := map_inv (show Rep g.mu (.map mb) (slotv a 8) from hs.slots 8)
                have h10 : slotv a 10 = .int .i64 i := Rep.inv_int (show Rep g.mu (.int .i64 i) (slotv a 10) from hs.slots 10)
                obtain ⟨rb, hrb, h14⟩ := (show ∃ b, g.bx 14 = some b ∧ slotv a 14 = .pointer (some ⟨b, 0, none⟩) from hs.slots 14)
                obtain ⟨rb', hrb', hbox⟩ := hs.boxes 14 _ rfl
                rw [hrb] at hrb'
                cases hrb'
                obtain ⟨u0, d0, q0⟩ := box_cell hbox (j := 0) (show 0 < 6 by omega)
                obtain ⟨u2, d2, q2⟩ := box_cell hbox (j := 2) (show 2 < 6 by omega)
                obtain ⟨u3, d3, q3⟩ := box_cell hbox (j := 3) (show 3 < 6 by omega)
                obtain ⟨u4, d4, q4⟩ := box_cell hbox (j := 4) (show 4 < 6 by omega)
                have e0 : u0 = .int .i64 r.dl := Rep.inv_int q0
                have e2 : u2 = .bool r.kd := Rep.inv_bool q2
                have e3 : u3 = .string r.key := Rep.inv_str q3
                have e4 : u4 = .bool r.dd := Rep.inv_bool q4
                subst e0 e2 e3 e4
                rw [hkd] at d2
                clear q0 q2 q3 q4 hbox
                have hint : (i : Int) < (l.length : Int) := by omega
                rw [ha]
                clear ha
                rw [h0, h8, h10, h14]
                have hfin : ∀ a' : Act, a'.tmps.size = 210 → a'.defers = [] → (∀ s, s ≤ 14 → slotv a' s = slotv a s) → slotv a' 190 = .bool false → Post w3 (memAll w2) Tc.none 210 (fun e st' => match e with | .normal => K15 st' | e => (fun e st' => match e with | .exit j => if j = 3 then K11 st' else Q2 (.exit j) st' | .normal => K11 st' | e => Q2 e st') e st') .normal a' w.drew := by
                  intro a' q1 q2 q3 q4
                  refine ⟨g, stR2 l c mb i n a0 a1 a2 a3 a4 f k m r, hs.drew.other (a' := a') (q1.trans rfl) q2 (sl := (stR2 l c mb i n a0 a1 a2 a3 a4 f k m r).sl) (slots_of fun p hp => ?_), rfl, hk15 _ (by simp [stR2, stR])⟩
                  simp only [stR2, stR, List.mem_cons, List.not_mem_nil, or_false] at hp
                  rcases hp with rfl | rfl | rfl | rfl | rfl | rfl | rfl | rfl | rfl | rfl
                  · show Rep g.mu (.bool false) (slotv a' 190)
                    rw [q4]; exact .bool _
                  · show RepL g w.drew 0 _ (slotv a' 0)
                    rw [q3 0 (by omega)]; exact hs.drew.slots 0
                  · show RepL g w.drew 7 _ (slotv a' 7)
                    rw [q3 7 (by omega)]; exact hs.drew.slots 7
                  · show RepL g w.drew 8 _ (slotv a' 8)
                    rw [q3 8 (by omega)]; exact hs.drew.slots 8
                  · show RepL g w.drew 9 _ (slotv a' 9)
                    rw [q3 9 (by omega)]; exact hs.drew.slots 9
                  · show RepL g w.drew 10 _ (slotv a' 10)
                    rw [q3 10 (by omega)]; exact hs.drew.slots 10
                  · show RepL g w.drew 11 _ (slotv a' 11)
                    rw [q3 11 (by omega)]; exact hs.drew.slots 11
                  · show RepL g w.drew 12 _ (slotv a' 12)
                    rw [q3 12 (by omega)]; exact hs.drew.slots 12
                  · show RepL g w.drew 13 _ (slotv a' 13)
                    rw [q3 13 (by omega)]; exact hs.drew.slots 13
                  · show RepL g w.drew 14 _ (slotv a' 14)
                    rw [q3 14 (by omega)]; exact hs.drew.slots 14
                have HF := asideI hfin
                clear hfin
                try clear hk15
                try clear hkr
                try clear hpm
                try clear hn1
                try clear hn2
                try clear hfs
                try clear hkl
                try clear hgr
                try clear er
                try clear hmt
                try clear hwm
                try clear hmr
                try clear hm
                try clear hf
                try clear hs
                try clear hsn
                try clear hx3w
                try clear hr0
                try clear hrb
                try clear hkey
                try clear hkd
                try clear hg1
                try clear e1
                try clear hxl
                try clear hx
                try clear hwi
                try clear hlt
                try clear hn
                try clear hi
                try clear hcl2
                try clear hcl3
                try clear hmw3
                try clear hx03
                try clear hll
                try clear hK1
                try clear hQ
                generalize atS x r = q at hat hgo
                generalize (lastP (prs l) r.key).getD 0 = u at hlk hgo
                generalize x.ba = xb at c0 hat
                generalize r.dl = rd at d0 hat
                generalize r.key = ky at d3 hlk
                generalize r.dd = dd at d4 hgo
                cases dd with
                | true =>
                  clear hgo hat
                  go_big_region
                  exact HF.out _ rfl rfl (fun s hs => match s, hs with
                    | 0, _ => h0.symm
                    | 1, _ => rfl
                    | 2, _ => rfl
                    | 3, _ => rfl
                    | 4, _ => rfl
                    | 5, _ => rfl
                    | 6, _ => rfl
                    | 7, _ => rfl
                    | 8, _ => h8.symm
                    | 9, _ => rfl
                    | 10, _ => h10.symm
                    | 11, _ => rfl
                    | 12, _ => rfl
                    | 13, _ => rfl
                    | 14, _ => h14.symm) rfl
                | false =>
                  have hqu : ¬ (q ≥ u) := hgo.resolve_left (by simp)
                  clear hgo
                  have hqu1 : ¬ (u ≤ q) := hqu
                  have hqu2 : q < u := by omega
                  go_big_region
                  exact HF.out _ rfl rfl (fun s hs => match s, hs with
                    | 0, _ => h0.symm
                    | 1, _ => rfl
                    | 2, _ => rfl
                    | 3, _ => rfl
                    | 4, _ => rfl
                    | 5, _ => rfl
                    | 6, _ => rfl
                    | 7, _ => rfl
                    | 8, _ => h8.symm
                    | 9, _ => rfl
                    | 10, _ => h10.symm
                    | 11, _ => rfl
                    | 12, _ => rfl
                    | 13, _ => rfl
                    | 14, _ => h14.symm) rfl
              clear hK12 hK14
              by_cases hk1 : k < f.length
              · have hne : recS (f.getD k rec0) r = false := by
                  cases hq : recS (f.getD k rec0) r with
                  | false => rfl
                  | true => exact absurd ((recS_iff _ _).1 hq) (hn2 hkr hk1)
                have hgf := RcL_get f hk1
                have ef : (RcL f)[k]'(by simpa using hk1) = (f.getD k rec0).sv := by rw [← hgf, List.getElem?_eq_getElem]; rfl
                have hkt : (k : Int) < (f.length : Int) := by omega
                generalize f.getD k rec0 = s at *
                unfold recS at hne
                simp [p4_13, hk1, hkt, hgf, ef, Rec.sv, Rec.cells, hne]
                exact hk14 _ (by simp [stR])
              · have hkt : ¬ (k : Int) < (f.length : Int) := by omega
                have hgf : (RcL f)[k]?.getD .undef = .undef := by rw [List.getElem?_eq_none (by simpa using hk1)]; rfl
                simp [p4_13, hk1, hkt, hgf, Rec.sv, Rec.cells]
                exact hk14 _ (by simp [stR])
          · obtain rfl : m = x.rs.length := by omega
            have hmt : ¬ (x.rs.length : Int) < (x.rs.length : Int) := by omega
            rw [List.take_length, ← hf]
            have hq := hQ2 (.exit 2)
            simp only [if_true] at hq
            simp [p4_11, stM, h, hlt, hg1, e1, Bat.sv, Bat.cells, hmt]
            exact hq _ (hK8' _ (by simp [stM]))
        clear hK5
        refine SW.ac RS_ok (ac := p4_8) (by kernel_rfl) ?_
        have r13 := RS_13
        have r13u := RS_13u
        generalize RS = R at r13 r13u
        cases hkp : kept (prs l) now grace x with
        | false =>
          have hsk := clean_skip h (by rw [← hx]; exact hkp)
          have hun := @clean_unlike (prs l) now grace l x hkp n
          rw [HCT.out] at hun
          have hf : x.rs.filter (keepP (prs l) now grace x) = [] := by
            unfold kept at hkp
            simp only [Bool.or_eq_false_iff] at hkp
            simpa using hkp.1
          have hfin := hK6 0 0 0 0 0 [] hf.symm
          clear hK6 hkp hsk
          by_cases hnc : n < c.length
          · have hnt : (n : Int) < (c.length : Int) := by omega
            have hun2 := hun hnc
            have hyl := hcl3 n hnc
            have hg2 := BtL_get c hnc
            have e2 : (BtL c)[n]'(by simpa using hnc) = (c.getD n bat0).sv := by rw [← hg2, List.getElem?_eq_getElem]; rfl
            generalize c.getD n bat0 = y at hun2 hyl hg2 e2
            have r13' := r13 y.rs x.rs
            by_cases e0 : y.ba = x.ba
            · by_cases e3 : y.pr = x.pr
              · have hpf := hun2 e0 e3
                by_cases e4 : y.co = x.co
                · by_cases e5 : y.ep = x.ep
                  · by_cases e6 : y.sq = x.sq
                    · simp [p4_8, hlt, h, hnt, hnc, hg1, e1, hg2, e2, Bat.sv, Bat.cells, e0, e3, e4, e5, e6, r13', hxl, hyl, hpf]
                      exact hfin _ (by simp [stB, RcL])
                    · simp [p4_8, hlt, h, hnt, hnc, hg1, e1, hg2, e2, Bat.sv, Bat.cells, e0, e3, e4, e5, e6, r13', hxl, hyl]
                      exact hfin _ (by simp [stB, RcL])
                  · simp [p4_8, hlt, h, hnt, hnc, hg1, e1, hg2, e2, Bat.sv, Bat.cells, e0, e3, e4, e5, r13', hxl, hyl]
                    exact hfin _ (by simp [stB, RcL])
                · simp [p4_8, hlt, h, hnt, hnc, hg1, e1, hg2, e2, Bat.sv, Bat.cells, e0, e3, e4, r13', hxl, hyl]
                  exact hfin _ (by simp [stB, RcL])
              · by_cases e4 : y.co = x.co
                · simp [p4_8, hlt, h, hnt, hnc, hg1, e1, hg2, e2, Bat.sv, Bat.cells, e0, e3, e4, r13', hxl, hyl]
                  exact hfin _ (by simp [stB, RcL])
                · simp [p4_8, hlt, h, hnt, hnc, hg1, e1, hg2, e2, Bat.sv, Bat.cells, e0, e3, e4, r13', hxl, hyl]
                  exact hfin _ (by simp [stB, RcL])
            · simp [p4_8, hlt, h, hnt, hnc, hg1, e1, hg2, e2, Bat.sv, Bat.cells, e0, r13', hxl, hyl]
              exact hfin _ (by simp [stB, RcL])
          · have hnt : ¬ (n : Int) < (c.length : Int) := by omega
            have hg2 : (BtL c)[n]?.getD .undef = .undef := by rw [List.getElem?_eq_none (by simpa using hnc)]; rfl
            simp [p4_8, r13u, hlt, h, hg1, e1, hg2, Bat.sv, Bat.cells, hnt, hnc]
            exact hfin _ (by simp [stB, RcL])
        | true =>
          obtain ⟨hs1, hs2, hs3⟩ := clean_at h (by rw [← hx]; exact hkp)
          rw [HCT.out, ← hn] at hs2 hs3
          rw [← hx] at hs3
          have hnt : (n : Int) < (c.length : Int) := by omega
          have hg2 := BtL_get c hs2
          have e2 : (BtL c)[n]'(by simpa using hs2) = (c.getD n bat0).sv := by rw [← hg2, List.getElem?_eq_getElem]; rfl
          rw [hs3] at hg2 e2
          have hfin := hK6 x.ba x.co x.pr x.ep x.sq _ rfl
          have hpt : partN (x.rs.filter (keepP (prs l) now grace x)) 0 x.rs = (x.rs.filter (keepP (prs l) now grace x)).length := part_filter _ _ x.rs 0 (Nat.zero_le _) (by rw [List.drop_zero])
          have hfl : (x.rs.filter (keepP (prs l) now grace x)).length ≤ 50000 := Nat.le_trans (List.length_filter_le _ _) hxl
          have hk2 : ¬ 0 < (x.rs.filter (keepP (prs l) now grace x)).length → x.pr ≠ 0 := fun q => by
            unfold kept at hkp
            have : x.rs.filter (keepP (prs l) now grace x) = [] := List.eq_nil_of_length_eq_zero (by omega)
            rw [this] at hkp
            simpa using hkp
          clear hK6 hkp hs3
          generalize x.rs.filter (keepP (prs l) now grace x) = f at hg2 e2 hfin hpt hfl hk2
          have r13' := r13 f x.rs
          by_cases hfp : 0 < f.length
          · have hfp2 : (0 : Int) < (f.length : Int) := by omega
            simp [p4_8, r13u, hlt, h, hnt, hs2, hg1, e1, hg2, e2, Bat.sv, Bat.cells, r13', hpt, hxl, hfl, hfp, hfp2]
            exact hfin _ (by simp [stB])
          · have hfp2 : ¬ (0 : Int) < (f.length : Int) := by omega
            have hpr := hk2 hfp
            simp [p4_8, r13u, hlt, h, hnt, hs2, hg1, e1, hg2, e2, Bat.sv, Bat.cells, r13', hpt, hxl, hfl, hfp, hfp2, hpr]
            exact hfin _ (by simp [stB])
      · obtain rfl : i = l.length := by omega
        have hlt : ¬ ((l.length : Nat) : Int) < l.length := by omega
        rw [List.take_length, HCT.out] at hn
        subst hn
        simp [p4_6, stL, hlt]
        refine hQ _ _ ⟨rfl, ?_⟩
        simp [stL]
end Go.Proofs.Ytikidcgnbcibpaa

/- Compact: CompactStays, the law. -/

set_option linter.unusedSimpArgs false
set_option linter.unusedVariables false
set_option maxHeartbeats 4000000
namespace Go.Proofs.Ytikidcgnbcibpaa

open Go.Av Go.Cp
theorem law_stays (l : List Bat) (now grace : Int) : Pure Try.prog 4 [.sl 6 (BtL l), .int .i64 now, .int .i64 grace] (.sv (.bool true)) := by
  refine pure_true fun mu w vs hm hr => ?_
  match vs, hr.1 with
  | [lv, nv, gv], _ =>
    have h0 : Rep mu (.sl 6 (BtL l)) lv := hr.2 0 (by simp)
    have e1 : nv = .int .i64 now := Rep.inv_int (show Rep mu (.int .i64 now) nv from hr.2 1 (by simp))
    have e2 : gv = .int .i64 grace := Rep.inv_int (show Rep mu (.int .i64 grace) gv from hr.2 2 (by simp))
    obtain ⟨lp, lc, rfl⟩ := sl_shape h0
    rw [BtL_length] at h0 ⊢
    subst e1 e2
    exact stays_law hm h0 now grace
end Go.Proofs.Ytikidcgnbcibpaa
