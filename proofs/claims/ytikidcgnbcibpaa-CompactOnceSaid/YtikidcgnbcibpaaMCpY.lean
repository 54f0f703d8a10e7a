import Derived.Test.YtikidcgnbcibpaaMCpP
import Derived.Test.YtikidcgnbcibpaaAvAD

set_option linter.unusedVariables false
set_option linter.unusedSimpArgs false

/- Compact: CompactKeeps (the walk; awake is a premise here). -/

set_option linter.unusedSimpArgs false
set_option linter.unusedVariables false
set_option maxRecDepth 100000
set_option maxHeartbeats 40000000
namespace Go.Proofs.Ytikidcgnbcibpaa
open Go.RowKit
open Go.Av Go.Cp
def AwakeOK : Prop := ∀ w, Calls Try.prog 7 #[] w fun e w' => e = .returned (.bool true) ∧ Ext (fun _ => False) w w'
theorem box2 {w : World} {b : Nat} {a0 a1 : Value} {t : TypeId} (h : w.heap[b]? = some (.cells #[a0, a1] t)) : w.cell? ⟨b, 0, none⟩ = some a0 ∧ w.cell? ⟨b, 1, none⟩ = some a1 := by
  simp [World.cell?, h]
def S13 (rb tb : Nat) (kd : Bool) (n0 g0 : Int) (w5 W : World) : Prop := W.cell? ⟨rb, 2, none⟩ = some (.bool kd) ∧ W.cell? ⟨tb, 0, none⟩ = some (.int .i64 n0) ∧ W.cell? ⟨tb, 1, none⟩ = some (.int .i64 g0) ∧ Ext (fun _ => False) w5 W
theorem S13.next {rb tb : Nat} {kd : Bool} {n0 g0 : Int} {w5 W W' : World} (h : S13 rb tb kd n0 g0 w5 W) (k : Ext (fun _ => False) W W') : S13 rb tb kd n0 g0 w5 W' := ⟨cell_ext k h.1, cell_ext k h.2.1, cell_ext k h.2.2.1, h.2.2.2.trans k⟩
theorem keeps_law (hA : AwakeOK) {mu : Mem} {w0 : World} (hm : MemOK mu w0) {l : List Bat} {lp : Option Addr} {lc : Nat} (hr : Rep mu (.sl 6 (BtL l)) (.slice lp l.length lc)) (a0 a1 n0 g0 : Int) :
    Calls Try.prog 3 #[.slice lp l.length lc, .agg #[.int .i64 a0, .int .i64 a1], .agg #[.int .i64 n0, .int .i64 g0]] w0 (LawP w0) := by
  have HA := asideI hA
  obtain ⟨W0, hW⟩ : ∃ W0, W0 = (w0.alloc (.cells #[.int .i64 a0, .int .i64 a1] 23)).alloc (.cells #[.int .i64 n0, .int .i64 g0] 23) := ⟨_, rfl⟩
  have hx0 : Ext (fun _ => False) w0 W0 := by rw [hW]; exact (extA _ _).trans (extA _ _)
  have hs0 : W0.heap.size = w0.heap.size + 1 + 1 := by rw [hW]; simp
  have k4 : W0.heap[w0.heap.size]? = some (.cells #[.int .i64 a0, .int .i64 a1] 23) := by rw [hW, alloc_get, if_neg (by simp), alloc_get, if_pos rfl]
  have k5 : W0.heap[w0.heap.size + 1]? = some (.cells #[.int .i64 n0, .int .i64 g0] 23) := by rw [hW, alloc_get, if_pos (by simp)]
  have HW := asideI hW
  have HX0 := asideI hx0
  have K4 := asideI k4
  have K5 := asideI k5
  have HMM := asideI (fun (W : World) (k : Ext (fun _ => False) W0 W) => memX hm (hx0.trans k) (fun _ e => e.elim))
  have HR := asideI hr
  have HB := asideI (bats_of hm hr)
  have HLI := asideI (light_at (memX hm hx0 (fun _ e => e.elim)) hr)
  clear hm hr hA hW hx0 k4 k5
  cases hL : lightL l with
  | false =>
    rw [hL] at HLI
    clear hL
    go_enter Try.func3, Try.ntmps3
    go_wp2_with (first
      | (go_at_call 7; refine (HA.out _).mono ?_; rintro e w2 ⟨rfl, hx⟩; have HX2 := asideI ((HX0.out.trans HX1.out).trans hx); clear hx; simp only [])
      | (go_at_call 6; rw [← HW.out]; refine HLI.out.mono ?_; rintro e w1 ⟨rfl, hx⟩; have HX1 := asideI hx; clear hx; simp only [])
      | go_in)
    go_ret
    exact ⟨rfl, HX2.out⟩
  | true =>
    rw [hL] at HLI
    have HOK := asideI (light_ok hL)
    have hll := HOK.out.l
    clear hL
    go_enter Try.func3, Try.ntmps3
    go_wp2_with (first
      | (go_at_call 8; refine (last_raw (lc := lc) (HB.out.ext (HX0.out.trans HX1.out)) HOK.out).mono ?_
         rintro e w2 ⟨mb, nn, rfl, hmb, hm2, hx⟩
         have HM2 := asideI hm2
         have HX2 := asideI (HX1.out.trans hx)
         clear hm2 hx hmb
         simp only [])
      | (go_at_call 6; rw [← HW.out]; refine HLI.out.mono ?_; rintro e w1 ⟨rfl, hx⟩; have HX1 := asideI hx; clear hx; simp only [])
      | go_in)
    go_loopg [8] l.length (fun gg s8 wr => ∃ (i : Nat), s8 = .int .i64 i ∧ i ≤ l.length ∧ l.length - i ≤ gg ∧ Aside (Ext (fun _ => False) w2 wr))
    case atStart => exact ⟨0, rfl, by omega, by omega, Ext.refl _ _⟩
    case round =>
      obtain ⟨i, rfl, hi, hgg, H⟩ := hrel
      by_cases hlt : i < l.length
      · have hz : (i : Int) < (l.length : Int) := by omega
        have hw : IntKind.i64.wrap ((i : Int) + 1) = (i : Int) + 1 := by rw [IntKind.wrap_i64]; omega
        obtain ⟨b, o, rp, rc, rfl, hbat, hrs⟩ := HB.out i hlt
        have HBT := asideI hbat
        have HRS := asideI hrs.1
        have HKY := asideI (fun k (hk : k < (l.getD i bat0).rs.length) => HOK.out.key _ (prs_mem hlt hk))
        have hxl : (l.getD i bat0).rs.length ≤ 50000 := by
          have := Nat.le_trans (prs_len hlt (Nat.le_refl _)) HOK.out.n
          rw [List.length_append, pr1_len] at this
          omega
        clear hbat hrs
        generalize l.getD i bat0 = x at HBT HRS HKY hxl
        go_wp2
        go_loopg [9] x.rs.length (fun gg s9 wk => ∃ (k : Nat), s9 = .int .i64 k ∧ k ≤ x.rs.length ∧ x.rs.length - k ≤ gg ∧ Aside (Ext (fun _ => False) w2 wk))
        case atStart => exact ⟨0, rfl, by omega, by omega, H.out⟩
        case round =>
          obtain ⟨k, rfl, hk, hgg2, H2⟩ := hrel
          have HE := asideI ((HX0.out.trans HX2.out).trans H2.out)
          obtain ⟨c0, c1, c2, c3, c4, c5⟩ := HBT.out.ext HE.out
          by_cases hkt : k < x.rs.length
          · have hz2 : (k : Int) < (x.rs.length : Int) := by omega
            have hw2 : IntKind.i64.wrap ((k : Int) + 1) = (k : Int) + 1 := by rw [IntKind.wrap_i64]; omega
            obtain ⟨rb, ro, rfl, d0, d1, d2, d3, d4, d5⟩ := (HRS.out.ext HE.out) k hkt
            have hkey := HKY.out k hkt
            generalize x.rs.getD k rec0 = r at d0 d1 d2 d3 d4 d5 hkey
            have hlk := ((HM2.out.ext H2.out).ext (extA _ (.cells #[.int .i64 r.dl, .int .i64 r.tm, .bool r.kd, .string r.key, .bool r.dd, .string r.val] 32))).look2 hkey
            have hrl := rlast_at (HMM.out _ ((HX2.out.trans H2.out).trans (extA _ (.cells #[.int .i64 r.dl, .int .i64 r.tm, .bool r.kd, .string r.key, .bool r.dd, .string r.val] 32)))) HR.out HOK.out r.key
            have hls : lastS l r.key = lastP (prs l) r.key := rfl
            rw [hls] at hrl
            clear hls
            generalize (lastP (prs l) r.key).getD 0 = la at hlk hrl
            generalize (lastP (prs l) r.key).isSome = so at hlk hrl
            have HRL := asideI hrl
            have HXR := asideI (extA wr (.cells #[.int .i64 r.dl, .int .i64 r.tm, .bool r.kd, .string r.key, .bool r.dd, .string r.val] 32))
            have hrbx : (wr.alloc (.cells #[.int .i64 r.dl, .int .i64 r.tm, .bool r.kd, .string r.key, .bool r.dd, .string r.val] 32)).heap[wr.heap.size]? = some (.cells #[.int .i64 r.dl, .int .i64 r.tm, .bool r.kd, .string r.key, .bool r.dd, .string r.val] 32) := by rw [alloc_get, if_pos rfl]
            have HRB := asideI hrbx
            clear hrl hkey hrbx
            go_wp2_with (first
              | (go_at_call 9; refine HRL.out.mono ?_; rintro e w5 ⟨rfl, hx⟩
                 have HX5 := asideI (HXR.out.trans hx)
                 have hb5 := (hx.block _ (by simp) id).trans HRB.out
                 obtain ⟨⟨x0, x1, x2, x3, x4, x5⟩, _⟩ := box6 hb5
                 clear hx hb5
                 simp only [])
              | go_in)
            have HE5 := asideI (HE.out.trans HX5.out)
            have HX05 := asideI ((HX2.out.trans H2.out).trans HX5.out)
            obtain ⟨g0', g1'⟩ := box2 ((HX05.out.block (w0.heap.size + 1) (by rw [hs0]; omega) id).trans K5.out)
            cases hkd : r.kd with
            | true =>
              rw [hkd] at x2
              first
                | go_region_held3 (fun W' => W'.cell? ⟨wr.heap.size, 2, none⟩ = some (.bool true) ∧ W'.cell? ⟨w0.heap.size + 1, 0, none⟩ = some (.int .i64 n0) ∧ W'.cell? ⟨w0.heap.size + 1, 1, none⟩ = some (.int .i64 g0) ∧ Ext (fun _ => False) w5 W') (refine ⟨?_, ?_, ?_, ?_⟩ <;> first | assumption | exact extD _ | (go_keep; done)) (first
                  | (go_at_call 10; (try dsimp only at *); go_split_ands; refine (keeps10_raw (lc := lc) (HB.out.ext (HE5.out.trans (by assumption))) HOK.out _ _ _ _).mono ?_; rintro e w6 ⟨rfl, hx⟩
                     have hx6 : Ext (fun _ => False) w5 w6 := Ext.trans (by assumption) hx
                     have y0 := cell_ext hx6 x2
                     have y1 := cell_ext hx6 g0'
                     have y2 := cell_ext hx6 g1'
                     clear hx)
                  | (go_at_call 11; (try dsimp only at *); go_split_ands; refine (rkeeps_at (HMM.out _ (HX05.out.trans (by assumption))) HR.out HOK.out _ _ _ _).mono ?_; rintro e w7 ⟨rfl, hx⟩
                     have hx7 : Ext (fun _ => False) w5 w7 := Ext.trans (by assumption) hx
                     have y0 := cell_ext hx7 x2
                     have y1 := cell_ext hx7 g0'
                     have y2 := cell_ext hx7 g1'
                     clear hx))
                | fail
              all_goals (
                go_wp2
                go_roundg (x.rs.length - (k + 1))
                case measure => omega
                case rel => exact ⟨k + 1, by simp, by omega, by omega, (H2.out.trans HX5.out).trans (by assumption)⟩)
            | false =>
              rw [hkd] at x2
              have hS0 : S13 wr.heap.size (w0.heap.size + 1) false n0 g0 w5 w5.drew := ⟨x2, g0', g1', extD _⟩
              refine wp_region_noPanic ?_
              refine wp_region_held_drew (S := fun W' => S13 wr.heap.size (w0.heap.size + 1) false n0 g0 w5 W') (by kernel_rfl) hS0 (fun _ => ?_)
              refine wpAnyH_take (i := 0) (oi := ?oK1) (v := ?vK1) ?hi1 (by kernel_rfl) (by kernel_rfl) (by kernel_rfl) (fun _ _ _ h => h) (Or.inl ⟨?hw1, ?hy1⟩) hS0 ?_
              case hi1 => (simp only [List.getElem?_toArray, List.getElem?_cons_succ, List.getElem?_cons_zero]; rfl)
              case hw1 => rfl
              case hy1 => (intro w hSw; obtain ⟨s1, s2, s3, s4⟩ := hSw; go_simp; try with_reducible rfl)
              try simp only [Act.put, List.setIfInBounds_toArray, List.set_cons_zero, List.set_cons_succ]
              refine wpAnyH_take (i := 1) (oi := ?oK2) (v := ?vK2) ?hi2 (by kernel_rfl) (by kernel_rfl) (by kernel_rfl) (fun _ _ _ h => h) (Or.inl ⟨?hw2, ?hy2⟩) hS0 ?_
              case hi2 => (simp only [List.getElem?_toArray, List.getElem?_cons_succ, List.getElem?_cons_zero]; rfl)
              case hw2 => rfl
              case hy2 => (intro w hSw; obtain ⟨s1, s2, s3, s4⟩ := hSw; go_simp; try with_reducible rfl)
              try simp only [Act.put, List.setIfInBounds_toArray, List.set_cons_zero, List.set_cons_succ]
              refine wpAnyH_take (i := 2) (oi := ?oK3) (v := ?vK3) ?hi3 (by kernel_rfl) (by kernel_rfl) (by kernel_rfl) (fun _ _ _ h => h) (Or.inl ⟨?hw3, ?hy3⟩) hS0 ?_
              case hi3 => (simp only [List.getElem?_toArray, List.getElem?_cons_succ, List.getElem?_cons_zero]; rfl)
              case hw3 => rfl
              case hy3 => (intro w hSw; obtain ⟨s1, s2, s3, s4⟩ := hSw; go_simp; try with_reducible rfl)
              try simp only [Act.put, List.setIfInBounds_toArray, List.set_cons_zero, List.set_cons_succ]
              refine wpAnyH_take (i := 3) (oi := ?oK4) (v := undef) ?hi4 (by kernel_rfl) (by kernel_rfl) (by kernel_rfl) (fun _ _ _ h => h) (Or.inr ⟨?hw4, rfl⟩) hS0 ?_
              case hi4 => (simp only [List.getElem?_toArray, List.getElem?_cons_succ, List.getElem?_cons_zero]; rfl)
              case hw4 => rfl
              try simp only [Act.put, List.setIfInBounds_toArray, List.set_cons_zero, List.set_cons_succ]
              refine wpAnyH_take (i := 4) (oi := ?oK5) (v := undef) ?hi5 (by kernel_rfl) (by kernel_rfl) (by kernel_rfl) (fun _ _ _ h => h) (Or.inr ⟨?hw5, rfl⟩) hS0 ?_
              case hi5 => (simp only [List.getElem?_toArray, List.getElem?_cons_succ, List.getElem?_cons_zero]; rfl)
              case hw5 => rfl
              try simp only [Act.put, List.setIfInBounds_toArray, List.set_cons_zero, List.set_cons_succ]
              refine wpAnyH_take (i := 5) (oi := ?oK6) (v := undef) ?hi6 (by kernel_rfl) (by kernel_rfl) (by kernel_rfl) (fun _ _ _ h => h) (Or.inr ⟨?hw6, rfl⟩) hS0 ?_
              case hi6 => (simp only [List.getElem?_toArray, List.getElem?_cons_succ, List.getElem?_cons_zero]; rfl)
              case hw6 => rfl
              try simp only [Act.put, List.setIfInBounds_toArray, List.set_cons_zero, List.set_cons_succ]
              refine wpAnyH_take (i := 6) (oi := ?oK7) (v := undef) ?hi7 (by kernel_rfl) (by kernel_rfl) (by kernel_rfl) (fun _ _ _ h => h) (Or.inr ⟨?hw7, rfl⟩) hS0 ?_
              case hi7 => (simp only [List.getElem?_toArray, List.getElem?_cons_succ, List.getElem?_cons_zero]; rfl)
              case hw7 => rfl
              try simp only [Act.put, List.setIfInBounds_toArray, List.set_cons_zero, List.set_cons_succ]
              refine wpAnyH_take (i := 7) (oi := ?oK8) (v := undef) ?hi8 (by kernel_rfl) (by kernel_rfl) (by kernel_rfl) (fun _ _ _ h => h) (Or.inr ⟨?hw8, rfl⟩) hS0 ?_
              case hi8 => (simp only [List.getElem?_toArray, List.getElem?_cons_succ, List.getElem?_cons_zero]; rfl)
              case hw8 => rfl
              try simp only [Act.put, List.setIfInBounds_toArray, List.set_cons_zero, List.set_cons_succ]
              refine wpAnyH_take (i := 8) (oi := ?oK9) (v := undef) ?hi9 (by kernel_rfl) (by kernel_rfl) (by kernel_rfl) (fun _ _ _ h => h) (Or.inr ⟨?hw9, rfl⟩) hS0 ?_
              case hi9 => (simp only [List.getElem?_toArray, List.getElem?_cons_succ, List.getElem?_cons_zero]; rfl)
              case hw9 => rfl
              try simp only [Act.put, List.setIfInBounds_toArray, List.set_cons_zero, List.set_cons_succ]
              refine wpAnyH_take (i := 9) (oi := ?oK10) (v := undef) ?hi10 (by kernel_rfl) (by kernel_rfl) (by kernel_rfl) (fun _ _ _ h => h) (Or.inr ⟨?hw10, rfl⟩) hS0 ?_
              case hi10 => (simp only [List.getElem?_toArray, List.getElem?_cons_succ, List.getElem?_cons_zero]; rfl)
              case hw10 => rfl
              try simp only [Act.put, List.setIfInBounds_toArray, List.set_cons_zero, List.set_cons_succ]
              refine wpAnyH_take (i := 10) (oi := ?oK11) (v := undef) ?hi11 (by kernel_rfl) (by kernel_rfl) (by kernel_rfl) (fun _ _ _ h => h) (Or.inr ⟨?hw11, rfl⟩) hS0 ?_
              case hi11 => (simp only [List.getElem?_toArray, List.getElem?_cons_succ, List.getElem?_cons_zero]; rfl)
              case hw11 => rfl
              try simp only [Act.put, List.setIfInBounds_toArray, List.set_cons_zero, List.set_cons_succ]
              refine wpAnyH_take (i := 11) (oi := ?oK12) (v := ?vK12) ?hi12 (by kernel_rfl) (by kernel_rfl) (by kernel_rfl) (fun _ _ _ h => h) (Or.inl ⟨?hw12, ?hy12⟩) hS0 ?_
              case hi12 => (simp only [List.getElem?_toArray, List.getElem?_cons_succ, List.getElem?_cons_zero]; rfl)
              case hw12 => rfl
              case hy12 => (intro w hSw; obtain ⟨s1, s2, s3, s4⟩ := hSw; go_simp; try with_reducible rfl)
              try simp only [Act.put, List.setIfInBounds_toArray, List.set_cons_zero, List.set_cons_succ]
              refine wpAnyH_take (i := 12) (oi := ?oK13) (v := ?vK13) ?hi13 (by kernel_rfl) (by kernel_rfl) (by kernel_rfl) (fun _ _ _ h => h) (Or.inl ⟨?hw13, ?hy13⟩) hS0 ?_
              case hi13 => (simp only [List.getElem?_toArray, List.getElem?_cons_succ, List.getElem?_cons_zero]; rfl)
              case hw13 => rfl
              case hy13 => (intro w hSw; obtain ⟨s1, s2, s3, s4⟩ := hSw; go_simp; try with_reducible rfl)
              try simp only [Act.put, List.setIfInBounds_toArray, List.set_cons_zero, List.set_cons_succ]
              refine wpAnyH_take (i := 13) (oi := ?oK14) (v := ?vK14) ?hi14 (by kernel_rfl) (by kernel_rfl) (by kernel_rfl) (fun _ _ _ h => h) (Or.inl ⟨?hw14, ?hy14⟩) hS0 ?_
              case hi14 => (simp only [List.getElem?_toArray, List.getElem?_cons_succ, List.getElem?_cons_zero]; rfl)
              case hw14 => rfl
              case hy14 => (intro w hSw; obtain ⟨s1, s2, s3, s4⟩ := hSw; go_simp; try with_reducible rfl)
              try simp only [Act.put, List.setIfInBounds_toArray, List.set_cons_zero, List.set_cons_succ]
              refine wpAnyH_take (i := 14) (oi := ?oK15) (v := ?vK15) ?hi15 (by kernel_rfl) (by kernel_rfl) (by kernel_rfl) (fun _ _ _ h => h) (Or.inl ⟨?hw15, ?hy15⟩) hS0 ?_
              case hi15 => (simp only [List.getElem?_toArray, List.getElem?_cons_succ, List.getElem?_cons_zero]; rfl)
              case hw15 => rfl
              case hy15 => (intro w hSw; obtain ⟨s1, s2, s3, s4⟩ := hSw; go_simp; try with_reducible rfl)
              try simp only [Act.put, List.setIfInBounds_toArray, List.set_cons_zero, List.set_cons_succ]
              refine wpAnyH_take (i := 15) (oi := ?oK16) (v := ?vK16) ?hi16 (by kernel_rfl) (by kernel_rfl) (by kernel_rfl) (fun _ _ _ h => h) (Or.inl ⟨?hw16, ?hy16⟩) hS0 ?_
              case hi16 => (simp only [List.getElem?_toArray, List.getElem?_cons_succ, List.getElem?_cons_zero]; rfl)
              case hw16 => rfl
              case hy16 => (intro w hSw; obtain ⟨s1, s2, s3, s4⟩ := hSw; go_simp; try with_reducible rfl)
              try simp only [Act.put, List.setIfInBounds_toArray, List.set_cons_zero, List.set_cons_succ]
              refine wpAnyH_take (i := 16) (oi := ?oK17) (v := ?vK17) ?hi17 (by kernel_rfl) (by kernel_rfl) (by kernel_rfl) (fun _ _ _ h => h) (Or.inl ⟨?hw17, ?hy17⟩) hS0 ?_
              case hi17 => (simp only [List.getElem?_toArray, List.getElem?_cons_succ, List.getElem?_cons_zero]; rfl)
              case hw17 => rfl
              case hy17 => (intro w hSw; obtain ⟨s1, s2, s3, s4⟩ := hSw; go_simp; try with_reducible rfl)
              try simp only [Act.put, List.setIfInBounds_toArray, List.set_cons_zero, List.set_cons_succ]
              refine wpAnyH_take (i := 17) (oi := ?oK18) (v := ?vK18) ?hi18 (by kernel_rfl) (by kernel_rfl) (by kernel_rfl) (fun _ _ _ h => h) (Or.inl ⟨?hw18, ?hy18⟩) hS0 ?_
              case hi18 => (simp only [List.getElem?_toArray, List.getElem?_cons_succ, List.getElem?_cons_zero]; rfl)
              case hw18 => rfl
              case hy18 => (intro w hSw; obtain ⟨s1, s2, s3, s4⟩ := hSw; go_simp; try with_reducible rfl)
              try simp only [Act.put, List.setIfInBounds_toArray, List.set_cons_zero, List.set_cons_succ]
              refine wpAnyH_take (i := 18) (oi := ?oK19) (v := ?vK19) ?hi19 (by kernel_rfl) (by kernel_rfl) (by kernel_rfl) (fun _ _ _ h => h) (Or.inl ⟨?hw19, ?hy19⟩) hS0 ?_
              case hi19 => (simp only [List.getElem?_toArray, List.getElem?_cons_succ, List.getElem?_cons_zero]; rfl)
              case hw19 => rfl
              case hy19 => (intro w hSw; obtain ⟨s1, s2, s3, s4⟩ := hSw; go_simp; try with_reducible rfl)
              try simp only [Act.put, List.setIfInBounds_toArray, List.set_cons_zero, List.set_cons_succ]
              refine wpAnyH_take (i := 19) (oi := ?oK20) (v := ?vK20) ?hi20 (by kernel_rfl) (by kernel_rfl) (by kernel_rfl) (fun _ _ _ h => h) (Or.inl ⟨?hw20, ?hy20⟩) hS0 ?_
              case hi20 => (simp only [List.getElem?_toArray, List.getElem?_cons_succ, List.getElem?_cons_zero]; rfl)
              case hw20 => rfl
              case hy20 => (intro w hSw; obtain ⟨s1, s2, s3, s4⟩ := hSw; go_simp; try with_reducible rfl)
              try simp only [Act.put, List.setIfInBounds_toArray, List.set_cons_zero, List.set_cons_succ]
              refine wpAnyH_take (i := 21) (oi := ?oK21) (v := ?vK21) ?hi21 (by kernel_rfl) (by kernel_rfl) (by kernel_rfl) (fun _ _ _ h => h) (Or.inl ⟨?hw21, ?hy21⟩) hS0 ?_
              case hi21 => (simp only [List.getElem?_toArray, List.getElem?_cons_succ, List.getElem?_cons_zero]; rfl)
              case hw21 => rfl
              case hy21 => (intro w hSw; obtain ⟨s1, s2, s3, s4⟩ := hSw; go_simp; try with_reducible rfl)
              try simp only [Act.put, List.setIfInBounds_toArray, List.set_cons_zero, List.set_cons_succ]
              refine wpAnyH_take (i := 22) (oi := ?oK22) (v := ?vK22) ?hi22 (by kernel_rfl) (by kernel_rfl) (by kernel_rfl) (fun _ _ _ h => h) (Or.inl ⟨?hw22, ?hy22⟩) hS0 ?_
              case hi22 => (simp only [List.getElem?_toArray, List.getElem?_cons_succ, List.getElem?_cons_zero]; rfl)
              case hw22 => rfl
              case hy22 => (intro w hSw; obtain ⟨s1, s2, s3, s4⟩ := hSw; go_simp; try with_reducible rfl)
              try simp only [Act.put, List.setIfInBounds_toArray, List.set_cons_zero, List.set_cons_succ]
              refine wpAnyH_take (i := 23) (oi := ?oK23) (v := ?vK23) ?hi23 (by kernel_rfl) (by kernel_rfl) (by kernel_rfl) (fun _ _ _ h => h) (Or.inl ⟨?hw23, ?hy23⟩) hS0 ?_
              case hi23 => (simp only [List.getElem?_toArray, List.getElem?_cons_succ, List.getElem?_cons_zero]; rfl)
              case hw23 => rfl
              case hy23 => (intro w hSw; obtain ⟨s1, s2, s3, s4⟩ := hSw; go_simp; try with_reducible rfl)
              try simp only [Act.put, List.setIfInBounds_toArray, List.set_cons_zero, List.set_cons_succ]
              refine wpAnyH_take (i := 24) (oi := ?oK24) (v := ?vK24) ?hi24 (by kernel_rfl) (by kernel_rfl) (by kernel_rfl) (fun _ _ _ h => h) (Or.inl ⟨?hw24, ?hy24⟩) hS0 ?_
              case hi24 => (simp only [List.getElem?_toArray, List.getElem?_cons_succ, List.getElem?_cons_zero]; rfl)
              case hw24 => rfl
              case hy24 => (intro w hSw; obtain ⟨s1, s2, s3, s4⟩ := hSw; go_simp; try with_reducible rfl)
              try simp only [Act.put, List.setIfInBounds_toArray, List.set_cons_zero, List.set_cons_succ]
              refine wpAnyH_take (i := 25) (oi := ?oK25) (v := ?vK25) ?hi25 (by kernel_rfl) (by kernel_rfl) (by kernel_rfl) (fun _ _ _ h => h) (Or.inl ⟨?hw25, ?hy25⟩) hS0 ?_
              case hi25 => (simp only [List.getElem?_toArray, List.getElem?_cons_succ, List.getElem?_cons_zero]; rfl)
              case hw25 => rfl
              case hy25 => (intro w hSw; obtain ⟨s1, s2, s3, s4⟩ := hSw; go_simp; try with_reducible rfl)
              try simp only [Act.put, List.setIfInBounds_toArray, List.set_cons_zero, List.set_cons_succ]
              refine wpAnyH_take (i := 26) (oi := ?oK26) (v := ?vK26) ?hi26 (by kernel_rfl) (by kernel_rfl) (by kernel_rfl) (fun _ _ _ h => h) (Or.inl ⟨?hw26, ?hy26⟩) hS0 ?_
              case hi26 => (simp only [List.getElem?_toArray, List.getElem?_cons_succ, List.getElem?_cons_zero]; rfl)
              case hw26 => rfl
              case hy26 => (intro w hSw; obtain ⟨s1, s2, s3, s4⟩ := hSw; go_simp; try with_reducible rfl)
              try simp only [Act.put, List.setIfInBounds_toArray, List.set_cons_zero, List.set_cons_succ]
              refine wpAnyH_take (i := 27) (oi := ?oK27) (v := ?vK27) ?hi27 (by kernel_rfl) (by kernel_rfl) (by kernel_rfl) (fun _ _ _ h => h) (Or.inl ⟨?hw27, ?hy27⟩) hS0 ?_
              case hi27 => (simp only [List.getElem?_toArray, List.getElem?_cons_succ, List.getElem?_cons_zero]; rfl)
              case hw27 => rfl
              case hy27 => (intro w hSw; obtain ⟨s1, s2, s3, s4⟩ := hSw; go_simp; try with_reducible rfl)
              try simp only [Act.put, List.setIfInBounds_toArray, List.set_cons_zero, List.set_cons_succ]
              refine wpAnyH_ready (rs := [20]) (by kernel_rfl) (by simp) ?_
              refine AllReadyH.cons (o := ?oK28) ?hi28 (fun K hK => ?_) AllReadyH.nil
              case hi28 => (simp only [List.getElem?_toArray, List.getElem?_cons_succ, List.getElem?_cons_zero]; rfl)
              go_simp
              refine (keeps10_raw (lc := lc) (HB.out.ext (HE5.out.trans hS0.2.2.2)) HOK.out _ _ _ _).mono ?_
              rintro e uu ⟨rfl, hx⟩
              have hS1 := hS0.next hx
              clear hx
              try simp only []
              refine hK.out _ _ hS1 (fun _ => ?_)
              clear hK K
              try simp only [Act.put, List.setIfInBounds_toArray, List.set_cons_zero, List.set_cons_succ]
              refine wpAnyH_ready (rs := [28]) (by kernel_rfl) (by simp) ?_
              refine AllReadyH.cons (o := ?oK29) ?hi29 (fun K hK => ?_) AllReadyH.nil
              case hi29 => (simp only [List.getElem?_toArray, List.getElem?_cons_succ, List.getElem?_cons_zero]; rfl)
              go_simp
              refine (rkeeps_at (HMM.out _ (HX05.out.trans hS1.2.2.2)) HR.out HOK.out _ _ _ _).mono ?_
              rintro e uu ⟨rfl, hx⟩
              have hS2 := hS1.next hx
              clear hx
              try simp only []
              refine hK.out _ _ hS2 (fun _ => ?_)
              clear hK K
              try simp only [Act.put, List.setIfInBounds_toArray, List.set_cons_zero, List.set_cons_succ]
              refine wpAnyH_take (i := 29) (oi := ?oK30) (v := ?vK30) ?hi30 (by kernel_rfl) (by kernel_rfl) (by kernel_rfl) (fun _ _ _ h => h) (Or.inl ⟨?hw30, ?hy30⟩) hS2 ?_
              case hi30 => (simp only [List.getElem?_toArray, List.getElem?_cons_succ, List.getElem?_cons_zero]; rfl)
              case hw30 => rfl
              case hy30 => (intro w hSw; obtain ⟨s1, s2, s3, s4⟩ := hSw; go_simp; try with_reducible rfl)
              try simp only [Act.put, List.setIfInBounds_toArray, List.set_cons_zero, List.set_cons_succ]
              refine wpAnyH_take (i := 30) (oi := ?oK31) (v := ?vK31) ?hi31 (by kernel_rfl) (by kernel_rfl) (by kernel_rfl) (fun _ _ _ h => h) (Or.inl ⟨?hw31, ?hy31⟩) hS2 ?_
              case hi31 => (simp only [List.getElem?_toArray, List.getElem?_cons_succ, List.getElem?_cons_zero]; rfl)
              case hw31 => rfl
              case hy31 => (intro w hSw; obtain ⟨s1, s2, s3, s4⟩ := hSw; go_simp; try with_reducible rfl)
              try simp only [Act.put, List.setIfInBounds_toArray, List.set_cons_zero, List.set_cons_succ]
              refine wpAnyH_done (by kernel_rfl) ?_ _
              refine NoPanic.normal ?_
              go_wp2
              go_roundg (x.rs.length - (k + 1))
              case measure => omega
              case rel => exact ⟨k + 1, by simp, by omega, by omega, (H2.out.trans HX5.out).trans hS2.2.2.2⟩
          · obtain rfl : k = x.rs.length := by omega
            have hz2 : ¬ ((x.rs.length : Int) < (x.rs.length : Int)) := by omega
            go_wp2
            go_roundg (l.length - (i + 1))
            case measure => omega
            case rel => exact ⟨i + 1, by simp, by omega, by omega, H2.out⟩
      · obtain rfl : i = l.length := by omega
        have hz : ¬ ((l.length : Int) < (l.length : Int)) := by omega
        have HE := asideI ((HX0.out.trans HX2.out).trans H.out)
        have HXW := asideI (HX2.out.trans H.out)
        obtain ⟨p0, p1⟩ := box2 ((HXW.out.block w0.heap.size (by rw [hs0]; omega) id).trans K4.out)
        obtain ⟨q0, q1⟩ := box2 ((HXW.out.block (w0.heap.size + 1) (by rw [hs0]; omega) id).trans K5.out)
        go_wp2
        first
          | go_region_held3 (fun W' => W'.cell? ⟨w0.heap.size, 0, none⟩ = some (.int .i64 a0) ∧ W'.cell? ⟨w0.heap.size, 1, none⟩ = some (.int .i64 a1) ∧ W'.cell? ⟨w0.heap.size + 1, 0, none⟩ = some (.int .i64 n0) ∧ W'.cell? ⟨w0.heap.size + 1, 1, none⟩ = some (.int .i64 g0) ∧ Ext (fun _ => False) wr W') (refine ⟨?_, ?_, ?_, ?_, ?_⟩ <;> first | assumption | exact extD _ | (go_keep; done)) (first
            | (go_at_call 7; (try dsimp only at *); go_split_ands; refine (HA.out _).mono ?_; rintro e w8 ⟨rfl, hx⟩
               have hx8 : Ext (fun _ => False) wr w8 := Ext.trans (by assumption) hx
               have y0 := cell_ext hx8 p0
               have y1 := cell_ext hx8 p1
               have y2 := cell_ext hx8 q0
               have y3 := cell_ext hx8 q1
               clear hx)
            | (go_at_call 10; (try dsimp only at *); go_split_ands; refine (keeps10_raw (lc := lc) (HB.out.ext (HE.out.trans (by assumption))) HOK.out _ _ _ _).mono ?_; rintro e w6 ⟨rfl, hx⟩
               have hx6 : Ext (fun _ => False) wr w6 := Ext.trans (by assumption) hx
               have y0 := cell_ext hx6 p0
               have y1 := cell_ext hx6 p1
               have y2 := cell_ext hx6 q0
               have y3 := cell_ext hx6 q1
               clear hx)
            | (go_at_call 11; (try dsimp only at *); go_split_ands; refine (rkeeps_at (HMM.out _ (HXW.out.trans (by assumption))) HR.out HOK.out _ _ _ _).mono ?_; rintro e w7 ⟨rfl, hx⟩
               have hx7 : Ext (fun _ => False) wr w7 := Ext.trans (by assumption) hx
               have y0 := cell_ext hx7 p0
               have y1 := cell_ext hx7 p1
               have y2 := cell_ext hx7 q0
               have y3 := cell_ext hx7 q1
               clear hx))
          | fail
        all_goals (
          go_wp2
          go_ret
          exact ⟨rfl, HE.out.trans (by assumption)⟩)
end Go.Proofs.Ytikidcgnbcibpaa

/- Compact: CompactKeeps, the law (awake is a premise here). -/

set_option linter.unusedSimpArgs false
set_option linter.unusedVariables false
set_option maxHeartbeats 4000000
namespace Go.Proofs.Ytikidcgnbcibpaa

open Go.Av Go.Cp
theorem law_keeps (hA : AwakeOK) (l : List Bat) (a0 a1 n0 g0 : Int) : Pure Try.prog 3 [.sl 6 (BtL l), .agg [.int .i64 a0, .int .i64 a1], .agg [.int .i64 n0, .int .i64 g0]] (.sv (.bool true)) := by
  refine pure_true fun mu w vs hm hr => ?_
  match vs, hr.1 with
  | [lv, av, wv], _ =>
    have h0 : Rep mu (.sl 6 (BtL l)) lv := hr.2 0 (by simp)
    obtain ⟨us, rfl, hl, hc⟩ := Rep.inv_agg (show Rep mu (.agg [.int .i64 a0, .int .i64 a1]) av from hr.2 1 (by simp))
    obtain ⟨ws, rfl, hl2, hc2⟩ := Rep.inv_agg (show Rep mu (.agg [.int .i64 n0, .int .i64 g0]) wv from hr.2 2 (by simp))
    obtain ⟨lp, lc, rfl⟩ := sl_shape h0
    rw [BtL_length] at h0 ⊢
    match us, hl, ws, hl2 with
    | [u, v], _, [x, y], _ =>
      have e0 : u = .int .i64 a0 := Rep.inv_int (hc 0 (by simp))
      have e1 : v = .int .i64 a1 := Rep.inv_int (hc 1 (by simp))
      have e2 : x = .int .i64 n0 := Rep.inv_int (hc2 0 (by simp))
      have e3 : y = .int .i64 g0 := Rep.inv_int (hc2 1 (by simp))
      subst e0 e1 e2 e3
      exact keeps_law hA hm h0 a0 a1 n0 g0
end Go.Proofs.Ytikidcgnbcibpaa

/- Compact: what awake reckons (plain), and of. -/

set_option linter.unusedSimpArgs false
set_option linter.unusedVariables false
set_option maxRecDepth 100000
set_option maxHeartbeats 4000000
namespace Go.Proofs.Ytikidcgnbcibpaa

open Go.Av Go.Cp
def kA : ByteArray := ByteArray.mk #[97]
def kB : ByteArray := ByteArray.mk #[98]
def kV : ByteArray := ByteArray.mk #[118]
def rA (d : Int) (k : ByteArray) : Rec := ⟨d, 0, true, k, false, kV⟩
/-- The batches that awake makes, and what stays of them. -/
def l0 : List Bat := [⟨0, 2, 0, 0, 0, [rA 0 kA, rA 1 kB]⟩, ⟨2, 1, 0, 0, 0, [rA 0 kA]⟩]
def c0 : List Bat := [⟨0, 2, 0, 0, 0, [rA 1 kB]⟩, ⟨2, 1, 0, 0, 0, [rA 0 kA]⟩]
theorem clean_l0 : cleanS l0 9 3 = c0 := by decide +kernel
theorem clean_c0 : dirtyS l0 9 3 = true ∧ dirtyS c0 9 3 = false ∧ (prs c0).length = 2 ∧ lastS l0 kA = some 2 ∧ keepsL l0 0 1 9 3 = true ∧ keepsL l0 0 0 9 3 = false := by decide +kernel
theorem ok_l0 : LOK l0 := light_ok (by decide +kernel)
theorem of_at (w : World) (d : Int) (k : ByteArray) : Calls Try.prog 18 #[.int .i64 d, .string k] w fun e w' => e = .returned (recV (rA d k)) ∧ Ext (fun _ => False) w w' := by
  refine (of_pure d k (fun _ _ => none) w [_, _] (fun b j v e => by cases e) (argsCons (.int _ _) (argsCons (.str _) argsNil))).mono ?_
  rintro e w' ⟨val, mu', rfl, hx, hle, hm', hag, ⟨gx, hrep, _⟩⟩
  have h : Rep mu' (.agg [.int .i64 d, .int .i64 0, .bool true, .str k, .bool false, .str (ByteArray.mk #[118])]) val := hrep
  obtain ⟨vs, rfl, hl, hc⟩ := h.inv_agg
  match vs, hl with
  | [v0, v1, v2, v3, v4, v5], _ =>
    have e0 : v0 = .int .i64 d := Rep.inv_int (hc 0 (by simp))
    have e1 : v1 = .int .i64 0 := Rep.inv_int (hc 1 (by simp))
    have e2 : v2 = .bool true := Rep.inv_bool (hc 2 (by simp))
    have e3 : v3 = .string k := Rep.inv_str (hc 3 (by simp))
    have e4 : v4 = .bool false := Rep.inv_bool (hc 4 (by simp))
    have e5 : v5 = .string (ByteArray.mk #[118]) := Rep.inv_str (hc 5 (by simp))
    subst e0 e1 e2 e3 e4 e5
    exact ⟨rfl, hx⟩
end Go.Proofs.Ytikidcgnbcibpaa

/- Compact: awake. -/

set_option linter.unusedSimpArgs false
set_option linter.unusedVariables false
set_option maxRecDepth 100000
set_option maxHeartbeats 4000000
namespace Go.Proofs.Ytikidcgnbcibpaa
open Go.RowKit
open Go.Av Go.Cp
/-- All that a world holds, as a memory. -/
def memAll (w : World) : Mem := fun b j => (w.cell? ⟨b, j, none⟩).bind fun v => if v.oneCell' = true then some v else none
theorem memAll_ok (w : World) : MemOK (memAll w) w := fun b j v e => by
  unfold memAll at e
  cases hc : w.cell? ⟨b, j, none⟩ with
  | none => rw [hc] at e; cases e
  | some u =>
    rw [hc] at e
    simp only [Option.bind_some] at e
    split at e
    · cases e; exact ⟨rfl, by assumption⟩
    · cases e
theorem memAll_get {w : World} {b j : Nat} {v : Value} (h1 : w.cell? ⟨b, j, none⟩ = some v) (h2 : v.oneCell' = true) : memAll w b j = some v := by
  unfold memAll
  rw [h1]; simp [h2]
theorem recs_rep {w : World} {p : Option Addr} {rs : List Rec} {c : Nat} (h : RecsW w p rs) (hn : p = none → rs = [] ∧ c = 0) (hc : rs.length ≤ c) (hp : ∀ a, p = some a → ∃ b o, a = ⟨b, o, none⟩) : Rep (memAll w) (.sl 6 (RcL rs)) (.slice p rs.length c) := by
  cases p with
  | none =>
    obtain ⟨rfl, rfl⟩ := hn rfl
    exact .slnil 6
  | some a =>
    obtain ⟨b, o, rfl⟩ := hp a rfl
    have hcell : ∀ i q, i < rs.length → q < 6 → w.cell? ⟨b, o + i * 6 + q, none⟩ = some ((encL (rs.getD i rec0)).getD q Go.undef) := fun i q hi hq => by
      obtain ⟨b', o', e, d0, d1, d2, d3, d4, d5⟩ := h i hi
      cases e
      match q, hq with
      | 0, _ => exact d0
      | 1, _ => exact d1
      | 2, _ => exact d2
      | 3, _ => exact d3
      | 4, _ => exact d4
      | 5, _ => exact d5
    have := Rep.sl (mu := memAll w) 6 (RcL rs) b o c (fun i q => (encL (rs.getD i rec0)).getD q Go.undef) (by simpa using hc) (fun x hx => by
      obtain ⟨r, _, rfl⟩ := List.mem_map.1 hx; rfl) (fun i q hi hq => ?_) (fun i q hi hq => ?_)
    · rw [RcL_length] at this
      exact this
    · have hil : i < rs.length := by simpa using hi
      refine memAll_get (hcell i q hil hq) ?_
      have h6 : (encL (rs.getD i rec0)).length = 6 := rfl
      have hm := getD_memV (encL (rs.getD i rec0)) q (by omega)
      exact flatR_one [rs.getD i rec0] _ (List.mem_flatMap.2 ⟨_, by simp, hm⟩)
    · have hil : i < rs.length := by simpa using hi
      rw [show (RcL rs).getD i .undef = (rs.getD i rec0).sv by simp [RcL, List.getD_eq_getElem?_getD, hil]]
      exact sv_encL _ _ q hq
theorem bats_rep {w : World} {b o c : Nat} {l : List Bat} (h : BatsW w (some ⟨b, o, none⟩) l) (hc : l.length ≤ c) (hr : ∀ i, i < l.length → ∀ rp n rc, w.cell? ⟨b, o + i * 6 + 5, none⟩ = some (.slice rp n rc) → n ≤ rc ∧ ∀ a, rp = some a → ∃ b o, a = ⟨b, o, none⟩) : Rep (memAll w) (.sl 6 (BtL l)) (.slice (some ⟨b, o, none⟩) l.length c) := by
  have hcell : ∀ i q, i < l.length → q < 6 → ∃ v, w.cell? ⟨b, o + i * 6 + q, none⟩ = some v ∧ v.oneCell' = true ∧ Rep (memAll w) ((l.getD i bat0).sv.cell q) v := fun i q hi hq => by
    obtain ⟨b', o', rp, rc, e, ⟨d0, d1, d2, d3, d4, d5⟩, hR, hN⟩ := h i hi
    cases e
    obtain ⟨r1, r2⟩ := hr i hi _ _ _ d5
    generalize l.getD i bat0 = x at *
    match q, hq with
    | 0, _ => exact ⟨_, d0, rfl, .int _ _⟩
    | 1, _ => exact ⟨_, d1, rfl, .int _ _⟩
    | 2, _ => exact ⟨_, d2, rfl, .int _ _⟩
    | 3, _ => exact ⟨_, d3, rfl, .int _ _⟩
    | 4, _ => exact ⟨_, d4, rfl, .int _ _⟩
    | 5, _ => exact ⟨_, d5, rfl, recs_rep hR hN r1 r2⟩
  have := Rep.sl (mu := memAll w) 6 (BtL l) b o c (fun i q => ((w.cell? ⟨b, o + i * 6 + q, none⟩).getD Go.undef)) (by simpa using hc) (fun x hx => by
    obtain ⟨r, _, rfl⟩ := List.mem_map.1 hx; rfl) (fun i q hi hq => ?_) (fun i q hi hq => ?_)
  · rw [BtL_length] at this
    exact this
  · have hil : i < l.length := by simpa using hi
    obtain ⟨v, h1, h2, _⟩ := hcell i q hil hq
    rw [h1]
    exact memAll_get h1 h2
  · have hil : i < l.length := by simpa using hi
    obtain ⟨v, h1, h2, h3⟩ := hcell i q hil hq
    rw [h1, show (BtL l).getD i .undef = (l.getD i bat0).sv by simp [BtL, List.getD_eq_getElem?_getD, hil]]
    exact h3
def cR2 : Array Value := #[.int .i64 0, .int .i64 0, .bool true, .string { data := #[97] }, .bool false, .string { data := #[118] }, .int .i64 1, .int .i64 0, .bool true, .string { data := #[98] }, .bool false, .string { data := #[118] }]
def cR1 : Array Value := #[.int .i64 0, .int .i64 0, .bool true, .string { data := #[97] }, .bool false, .string { data := #[118] }]
def cB (b2 b3 : Nat) : Array Value := #[.int .i64 0, .int .i64 2, .int .i64 0, .int .i64 0, .int .i64 0, .slice (some ⟨b2, 0, none⟩) 2 2, .int .i64 2, .int .i64 1, .int .i64 0, .int .i64 0, .int .i64 0, .slice (some ⟨b3, 0, none⟩) 1 1]
theorem l0_bats {w : World} {b2 b3 b4 : Nat} (h2 : w.heap[b2]? = some (.cells cR2 32)) (h3 : w.heap[b3]? = some (.cells cR1 32)) (h4 : w.heap[b4]? = some (.cells (cB b2 b3) 30)) : BatsW w (some ⟨b4, 0, none⟩) l0 := by
  intro i hi
  match i, hi with
  | 0, _ =>
    refine ⟨b4, 0, some ⟨b2, 0, none⟩, 2, rfl, ⟨?_, ?_, ?_, ?_, ?_, ?_⟩, fun k hk => ?_, fun e => by cases e⟩
    iterate 6 (rw [cell_of_block h4]; rfl)
    match k, hk with
    | 0, _ => refine ⟨b2, 0, rfl, ?_, ?_, ?_, ?_, ?_, ?_⟩ <;> (rw [cell_of_block h2]; rfl)
    | 1, _ => refine ⟨b2, 0, rfl, ?_, ?_, ?_, ?_, ?_, ?_⟩ <;> (rw [cell_of_block h2]; rfl)
  | 1, _ =>
    refine ⟨b4, 0, some ⟨b3, 0, none⟩, 1, rfl, ⟨?_, ?_, ?_, ?_, ?_, ?_⟩, fun k hk => ?_, fun e => by cases e⟩
    iterate 6 (rw [cell_of_block h4]; rfl)
    match k, hk with
    | 0, _ => refine ⟨b3, 0, rfl, ?_, ?_, ?_, ?_, ?_, ?_⟩ <;> (rw [cell_of_block h3]; rfl)
theorem l0_rep {w : World} {b2 b3 b4 : Nat} (h2 : w.heap[b2]? = some (.cells cR2 32)) (h3 : w.heap[b3]? = some (.cells cR1 32)) (h4 : w.heap[b4]? = some (.cells (cB b2 b3) 30)) : Rep (memAll w) (.sl 6 (BtL l0)) (.slice (some ⟨b4, 0, none⟩) 2 2) := by
  refine bats_rep (l := l0) (c := 2) (l0_bats h2 h3 h4) (Nat.le_refl _) (fun i hi rp n rc h => ?_)
  rw [cell_of_block h4] at h
  match i, hi with
  | 0, _ =>
    cases h
    exact ⟨Nat.le_refl _, fun a e => by cases e; exact ⟨_, _, rfl⟩⟩
  | 1, _ =>
    cases h
    exact ⟨Nat.le_refl _, fun a e => by cases e; exact ⟨_, _, rfl⟩⟩
/-- What Clean tells, by content. -/
theorem clean_rep {w w' : World} {l : List Bat} {now grace : Int} {e : Ending} (h : CleanP l now grace w e w') : ∃ p c, e = .returned (.slice p (cleanS l now grace).length c) ∧ Rep (memAll w') (.sl 6 (BtL (cleanS l now grace))) (.slice p (cleanS l now grace).length c) ∧ Ext (fun _ => False) w w' := by
  obtain ⟨p, c, es, rfl, h1, h2, h3, h4⟩ := h
  have hr := rep_out (mu' := memAll w') (fun b j v _ k1 k2 => memAll_get k1 k2) h1 h2
  rw [← h3]
  rw [List.length_map]
  exact ⟨p, c, rfl, hr, h4⟩
end Go.Proofs.Ytikidcgnbcibpaa

/- Compact: awake. -/

set_option linter.unusedSimpArgs false
set_option linter.unusedVariables false
set_option maxRecDepth 100000
set_option maxHeartbeats 4000000
namespace Go.Proofs.Ytikidcgnbcibpaa
open Go.RowKit
open Go.Av Go.Cp
theorem _root_.Go.Av.Ext.block_get {w w' : World} (k : Ext (fun _ => False) w w') {b : Nat} {o : Obj} (h : w.heap[b]? = some o) : w'.heap[b]? = some o := (k.block b (Array.getElem?_eq_some_iff.1 h).1 id).trans h
theorem int_at {f : FuncId} {args : List SV} {x : Int} (hp : Pure Try.prog f args (.sv (.int .i64 x))) {mu : Mem} {w : World} (hm : MemOK mu w) {vs : List Value} (ha : RepArgs mu args vs) :
    Calls Try.prog f vs.toArray w fun e w' => e = .returned (.int .i64 x) ∧ Ext (fun _ => False) w w' := by
  refine (hp mu w vs hm ha).mono ?_
  rintro e w' ⟨val, mu', rfl, hx, hle, hm', hag, ⟨gx, hrep, _⟩⟩
  have h : Rep mu' (.int .i64 x) val := hrep
  rw [Rep.inv_int h]
  exact ⟨rfl, hx⟩
theorem count_at {mu : Mem} {w : World} (hm : MemOK mu w) {l : List Bat} {lp : Option Addr} {lc : Nat} (h : Rep mu (.sl 6 (BtL l)) (.slice lp l.length lc)) (hl : LOK l) : Calls Try.prog 19 #[.slice lp l.length lc] w fun e w' => e = .returned (.int .i64 (prs l).length) ∧ Ext (fun _ => False) w w' :=
  int_at (count_pure l hl) hm (argsCons h argsNil)
theorem dirty_at {mu : Mem} {w : World} (hm : MemOK mu w) {l : List Bat} {lp : Option Addr} {lc : Nat} (h : Rep mu (.sl 6 (BtL l)) (.slice lp l.length lc)) (hl : LOK l) (now grace : Int) : Calls Try.prog 16 #[.slice lp l.length lc, .int .i64 now, .int .i64 grace] w fun e w' => e = .returned (.bool (dirtyS l now grace)) ∧ Ext (fun _ => False) w w' :=
  bool_at (dirty_pure l now grace hl) hm (argsCons h (argsCons (.int _ _) (argsCons (.int _ _) argsNil)))
theorem clean_c1 : dirtyS l0 9 3 = true ∧ dirtyS c0 9 3 = false ∧ (prs c0).length = 2 ∧ lastS l0 { data := #[97] } = some 2 ∧ keepsL l0 0 1 9 3 = true ∧ keepsL l0 0 0 9 3 = false := clean_c0
theorem ok_c0 : LOK c0 := by rw [← clean_l0]; exact ok_l0.clean 9 3
theorem awake_raw : AwakeOK := by
  intro w
  have HO1 := asideI (fun W => of_at W 0 kA)
  have HO2 := asideI (fun W => of_at W 1 kB)
  simp only [rA, recV, kA, kB, kV] at HO1 HO2
  go_enter Try.func7, Try.ntmps7
  go_wp2_with (first
    | (go_at_call 10
       have hmk := HT9
       refine (keeps10_raw (lc := 2) (HB4.out.ext HX9.out) ok_l0 0 0 9 3).mono ?_
       rintro e w10 ⟨rfl, hx⟩
       rw [clean_c1.2.2.2.2.2]
       have HX10 := asideI (HX9.out.trans hx)
       clear hx
       simp only [])
    | (go_at_call 10
       have hmk := HT8
       refine (keeps10_raw (lc := 2) (HB4.out.ext HX8.out) ok_l0 0 1 9 3).mono ?_
       rintro e w9 ⟨rfl, hx⟩
       rw [clean_c1.2.2.2.2.1]
       have HX9 := asideI (HX8.out.trans hx)
       have HT9 : Aside True := trivial
       clear hx
       simp only [])
    | (go_at_call 16
       have hmk := HT7
       refine (dirty_at (l := c0) (HMM.out _ HX7.out) HC4.out ok_c0 9 3).mono ?_
       rintro e w8 ⟨rfl, hx⟩
       rw [clean_c1.2.1]
       have HX8 := asideI (HX7.out.trans hx)
       have HT8 : Aside True := trivial
       clear hx
       simp only [])
    | (go_at_call 16
       have hmk := HT6
       refine (dirty_at (l := l0) (HMM.out _ HX6.out) HR4.out ok_l0 9 3).mono ?_
       rintro e w7 ⟨rfl, hx⟩
       rw [clean_c1.1]
       have HX7 := asideI (HX6.out.trans hx)
       have HT7 : Aside True := trivial
       clear hx
       simp only [])
    | (go_at_call 8
       have hmk := HT5
       refine (last_raw (lc := 2) (HB4.out.ext HX5.out) ok_l0).mono ?_
       rintro e w6 ⟨mb, nn, rfl, hmb, hm2, hx⟩
       have hlk := hm2.look (k := { data := #[97] }) (by decide)
       have hls : lastS l0 { data := #[97] } = lastP (prs l0) { data := #[97] } := rfl
       rw [← hls, clean_c1.2.2.2.1] at hlk
       simp only [Option.getD_some] at hlk
       have HX6 := asideI (HX5.out.trans hx)
       have HT6 : Aside True := trivial
       clear hx hm2 hls hmb
       simp only [])
    | (go_at_call 19
       have hmk := HT4
       refine (count_at (l := c0) (memAll_ok _) HC4.out ok_c0).mono ?_
       rintro e w5 ⟨rfl, hx⟩
       rw [clean_c1.2.2.1]
       have HX5 := asideI hx
       have HT5 : Aside True := trivial
       clear hx
       simp only [])
    | (go_at_call 12
       have hmk := HT3
       have k2 : ((w3.alloc (.cells cR1 32)).alloc (.cells (cB w2.heap.size w3.heap.size) 30)).heap[w2.heap.size]? = some (.cells cR2 32) := by
         have hx := (HX3.out.trans (extA w3 (.cells cR1 32))).trans (extA (w3.alloc (.cells cR1 32)) (.cells (cB w2.heap.size w3.heap.size) 30))
         rw [hx.block _ (by simp) id, alloc_get, if_pos rfl]; rfl
       have k3 : ((w3.alloc (.cells cR1 32)).alloc (.cells (cB w2.heap.size w3.heap.size) 30)).heap[w3.heap.size]? = some (.cells cR1 32) := by
         rw [alloc_get, if_neg (by simp), alloc_get, if_pos rfl]
       have k4 : ((w3.alloc (.cells cR1 32)).alloc (.cells (cB w2.heap.size w3.heap.size) 30)).heap[w3.heap.size + 1]? = some (.cells (cB w2.heap.size w3.heap.size) 30) := by
         rw [alloc_get, if_pos (by simp)]
       have HB := asideI (l0_bats k2 k3 k4)
       have HR := asideI (l0_rep k2 k3 k4)
       have HXW := asideI (((HX2.out.trans (extA w2 (.cells cR2 32))).trans HX3.out).trans ((extA w3 (.cells cR1 32)).trans (extA (w3.alloc (.cells cR1 32)) (.cells (cB w2.heap.size w3.heap.size) 30))))
       refine (clean_raw (lc := 2) HB.out ok_l0 9 3).mono ?_
       rintro e w4 hCL
       obtain ⟨p, cc, rfl, hrc, hx⟩ := clean_rep hCL
       rw [clean_l0] at hrc ⊢
       have HR4 := asideI (l0_rep (hx.block_get k2) (hx.block_get k3) (hx.block_get k4))
       have HB4 := asideI (HB.out.ext hx)
       have HX4 := asideI (HXW.out.trans hx)
       have HC4 := asideI hrc
       obtain ⟨b, o, rp, rc, rfl, ⟨c0_, c1_, c2_, c3_, c4_, c5_⟩, hRS, _⟩ := bats_of (memAll_ok _) hrc 0 (by decide)
       obtain ⟨rb, ro, rfl, d0_, d1_, d2_, d3_, d4_, d5_⟩ := hRS 0 (by decide)
       have HMM := asideI (fun (W : World) (k : Ext (fun _ => False) w4 W) => memX (memAll_ok w4) k (fun _ e => e.elim))
       have HT4 : Aside True := trivial
       clear hCL k2 k3 k4 hrc hx hRS
       simp only [c0, l0, List.length_cons, List.length_nil, List.getD_cons_zero, Nat.zero_mul, Nat.add_zero, Nat.zero_add, rA, kB, kV] at c0_ c1_ c2_ c3_ c4_ c5_ d0_ d1_ d2_ d3_ d4_ d5_ ⊢)
    | (go_at_call 18; have hmk := HT2; refine (HO1.out _).mono ?_; rintro e w3 ⟨rfl, hx⟩; have HX3 := asideI hx; have HT3 : Aside True := trivial; clear hx; simp only [])
    | (go_at_call 18; have hmk := HT1; have HT2 : Aside True := trivial; refine (HO2.out _).mono ?_; rintro e w2 ⟨rfl, hx⟩; have HX2 := asideI (HX1.out.trans hx); clear hx; simp only [])
    | (go_at_call 18; have HT1 : Aside True := trivial; refine (HO1.out _).mono ?_; rintro e w1 ⟨rfl, hx⟩; have HX1 := asideI hx; clear hx; simp only [])
    | go_in)
  go_ret
  exact ⟨rfl, HX4.out.trans HX10.out⟩
end Go.Proofs.Ytikidcgnbcibpaa

/- Compact: what fits the arguments. -/


set_option linter.unusedSimpArgs false
set_option linter.unusedVariables false
set_option maxHeartbeats 4000000
namespace Go.Proofs.Ytikidcgnbcibpaa

open Go.Av Go.Cp
def WkM (a b : SV) : Prop := ∀ (mu : Mem) (v : Value), Rep mu a v → Rep mu b v
theorem WkM.refl (a : SV) : WkM a a := fun _ _ h => h
theorem wkM_nils (z : Nat) : WkM .nils (.sl z []) := fun mu v h => by rw [h.inv_nils]; exact .slnil z
theorem wkM_sl {z : Nat} {xs ys : List SV} (hl : xs.length = ys.length) (hn : ∀ y ∈ ys, y.nc = z) (h : ∀ i j, i < xs.length → j < z → WkM ((xs.getD i .undef).cell j) ((ys.getD i .undef).cell j)) : WkM (.sl z xs) (.sl z ys) := by
  intro mu v hr
  rcases hr.inv_sl with ⟨⟨p, cap, rfl, hp⟩, hx⟩ | ⟨b0, off, cap, vals, rfl, h1, h2, h3, h4⟩
  · subst hx
    have : ys = [] := by cases ys with | nil => rfl | cons a r => simp at hl
    subst this
    cases p with
    | none => rw [hp rfl]; exact .slnil _
    | some a => exact .sle _ _ _
  · rw [hl] at h1 h3 h4 ⊢
    exact .sl z ys b0 off cap vals h1 hn h3 (fun i j hi hj => h i j (by omega) hj mu _ (h4 i j hi hj))
theorem pure_wkM {P : Program} {f : FuncId} {rv : LV} {l m : List SV} (hl : l.length = m.length) (h : ∀ j, j < l.length → WkM (l.getD j .undef) (m.getD j .undef)) (p : Pure P f m rv) : Pure P f l rv :=
  fun mu w vs hm hr => p mu w vs hm ⟨by rw [hr.1]; exact hl, fun j hj => h j (by omega) mu _ (hr.2 j (by omega))⟩
abbrev shR : Sh := .st [.int .i64, .int .i64, .bool, .str, .bool, .str]
abbrev shB : Sh := .st [.int .i64, .int .i64, .int .i64, .int .i64, .int .i64, .sl shR]
theorem has_recs : ∀ {xs : List SV}, (∀ x ∈ xs, x = mkE x.cells ∧ shR.has x.cells) → ∃ l, xs = RcL l
  | [], _ => ⟨[], rfl⟩
  | x :: xs, h => by
    obtain ⟨l, rfl⟩ := has_recs (xs := xs) (fun y hy => h y (by simp [hy]))
    obtain ⟨he, hx⟩ := h x (by simp)
    simp only [Sh.has, Sh.hasL] at hx
    obtain ⟨_, _, e1, ⟨dl, rfl, w1⟩, _, _, rfl, ⟨tm, rfl, w2⟩, _, _, rfl, ⟨kd, rfl⟩, _, _, rfl, ⟨key, rfl, _⟩, _, _, rfl, ⟨dd, rfl⟩, _, _, rfl, ⟨val, rfl, _⟩, rfl⟩ := hx
    rw [e1] at he
    simp only [List.singleton_append, mkE] at he
    subst he
    exact ⟨⟨dl, tm, kd, key, dd, val⟩ :: l, rfl⟩
theorem has_bats : ∀ {xs : List SV}, (∀ x ∈ xs, x = mkE x.cells ∧ shB.has x.cells) → ∃ l : List Bat, xs.length = l.length ∧ ∀ i j, i < xs.length → j < 6 → WkM ((xs.getD i .undef).cell j) (((BtL l).getD i .undef).cell j)
  | [], _ => ⟨[], rfl, fun i j hi => by simp at hi⟩
  | x :: xs, h => by
    obtain ⟨l, hl, hw⟩ := has_bats (xs := xs) (fun y hy => h y (by simp [hy]))
    obtain ⟨he, hx⟩ := h x (by simp)
    simp only [Sh.has, Sh.hasL] at hx
    obtain ⟨_, _, e1, ⟨ba, rfl, w1⟩, _, _, rfl, ⟨co, rfl, w2⟩, _, _, rfl, ⟨pr, rfl, w3⟩, _, _, rfl, ⟨ep, rfl, w4⟩, _, _, rfl, ⟨sq, rfl, w5⟩, x6, _, rfl, h6, rfl⟩ := hx
    obtain ⟨x', rs, hx6, hwr⟩ : ∃ (x' : SV) (rs : List Rec), x6 = [x'] ∧ WkM x' (.sl 6 (RcL rs)) := by
      rcases h6 with rfl | ⟨ys, rfl, _, hy⟩
      · exact ⟨.nils, [], rfl, wkM_nils 6⟩
      · obtain ⟨rs, rfl⟩ := has_recs (xs := ys) (fun x hm => by have := hy x hm; simp only [Sh.has, Sh.hasL]; exact this)
        exact ⟨_, rs, rfl, WkM.refl _⟩
    subst hx6
    rw [e1] at he
    simp only [List.singleton_append, mkE] at he
    subst he
    refine ⟨⟨ba, co, pr, ep, sq, rs⟩ :: l, by simp [hl], fun i j hi hj => ?_⟩
    cases i with
    | zero =>
      match j, hj with
      | 0, _ => exact WkM.refl _
      | 1, _ => exact WkM.refl _
      | 2, _ => exact WkM.refl _
      | 3, _ => exact WkM.refl _
      | 4, _ => exact WkM.refl _
      | 5, _ => exact hwr
    | succ i => exact hw i j (by simpa using hi) hj
theorem has_batsV {v : SV} (h : (Sh.sl shB).hasV v) : ∃ l : List Bat, WkM v (.sl 6 (BtL l)) := by
  have h' : (Sh.sl shB).has [v] := h
  unfold Sh.has at h'
  rcases h' with e | ⟨xs, e, _, hx⟩
  · cases e; exact ⟨[], wkM_nils 6⟩
  · cases e
    obtain ⟨l, hl, hw⟩ := has_bats hx
    exact ⟨l, wkM_sl (by rw [hl, BtL_length]) (fun y hy => by obtain ⟨b, _, rfl⟩ := List.mem_map.1 hy; rfl) hw⟩
theorem has_int {v : SV} (h : Sh.hasV (.int .i64) v) : ∃ n, v = .int .i64 n := by
  obtain ⟨n, e, w⟩ := (h : (Sh.int .i64).has [v])
  cases e
  exact ⟨n, rfl⟩
theorem has_two {v : SV} (h : Sh.hasV (.st [.int .i64, .int .i64]) v) : ∃ m n : Int, v = .agg [.int .i64 m, .int .i64 n] := by
  obtain ⟨l, rfl, h⟩ := h
  have h' : Sh.hasL [.int .i64, .int .i64] l := h
  simp only [Sh.hasL] at h'
  obtain ⟨_, _, rfl, ⟨m, rfl, _⟩, _, _, rfl, ⟨n, rfl, _⟩, rfl⟩ := h'
  exact ⟨m, n, rfl⟩
end Go.Proofs.Ytikidcgnbcibpaa
