import Derived.Test.YtikidcgnbcibpaaMCpK
import Derived.Test.YtikidcgnbcibpaaAvL3
import Derived.Test.YtikidcgnbcibpaaProg
import Derived.KernelRfl

set_option linter.unusedVariables false
set_option linter.unusedSimpArgs false

/- Compact: the law's own light. -/

set_option linter.unusedSimpArgs false
set_option linter.unusedVariables false
set_option maxRecDepth 100000
set_option maxHeartbeats 4000000
namespace Go.Proofs.Ytikidcgnbcibpaa
open Go.RowKit
open Go.Av Go.Cp
def okR (r : Rec) : Bool := decide (0 ≤ r.dl) && decide (r.dl ≤ 1000)
def okB (b : Bat) : Bool := decide (0 ≤ b.ba) && decide (b.ba ≤ 4611686018427387903) && b.rs.all okR
def lightL (l : List Bat) : Bool := lightA l 16 && l.all okB
theorem all_dropO (l : List Bat) {i : Nat} (h : i < l.length) : (l.drop i).all okB = (okB (l.getD i bat0) && (l.drop (i + 1)).all okB) := by
  rw [List.drop_eq_getElem_cons h, List.all_cons, List.getD_eq_getElem?_getD, List.getElem?_eq_getElem h]
  rfl
theorem BtL_inj : ∀ a b : List Bat, BtL a = BtL b → a = b := map_inj (fun a b h => eB_inj a b (by simpa [eB] using h))
def eL (l : List Bat) : List SV := [.sl 6 (BtL l), .int .i64 16]
theorem eL_inj : ∀ a b, eL a = eL b → a = b := fun a b h => BtL_inj a b (by simpa [eL] using h)
noncomputable def RL6 : Orc := { p := fun f l => match f with
    | 17 => row eL (fun x => (True, .sv (.bool (lightA x 16)))) l
    | _ => none }
theorem RL6_ok : RL6.ok Try.prog := by
  refine ⟨fun f l c rv h hc => ?_, fun _ _ _ _ _ _ h => (by cases h), fun _ _ _ _ h => (by cases h), fun _ h => (by cases h), fun _ _ _ _ _ _ h => (by cases h), fun _ _ _ _ _ _ _ h => (by cases h)⟩
  simp only [RL6] at h
  split at h
  · exact row_ok h hc (fun b _ => lightAll b 16 (by omega))
  · cases h
theorem RL6_17 (l : List Bat) : RL6.p 17 [.sl 6 (BtL l), .int .i64 16] = some (True, .sv (.bool (lightA l 16))) := row_eq eL_inj _ l
theorem lightA_rs {l : List Bat} {n : Int} (h : lightA l n = true) : (l.length : Int) ≤ n ∧ ∀ b ∈ l, b.rs.length ≤ 40 ∧ ∀ r ∈ b.rs, (r.key.size : Int) ≤ 200 := by
  simp only [lightA, Bool.and_eq_true, decide_eq_true_eq, List.all_eq_true] at h
  refine ⟨h.1, fun b hb => ?_⟩
  have := h.2 b hb
  simp only [lightB, Bool.and_eq_true, decide_eq_true_eq, List.all_eq_true, lightR] at this
  exact ⟨this.1, fun r hr => (this.2 r hr).1⟩
theorem light_pure (l : List Bat) : Pure Try.prog 6 [.sl 6 (BtL l)] (.sv (.bool (lightL l))) := by
  have e := RL6_17 l
  have hR := RL6_ok
  generalize RL6 = R at hR e
  refine pure_go hR Try.func6 Try.ntmps6 comp6 cres6 (by decide) (by simp) ?_
  unfold lightL
  cases hA : lightA l 16 with
  | false =>
    rw [hA] at e
    simp [ac6, ar6, e]
  | true =>
    rw [hA] at e
    obtain ⟨hlen, hrs⟩ := lightA_rs hA
    rw [Bool.true_and]
    simp [ac6, ar6, e]
    refine awpR_loop (α := Nat) (fun i => i ≤ l.length ∧ l.all okB = (l.drop i).all okB) (fun i => { n := 60, sl := [(0, .sv (.sl 6 (BtL l))), (3, .sv (.int .i64 i))], bx := [], hp := fun _ => none })
      (fun i => l.length - i) 0 ⟨by omega, by simp⟩ (by simp) ?_
    rintro i ⟨hi, ha⟩
    by_cases h : i < l.length
    · have hlt : (i : Int) < l.length := by omega
      have hw := wrap_succ h (by omega : l.length < 4611686018427387904)
      have hg1 := BtL_get l h
      have e1 : (BtL l)[i]'(by simpa using h) = (l.getD i bat0).sv := by rw [← hg1, List.getElem?_eq_getElem]; rfl
      have hxr := (hrs (l.getD i bat0) (by rw [List.getD_eq_getElem?_getD, List.getElem?_eq_getElem h]; exact List.getElem_mem h)).1
      rw [all_dropO l h] at ha
      generalize l.getD i bat0 = x at *
      by_cases h0 : 0 ≤ x.ba
      · by_cases h1 : x.ba ≤ 4611686018427387903
        · have h0' : ¬ x.ba < 0 := by omega
          have h1' : ¬ (4611686018427387903 < x.ba) := by omega
          have hok : okB x = x.rs.all okR := by simp [okB, h0, h1]
          rw [hok] at ha
          simp [hlt, h, hg1, e1, Bat.sv, Bat.cells, h0', h1']
          refine awpR_loop (α := Nat) (fun k => k ≤ x.rs.length ∧ x.rs.all okR = (x.rs.drop k).all okR) (fun k => { n := 60, sl := [(0, .sv (.sl 6 (BtL l))), (3, .sv (.int .i64 i)), (4, .sv (.int .i64 k))], bx := [], hp := fun _ => none })
            (fun k => x.rs.length - k) 0 ⟨by omega, by simp⟩ (by simp) ?_
          rintro k ⟨hk, hb⟩
          by_cases h2 : k < x.rs.length
          · have hlt2 : (k : Int) < x.rs.length := by omega
            have hw2 := wrap_succ h2 (by omega : x.rs.length < 4611686018427387904)
            have hg2 := RcL_get x.rs h2
            have e2 : (RcL x.rs)[k]'(by simpa using h2) = (x.rs.getD k rec0).sv := by rw [← hg2, List.getElem?_eq_getElem]; rfl
            rw [all_drop _ _ _ h2] at hb
            generalize x.rs.getD k rec0 = r at *
            by_cases h3 : 0 ≤ r.dl
            · by_cases h4 : r.dl ≤ 1000
              · have h3' : ¬ r.dl < 0 := by omega
                have h4' : ¬ 1000 < r.dl := by omega
                have hokr : okR r = true := by simp [okR, h3, h4]
                rw [hokr, Bool.true_and] at hb
                simp [hlt, h, hg1, e1, hlt2, h2, hg2, e2, Bat.sv, Bat.cells, Rec.sv, Rec.cells, h3', h4', hw2]
                exact ⟨k + 1, ⟨by omega, hb⟩, by omega, by omega⟩
              · have h3' : ¬ r.dl < 0 := by omega
                have h4' : 1000 < r.dl := by omega
                have hokr : okR r = false := by simp [okR, h4]
                rw [hokr, Bool.false_and] at hb
                rw [hb, Bool.false_and] at ha
                rw [ha]
                simp [hlt, h, hg1, e1, hlt2, h2, hg2, e2, Bat.sv, Bat.cells, Rec.sv, Rec.cells, h3', h4']
            · have h3' : r.dl < 0 := by omega
              have hokr : okR r = false := by simp [okR, h3]
              rw [hokr, Bool.false_and] at hb
              rw [hb, Bool.false_and] at ha
              rw [ha]
              simp [hlt, h, hg1, e1, hlt2, h2, hg2, e2, Bat.sv, Bat.cells, Rec.sv, Rec.cells, h3']
          · obtain rfl : k = x.rs.length := by omega
            have hlt2 : ¬ ((x.rs.length : Nat) : Int) < x.rs.length := by omega
            rw [List.drop_length] at hb
            rw [hb] at ha
            simp [hlt, h, hg1, e1, hlt2, Bat.sv, Bat.cells, hw]
            refine ⟨i + 1, ⟨by omega, ?_⟩, by omega, by omega⟩
            simpa using ha
        · have h0' : ¬ x.ba < 0 := by omega
          have h1' : 4611686018427387903 < x.ba := by omega
          have hok : okB x = false := by simp [okB, h1]
          rw [hok, Bool.false_and] at ha
          rw [ha]
          simp [hlt, h, hg1, e1, Bat.sv, Bat.cells, h0', h1']
      · have h0' : x.ba < 0 := by omega
        have hok : okB x = false := by simp [okB, h0]
        rw [hok, Bool.false_and] at ha
        rw [ha]
        simp [hlt, h, hg1, e1, Bat.sv, Bat.cells, h0']
    · obtain rfl : i = l.length := by omega
      have hlt : ¬ ((l.length : Nat) : Int) < l.length := by omega
      rw [List.drop_length] at ha
      rw [ha]
      simp [hlt]
end Go.Proofs.Ytikidcgnbcibpaa

/- Compact: the document's Last and Keeps. -/

set_option linter.unusedSimpArgs false
set_option linter.unusedVariables false
set_option maxRecDepth 100000
set_option maxHeartbeats 8000000
namespace Go.Proofs.Ytikidcgnbcibpaa
open Go.RowKit
open Go.Av Go.Cp
theorem prs_le (l : List Bat) (n : Nat) (h : ∀ b ∈ l, b.rs.length ≤ n) : (prs l).length ≤ l.length * n := by
  induction l with
  | nil => simp [prs]
  | cons b l ih =>
    have h1 : (prs (b :: l)).length = b.rs.length + (prs l).length := by simp [prs]
    have h2 := ih (fun x hx => h x (by simp [hx]))
    have h3 := h b (by simp)
    rw [h1, List.length_cons, Nat.add_mul]
    omega
/-- Light batches are of moderate size. -/
theorem light_ok {l : List Bat} (h : lightL l = true) : LOK l := by
  simp only [lightL, Bool.and_eq_true] at h
  obtain ⟨h1, h2⟩ := lightA_rs h.1
  have h3 := h.2
  simp only [List.all_eq_true] at h3
  have hm : ∀ p ∈ prs l, p.1 ∈ l ∧ p.2 ∈ p.1.rs := fun p hp => by
    obtain ⟨b, hb, hp⟩ := List.mem_flatMap.1 hp
    obtain ⟨r, hr, rfl⟩ := List.mem_map.1 hp
    exact ⟨hb, hr⟩
  refine ⟨fun p hp => ?_, fun p hp => ?_, ?_, by omega⟩
  · have := (h2 _ (hm p hp).1).2 _ (hm p hp).2
    omega
  · have hb := h3 _ (hm p hp).1
    simp only [okB, Bool.and_eq_true, decide_eq_true_eq, List.all_eq_true] at hb
    have hr := hb.2 _ (hm p hp).2
    simp only [okR, Bool.and_eq_true, decide_eq_true_eq] at hr
    unfold atS
    rw [IntKind.wrap_i64]; omega
  · have := prs_le l 40 (fun b hb => (h2 b hb).1)
    omega
theorem rlast_pure (l : List Bat) (key : ByteArray) (hl : LOK l) : Pure Try.prog 9 [.sl 6 (BtL l), .str key] (.tup [.sv (.int .i64 ((lastS l key).getD 0)), .sv (.bool (lastS l key).isSome)]) := by
  refine pure_go R0_ok Try.func9 Try.ntmps9 comp9 cres9 (by decide) (by simp) ?_
  simp [ac9, ar9]
  have hll := hl.l
  refine awpR_loop (α := Nat) (fun i => i ≤ l.length) (fun i => { n := 64, sl := [(0, .sv (.sl 6 (BtL l))), (1, .sv (.str key)), (6, .sv (.int .i64 ((lastP (prs (l.take i)) key).getD 0))), (7, .sv (.bool (lastP (prs (l.take i)) key).isSome)), (8, .sv (.int .i64 i))], bx := [], hp := fun _ => none })
    (fun i => l.length - i) 0 (by omega) (by simp [prs, lastP]) ?_
  rintro i hi
  by_cases h : i < l.length
  · have hlt : (i : Int) < l.length := by omega
    have hw := wrap_succ h (by omega : l.length < 4611686018427387904)
    have hg1 := BtL_get l h
    have e1 : (BtL l)[i]'(by simpa using h) = (l.getD i bat0).sv := by rw [← hg1, List.getElem?_eq_getElem]; rfl
    have hsuc := prs_succ l h
    have hat := fun k (hk : k < (l.getD i bat0).rs.length) => hl.at_ _ (prs_mem h hk)
    have hxl : (l.getD i bat0).rs.length ≤ 50000 := by
      have := Nat.le_trans (prs_len h (Nat.le_refl _)) hl.n
      rw [List.length_append, pr1_len] at this
      omega
    generalize l.getD i bat0 = x at *
    generalize prs (l.take i) = P0 at *
    simp [hlt, h, hg1, e1, Bat.sv, Bat.cells]
    refine awpR_loop (α := Nat) (fun k => k ≤ x.rs.length) (fun k => { n := 64, sl := [(0, .sv (.sl 6 (BtL l))), (1, .sv (.str key)), (6, .sv (.int .i64 ((lastP (P0 ++ pr1 x k) key).getD 0))), (7, .sv (.bool (lastP (P0 ++ pr1 x k) key).isSome)), (8, .sv (.int .i64 i)), (9, .sv (.int .i64 k))], bx := [], hp := fun _ => none })
      (fun k => x.rs.length - k) 0 (by omega) (by simp [pr1]) ?_
    rintro k hk
    by_cases h2 : k < x.rs.length
    · have hlt2 : (k : Int) < x.rs.length := by omega
      have hw2 := wrap_succ h2 (by omega : x.rs.length < 4611686018427387904)
      have hg2 := RcL_get x.rs h2
      have e2 : (RcL x.rs)[k]'(by simpa using h2) = (x.rs.getD k rec0).sv := by rw [← hg2, List.getElem?_eq_getElem]; rfl
      have hsk : lastP (P0 ++ pr1 x (k + 1)) key = stepS key (lastP (P0 ++ pr1 x k) key) (x, x.rs.getD k rec0) := by
        rw [pr1_succ x h2, ← List.append_assoc, lastP_snoc]
      have ha := hat k h2
      simp only at ha
      generalize x.rs.getD k rec0 = r at *
      generalize lastP (P0 ++ pr1 x k) key = o at *
      by_cases hq : r.kd = true ∧ r.key = key
      · obtain ⟨q1, q2⟩ := hq
        cases o with
        | none =>
          have hs : lastP (P0 ++ pr1 x (k + 1)) key = some (atS x r) := by rw [hsk]; unfold stepS; rw [if_pos ⟨q1, q2⟩]
          simp [hlt, h, hg1, e1, hlt2, h2, hg2, e2, Bat.sv, Bat.cells, Rec.sv, Rec.cells, hw2, q1, q2, ha]
          exact ⟨k + 1, by omega, by omega, by simp [hs], by simp [hs], by omega⟩
        | some a =>
          by_cases hgt : atS x r > a
          · have hs : lastP (P0 ++ pr1 x (k + 1)) key = some (atS x r) := by rw [hsk]; unfold stepS; rw [if_pos ⟨q1, q2⟩]; simp only; rw [if_pos hgt]
            simp [hlt, h, hg1, e1, hlt2, h2, hg2, e2, Bat.sv, Bat.cells, Rec.sv, Rec.cells, hw2, q1, q2, ha, hgt]
            exact ⟨k + 1, by omega, by omega, by simp [hs], by simp [hs], by omega⟩
          · have hs : lastP (P0 ++ pr1 x (k + 1)) key = some a := by rw [hsk]; unfold stepS; rw [if_pos ⟨q1, q2⟩]; simp only; rw [if_neg hgt]
            simp [hlt, h, hg1, e1, hlt2, h2, hg2, e2, Bat.sv, Bat.cells, Rec.sv, Rec.cells, hw2, q1, q2, ha, hgt]
            exact ⟨k + 1, by omega, by omega, by simp [hs], by simp [hs], by omega⟩
      · have hs : lastP (P0 ++ pr1 x (k + 1)) key = o := by rw [hsk]; exact stepS_other hq
        by_cases q1 : r.kd = true
        · have q2 : ¬ r.key = key := fun e => hq ⟨q1, e⟩
          have q3 : ¬ r.key.toList = key.toList := by
            intro e
            apply q2
            rw [ByteArray.toList_eq, ByteArray.toList_eq] at e
            exact ByteArray.ext (Array.ext' e)
          simp [hlt, h, hg1, e1, hlt2, h2, hg2, e2, Bat.sv, Bat.cells, Rec.sv, Rec.cells, hw2, q1, q2, q3, ha]
          exact ⟨k + 1, by omega, by omega, by simp [hs], by simp [hs], by omega⟩
        · have q1' : r.kd = false := by simpa using q1
          simp [hlt, h, hg1, e1, hlt2, h2, hg2, e2, Bat.sv, Bat.cells, Rec.sv, Rec.cells, hw2, q1', ha]
          exact ⟨k + 1, by omega, by omega, by simp [hs], by simp [hs], by omega⟩
    · obtain rfl : k = x.rs.length := by omega
      have hlt2 : ¬ ((x.rs.length : Nat) : Int) < x.rs.length := by omega
      simp [hlt, h, hg1, e1, hlt2, Bat.sv, Bat.cells, hw]
      exact ⟨i + 1, by omega, by omega, by rw [hsuc], by rw [hsuc], by omega⟩
  · obtain rfl : i = l.length := by omega
    have hlt : ¬ ((l.length : Nat) : Int) < l.length := by omega
    simp [hlt, lastS]
end Go.Proofs.Ytikidcgnbcibpaa

/- Compact: the document's Keeps; Count, Dirty. -/

set_option linter.unusedSimpArgs false
set_option linter.unusedVariables false
set_option maxRecDepth 100000
set_option maxHeartbeats 8000000
namespace Go.Proofs.Ytikidcgnbcibpaa
open Go.RowKit
open Go.Av Go.Cp
def eLK (x : List Bat × ByteArray) : List SV := [.sl 6 (BtL x.1), .str x.2]
theorem eLK_inj : ∀ a b, eLK a = eLK b → a = b := fun a b h => by
  obtain ⟨a1, a2⟩ := a
  obtain ⟨b1, b2⟩ := b
  simp [eLK] at h
  obtain ⟨h1, rfl⟩ := h
  rw [BtL_inj _ _ h1]
def eRT (x : Rec × Int × Int) : List SV := [x.1.sv, .int .i64 x.2.1, .int .i64 x.2.2]
theorem eRT_inj : ∀ a b, eRT a = eRT b → a = b := fun a b h => by
  obtain ⟨a1, a2, a3⟩ := a
  obtain ⟨b1, b2, b3⟩ := b
  simp [eRT] at h
  obtain ⟨h1, rfl, rfl⟩ := h
  rw [bsv_inj _ _ h1]
noncomputable def RK : Orc := { p := fun f l => match f with
    | 9 => row eLK (fun x => (LOK x.1, .tup [.sv (.int .i64 ((lastS x.1 x.2).getD 0)), .sv (.bool (lastS x.1 x.2).isSome)])) l
    | 21 => row eRT (fun x => (True, .sv (.bool (lateS x.1 x.2.1 x.2.2)))) l
    | _ => none }
theorem RK_ok : RK.ok Try.prog := by
  refine ⟨fun f l c rv h hc => ?_, fun _ _ _ _ _ _ h => (by cases h), fun _ _ _ _ h => (by cases h), fun _ h => (by cases h), fun _ _ _ _ _ _ h => (by cases h), fun _ _ _ _ _ _ _ h => (by cases h)⟩
  simp only [RK] at h
  split at h
  · exact row_ok h hc (fun x hx => rlast_pure x.1 x.2 hx)
  · exact row_ok h hc (fun x _ => rlate_pure x.1 x.2.1 x.2.2)
  · cases h
theorem RK_9 (l : List Bat) (key : ByteArray) : RK.p 9 [.sl 6 (BtL l), .str key] = some (LOK l, .tup [.sv (.int .i64 ((lastS l key).getD 0)), .sv (.bool (lastS l key).isSome)]) := row_eq eLK_inj _ (l, key)
theorem RK_21 (r : Rec) (now grace : Int) : RK.p 21 [.agg [.int .i64 r.dl, .int .i64 r.tm, .bool r.kd, .str r.key, .bool r.dd, .str r.val], .int .i64 now, .int .i64 grace] = some (True, .sv (.bool (lateS r now grace))) := row_eq eRT_inj _ (r, now, grace)
theorem rkeeps_pure (l : List Bat) (i k now grace : Int) (hl : LOK l) : Pure Try.prog 11 [.sl 6 (BtL l), .int .i64 i, .int .i64 k, .int .i64 now, .int .i64 grace] (.sv (.bool (keepsL l i k now grace))) := by
  have r9 := RK_9 l
  have r21 := RK_21
  have hR := RK_ok
  generalize RK = R at hR r9 r21
  refine pure_go hR Try.func11 Try.ntmps11 comp11 cres11 (by decide) (by simp) ?_
  unfold keepsL
  by_cases h0 : 0 ≤ i
  case neg =>
    have h0' : i < 0 := by omega
    rw [if_neg (fun q => h0 q.1)]
    have hz : i.toNat = 0 := by omega
    clear hl r9
    cases l with
    | nil => simp [ac11, ar11, h0', h0, hz, BtL]
    | cons b l => simp [ac11, ar11, h0', h0, hz, BtL, Bat.sv, Bat.cells]
  obtain ⟨n, rfl⟩ := Int.eq_ofNat_of_zero_le h0
  have h0' : ¬ ((n : Int) < 0) := by omega
  by_cases h1 : n < l.length
  case neg =>
    have h1' : (l.length : Int) ≤ (n : Int) := by omega
    rw [if_neg (fun q => h1 (by omega))]
    have hgo : (BtL l)[n]?.getD .undef = .undef := by rw [List.getElem?_eq_none (by simpa using h1)]; rfl
    simp [ac11, ar11, h0', h1', h1, hgo]
  have h1i : (n : Int) < l.length := by omega
  have h1' : ¬ ((l.length : Int) ≤ (n : Int)) := by omega
  rw [show ((n : Int)).toNat = n by omega]
  have hg1 := BtL_get l h1
  have e1 : (BtL l)[n]'(by simpa using h1) = (l.getD n bat0).sv := by rw [← hg1, List.getElem?_eq_getElem]; rfl
  have hmem := fun k (hk : k < (l.getD n bat0).rs.length) => hl.at_ _ (prs_mem h1 hk)
  generalize l.getD n bat0 = x at *
  by_cases h2 : 0 ≤ k
  case neg =>
    have h2' : k < 0 := by omega
    rw [if_neg (fun q => h2 q.2.2.1)]
    simp [ac11, ar11, h0', h1', h1i, h1, h2', hg1, e1, Bat.sv, Bat.cells]
  obtain ⟨m, rfl⟩ := Int.eq_ofNat_of_zero_le h2
  have h2' : ¬ ((m : Int) < 0) := by omega
  by_cases h3 : m < x.rs.length
  case neg =>
    have h3' : (x.rs.length : Int) ≤ (m : Int) := by omega
    rw [if_neg (fun q => h3 (by omega))]
    simp [ac11, ar11, h0', h1', h1i, h1, h2', h3', hg1, e1, Bat.sv, Bat.cells]
  have h3i : (m : Int) < x.rs.length := by omega
  have h3' : ¬ ((x.rs.length : Int) ≤ (m : Int)) := by omega
  rw [if_pos ⟨h0, h1i, h2, h3i⟩, show ((m : Int)).toNat = m by omega]
  have hg2 := RcL_get x.rs h3
  have e2 : (RcL x.rs)[m]'(by simpa using h3) = (x.rs.getD m rec0).sv := by rw [← hg2, List.getElem?_eq_getElem]; rfl
  have ha := hmem m h3
  simp only at ha
  generalize x.rs.getD m rec0 = r at *
  have r9' := r9 r.key
  have r21' := r21 r now grace
  unfold keepS
  generalize (lastS l r.key).isSome = so at *
  generalize (lastS l r.key).getD 0 = la at *
  generalize lateS r now grace = lt at *
  cases hkd : r.kd with
  | false =>
    simp [ac11, ar11, h0', h1', h1i, h1, h2', h3', h3i, h3, hg1, e1, hg2, e2, Bat.sv, Bat.cells, Rec.sv, Rec.cells, hkd]
  | true =>
    rw [hkd] at r21'
    by_cases he : atS x r = la
    · simp [ac11, ar11, h0', h1', h1i, h1, h2', h3', h3i, h3, hg1, e1, hg2, e2, Bat.sv, Bat.cells, Rec.sv, Rec.cells, hkd, r9', r21', ha, he, hl]
    · simp [ac11, ar11, h0', h1', h1i, h1, h2', h3', h3i, h3, hg1, e1, hg2, e2, Bat.sv, Bat.cells, Rec.sv, Rec.cells, hkd, r9', r21', ha, he, hl]
end Go.Proofs.Ytikidcgnbcibpaa

set_option maxRecDepth 100000
namespace Go.Proofs.Ytikidcgnbcibpaa

open Go.Av
/-- bilander/compact.Dirty -/
def ac16 : AC :=
 (.seq
  (.reg [⟨(some 6), none, .mv (.c (.bool false))⟩])
  (.seq
   (.reg [⟨(some 8), none, .mv (.t 0)⟩,
     ⟨(some 9), none, .mv (.t 1)⟩,
     ⟨(some 10), none, .mv (.t 2)⟩,
     ⟨(some 11), none, .call 12 [(.t 8), (.t 9), (.t 10)]⟩,
     ⟨(some 7), none, .take 11⟩])
   (.seq
    (.reg [⟨(some 12), none, .mv (.t 7)⟩,
      ⟨(some 13), none, .len false (.t 12)⟩,
      ⟨(some 14), none, .mv (.t 0)⟩,
      ⟨(some 15), none, .len false (.t 14)⟩,
      ⟨(some 16), none, .bin .neq (.t 13) (.t 15)⟩,
      ⟨(some 17), none, .take 16⟩,
      ⟨(some 18), (some (17, false)), .mv (.t 7)⟩,
      ⟨(some 19), (some (17, false)), .call 19 [(.t 18)]⟩,
      ⟨(some 20), (some (17, false)), .mv (.t 0)⟩,
      ⟨(some 21), (some (17, false)), .call 19 [(.t 20)]⟩,
      ⟨(some 22), (some (17, false)), .bin .neq (.t 19) (.t 21)⟩,
      ⟨(some 23), none, .pick (.t 17) (.c (.bool true)) (.t 22)⟩,
      ⟨(some 6), none, .take 23⟩])
    .ret)))
def ar16 : List AR := [.t 6]
theorem comp16 : Try.f16.body.bind (comp Try.prog 24) = some ac16 := by kernel_rfl
theorem cres16 : compRes Try.prog Try.f16.results.toList = some ar16 := by kernel_rfl
end Go.Proofs.Ytikidcgnbcibpaa

/- Compact: Count, Dirty; what stays is of moderate size, too. -/


set_option linter.unusedSimpArgs false
set_option linter.unusedVariables false
set_option maxRecDepth 100000
set_option maxHeartbeats 8000000
namespace Go.Proofs.Ytikidcgnbcibpaa
open Go.RowKit
open Go.Av Go.Cp
theorem prs_cons (b : Bat) (l : List Bat) : prs (b :: l) = (b.rs.map fun r => (b, r)) ++ prs l := rfl
theorem clean_prs (ps : List (Bat × Rec)) (now grace : Int) (l : List Bat) : (prs (cleanT ps now grace l)).length ≤ (prs l).length ∧ (cleanT ps now grace l).length ≤ l.length ∧ ∀ p ∈ prs (cleanT ps now grace l), ∃ b ∈ l, p.1.ba = b.ba ∧ p.2 ∈ b.rs := by
  induction l with
  | nil => exact ⟨Nat.le_refl _, Nat.le_refl _, fun p hp => by cases hp⟩
  | cons b l ih =>
    obtain ⟨i1, i2, i3⟩ := ih
    have e : cleanT ps now grace (b :: l) = (if (!(b.rs.filter (keepP ps now grace b)).isEmpty || decide (b.pr ≠ 0)) = true then [{ b with rs := b.rs.filter (keepP ps now grace b) }] else []) ++ cleanT ps now grace l := by
      unfold cleanT
      rw [List.map_cons, List.filter_cons]
      split
      · rfl
      · rfl
    have hf : (b.rs.filter (keepP ps now grace b)).length ≤ b.rs.length := List.length_filter_le _ _
    rw [e]
    split
    · rw [List.singleton_append, prs_cons, prs_cons]
      refine ⟨by simp only [List.length_append, List.length_map]; omega, by simp only [List.length_cons]; omega, fun p hp => ?_⟩
      rcases List.mem_append.1 hp with hp | hp
      · obtain ⟨r, hr, rfl⟩ := List.mem_map.1 hp
        exact ⟨b, by simp, rfl, (List.mem_filter.1 hr).1⟩
      · obtain ⟨b', hb', h1, h2⟩ := i3 p hp
        exact ⟨b', by simp [hb'], h1, h2⟩
    · rw [List.nil_append, prs_cons]
      refine ⟨by simp only [List.length_append, List.length_map]; omega, by simp only [List.length_cons]; omega, fun p hp => ?_⟩
      obtain ⟨b', hb', h1, h2⟩ := i3 p hp
      exact ⟨b', by simp [hb'], h1, h2⟩
theorem LOK.clean {l : List Bat} (h : LOK l) (now grace : Int) : LOK (cleanS l now grace) := by
  obtain ⟨h1, h2, h3⟩ := clean_prs (prs l) now grace l
  rw [cleanT_prs] at h1 h2 h3
  have hm : ∀ p ∈ prs (cleanS l now grace), ∃ b, (b, p.2) ∈ prs l ∧ p.1.ba = b.ba := fun p hp => by
    obtain ⟨b, hb, e, hr⟩ := h3 p hp
    exact ⟨b, List.mem_flatMap.2 ⟨b, hb, List.mem_map.2 ⟨p.2, hr, rfl⟩⟩, e⟩
  refine ⟨fun p hp => ?_, fun p hp => ?_, Nat.le_trans h1 h.n, Nat.le_trans h2 h.l⟩
  · obtain ⟨b, hb, e⟩ := hm p hp
    exact h.key (b, p.2) hb
  · obtain ⟨b, hb, e⟩ := hm p hp
    have := h.at_ (b, p.2) hb
    unfold atS at this ⊢
    rw [e]; exact this
theorem count_pure (l : List Bat) (hl : LOK l) : Pure Try.prog 19 [.sl 6 (BtL l)] (.sv (.int .i64 (prs l).length)) := by
  refine pure_go R0_ok Try.func19 Try.ntmps19 comp19 cres19 (by decide) (by simp) ?_
  simp [ac19, ar19]
  have hll := hl.l
  have hn := hl.n
  refine awpR_loop (α := Nat) (fun i => i ≤ l.length) (fun i => { n := 19, sl := [(0, .sv (.sl 6 (BtL l))), (3, .sv (.int .i64 (prs (l.take i)).length)), (6, .sv (.sl 6 (BtL l))), (7, .sv (.int .i64 l.length)), (8, .sv (.int .i64 i))], bx := [], hp := fun _ => none })
    (fun i => l.length - i) 0 (by omega) (by simp [prs]) ?_
  rintro i hi
  by_cases h : i < l.length
  · have hlt : (i : Int) < l.length := by omega
    have hw := wrap_succ h (by omega : l.length < 4611686018427387904)
    have hg1 := BtL_get l h
    have e1 : (BtL l)[i]'(by simpa using h) = (l.getD i bat0).sv := by rw [← hg1, List.getElem?_eq_getElem]; rfl
    have hsuc : (prs (l.take (i + 1))).length = (prs (l.take i)).length + (l.getD i bat0).rs.length := by rw [prs_succ l h, List.length_append, pr1_len]
    have hb : (prs (l.take i)).length + (l.getD i bat0).rs.length ≤ 50000 := by
      have := Nat.le_trans (prs_len h (Nat.le_refl _)) hn
      rw [List.length_append, pr1_len] at this
      exact this
    generalize l.getD i bat0 = x at *
    generalize hc : (prs (l.take i)).length = c at *
    have hw2 : IntKind.i64.wrap ((c : Int) + (x.rs.length : Int)) = ((c + x.rs.length : Nat) : Int) := by rw [IntKind.wrap_i64]; omega
    simp [hlt, h, hg1, e1, Bat.sv, Bat.cells, hw, hw2]
    exact ⟨i + 1, by omega, by omega, by rw [hsuc]; simp, by omega⟩
  · obtain rfl : i = l.length := by omega
    have hlt : ¬ ((l.length : Nat) : Int) < l.length := by omega
    simp [hlt]
def dirtyS (l : List Bat) (now grace : Int) : Bool := decide ((cleanS l now grace).length ≠ l.length) || decide ((prs (cleanS l now grace)).length ≠ (prs l).length)
def eC (l : List Bat) : List SV := [.sl 6 (BtL l)]
theorem eC_inj : ∀ a b, eC a = eC b → a = b := fun a b h => BtL_inj a b (by simpa [eC] using h)
def eD (x : List Bat × Int × Int) : List SV := [.sl 6 (BtL x.1), .int .i64 x.2.1, .int .i64 x.2.2]
theorem eD_inj : ∀ a b, eD a = eD b → a = b := fun a b h => by
  obtain ⟨a1, a2, a3⟩ := a
  obtain ⟨b1, b2, b3⟩ := b
  simp [eD] at h
  obtain ⟨h1, rfl, rfl⟩ := h
  rw [BtL_inj _ _ h1]
noncomputable def RD : Orc := { p := fun f l => match f with
    | 12 => row eD (fun x => (LOK x.1, .sv (.sl 6 (BtL (cleanS x.1 x.2.1 x.2.2))))) l
    | 19 => row eC (fun x => (LOK x, .sv (.int .i64 (prs x).length))) l
    | _ => none }
theorem RD_ok : RD.ok Try.prog := by
  refine ⟨fun f l c rv h hc => ?_, fun _ _ _ _ _ _ h => (by cases h), fun _ _ _ _ h => (by cases h), fun _ h => (by cases h), fun _ _ _ _ _ _ h => (by cases h), fun _ _ _ _ _ _ _ h => (by cases h)⟩
  simp only [RD] at h
  split at h
  · exact row_ok h hc (fun x hx => clean_pure x.1 x.2.1 x.2.2 hx)
  · exact row_ok h hc (fun x hx => count_pure x hx)
  · cases h
theorem RD_12 (l : List Bat) (now grace : Int) : RD.p 12 [.sl 6 (BtL l), .int .i64 now, .int .i64 grace] = some (LOK l, .sv (.sl 6 (BtL (cleanS l now grace)))) := row_eq eD_inj _ (l, now, grace)
theorem RD_19 (l : List Bat) : RD.p 19 [.sl 6 (BtL l)] = some (LOK l, .sv (.int .i64 (prs l).length)) := row_eq eC_inj _ l
theorem dirty_pure (l : List Bat) (now grace : Int) (hl : LOK l) : Pure Try.prog 16 [.sl 6 (BtL l), .int .i64 now, .int .i64 grace] (.sv (.bool (dirtyS l now grace))) := by
  have r12 := RD_12 l now grace
  have r19 := RD_19
  have hR := RD_ok
  generalize RD = R at hR r12 r19
  have hc := hl.clean now grace
  have r19a := r19 l
  have r19b := r19 (cleanS l now grace)
  refine pure_go hR Try.func16 Try.ntmps16 comp16 cres16 (by decide) (by simp) ?_
  unfold dirtyS
  generalize cleanS l now grace = c at *
  by_cases h : c.length = l.length
  · simp [ac16, ar16, r12, r19a, r19b, hl, hc, h]
    by_cases hq : (prs c).length = (prs l).length
    · rw [hq]; simp
    · have hq2 : ¬ (((prs c).length : Int) = ((prs l).length : Int)) := by omega
      simp [hq, hq2]
  · simp [ac16, ar16, r12, r19a, r19b, hl, hc, h]
    try omega
end Go.Proofs.Ytikidcgnbcibpaa

/- Compact: part. -/

set_option linter.unusedSimpArgs false
set_option linter.unusedVariables false
set_option maxRecDepth 100000
set_option maxHeartbeats 8000000
namespace Go.Proofs.Ytikidcgnbcibpaa
open Go.RowKit
open Go.Av Go.Cp
def recS (r s : Rec) : Bool := (r.dl == s.dl) && ((r.tm == s.tm) && ((r.kd == s.kd) && ((r.key.toList == s.key.toList) && ((r.dd == s.dd) && (r.val.toList == s.val.toList)))))
theorem tl_inj {a b : ByteArray} (h : a.toList = b.toList) : a = b := by
  rw [ByteArray.toList_eq, ByteArray.toList_eq] at h
  exact ByteArray.ext (Array.ext' h)
theorem recS_iff (r s : Rec) : recS r s = true ↔ r = s := by
  constructor
  · intro h
    simp only [recS, Bool.and_eq_true, beq_iff_eq] at h
    obtain ⟨h1, h2, h3, h4, h5, h6⟩ := h
    obtain ⟨a1, a2, a3, a4, a5, a6⟩ := r
    obtain ⟨b1, b2, b3, b4, b5, b6⟩ := s
    simp only at h1 h2 h3 h4 h5 h6
    rw [h1, h2, h3, tl_inj h4, h5, tl_inj h6]
  · rintro rfl
    simp [recS]
/-- How many of the few stand in order among all. -/
def partN (few : List Rec) (n : Nat) : List Rec → Nat
  | [] => n
  | r :: rs => if n < few.length then (if recS (few.getD n rec0) r = true then partN few (n + 1) rs else partN few n rs) else n
theorem partN_drop (few : List Rec) (n : Nat) (all : List Rec) {i : Nat} (h : i < all.length) : partN few n (all.drop i) = if n < few.length then (if recS (few.getD n rec0) (all.getD i rec0) = true then partN few (n + 1) (all.drop (i + 1)) else partN few n (all.drop (i + 1))) else n := by
  rw [List.drop_eq_getElem_cons h, partN, List.getD_eq_getElem?_getD (l := all), List.getElem?_eq_getElem h]
  rfl
theorem beq_nat (a b : Nat) : ((a : Int) == (b : Int)) = decide (a = b) := by
  by_cases h : a = b
  · subst h; simp
  · have h2 : ¬ ((a : Int) = (b : Int)) := by omega
    simp [h, h2]
theorem part_pure (few all : List Rec) (h1 : few.length ≤ 50000) (h2 : all.length ≤ 50000) : Pure Try.prog 13 [.sl 6 (RcL few), .sl 6 (RcL all)] (.sv (.bool (decide (partN few 0 all = few.length)))) := by
  refine pure_go R0_ok Try.func13 Try.ntmps13 comp13 cres13 (by decide) (by simp) ?_
  simp [ac13, ar13]
  refine awpR_loop (α := Nat × Nat) (fun p => p.1 ≤ all.length ∧ p.2 ≤ p.1 ∧ p.2 ≤ few.length ∧ partN few 0 all = partN few p.2 (all.drop p.1)) (fun p => { n := 34, sl := [(0, .sv (.sl 6 (RcL few))), (1, .sv (.sl 6 (RcL all))), (5, .sv (.int .i64 p.2)), (6, .sv (.int .i64 p.1))], bx := [], hp := fun _ => none })
    (fun p => all.length - p.1) (0, 0) ⟨by omega, by omega, by omega, by simp⟩ (by simp) ?_
  rintro ⟨i, n⟩ ⟨hi, hn, hnf, hp⟩
  simp only at hi hn hnf hp
  by_cases h : i < all.length
  · have hlt : (i : Int) < all.length := by omega
    have hw := wrap_succ h (by omega : all.length < 4611686018427387904)
    have hg1 := RcL_get all h
    have e1 : (RcL all)[i]'(by simpa using h) = (all.getD i rec0).sv := by rw [← hg1, List.getElem?_eq_getElem]; rfl
    rw [partN_drop few n all h] at hp
    by_cases hf : n < few.length
    · have hlf : (n : Int) < few.length := by omega
      have hw2 := wrap_succ hf (by omega : few.length < 4611686018427387904)
      have hg2 := RcL_get few hf
      have e2 : (RcL few)[n]'(by simpa using hf) = (few.getD n rec0).sv := by rw [← hg2, List.getElem?_eq_getElem]; rfl
      rw [if_pos hf] at hp
      generalize all.getD i rec0 = r at *
      generalize few.getD n rec0 = s at *
      have hq : recS s r = true ∨ recS s r = false := by cases recS s r <;> simp
      rcases hq with hq | hq
      · rw [if_pos hq] at hp
        unfold recS at hq
        simp [hlt, h, hg1, e1, hlf, hf, hg2, e2, Rec.sv, Rec.cells, hw, hw2, hq]
        exact ⟨i + 1, n + 1, ⟨by omega, by omega, by omega, hp⟩, by omega, by omega, by omega⟩
      · rw [if_neg (by simp [hq])] at hp
        unfold recS at hq
        simp [hlt, h, hg1, e1, hlf, hf, hg2, e2, Rec.sv, Rec.cells, hw, hw2, hq]
        exact ⟨i + 1, n, ⟨by omega, by omega, by omega, hp⟩, by omega, by omega, by omega⟩
    · have hlf : ¬ (n : Int) < few.length := by omega
      rw [if_neg hf] at hp
      simp [hlt, h, hlf, hf, hp]
      exact beq_nat n few.length
  · obtain rfl : i = all.length := by omega
    have hlt : ¬ ((all.length : Nat) : Int) < all.length := by omega
    rw [List.drop_length, partN] at hp
    simp [hlt, hp]
    exact beq_nat n few.length
end Go.Proofs.Ytikidcgnbcibpaa

/- Compact: calls at a law's memory. -/

set_option linter.unusedSimpArgs false
set_option linter.unusedVariables false
set_option maxRecDepth 100000
set_option maxHeartbeats 8000000
namespace Go.Proofs.Ytikidcgnbcibpaa
open Go.RowKit
open Go.Av Go.Cp
/-- What a law leaves. -/
def LawP (w : World) (e : Ending) (w' : World) : Prop := e = .returned (.bool true) ∧ Ext (fun _ => False) w w'
theorem pure_true {f : FuncId} {args : List SV} (h : ∀ (mu : Mem) (w : World) (vs : List Value), MemOK mu w → RepArgs mu args vs → Calls Try.prog f vs.toArray w (LawP w)) : Pure Try.prog f args (.sv (.bool true)) := by
  intro mu w vs hm hr
  refine (h mu w vs hm hr).mono ?_
  rintro e w' ⟨rfl, hx⟩
  exact ⟨_, mu, rfl, hx, Mem.le_refl _, memX hm hx (fun _ e => e.elim), fun _ _ _ => rfl, fun _ => none, .bool true, fun b p h => by cases h⟩
theorem bool_at {f : FuncId} {args : List SV} {b : Bool} (hp : Pure Try.prog f args (.sv (.bool b))) {mu : Mem} {w : World} (hm : MemOK mu w) {vs : List Value} (ha : RepArgs mu args vs) :
    Calls Try.prog f vs.toArray w fun e w' => e = .returned (.bool b) ∧ Ext (fun _ => False) w w' := by
  refine (hp mu w vs hm ha).mono ?_
  rintro e w' ⟨val, mu', rfl, hx, hle, hm', hag, ⟨gx, hrep, _⟩⟩
  have h : Rep mu' (.bool b) val := hrep
  rw [Rep.inv_bool h]
  exact ⟨rfl, hx⟩
theorem light_at {mu : Mem} {w : World} (hm : MemOK mu w) {l : List Bat} {lp : Option Addr} {lc : Nat} (h : Rep mu (.sl 6 (BtL l)) (.slice lp l.length lc)) : Calls Try.prog 6 #[.slice lp l.length lc] w fun e w' => e = .returned (.bool (lightL l)) ∧ Ext (fun _ => False) w w' :=
  bool_at (light_pure l) hm (argsCons h argsNil)
theorem rkeeps_at {mu : Mem} {w : World} (hm : MemOK mu w) {l : List Bat} {lp : Option Addr} {lc : Nat} (h : Rep mu (.sl 6 (BtL l)) (.slice lp l.length lc)) (hl : LOK l) (i k now grace : Int) : Calls Try.prog 11 #[.slice lp l.length lc, .int .i64 i, .int .i64 k, .int .i64 now, .int .i64 grace] w fun e w' => e = .returned (.bool (keepsL l i k now grace)) ∧ Ext (fun _ => False) w w' :=
  bool_at (rkeeps_pure l i k now grace hl) hm (argsCons h (argsCons (.int _ _) (argsCons (.int _ _) (argsCons (.int _ _) (argsCons (.int _ _) argsNil)))))
theorem rlast_at {mu : Mem} {w : World} (hm : MemOK mu w) {l : List Bat} {lp : Option Addr} {lc : Nat} (h : Rep mu (.sl 6 (BtL l)) (.slice lp l.length lc)) (hl : LOK l) (key : ByteArray) : Calls Try.prog 9 #[.slice lp l.length lc, .string key] w fun e w' => e = .returned (.tuple #[.int .i64 ((lastS l key).getD 0), .bool (lastS l key).isSome]) ∧ Ext (fun _ => False) w w' := by
  refine (rlast_pure l key hl mu w [_, _] hm (argsCons h (argsCons (.str _) argsNil))).mono ?_
  rintro e w' ⟨val, mu', rfl, hx, hle, hm', hag, ⟨gx, hrep, _⟩⟩
  obtain ⟨us, rfl, hlu, hu⟩ := hrep
  match us, hlu with
  | [x, y], _ =>
    have h0 : Rep mu' (.int .i64 ((lastS l key).getD 0)) x := hu 0 (by simp)
    have h1 : Rep mu' (.bool (lastS l key).isSome) y := hu 1 (by simp)
    rw [Rep.inv_int h0, Rep.inv_bool h1]
    exact ⟨rfl, hx⟩
theorem of_pure (d : Int) (key : ByteArray) : Pure Try.prog 18 [.int .i64 d, .str key] (.sv (.agg [.int .i64 d, .int .i64 0, .bool true, .str key, .bool false, .str (ByteArray.mk #[118])])) := by
  refine pure_go R0_ok Try.func18 Try.ntmps18 comp18 cres18 (by decide) (by simp) ?_
  simp [ac18, ar18]
end Go.Proofs.Ytikidcgnbcibpaa
