import Derived.Test.YtifemhfpcichfaaMZuE
import Derived.Test.YtifemhfpcichfaaMZsF
import Derived.Laws.BytesArg

set_option linter.unusedVariables false
set_option linter.unusedSimpArgs false

/- Zalloc: the law's own run on a fixed device (awake): what it computes. -/




set_option linter.unusedSimpArgs false
set_option linter.unusedVariables false
set_option maxHeartbeats 4000000
set_option maxRecDepth 1000000
namespace Go.Proofs.Ytifemhfpcichfaa
open Go.RowKit
open Go.Av Go.Maps

def k1 : List UInt8 := List.replicate 64 1
def vA : Dv := (appendD (newD 6 4) 4 64 (u8s k1)).1
def S3 : List Int := [[(3 : Int)]].flatten
def vB : Dv := (sweepD vA S3).1
theorem vA_2 : (appendD (newD 6 4) 4 64 (u8s k1)).2 = (0, 0) := by decide +kernel
theorem vA_k : kindsB vA S3 = [1, 1, 0, 2, 3, 0] := by decide +kernel
theorem vA_n : nextD vA S3 = (2, 0) := by decide +kernel
theorem vA_o : (ofD vA S3 3).length = 1 := by decide +kernel
theorem vA_s : (sweepD vA S3).2 = (4, 0) := by decide +kernel
theorem vB_w : wrD vB 4 = 0 := by decide +kernel
theorem vB_r : roomD vB = 12 := by decide +kernel
theorem vB_l : 2 ≤ vB.zs.length := by decide +kernel
theorem vA_l : vA.zs.length = 6 := by decide +kernel
theorem Q0 : OkN 6 4 0 (newD 6 4) := OkN.new (z := 6) (b := 4) (by decide)
theorem QA : OkN 6 4 1 vA := Q0.append 4 64 (bs := k1) (fun _ => rfl)
theorem full1 (w : World) : Calls Try.prog 16 #[.int .u8 1] w fun e w' => e = .returned (.slice (some ⟨w.heap.size, 0, none⟩) 64 64) ∧ BB w' w.heap.size k1 ∧ Ext (fun _ => False) w w' := full_raw w 1
theorem app1 {w : World} {q : Dp} (h : DevAt w q (newD 6 4)) {b : Nat} (hb : BB w b k1) (hn : ¬ EQ q b) :
    Calls Try.prog 15 #[.pointer (some ⟨q.p, 0, none⟩), .int .i64 4, .slice (some ⟨b, 0, none⟩) 64 64] w fun en w' => en = .returned (.tuple #[.int .i64 0, .int .i64 0]) ∧ DevAt w' q vA ∧ Ext (EQ q) w w' := by
  unfold vA
  exact app_full h Q0 (by omega) 4 hb hn (by simp [k1]) vA_2
theorem owned3 (W : World) : Calls Try.prog 25 #[.slice (some ⟨W.heap.size, 0, none⟩) 1 1] (W.alloc (.cells #[.int .i64 3] 3)) fun e w' => ∃ nx tp tn tc cp cn cc, e = .returned (.agg #[.int .i64 nx, .slice tp tn tc, .slice cp cn cc]) ∧ StOK w' (.agg #[.int .i64 nx, .slice tp tn tc, .slice cp cn cc]) [[3]] ∧ Ext (fun _ => False) W w' := by
  refine (owned_raw (w := W.alloc (.cells #[.int .i64 3] 3)) (p := some ⟨W.heap.size, 0, none⟩) (c := 1) (xs := [3]) ?_ (by decide) (by intro z hz; rw [List.mem_singleton] at hz; rw [hz]; exact ⟨by omega, by omega⟩)).mono ?_
  · intro i hi
    have e : i = 0 := by simpa using hi
    subst e
    refine ⟨W.heap.size, 0, rfl, ?_⟩
    rw [cell_of_block (show (W.alloc (.cells #[.int .i64 3] 3)).heap[W.heap.size]? = some (.cells #[.int .i64 3] 3) by rw [alloc_get, if_pos rfl])]
    rfl
  · rintro e w' ⟨v, rfl, hs, hx⟩
    obtain ⟨nx, tp, tn, tc, cp, cc, rfl, _⟩ := hs.st
    exact ⟨nx, tp, tn, tc, cp, _, cc, rfl, hs, (ext_alloc1 _ _).trans hx⟩
theorem kindsW {w : World} {q : Dp} (h : DevAt w q vA) {v : Value} (hs : StOK w v [[3]]) : Calls Try.prog 31 #[.pointer (some ⟨q.p, 0, none⟩), v] w fun e w' => ∃ g c, e = .returned (.slice (some ⟨g, 0, none⟩) 6 c) ∧ w.heap.size ≤ g ∧ (∃ cur, w'.heap[g]? = some (.cells cur 5 (0, 0)) ∧ cur.toList.take 6 = u8s [1, 1, 0, 2, 3, 0]) ∧ Ext (fun _ => False) w w' := by
  refine (kinds_raw sort67 h hs.st hs.n hs.c hs.i).mono ?_
  rintro e w' ⟨v, rfl, ho, hx⟩
  rw [show kindsB vA [[(3 : Int)]].flatten = [1, 1, 0, 2, 3, 0] from vA_k, vA_l] at ho
  rcases ho.2 with ⟨_, q⟩ | ⟨g, cap, cur, rfl, h2, h3, _, _, _, h7⟩
  · cases q
  · exact ⟨g, cap, rfl, h2, ⟨cur, h3, h7⟩, hx⟩
theorem nextW {w : World} {q : Dp} (h : DevAt w q vA) {v : Value} (hs : StOK w v [[3]]) : Calls Try.prog 24 #[.pointer (some ⟨q.p, 0, none⟩), v] w fun e w' => e = .returned (.tuple #[.int .i64 2, .int .i64 0]) ∧ Ext (fun _ => False) w w' := by
  have := next_raw2 sort67 h (by rw [vA_l]; omega) hs
  rw [show nextD vA [[(3 : Int)]].flatten = (2, 0) from vA_n] at this
  exact this
theorem waitW {w : World} {q : Dp} (h : DevAt w q vA) {v : Value} (hs : StOK w v [[3]]) : Calls Try.prog 33 #[.pointer (some ⟨q.p, 0, none⟩), v] w fun e w' => ∃ p c, e = .returned (.slice p 1 c) ∧ Ext (fun _ => False) w w' := by
  refine (waiting_raw sort67 h hs).mono ?_
  rintro e w' ⟨v, rfl, ho, hx⟩
  rw [show (ofD vA [[(3 : Int)]].flatten 3).length = 1 from vA_o] at ho
  obtain ⟨p, c, rfl⟩ := own_slice ho
  exact ⟨p, c, rfl, hx⟩
theorem sweepW {w : World} {q : Dp} (h : DevAt w q vA) {v : Value} (hs : StOK w v [[3]]) : Calls Try.prog 34 #[.pointer (some ⟨q.p, 0, none⟩), v] w fun e w' => e = .returned (.tuple #[.int .i64 4, .int .i64 0]) ∧ DevAt w' q vB ∧ Ext (EQ q) w w' := by
  have := sweep_raw sort67 h (fun i hi => (okw QA i hi).2.1) hs
  rw [show (sweepD vA [[(3 : Int)]].flatten).2 = (4, 0) from vA_s] at this
  exact this
theorem writB {w : World} {q : Dp} (h : DevAt w q vB) : Calls Try.prog 17 #[.pointer (some ⟨q.p, 0, none⟩), .int .i64 4] w fun e w' => e = .returned (.int .i64 0) ∧ w' = w := by
  have := written_raw h 4
  rw [vB_w] at this
  exact this
theorem roomB {w : World} {q : Dp} (h : DevAt w q vB) : Calls Try.prog 26 #[.pointer (some ⟨q.p, 0, none⟩)] w fun e w' => e = .returned (.int .i64 12) ∧ Ext (fun _ => False) w w' := by
  have := room_raw h vB_l
  rw [vB_r] at this
  exact this
theorem convB {w : World} {g : Nat} {cur : Array Value} {c : Nat} (h : w.heap[g]? = some (.cells cur 5 (0, 0))) (h7 : cur.toList.take 6 = u8s [1, 1, 0, 2, 3, 0]) : (convert 24 9 (.slice (some ⟨g, 0, none⟩) 6 c)).run Try.prog w = .ok (.string ⟨#[1, 1, 0, 2, 3, 0]⟩) w := by
  have := run_convert_bytes_arg (P := Try.prog) w 24 5 (by kernel_rfl) (by kernel_rfl) g 0 6 c [1, 1, 0, 2, 3, 0] rfl (fun i hi => by
    rw [Nat.zero_add, cell_of_block h]
    have e : (cur.toList.take 6)[i]? = (u8s [1, 1, 0, 2, 3, 0])[i]? := by rw [h7]
    rw [List.getElem?_take_of_lt hi, Array.getElem?_toList] at e
    rw [e]
    match i, hi with
    | 0, _ => rfl
    | 1, _ => rfl
    | 2, _ => rfl
    | 3, _ => rfl
    | 4, _ => rfl
    | 5, _ => rfl) 9 (by kernel_rfl)
  rw [this]
  rfl
end Go.Proofs.Ytifemhfpcichfaa

/- Zalloc: as many zones as may be open, one after the other (plain). -/

set_option linter.unusedSimpArgs false
set_option linter.unusedVariables false
set_option maxHeartbeats 4000000
set_option maxRecDepth 1000000
namespace Go.Proofs.Ytifemhfpcichfaa

open Go.Av Go.Maps

def Sn (i : Nat) : List Int := (List.range i).map fun (k : Nat) => (k : Int) + 2
def dI (n : Nat) : Nat → Dv
  | 0 => newD n 4
  | i + 1 => (appendD (dI n i) ((i : Int) + 2) 64 (u8s k1)).1
def stepOk (n i : Nat) : Bool := decide (nextD (dI n i) (Sn i) = ((i : Int) + 2, 0)) && decide ((appendD (dI n i) ((i : Int) + 2) 64 (u8s k1)).2.2 = 0) && decide (roomD (dI n (i + 1)) = 11 - (i : Int))
def endOk (n : Nat) : Bool := if n < 15 then decide ((nextD (dI n (n - 2)) (Sn (n - 2))).2 = 9) else
  decide ((nextD (dI n 12) (Sn 12)).2 = 14) && decide ((finishD (dI n 12) 5).2 = 0) && decide (nextD (finishD (dI n 12) 5).1 (Sn 12) = (14, 0))
theorem steps_all : ∀ n ∈ List.range' 6 35, ∀ i ∈ List.range 12, i < n - 2 → stepOk n i = true := by decide +kernel
theorem ends_all : ∀ n ∈ List.range' 6 35, endOk n = true := by decide +kernel
theorem step_ok {n i : Nat} (h6 : 6 ≤ n) (h40 : n ≤ 40) (hi : i < 12) (hn : i < n - 2) : nextD (dI n i) (Sn i) = ((i : Int) + 2, 0) ∧ (appendD (dI n i) ((i : Int) + 2) 64 (u8s k1)).2.2 = 0 ∧ roomD (dI n (i + 1)) = 11 - (i : Int) := by
  have := steps_all n (by rw [List.mem_range']; exact ⟨n - 6, by omega, by omega⟩) i (by simpa using hi) hn
  simp only [stepOk, Bool.and_eq_true, decide_eq_true_eq] at this
  exact ⟨this.1.1, this.1.2, this.2⟩
theorem Sn_succ (i : Nat) : Sn (i + 1) = Sn i ++ [(i : Int) + 2] := by simp [Sn, List.range_succ]
theorem Sn_len (i : Nat) : (Sn i).length = i := by simp [Sn]
theorem newOk_n {n : Nat} (h6 : 6 ≤ n) (h40 : n ≤ 40) : newOk n 4 = true := by simp [newOk]; omega
theorem dI_ok {n : Nat} (h6 : 6 ≤ n) (h40 : n ≤ 40) : ∀ i, OkN n 4 i (dI n i)
  | 0 => by have := OkN.new (newOk_n h6 h40); rw [Int.toNat_natCast] at this; exact this
  | i + 1 => (dI_ok h6 h40 i).append _ 64 (bs := k1) (fun _ => rfl)
theorem end_lt {n : Nat} (h6 : 6 ≤ n) (h : n < 15) : (nextD (dI n (n - 2)) (Sn (n - 2))).2 = 9 := by
  have := ends_all n (by rw [List.mem_range']; exact ⟨n - 6, by omega, by omega⟩)
  unfold endOk at this
  rw [if_pos h] at this
  simpa using this
theorem end_ge {n : Nat} (h40 : n ≤ 40) (h : ¬ n < 15) : (nextD (dI n 12) (Sn 12)).2 = 14 ∧ (finishD (dI n 12) 5).2 = 0 ∧ nextD (finishD (dI n 12) 5).1 (Sn 12) = (14, 0) := by
  have := ends_all n (by rw [List.mem_range']; exact ⟨n - 6, by omega, by omega⟩)
  unfold endOk at this
  rw [if_neg h] at this
  simp only [Bool.and_eq_true, decide_eq_true_eq] at this
  exact ⟨this.1.1, this.1.2, this.2⟩
end Go.Proofs.Ytifemhfpcichfaa

/- Zalloc: the law's own run on a fixed device (awake): the walk. -/

set_option linter.unusedSimpArgs false
set_option linter.unusedVariables false
set_option maxHeartbeats 4000000
set_option maxRecDepth 1000000
namespace Go.Proofs.Ytifemhfpcichfaa
open Go.RowKit
open Go.Av Go.Maps

/-- The kinds' row stands where it stood. -/
def GK (q : Dp) (g : Nat) (cur : Array Value) (w : World) : Prop := ¬ EQ q g ∧ w.heap[g]? = some (.cells cur 5 (0, 0)) ∧ cur.toList.take 6 = u8s [1, 1, 0, 2, 3, 0] ∧ g < w.heap.size
theorem gkeep {q : Dp} {g : Nat} {cur : Array Value} {w w' : World} (h : GK q g cur w) (k : Ext (fun _ => False) w w') : GK q g cur w' := ⟨h.1, (k.block g h.2.2.2 id).trans h.2.1, h.2.2.1, Nat.lt_of_lt_of_le h.2.2.2 k.size⟩
theorem gkeepQ {q : Dp} {g : Nat} {cur : Array Value} {w w' : World} (h : GK q g cur w) (k : Ext (EQ q) w w') : GK q g cur w' := ⟨h.1, (k.block g h.2.2.2 h.1).trans h.2.1, h.2.2.1, Nat.lt_of_lt_of_le h.2.2.2 k.size⟩
theorem convG {q : Dp} {g c : Nat} {cur : Array Value} {w : World} (h : GK q g cur w) : (convert 24 9 (.slice (some ⟨g, 0, none⟩) 6 c)).run Try.prog w = .ok (.string ⟨#[1, 1, 0, 2, 3, 0]⟩) w := convB h.2.1 h.2.2.1
theorem awake11_raw (w : World) : Calls Try.prog 27 #[] w fun e w' => e = .returned (.bool true) ∧ Ext (fun _ => False) w w' := by
  go_enter Try.func27, Try.ntmps27
  go_wp2_with (first
    | (go_at_call 26; refine (roomB HD8.out).mono ?_; rintro e w10 ⟨rfl, hx10⟩; have HX10 := asideI (HX8.out.trans (extQ hx10)); clear hx10; simp only [])
    | (go_at_call 17; refine (writB HD8.out).mono ?_; rintro e w9 ⟨rfl, h9⟩; obtain rfl := h9.symm; simp only [])
    | (go_at_call 34; refine (sweepW (HDC.out.ext HOD.out.2) HOD.out.1).mono ?_; rintro e w8 ⟨rfl, hd8, hx8⟩; have HD8 := asideI hd8; have HX8 := asideI ((HXC.out.trans (extQ HOD.out.2)).trans hx8)
       have hcv := convG (c := gc) (gkeepQ (gkeep HG.out HOD.out.2) hx8)
       clear hd8 hx8; simp only [])
    | (go_at_call 25; have hh := HXC; clear hh; refine (owned3 _).mono ?_; rintro e wd ⟨nx4, tp4, tn4, tc4, cp4, cn4, cc4, rfl, hs4, hx4⟩; have HOD := asideI (And.intro hs4 hx4); clear hs4 hx4; simp only [])
    | (go_at_call 33; refine (waitW (HDB.out.ext HOC.out.2) HOC.out.1).mono ?_; rintro e w7 ⟨p7, c7, rfl, hx7⟩; have HXC := asideI (HXB.out.trans (extQ (HOC.out.2.trans hx7))); have HDC := asideI ((HDB.out.ext HOC.out.2).ext hx7)
       have HG := asideI (gkeep HF.out (HOC.out.2.trans hx7))
       clear hx7; simp only [])
    | (go_at_call 25; have hh := HXB; clear hh; refine (owned3 _).mono ?_; rintro e wc ⟨nx3, tp3, tn3, tc3, cp3, cn3, cc3, rfl, hs3, hx3⟩; have HOC := asideI (And.intro hs3 hx3); clear hs3 hx3; simp only [])
    | (go_at_call 24; refine (nextW (HDA.out.ext HOB.out.2) HOB.out.1).mono ?_; rintro e w6 ⟨rfl, hx6⟩; have HXB := asideI (HXA.out.trans (extQ (HOB.out.2.trans hx6))); have HDB := asideI ((HDA.out.ext HOB.out.2).ext hx6)
       have HF := asideI (gkeep HE.out (HOB.out.2.trans hx6))
       clear hx6; simp only [])
    | (go_at_call 25; have hh := HXA; clear hh; refine (owned3 _).mono ?_; rintro e wb ⟨nx2, tp2, tn2, tc2, cp2, cn2, cc2, rfl, hs2, hx2⟩; have HOB := asideI (And.intro hs2 hx2); clear hs2 hx2; simp only [])
    | (go_at_call 31; refine (kindsW (HD3.out.ext HOA.out.2) HOA.out.1).mono ?_; rintro e w5 ⟨g, gc, rfl, hg1, ⟨cur, hg2, hg3⟩, hx5⟩; have HXA := asideI (HX3.out.trans (extQ (HOA.out.2.trans hx5))); have HDA := asideI ((HD3.out.ext HOA.out.2).ext hx5)
       have HE := asideI (show GK q g cur w5 from ⟨fun e => by obtain ⟨l0, l1, l2⟩ := (HD3.out.ext HOA.out.2).lt; rcases e with e | e | e <;> omega, hg2, hg3, (Array.getElem?_eq_some_iff.1 hg2).1⟩)
       clear hg1 hg2 hg3 hx5; simp only [])
    | (go_at_call 25; refine (owned3 _).mono ?_; rintro e wa ⟨nx1, tp1, tn1, tc1, cp1, cn1, cc1, rfl, hs1, hx1⟩; have HOA := asideI (And.intro hs1 hx1); clear hs1 hx1; simp only [])
    | (go_at_call 15; refine (app1 (HD1.out.ext HX2.out) HB2.out (HL1.out _ (Nat.le_refl _))).mono ?_; rintro e w3 ⟨rfl, hd3, hx3⟩; have HD3 := asideI hd3; have HX3 := asideI ((extQ HX2.out).trans hx3); clear hd3 hx3; simp only [])
    | (go_at_call 16; refine (full1 w1).mono ?_; rintro e w2 ⟨rfl, hb2, hx2⟩; have HB2 := asideI hb2; have HX2 := asideI hx2; clear hb2 hx2; simp only [])
    | (go_at_call 23; refine (new_raw w 6 4).mono ?_
       rintro e w1 ⟨hx1, h1⟩
       rcases h1 with ⟨h1, _⟩ | ⟨_, q, rfl, hq1, hd1⟩
       · exact absurd h1 (by decide)
       have HX1 := asideI hx1
       have HD1 := asideI hd1
       have HQ1 : Aside (∀ k, EQ q k → w.heap.size ≤ k) := hq1
       have HL1 : Aside (∀ W, w1.heap.size ≤ W → ¬ EQ q W) := fun W hW e => by obtain ⟨l0, l1, l2⟩ := hd1.lt; rcases e with e | e | e <;> omega
       clear hx1 hd1 hq1
       simp only [])
    | go_in)
  go_ret
  exact ⟨rfl, extF HX1.out HX10.out HQ1.out⟩
end Go.Proofs.Ytifemhfpcichfaa

/- Zalloc: as many zones as may be open, one after the other (the walk). -/



set_option linter.unusedSimpArgs false
set_option linter.unusedVariables false
set_option maxHeartbeats 4000000
set_option maxRecDepth 1000000
namespace Go.Proofs.Ytifemhfpcichfaa
open Go.RowKit
open Go.Av Go.Maps

theorem own_keep {w w' : World} {q : Dp} {base e size n : Nat} {v : Value} {xs : List Value} (h : w.ownsRow base e size v n xs) (k : Ext (EQ q) w w') (hq : ∀ b, EQ q b → b < base) : w'.ownsRow base e size v n xs := by
  refine ⟨h.1, ?_⟩
  rcases h.2 with h2 | ⟨g, cap, cur, h1, h2, h3, h4⟩
  · exact .inl h2
  · exact .inr ⟨g, cap, cur, h1, h2, (k.block g (Array.getElem?_eq_some_iff.1 h3).1 (fun e => by have := hq g e; omega)).trans h3, h4⟩
theorem grown_extQ {w1 w w' : World} {q : Dp} {base e size n : Nat} {v : Value} {xs : List Value} (h : w.ownsRow base e size v n xs) (g : w.grownBy w' v.ownBlock) (hb : w1.heap.size ≤ base) (k : Ext (EQ q) w1 w) : Ext (EQ q) w1 w' := by
  obtain ⟨g1, g2, g3, g4, g5⟩ := g
  refine ⟨g1.trans k.os, g2.trans k.tape, g3.trans k.output, Nat.le_trans k.size g4, fun i hi hn => (g5 i (Nat.lt_of_lt_of_le hi k.size) ?_).trans (k.block i hi hn)⟩
  rcases h.2 with ⟨e, _⟩ | ⟨g, cap, cur, e, hg, _⟩
  · rw [e]; simp [Value.ownBlock]
  · rw [e]; simp only [Value.ownBlock]; intro q; injection q with q; omega
theorem grown_dev {w w' : World} {q : Dp} {d : Dv} {base e size n : Nat} {v : Value} {xs : List Value} (h : w.ownsRow base e size v n xs) (g : w.grownBy w' v.ownBlock) (hq : ∀ b, EQ q b → b < base) (hD : DevAt w q d) : DevAt w' q d := by
  have k : Ext (fun b => some b = v.ownBlock) w w' := ⟨g.1, g.2, g.3, g.4, fun i hi hn => g.5 i hi hn⟩
  refine hD.keep k fun b e1 e2 => ?_
  rcases h.2 with ⟨e, _⟩ | ⟨g, cap, cur, e, hg, _⟩
  · rw [e] at e2; simp [Value.ownBlock] at e2
  · rw [e] at e2; simp only [Value.ownBlock] at e2; injection e2 with e2; have := hq b e1; omega
theorem ints_own {w : World} {base : Nat} {p : Option Addr} {c n : Nat} {xs : List Int} (h : w.ownsRow base 3 1 (.slice p n c) n (I3 xs)) : IntsW w p xs := fun i hi => by
  obtain ⟨b, c', e, _, _, h3⟩ := row_cell h hi
  cases e
  exact ⟨b, 0, rfl, by rw [Nat.zero_add]; exact h3⟩
/-- A state that owns the numbers of a row of the law's own. -/
theorem ownedS {w : World} {base : Nat} {p : Option Addr} {c i : Nat} (h : w.ownsRow base 3 1 (.slice p i c) i (I3 (Sn i))) (hi : i ≤ 100) : Calls Try.prog 25 #[.slice p i c] w fun e w' => ∃ nx tp tn tc cp cn cc, e = .returned (.agg #[.int .i64 nx, .slice tp tn tc, .slice cp cn cc]) ∧ StOK w' (.agg #[.int .i64 nx, .slice tp tn tc, .slice cp cn cc]) [Sn i] ∧ Ext (fun _ => False) w w' := by
  have := owned_raw (w := w) (p := p) (c := c) (xs := Sn i) (ints_own h) (by rw [Sn_len]; omega) (fun z hz => by
    obtain ⟨k, hk, rfl⟩ := List.mem_map.1 hz
    have : k < i := by simpa using hk
    exact ⟨by omega, by omega⟩)
  rw [Sn_len] at this
  refine this.mono ?_
  rintro e w' ⟨v, rfl, hs, hx⟩
  obtain ⟨nx, tp, tn, tc, cp, cc, rfl, _⟩ := hs.st
  exact ⟨nx, tp, tn, tc, cp, _, cc, rfl, hs, hx⟩
theorem flat1 (xs : List Int) : [xs].flatten = xs := by simp
structure LO (w w1 wr : World) (q : Dp) (n i : Nat) (sv : Value) : Prop where
  dev : DevAt wr q (dI n i)
  own : wr.ownsRow w1.heap.size 3 1 sv i (I3 (Sn i))
  ext : Ext (EQ q) w1 wr
theorem opens_main {w : World} (z : UInt8) : Calls Try.prog 6 #[.int .u8 z.toNat] w (LawP w) := by
  obtain ⟨i0, hi, hz0, hz1, hz2⟩ := info_parts (P := Try.prog) (e := 3) (z := .int .i64 0) (size := 1) (bytes := 8) (by kernel_rfl)
  have hu : Try.prog.underlying 53 = some (.slice 3) := by kernel_rfl
  have HI := asideI hi
  have HZ0 := asideI hz0
  have HZ1 := asideI hz1
  have HZ2 := asideI hz2
  have HU := asideI hu
  clear hi hz0 hz1 hz2 hu
  obtain ⟨n, hn⟩ : ∃ n : Nat, n = 6 + z.toNat % 35 := ⟨_, rfl⟩
  have h6 : 6 ≤ n := by omega
  have h40 : n ≤ 40 := by omega
  have hzl := z.toNat_lt
  have hn1 : IntKind.i64.wrap (z.toNat : Int) = z.toNat := by rw [IntKind.wrap_i64]; omega
  have hn2 : IntKind.i64.wrap ((z.toNat : Int).tmod 35) = ((z.toNat % 35 : Nat) : Int) := by rw [Int.tmod_eq_emod_of_nonneg (by omega), IntKind.wrap_i64]; omega
  have hn3 : IntKind.i64.wrap (6 + ((z.toNat % 35 : Nat) : Int)) = (n : Int) := by rw [IntKind.wrap_i64]; omega
  have hn4 : (6 + (z.toNat : Int) % 35) = (n : Int) := by omega
  have HNK := asideI (newOk_n h6 h40)
  clear hn
  go_enter Try.func6, Try.ntmps6
  go_wp2_with (first
    | (go_at_call 23; refine (new_raw w n 4).mono ?_
       rintro e w1 ⟨hx1, h1⟩
       rcases h1 with ⟨h1, _⟩ | ⟨_, q, rfl, hq1, hd1⟩
       · exact absurd HNK.out (by rw [h1]; simp)
       have HX1 := asideI hx1
       have HD1 := asideI hd1
       have HQ1 : Aside (∀ k, EQ q k → w.heap.size ≤ k) := hq1
       have HL1 : Aside (∀ k, EQ q k → k < w1.heap.size) := fun k e => by obtain ⟨l0, l1, l2⟩ := hd1.lt; rcases e with e | e | e <;> omega
       clear hx1 hd1 hq1
       simp only [])
    | go_in)
  have hw2 : IntKind.i64.wrap ((n : Int) - 2) = (n : Int) - 2 := by rw [IntKind.wrap_i64]; omega
  clear hn1 hn2 hn3 hn4
  go_loopg [6, 7] 12 (fun gg s6 s7 wr => ∃ (i : Nat), s7 = .int .i64 i ∧ i ≤ 12 ∧ i ≤ n - 2 ∧ 12 - i ≤ gg ∧ Aside (LO w w1 wr q n i s6))
  case atStart => exact ⟨0, rfl, by omega, by omega, by omega, ⟨HD1.out, ⟨rfl, .inl ⟨rfl, rfl⟩⟩, Ext.refl _ _⟩⟩
  case round =>
    obtain ⟨i, rfl, hi12, hin, hgg, H2⟩ := hrel
    obtain ⟨sp, sc, rfl⟩ := own_slice H2.out.own
    by_cases hlt : i < 12 ∧ i < n - 2
    · obtain ⟨hl1, hl2⟩ := hlt
      have hz1 : (i : Int) < (n : Int) - 2 := by omega
      have hz2 : (i : Int) < 12 := by omega
      have hw : IntKind.i64.wrap ((i : Int) + 1) = (i : Int) + 1 := by rw [IntKind.wrap_i64]; omega
      have hw3 : IntKind.i64.wrap ((i : Int) + 2) = (i : Int) + 2 := by rw [IntKind.wrap_i64]; omega
      have hw4 : IntKind.i64.wrap (11 - (i : Int)) = 11 - (i : Int) := by rw [IntKind.wrap_i64]; omega
      obtain ⟨f1, f2, f3⟩ := step_ok h6 h40 hl1 hl2
      have hOK := dI_ok h6 h40 i
      have hOK1 := dI_ok h6 h40 (i + 1)
      have hOW := asideI (ownedS H2.out.own (by omega))
      have HNX := asideI (fun (W : World) (k : DevAt W q (dI n i)) (v : Value) (hs : StOK W v [Sn i]) => next_raw2 sort67 k (by have := hOK.len; omega) hs)
      rw [flat1, f1] at HNX
      obtain ⟨ai, hai⟩ : ∃ ai, (appendD (dI n i) ((i : Int) + 2) 64 (u8s k1)).2 = (ai, 0) := ⟨_, Prod.ext rfl f2⟩
      have HAP := asideI (fun (W : World) (hD : DevAt W q (dI n i)) (b : Nat) (hb : BB W b k1) (hnq : ¬ EQ q b) => app_full hD hOK (by omega) ((i : Int) + 2) hb hnq (by simp [k1]) hai)
      have HRM := asideI (fun (W : World) (hD : DevAt W q (dI n (i + 1))) => room_raw hD (by have := hOK1.len; omega))
      rw [f3] at HRM
      have HS1 := asideI (Sn_succ i)
      have HSL := asideI (Sn_len i)
      clear f1 f2 f3 hai hOK hOK1
      go_wp2_with (first
        | (go_at_call 26; refine (HRM.out _ HD6.out).mono ?_; rintro e w7 ⟨rfl, hx7⟩; have HD7 := asideI (HD6.out.ext hx7); have HX7 := asideI (HX6.out.trans (extQ hx7)); clear hx7; simp only [])
        | (go_at_call 15; refine (HAP.out _ HD5.out _ HB5.out HNQ.out).mono ?_; rintro e w6 ⟨rfl, hd6, hx6⟩; have HD6 : Aside (DevAt w6 q (dI n (i + 1))) := hd6; have HX6 := asideI (HX5.out.trans hx6); clear hd6 hx6; simp only [])
        | (go_at_call 16; refine (full1 w4).mono ?_; rintro e w5 ⟨rfl, hb5, hx5⟩; have HB5 := asideI hb5; have HD5 := asideI (HD4.out.ext hx5); have HX5 := asideI (HX4.out.trans (extQ (q := q) hx5)); have HNQ : Aside (¬ EQ q w4.heap.size) := (fun e => by obtain ⟨l0, l1, l2⟩ := HD4.out.lt; rcases e with e | e | e <;> omega); clear hb5 hx5; simp only [])
        | (go_at_call 24; refine (HNX.out _ (H2.out.dev.ext HOS.out.2) _ HOS.out.1).mono ?_; rintro e w4 ⟨rfl, hx4⟩; have HD4 := asideI ((H2.out.dev.ext HOS.out.2).ext hx4); have HX4 := asideI (extQ (q := q) (HOS.out.2.trans hx4)); clear hx4; simp only [])
        | (go_at_call 25; refine hOW.out.mono ?_; rintro e w3 ⟨nx1, tp1, tn1, tc1, cp1, cn1, cc1, rfl, hs1, hx1⟩; have HOS := asideI (And.intro hs1 hx1); clear hs1 hx1; simp only [])
        | (at_builtin; refine wpList_append_own _ rfl _ _ 53 rfl w1.heap.size 3 i0 (.int .i64 0) 1 8 HU.out HI.out HZ0.out HZ1.out HZ2.out rfl (by decide) _ _ _ rfl (own_ext (own_keep H2.out.own HX7.out HL1.out) (ext_alloc1 _ _)) ⟨w7.heap.size, 0, none⟩ 1 1 [.int .i64 ((i : Int) + 2)] rfl ?ra1 ?ra2 ?ra3 ?ra4 ?ra5 ?ra6 ?_)
        | go_in)
      try (case ra1 => rfl)
      try (case ra2 => exact one_new _ _ _ _ rfl)
      try (case ra3 => first | rfl | (intro u hu; rw [List.mem_singleton] at hu; rw [hu]; rfl))
      try (case ra4 => unfold maxLen; omega)
      try (case ra5 => omega)
      try (case ra6 => have h1 := H2.out.ext.size; have h2 := HX7.out.size; omega)
      intro v' w8 hown8 hgrow hnil
      obtain ⟨p8, c8, rfl⟩ := own_slice hown8
      have hown7 := own_ext (own_keep H2.out.own HX7.out HL1.out) (ext_alloc1 w7 (.cells #[.int .i64 ((i : Int) + 2)] 3))
      have hx8 := grown_extQ hown7 hgrow (Nat.le_refl _) ((H2.out.ext.trans HX7.out).trans (extQ (ext_alloc1 w7 (.cells #[.int .i64 ((i : Int) + 2)] 3))))
      have hd8 := grown_dev hown7 hgrow HL1.out (HD7.out.ext (ext_alloc1 w7 (.cells #[.int .i64 ((i : Int) + 2)] 3)))
      have HLO := asideI (show LO w w1 w8 q n (i + 1) (.slice p8 (i + 1) c8) from ⟨hd8, by rw [HS1.out, show I3 (Sn i ++ [(i : Int) + 2]) = I3 (Sn i) ++ [.int .i64 ((i : Int) + 2)] by simp [I3]]; exact hown8, hx8⟩)
      clear hown7 hx8 hd8
      clear hown8 hgrow hnil
      go_wp2
      go_roundg (12 - (i + 1))
      case measure => omega
      case rel => exact ⟨i + 1, by simp, by omega, by omega, by omega, HLO.out⟩
    · have hno : IntKind.i64.wrap ((n : Int) - 2) = (n : Int) - 2 := hw2
      have hOK := dI_ok h6 h40 i
      have hOW := asideI (ownedS H2.out.own (by omega))
      have HNX := asideI (fun (W : World) (k : DevAt W q (dI n i)) (v : Value) (hs : StOK W v [Sn i]) => next_raw2 sort67 k (by have := hOK.len; omega) hs)
      rw [flat1] at HNX
      have HXS := asideI H2.out.ext
      by_cases h15 : n < 15
      · have hi2 : i = n - 2 := by omega
        have hc1 : ¬ ((i : Int) < (n : Int) - 2) := by omega
        have hc2 : (n : Int) < 15 := by omega
        have he := end_lt h6 h15
        rw [← hi2] at he
        rw [he] at HNX
        generalize (nextD (dI n i) (Sn i)).1 = nz at HNX
        clear he hi2 hlt hOK
        go_wp2_with (first
          | (go_at_call 27; refine (awake11_raw _).mono ?_; rintro e w9 ⟨rfl, hx9⟩; have HX9 := asideI hx9; clear hx9; simp only [])
          | (go_at_call 24; refine (HNX.out _ (H2.out.dev.ext HOS.out.2) _ HOS.out.1).mono ?_; rintro e w4 ⟨rfl, hx4⟩; have HX4 := asideI (extQ (q := q) (HOS.out.2.trans hx4)); clear hx4; simp only [])
          | (go_at_call 25; refine hOW.out.mono ?_; rintro e w3 ⟨nx1, tp1, tn1, tc1, cp1, cn1, cc1, rfl, hs1, hx1⟩; have HOS := asideI (And.intro hs1 hx1); clear hs1 hx1; simp only [])
          | go_in)
        go_ret
        exact ⟨rfl, extF HX1.out ((HXS.out.trans HX4.out).trans (extQ HX9.out)) HQ1.out⟩
      · obtain rfl : i = 12 := by omega
        have hc1 : (12 : Int) < (n : Int) - 2 := by omega
        have hc2 : ¬ (n : Int) < 15 := by omega
        obtain ⟨e1, e2, e3⟩ := end_ge h40 h15
        rw [e1] at HNX
        have hOF := hOK.finish 5
        have HFN := asideI (fun (W : World) (hD : DevAt W q (dI n 12)) => finish_raw hD 5)
        rw [e2] at HFN
        obtain ⟨dF, hdF⟩ : ∃ dF, dF = (finishD (dI n 12) 5).1 := ⟨_, rfl⟩
        rw [← hdF] at HFN hOF e3
        have HNF := asideI (fun (W : World) (k : DevAt W q dF) (v : Value) (hs : StOK W v [Sn 12]) => next_raw2 sort67 k (by have := hOF.len; omega) hs)
        rw [flat1, e3] at HNF
        generalize (nextD (dI n 12) (Sn 12)).1 = nz at HNX
        have HOW2 := asideI (fun (W : World) (k : Ext (EQ q) wr W) => ownedS (own_keep H2.out.own k HL1.out) (by omega))
        clear e1 e2 e3 hdF hOF hOK hlt
        go_wp2_with (first
          | (go_at_call 27; refine (awake11_raw _).mono ?_; rintro e w9 ⟨rfl, hx9⟩; have HX9 := asideI (HX7.out.trans (extQ hx9)); clear hx9; simp only [])
          | (go_at_call 24; have hh := HD6; clear hh; refine (HNF.out _ HD6.out _ HOS2.out.1).mono ?_; rintro e w7 ⟨rfl, hx7⟩; have HX7 := asideI ((HX5.out.trans (extQ HOS2.out.2)).trans (extQ hx7)); clear hx7; simp only [])
          | (go_at_call 25; have hh := HD5; clear hh; refine (HOW2.out _ HX5.out).mono ?_; rintro e w6 ⟨nx2, tp2, tn2, tc2, cp2, cn2, cc2, rfl, hs2, hx2⟩; have HOS2 := asideI (And.intro hs2 hx2); have HD6 := asideI (HD5.out.ext hx2); clear hs2 hx2; simp only [])
          | (go_at_call 28; refine (HFN.out _ HD4.out).mono ?_; rintro e w5 ⟨rfl, hd5, hx5⟩; have HD5 := asideI hd5; have HX5 := asideI (HX4.out.trans hx5); clear hd5 hx5; simp only [])
          | (go_at_call 24; refine (HNX.out _ (H2.out.dev.ext HOS.out.2) _ HOS.out.1).mono ?_; rintro e w4 ⟨rfl, hx4⟩; have HD4 := asideI ((H2.out.dev.ext HOS.out.2).ext hx4); have HX4 := asideI (extQ (q := q) (HOS.out.2.trans hx4)); clear hx4; simp only [])
          | (go_at_call 25; refine hOW.out.mono ?_; rintro e w3 ⟨nx1, tp1, tn1, tc1, cp1, cn1, cc1, rfl, hs1, hx1⟩; have HOS := asideI (And.intro hs1 hx1); clear hs1 hx1; simp only [])
          | go_in)
        go_ret
        exact ⟨rfl, extF HX1.out (HXS.out.trans HX9.out) HQ1.out⟩
theorem law_opens (z : UInt8) : Pure Try.prog 6 [.int .u8 z.toNat] (.sv (.bool true)) := by
  refine pure_true fun mu w vs hm hr => ?_
  match vs, hr.1 with
  | [v], _ =>
    have e0 : v = .int .u8 z.toNat := Rep.inv_int (hr.2 0 (by simp))
    subst e0
    exact opens_main z
end Go.Proofs.Ytifemhfpcichfaa
