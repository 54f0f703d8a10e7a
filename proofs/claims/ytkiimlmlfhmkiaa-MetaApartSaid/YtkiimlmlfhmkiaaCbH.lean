import Derived.Test.YtkiimlmlfhmkiaaMCmW

set_option linter.unusedSimpArgs false
set_option linter.unusedVariables false
set_option maxHeartbeats 4000000
namespace Go.Proofs.Ytkiimlmlfhmkiaa
open Go.Av

def RX : Orc := {
  p := fun f l => match f, l with
  | 68, [.agg [.sl 1 xs, .int .i64 e]] => some (IsBs xs ∧ xs.length < 4611686018427387904, .tup [.sv (rd' (rNum (nsOf xs) e).2.1 (rNum (nsOf xs) e).2.2), .sv (.int .i64 (rNum (nsOf xs) e).1)])
  | 79, [.agg [.sl 1 xs, .int .i64 e]] => some (IsBs xs ∧ xs.length < 4611686018427387904, .tup [.sv (rd' (recG (nsOf xs) e).2.2.1 (recG (nsOf xs) e).2.2.2), .sv (recG (nsOf xs) e).1.sv, .sv (.int .i64 (recG (nsOf xs) e).2.1)])
  | 32, [.agg [.int .i64 a, .int .i64 b, .int .i64 c, .int .i64 d, .int .i64 e, .sl 6 xs]] => some (xs = RL (unRL xs) ∧ Bat.ok ⟨a, b, c, d, e, unRL xs⟩, .tup [.own 1 (bs (putB ⟨a, b, c, d, e, unRL xs⟩)), .sv (.int .i64 (batE ⟨a, b, c, d, e, unRL xs⟩))])
  | _, _ => none }
theorem RX_ok : RX.ok Try.prog := by
  refine ⟨fun f l c rv h hc => ?_, fun _ _ _ _ _ _ h => (by cases h), fun _ _ _ _ h => (by cases h), fun _ h => (by cases h), fun _ _ _ _ _ _ h => (by cases h), fun _ _ _ _ _ _ _ h => (by cases h)⟩
  simp only [RX] at h
  split at h <;> cases h
  · rename_i xs e
    obtain ⟨⟨e1, h1⟩, h2⟩ := hc
    have := refnum (nsOf xs) e h1 (by rw [e1] at h2; simpa using h2)
    rw [rd', ← e1] at this
    exact this
  · rename_i xs e
    obtain ⟨⟨e1, h1⟩, h2⟩ := hc
    have := refget (nsOf xs) e h1 (by rw [e1] at h2; simpa using h2)
    rw [rd', ← e1] at this
    exact this
  · rename_i a b c d e xs
    obtain ⟨h1, h2⟩ := hc
    have := rput_bat ⟨a, b, c, d, e, unRL xs⟩ h2
    simp only [Bat.sv, Bat.cells, ← h1] at this
    exact this
theorem RX_32 (b : Bat) : RX.p 32 [.agg [.int .i64 b.ba, .int .i64 b.ct, .int .i64 b.pr, .int .i64 b.ep, .int .i64 b.sq, .sl 6 (RL b.rs)]] = some (RL b.rs = RL b.rs ∧ b.ok, .tup [.own 1 (bs (putB b)), .sv (.int .i64 (batE b))]) := by
  show some (RL b.rs = RL (unRL (RL b.rs)) ∧ Bat.ok ⟨b.ba, b.ct, b.pr, b.ep, b.sq, unRL (RL b.rs)⟩, LV.tup [.own 1 (bs (putB ⟨b.ba, b.ct, b.pr, b.ep, b.sq, unRL (RL b.rs)⟩)), .sv (.int .i64 (batE ⟨b.ba, b.ct, b.pr, b.ep, b.sq, unRL (RL b.rs)⟩))]) = _
  rw [unRL_RL]
theorem RX_68 (l : List Nat) (e : Int) : RX.p 68 [.agg [.sl 1 (bs l), .int .i64 e]] = some (IsBs (bs l) ∧ (bs l).length < 4611686018427387904, .tup [.sv (.agg [.sl 1 (bs (rNum l e).2.1), .int .i64 (rNum l e).2.2]), .sv (.int .i64 (rNum l e).1)]) := by
  show some (IsBs (bs l) ∧ (bs l).length < 4611686018427387904, LV.tup [.sv (rd' (rNum (nsOf (bs l)) e).2.1 (rNum (nsOf (bs l)) e).2.2), .sv (.int .i64 (rNum (nsOf (bs l)) e).1)]) = _
  rw [nsOf_bs]; rfl
theorem RX_79 (l : List Nat) (e : Int) : RX.p 79 [.agg [.sl 1 (bs l), .int .i64 e]] = some (IsBs (bs l) ∧ (bs l).length < 4611686018427387904, .tup [.sv (.agg [.sl 1 (bs (recG l e).2.2.1), .int .i64 (recG l e).2.2.2]), .sv (recG l e).1.sv, .sv (.int .i64 (recG l e).2.1)]) := by
  show some (IsBs (bs l) ∧ (bs l).length < 4611686018427387904, LV.tup [.sv (rd' (recG (nsOf (bs l)) e).2.2.1 (recG (nsOf (bs l)) e).2.2.2), .sv (recG (nsOf (bs l)) e).1.sv, .sv (.int .i64 (recG (nsOf (bs l)) e).2.1)]) = _
  rw [nsOf_bs]; rfl
theorem goQ_drop (n i : Nat) (l : List Nat) (e : Int) (acc : List Rec) (h : i < n) : goQ (n - i) l e acc = if e = 0 then goQ (n - (i + 1)) (recG l e).2.2.1 (recG l e).2.2.2 (acc ++ [(recG l e).1]) else acc := by
  rw [show n - i = (n - (i + 1)) + 1 by omega]; rfl
theorem goQ_stop (k : Nat) (l : List Nat) (e : Int) (acc : List Rec) (h : e ≠ 0) : goQ k l e acc = acc := by
  cases k with
  | zero => rfl
  | succ k => simp [goQ, h]

theorem rget_bat (l : List Nat) (hb : Bytes l) (hl : l.length < 140737488355328) : Pure Try.prog 37 [.sl 1 (bs l)] (.tup [.sv (batQ l).1.sv, .sv (.int .i64 (batQ l).2)]) := by
  refine pure_go RX_ok Try.func37 Try.ntmps37 comp37 cres37 (by decide) (by simp) ?_
  unfold batQ
  by_cases h8 : 8192 < l.length
  · have h8' : (8192 : Int) < l.length := by omega
    simp [ac37, ar37, h8, h8', bat0, Bat.sv, Bat.cells, RL_nil]
  have h8' : ¬ (8192 : Int) < l.length := by omega
  rw [if_neg h8]
  have b1 := rNum_bytes hb 0
  have c1 := rNum_le l 0
  have b2 := rNum_bytes b1 (rNum l 0).2.2
  have c2 := rNum_le (rNum l 0).2.1 (rNum l 0).2.2
  unfold p6 p5 p4 p3 p2 p1
  have i1 := rNum_in l 0
  generalize h1 : rNum l 0 = q1 at i1 b1 c1 b2 c2 ⊢
  obtain ⟨n1, l1, e1⟩ := q1
  simp only at i1 b1 c1 b2 c2 ⊢
  have i2 := rNum_in l1 e1
  generalize h2 : rNum l1 e1 = q2 at i2 b2 c2 ⊢
  obtain ⟨n2, l2, e2⟩ := q2
  simp only at i2 b2 c2 ⊢
  have b3 := rNum_bytes b2 e2
  have c3 := rNum_le l2 e2
  have i3 := rNum_in l2 e2
  generalize h3 : rNum l2 e2 = q3 at i3 b3 c3 ⊢
  obtain ⟨n3, l3, e3⟩ := q3
  simp only at i3 b3 c3 ⊢
  have b4 := rNum_bytes b3 e3
  have c4 := rNum_le l3 e3
  have i4 := rNum_in l3 e3
  generalize h4 : rNum l3 e3 = q4 at i4 b4 c4 ⊢
  obtain ⟨n4, l4, e4⟩ := q4
  simp only at i4 b4 c4 ⊢
  have b5 := rNum_bytes b4 e4
  have c5 := rNum_le l4 e4
  have i5 := rNum_in l4 e4
  generalize h5 : rNum l4 e4 = q5 at i5 b5 c5 ⊢
  obtain ⟨n5, l5, e5⟩ := q5
  simp only at i5 b5 c5 ⊢
  have b6 := rNum_bytes b5 e5
  have c6 := rNum_le l5 e5
  generalize h6 : rNum l5 e5 = q6 at b6 c6 ⊢
  obtain ⟨n6, l6, e6⟩ := q6
  simp only at b6 c6 ⊢
  have d0 : l.length < 4611686018427387904 := by omega
  have d1 : l1.length < 4611686018427387904 := by omega
  have d2 : l2.length < 4611686018427387904 := by omega
  have d3 : l3.length < 4611686018427387904 := by omega
  have d4 : l4.length < 4611686018427387904 := by omega
  have d5 : l5.length < 4611686018427387904 := by omega
  have hcl : cntG n6 ≤ 32 := by
    unfold cntG
    split
    · omega
    · split <;> omega
  have hci : ∀ i : Nat, i < cntG n6 ↔ (i : Int) < n6 ∧ (i : Int) < 32 := by
    intro i
    unfold cntG
    by_cases a1 : n6 < 0
    · rw [if_pos a1]; omega
    · by_cases a2 : 32 < n6
      · rw [if_neg a1, if_pos a2]; omega
      · rw [if_neg a1, if_neg a2]; omega
  simp [ac37, ar37, RX_68, isBs_bs, hb, b1, b2, b3, b4, b5, h1, h2, h3, h4, h5, h6, d0, d1, d2, d3, d4, d5, h8']
  generalize cntG n6 = cn at hcl hci ⊢
  refine awpR_loop (α := Nat × List Rec × List Nat × Int) (fun x => x.1 ≤ cn ∧ x.2.1.length = x.1 ∧ Bytes x.2.2.1 ∧ x.2.2.1.length ≤ l6.length ∧ goQ cn l6 e6 [] = goQ (cn - x.1) x.2.2.1 x.2.2.2 x.2.1)
    (fun x => { n := 97, sl := [(0, .sv (.sl 1 (bs l))), (2, .lptr 2 0), (4, .lptr 4 0), (6, .lptr 6 0), (5, .sv (.int .i64 n6)), (7, .sv (.int .i64 x.1))], bx := [(6, [.sv (.sl 1 (bs x.2.2.1)), .sv (.int .i64 x.2.2.2)]), (4, [.sv (.int .i64 n1), .sv (.int .i64 n2), .sv (.int .i64 n3), .sv (.int .i64 n4), .sv (.int .i64 n5), .own 6 (RL x.2.1)]), (2, bat0.cells.map .sv)], hp := fun _ => none })
    (fun x => cn - x.1) (0, [], l6, e6) ⟨by omega, rfl, b6, Nat.le_refl _, rfl⟩ (by simp [RL, bat0, Bat.cells]) ?_
  rintro ⟨i, acc, l', e'⟩ ⟨hi, ha, hb', hle', he⟩
  simp only at hi ha hb' hle' he
  have hstop : ∀ k : Nat, k = 0 → goQ k l' e' acc = acc := fun k q => by subst q; rfl
  by_cases m1 : (i : Int) < n6
  · by_cases m2 : (i : Int) < 32
    · have h : i < cn := (hci i).2 ⟨m1, m2⟩
      rw [goQ_drop _ _ _ _ _ h] at he
      by_cases m3 : e' = 0
      · rw [if_pos m3] at he
        have hw : IntKind.i64.wrap ((i : Int) + 1) = ((i + 1 : Nat) : Int) := by rw [IntKind.wrap_i64]; omega
        have dl' : l'.length < 4611686018427387904 := by omega
        have r2 := recG_bytes hb' e'
        have r3 := recG_le l' e'
        subst m3
        generalize hrg : recG l' 0 = rg at he r2 r3
        obtain ⟨r, er, lr, erd⟩ := rg
        simp only at he r2 r3
        simp [m1, m2, RX_79, isBs_bs, hb', dl', hrg, Rec.sv, Rec.cells, hw, bat0, Bat.cells]
        exact ⟨by omega, i + 1, acc ++ [r], lr, erd, ⟨by omega, by simp [ha], r2, by omega, he⟩, by omega, by omega, ⟨rfl, rfl⟩, by simp [RL, Rec.sv, Rec.cells]⟩
      · rw [if_neg m3] at he
        simp only [he]
        have hR := RX_32 ⟨n1, n2, n3, n4, n5, acc⟩
        have hok : Bat.ok ⟨n1, n2, n3, n4, n5, acc⟩ := ⟨i1, i2, i3, i4, i5⟩
        simp only at hR
        generalize hbb : (⟨n1, n2, n3, n4, n5, acc⟩ : Bat) = b at hR hok ⊢
        have hpb := putB_bytes b
        have hse := sOf_eq hpb hb
        unfold finG
        by_cases k2 : batE b = 0
        · have hp : putB b = layB b := if_pos k2
          rw [hp] at hpb hR hse
          by_cases k3 : layB b = l
          · rw [if_pos ⟨k2, k3⟩]
            rw [k3] at hpb hR hse
            simp [m1, m2, m3, hR, hok, isBs_bs, hpb, hb, k2, bat0, Bat.cells, Bat.sv]
            subst hbb
            exact ⟨fun x hx => bs_byte _ x hx, rfl, rfl, rfl, rfl, rfl, rfl⟩
          · rw [if_neg (fun q => k3 q.2)]
            have hne : ¬ (sOf (layB b)).toList = (sOf l).toList := fun q => by simp [q, k3] at hse
            simp [m1, m2, m3, hR, hok, isBs_bs, hpb, hb, k2, k3, hne, bs_str, bat0, Bat.cells, Bat.sv, RL_nil]
            exact ⟨fun x hx => bs_byte _ x hx, fun x hx => bs_byte _ x hx⟩
        · rw [if_neg (fun q => k2 q.1)]
          simp [m1, m2, m3, hR, hok, isBs_bs, hpb, hb, k2, bat0, Bat.cells, Bat.sv, RL_nil]
    · have h : cn - i = 0 := by have := (hci i).1; omega
      rw [hstop _ h] at he
      simp only [he]
      have hR := RX_32 ⟨n1, n2, n3, n4, n5, acc⟩
      have hok : Bat.ok ⟨n1, n2, n3, n4, n5, acc⟩ := ⟨i1, i2, i3, i4, i5⟩
      simp only at hR
      generalize hbb : (⟨n1, n2, n3, n4, n5, acc⟩ : Bat) = b at hR hok ⊢
      have hpb := putB_bytes b
      have hse := sOf_eq hpb hb
      unfold finG
      by_cases k2 : batE b = 0
      · have hp : putB b = layB b := if_pos k2
        rw [hp] at hpb hR hse
        by_cases k3 : layB b = l
        · rw [if_pos ⟨k2, k3⟩]
          rw [k3] at hpb hR hse
          simp [m1, m2, hR, hok, isBs_bs, hpb, hb, k2, bat0, Bat.cells, Bat.sv]
          subst hbb
          exact ⟨fun x hx => bs_byte _ x hx, rfl, rfl, rfl, rfl, rfl, rfl⟩
        · rw [if_neg (fun q => k3 q.2)]
          have hne : ¬ (sOf (layB b)).toList = (sOf l).toList := fun q => by simp [q, k3] at hse
          simp [m1, m2, hR, hok, isBs_bs, hpb, hb, k2, k3, hne, bs_str, bat0, Bat.cells, Bat.sv, RL_nil]
          exact ⟨fun x hx => bs_byte _ x hx, fun x hx => bs_byte _ x hx⟩
      · rw [if_neg (fun q => k2 q.1)]
        simp [m1, m2, hR, hok, isBs_bs, hpb, hb, k2, bat0, Bat.cells, Bat.sv, RL_nil]
  · have h : cn - i = 0 := by have := (hci i).1; omega
    rw [hstop _ h] at he
    simp only [he]
    have hR := RX_32 ⟨n1, n2, n3, n4, n5, acc⟩
    have hok : Bat.ok ⟨n1, n2, n3, n4, n5, acc⟩ := ⟨i1, i2, i3, i4, i5⟩
    simp only at hR
    generalize hbb : (⟨n1, n2, n3, n4, n5, acc⟩ : Bat) = b at hR hok ⊢
    have hpb := putB_bytes b
    have hse := sOf_eq hpb hb
    unfold finG
    by_cases k2 : batE b = 0
    · have hp : putB b = layB b := if_pos k2
      rw [hp] at hpb hR hse
      by_cases k3 : layB b = l
      · rw [if_pos ⟨k2, k3⟩]
        rw [k3] at hpb hR hse
        simp [m1, hR, hok, isBs_bs, hpb, hb, k2, bat0, Bat.cells, Bat.sv]
        subst hbb
        exact ⟨fun x hx => bs_byte _ x hx, rfl, rfl, rfl, rfl, rfl, rfl⟩
      · rw [if_neg (fun q => k3 q.2)]
        have hne : ¬ (sOf (layB b)).toList = (sOf l).toList := fun q => by simp [q, k3] at hse
        simp [m1, hR, hok, isBs_bs, hpb, hb, k2, k3, hne, bs_str, bat0, Bat.cells, Bat.sv, RL_nil]
        exact ⟨fun x hx => bs_byte _ x hx, fun x hx => bs_byte _ x hx⟩
    · rw [if_neg (fun q => k2 q.1)]
      simp [m1, hR, hok, isBs_bs, hpb, hb, k2, bat0, Bat.cells, Bat.sv, RL_nil]
end Go.Proofs.Ytkiimlmlfhmkiaa
