import Derived.Test.YtkiimlmlfhmkiaaCbJ

set_option linter.unusedSimpArgs false
set_option linter.unusedVariables false
set_option maxHeartbeats 4000000
namespace Go.Proofs.Ytkiimlmlfhmkiaa
open Go.Av

def batS (a b : Bat) : Bool := (a.ba == b.ba) && ((a.ct == b.ct) && ((a.pr == b.pr) && ((a.ep == b.ep) && ((a.sq == b.sq) && recsS a.rs b.rs))))
theorem batS_iff (a b : Bat) : batS a b = true ↔ a = b := by
  obtain ⟨a1, a2, a3, a4, a5, a6⟩ := a
  obtain ⟨b1, b2, b3, b4, b5, b6⟩ := b
  simp [batS, recsS_iff]
def RZ : Orc := { p := fun f l => match f, l with
  | 75, [.agg [.int .i64 a, .int .i64 b, .int .i64 c, .int .i64 d, .int .i64 e, .sl 6 xs]] => some (xs = RL (unRL xs), .sv (.agg [.int .i64 a, .int .i64 b, .int .i64 c, .int .i64 d, .int .i64 e, .int .i64 xs.length]))
  | 76, [.sl 6 xs, .sl 6 ys] => some (xs = RL (unRL xs) ∧ ys = RL (unRL ys) ∧ xs.length < 4611686018427387904, .sv (.bool (recsS (unRL xs) (unRL ys))))
  | 46, [.sl 6 xs, .sl 6 ys] => some (xs = RL (unRL xs) ∧ ys = RL (unRL ys) ∧ xs.length < 4611686018427387904, .sv (.bool (recsS (unRL xs) (unRL ys))))
  | 70, [.agg [.int .i64 dl, .int .i64 tm, .bool kd, .str key, .bool dd, .str val]] => some (True, .sv (.bool (decide ((key.size : Int) ≤ 200) && decide ((val.size : Int) ≤ 700))))
  | _, _ => none }
theorem RZ_ok : RZ.ok Try.prog := by
  refine ⟨fun f l c rv h hc => ?_, fun _ _ _ _ _ _ h => (by cases h), fun _ _ _ _ h => (by cases h), fun _ h => (by cases h), fun _ _ _ _ _ _ h => (by cases h), fun _ _ _ _ _ _ _ h => (by cases h)⟩
  simp only [RZ] at h
  split at h <;> cases h
  · rename_i a b c d e xs
    exact RB_ok.p 75 _ _ _ rfl hc
  · rename_i xs ys
    obtain ⟨h1, h2, h3⟩ := hc
    have := eqR_pure (unRL xs) (unRL ys) (by rw [h1] at h3; simpa using h3)
    rwa [← h1, ← h2] at this
  · rename_i xs ys
    obtain ⟨h1, h2, h3⟩ := hc
    have := sameAll_pure (unRL xs) (unRL ys) (by rw [h1] at h3; simpa using h3)
    rwa [← h1, ← h2] at this
  · exact light_pure ⟨_, _, _, _, _, _⟩
theorem RZ_75 (b : Bat) : RZ.p 75 [.agg [.int .i64 b.ba, .int .i64 b.ct, .int .i64 b.pr, .int .i64 b.ep, .int .i64 b.sq, .sl 6 (RL b.rs)]] = some (RL b.rs = RL b.rs, .sv (.agg [.int .i64 b.ba, .int .i64 b.ct, .int .i64 b.pr, .int .i64 b.ep, .int .i64 b.sq, .int .i64 b.rs.length])) := by
  show some (RL b.rs = RL (unRL (RL b.rs)), LV.sv (.agg [.int .i64 b.ba, .int .i64 b.ct, .int .i64 b.pr, .int .i64 b.ep, .int .i64 b.sq, .int .i64 (RL b.rs).length])) = _
  rw [unRL_RL, RL_length]
theorem RZ_76 (a b : List Rec) : RZ.p 76 [.sl 6 (RL a), .sl 6 (RL b)] = some (RL a = RL a ∧ RL b = RL b ∧ (RL a).length < 4611686018427387904, .sv (.bool (recsS a b))) := by
  show some (RL a = RL (unRL (RL a)) ∧ RL b = RL (unRL (RL b)) ∧ (RL a).length < 4611686018427387904, LV.sv (.bool (recsS (unRL (RL a)) (unRL (RL b))))) = _
  rw [unRL_RL, unRL_RL]
theorem RZ_46 (a b : List Rec) : RZ.p 46 [.sl 6 (RL a), .sl 6 (RL b)] = some (RL a = RL a ∧ RL b = RL b ∧ (RL a).length < 4611686018427387904, .sv (.bool (recsS a b))) := by
  show some (RL a = RL (unRL (RL a)) ∧ RL b = RL (unRL (RL b)) ∧ (RL a).length < 4611686018427387904, LV.sv (.bool (recsS (unRL (RL a)) (unRL (RL b))))) = _
  rw [unRL_RL, unRL_RL]
theorem RZ_70 (r : Rec) : RZ.p 70 [.agg [.int .i64 r.dl, .int .i64 r.tm, .bool r.kd, .str r.key, .bool r.dd, .str r.val]] = some (True, .sv (.bool (decide ((r.key.size : Int) ≤ 200) && decide ((r.val.size : Int) ≤ 700)))) := rfl

theorem same_pure (a b : Bat) (hl : a.rs.length < 4611686018427387904) : Pure Try.prog 34 [a.sv, b.sv] (.sv (.bool (batS a b))) := by
  refine pure_go RZ_ok Try.func34 Try.ntmps34 comp34 cres34 (by decide) (by simp [Bat.sv, Bat.cells]) ?_
  have hh : ((a.ba == b.ba) && ((a.ct == b.ct) && ((a.pr == b.pr) && ((a.ep == b.ep) && ((a.sq == b.sq) && ((a.rs.length : Int) == b.rs.length)))))) = true ∨ ((a.ba == b.ba) && ((a.ct == b.ct) && ((a.pr == b.pr) && ((a.ep == b.ep) && ((a.sq == b.sq) && ((a.rs.length : Int) == b.rs.length)))))) = false := by
    cases ((a.ba == b.ba) && ((a.ct == b.ct) && ((a.pr == b.pr) && ((a.ep == b.ep) && ((a.sq == b.sq) && ((a.rs.length : Int) == b.rs.length)))))) <;> simp
  have e1 := RZ_75 a
  have e2 := RZ_75 b
  have e3 := RZ_76 a.rs b.rs
  rcases hh with hh | hh
  · have hbs : batS a b = recsS a.rs b.rs := by
      simp only [Bool.and_eq_true] at hh
      simp only [batS, hh.1, hh.2.1, hh.2.2.1, hh.2.2.2.1, hh.2.2.2.2.1, Bool.true_and]
    rw [hbs]
    simp [ac34, ar34, Bat.sv, Bat.cells, e1, e2, e3, hh, hl]
  · have hbs : batS a b = false := by
      cases q : batS a b with
      | false => rfl
      | true =>
        have := (batS_iff a b).1 q
        subst this
        simp at hh
    rw [hbs]
    simp [ac34, ar34, Bat.sv, Bat.cells, e1, e2, e3, hh, hl]
theorem rsame_bat (a b : Bat) (hl : a.rs.length < 4611686018427387904) : Pure Try.prog 35 [a.sv, b.sv] (.sv (.bool (batS a b))) := by
  refine pure_go RZ_ok Try.func35 Try.ntmps35 comp35 cres35 (by decide) (by simp [Bat.sv, Bat.cells]) ?_
  have hh : (a.ba == b.ba && a.ct == b.ct && a.pr == b.pr && a.ep == b.ep && a.sq == b.sq) = true ∨ (a.ba == b.ba && a.ct == b.ct && a.pr == b.pr && a.ep == b.ep && a.sq == b.sq) = false := by cases (a.ba == b.ba && a.ct == b.ct && a.pr == b.pr && a.ep == b.ep && a.sq == b.sq) <;> simp
  have e3 := RZ_46 a.rs b.rs
  rcases hh with hh | hh
  · have hbs : batS a b = recsS a.rs b.rs := by
      simp only [Bool.and_eq_true] at hh
      simp only [batS, hh.1.1.1.1, hh.1.1.1.2, hh.1.1.2, hh.1.2, hh.2, Bool.true_and]
    rw [hbs]
    simp [ac35, ar35, Bat.sv, Bat.cells, e3, hh, hl]
  · have hbs : batS a b = false := by
      cases q : batS a b with
      | false => rfl
      | true =>
        have := (batS_iff a b).1 q
        subst this
        simp at hh
    rw [hbs]
    simp [ac35, ar35, Bat.sv, Bat.cells, e3, hh, hl]

def lightR (r : Rec) : Bool := decide ((r.key.size : Int) ≤ 200) && decide ((r.val.size : Int) ≤ 700)
def lightB (b : Bat) : Bool := decide (b.rs.length ≤ 40) && b.rs.all lightR
theorem all_drop (p : Rec → Bool) (l : List Rec) (i : Nat) (h : i < l.length) : (l.drop i).all p = (p (l.getD i rec0) && (l.drop (i + 1)).all p) := by
  rw [List.drop_eq_getElem_cons h]
  simp only [List.all_cons, List.getD_eq_getElem?_getD, List.getElem?_eq_getElem h, Option.getD_some]
theorem light_bat (b : Bat) : Pure Try.prog 29 [b.sv] (.sv (.bool (lightB b))) := by
  refine pure_go RZ_ok Try.func29 Try.ntmps29 comp29 cres29 (by decide) (by simp) ?_
  unfold lightB
  by_cases h0 : b.rs.length ≤ 40
  case neg =>
    have h0' : (40 : Int) < b.rs.length := by omega
    simp [ac29, ar29, Bat.sv, Bat.cells, h0, h0']
  have h0' : ¬ (40 : Int) < b.rs.length := by omega
  simp [ac29, ar29, Bat.sv, Bat.cells, h0, h0']
  refine awpR_loop (α := Nat) (fun i => i ≤ b.rs.length ∧ b.rs.all lightR = (b.rs.drop i).all lightR) (fun i => { n := 22, sl := [(1, .lptr 1 0), (3, .sv (.int .i64 i))], bx := [(1, b.cells.map .sv)], hp := fun _ => none })
    (fun i => b.rs.length - i) 0 ⟨by omega, rfl⟩ (by simp [Bat.cells]) ?_
  rintro i ⟨hi, he⟩
  by_cases h : i < b.rs.length
  · have h1 : (i : Int) < b.rs.length := by omega
    have hw : IntKind.i64.wrap ((i : Int) + 1) = ((i + 1 : Nat) : Int) := by rw [IntKind.wrap_i64]; omega
    have hg := RL_get b.rs h
    have hiA : i < (RL b.rs).length := by simpa using h
    have hg2 : (RL b.rs)[i] = (b.rs.getD i rec0).sv := by rw [← hg, List.getElem?_eq_getElem hiA]; rfl
    rw [all_drop _ _ _ h] at he
    have hr := RZ_70 (b.rs.getD i rec0)
    generalize b.rs.getD i rec0 = r at hg hg2 he hr
    cases hq : lightR r with
    | true =>
      rw [hq, Bool.true_and] at he
      unfold lightR at hq
      rw [hq] at hr
      simp [Bat.cells, h1, hg, hg2, h, Rec.sv, Rec.cells, hw, hr, WkRs_refl]
      exact ⟨i + 1, ⟨by omega, he⟩, by omega, by omega⟩
    | false =>
      rw [hq, Bool.false_and] at he
      unfold lightR at hq
      rw [hq] at hr
      simp [Bat.cells, h1, hg, hg2, h, Rec.sv, Rec.cells, hw, hr, he]
  · have h1 : ¬ (i : Int) < b.rs.length := by omega
    obtain rfl : i = b.rs.length := by omega
    rw [List.drop_length] at he
    simp [h1, he, Bat.cells]

/-! ### From -/
theorem f85_pure (b : Bat) (off : Int) (r : Rec) : Pure Try.prog 85 [r.sv, .eptr b.sv 0, .eptr (.agg [.int .i64 off]) 0] (.sv (.bool (decide (atW b r < off)))) := by
  refine pure_go R0_ok Try.func85 Try.ntmps85 comp85 cres85 (by decide) (by simp [Rec.sv, Rec.cells, Bat.sv, Bat.cells]) ?_
  simp [ac85, ar85, Rec.sv, Rec.cells, Bat.sv, Bat.cells, atW]
  exact decide_eq_decide.2 Iff.rfl
theorem RL_flat (l : List Rec) : (RL l).all SV.flat = true := by
  simp [RL, Rec.sv, Rec.cells, SV.flat, Function.comp_def]
theorem clone_recs (l : List Rec) (hl : l.length ≤ 1000) : Pure Try.prog 84 [.sl 6 (RL l)] (.own 6 (RL l)) := by
  refine pure_go R0_ok Try.func84 Try.ntmps84 comp84 cres84 (by decide) (by simp) ?_
  cases l with
  | nil => simp [ac84, ar84, RL_nil]
  | cons x xs =>
    have h : RL (x :: xs) = x.sv :: RL xs := rfl
    simp at hl
    simp [ac84, ar84, h]
    omega
end Go.Proofs.Ytkiimlmlfhmkiaa
