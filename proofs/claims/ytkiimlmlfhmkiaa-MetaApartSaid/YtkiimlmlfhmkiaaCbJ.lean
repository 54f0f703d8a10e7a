import Derived.Test.YtkiimlmlfhmkiaaCbI

set_option linter.unusedSimpArgs false
set_option linter.unusedVariables false
set_option maxHeartbeats 4000000
namespace Go.Proofs.Ytkiimlmlfhmkiaa
open Go.Av

def caps102 (b : Bat) (off : Int) : List SV := [.eptr (.agg [fn82 off]) 0, .eptr b.sv 0]
theorem ok102 : okFn Try.prog 102 := ⟨_, Try.func102, rfl, rfl⟩
theorem where_pure (b : Bat) (off : Int) (hl : b.rs.length < 4611686018427387904) : Pure Try.prog 81 [b.sv, fn82 off] (.sv (.int .i64 (idxP (fun r => atW b r == off) b.rs 0))) := by
  let R : Orc := { p := fun f l => match f, l with
    | 101, [.sl 6 xs, .fn 102 [] [.eptr (.agg [.fn 82 [] [.eptr (.agg [.int .i64 o]) 0]]) 0, .eptr (.agg [.int .i64 a, .int .i64 bb, .int .i64 c, .int .i64 d, .int .i64 e, .sl 6 ys]) 0]] => some (xs = RL (unRL xs) ∧ ys = RL (unRL ys) ∧ xs.length < 4611686018427387904, .sv (.int .i64 (idxP (fun r => atW ⟨a, bb, c, d, e, unRL ys⟩ r == o) (unRL xs) 0)))
    | _, _ => none }
  have hR : R.ok Try.prog := by
    refine ⟨fun f l c rv h hc => ?_, fun _ _ _ _ _ _ h => (by cases h), fun _ _ _ _ h => (by cases h), fun _ h => (by cases h), fun _ _ _ _ _ _ h => (by cases h), fun _ _ _ _ _ _ _ h => (by cases h)⟩
    simp only [R] at h
    split at h <;> cases h
    rename_i xs o a bb cc d e ys
    obtain ⟨h1, h2, h3⟩ := hc
    have := idx_pure 102 (caps102 ⟨a, bb, cc, d, e, unRL ys⟩ o) (fun r => atW ⟨a, bb, cc, d, e, unRL ys⟩ r == o) ok102 (fun r => f102_pure ⟨a, bb, cc, d, e, unRL ys⟩ o r) (unRL xs) (by rw [h1] at h3; simpa using h3)
    simp only [caps102, Bat.sv, Bat.cells, fn82] at this
    rw [← h1, ← h2] at this
    exact this
  have hq : R.p 101 [.sl 6 (RL b.rs), .fn 102 [] [.eptr (.agg [.fn 82 [] [.eptr (.agg [.int .i64 off]) 0]]) 0, .eptr (.agg [.int .i64 b.ba, .int .i64 b.ct, .int .i64 b.pr, .int .i64 b.ep, .int .i64 b.sq, .sl 6 (RL b.rs)]) 0]] = some (RL b.rs = RL b.rs ∧ RL b.rs = RL b.rs ∧ (RL b.rs).length < 4611686018427387904, .sv (.int .i64 (idxP (fun r => atW b r == off) b.rs 0))) := by
    show some (RL b.rs = RL (unRL (RL b.rs)) ∧ RL b.rs = RL (unRL (RL b.rs)) ∧ (RL b.rs).length < 4611686018427387904, LV.sv (.int .i64 (idxP (fun r => atW ⟨b.ba, b.ct, b.pr, b.ep, b.sq, unRL (RL b.rs)⟩ r == off) (unRL (RL b.rs)) 0))) = _
    rw [unRL_RL]
  have hnf : R.nofz = false := rfl
  generalize R = R' at hR hq hnf
  refine pure_go hR Try.func81 Try.ntmps81 comp81 cres81 (by decide) (by simp) ?_
  simp [ac81, ar81, fn82, Bat.sv, Bat.cells, hq, hnf, hl]
def R81 : Orc := {
  p := fun f l => match f, l with
  | 81, [.agg [.int .i64 a, .int .i64 bb, .int .i64 c, .int .i64 d, .int .i64 e, .sl 6 ys], .fn 82 [] [.eptr (.agg [.int .i64 o]) 0]] => some (ys = RL (unRL ys) ∧ ys.length < 4611686018427387904, .sv (.int .i64 (idxP (fun r => atW ⟨a, bb, c, d, e, unRL ys⟩ r == o) (unRL ys) 0)))
  | _, _ => none }
theorem R81_ok : R81.ok Try.prog := by
  refine ⟨fun f l c rv h hc => ?_, fun _ _ _ _ _ _ h => (by cases h), fun _ _ _ _ h => (by cases h), fun _ h => (by cases h), fun _ _ _ _ _ _ h => (by cases h), fun _ _ _ _ _ _ _ h => (by cases h)⟩
  simp only [R81] at h
  split at h <;> cases h
  rename_i a bb cc d e ys o
  obtain ⟨h1, h2⟩ := hc
  have := where_pure ⟨a, bb, cc, d, e, unRL ys⟩ o (by rw [h1] at h2; simpa using h2)
  simp only [Bat.sv, Bat.cells, fn82] at this
  rw [← h1] at this
  exact this
theorem R81_81 (b : Bat) (off : Int) : R81.p 81 [.agg [.int .i64 b.ba, .int .i64 b.ct, .int .i64 b.pr, .int .i64 b.ep, .int .i64 b.sq, .sl 6 (RL b.rs)], .fn 82 [] [.eptr (.agg [.int .i64 off]) 0]] = some (RL b.rs = RL b.rs ∧ (RL b.rs).length < 4611686018427387904, .sv (.int .i64 (idxP (fun r => atW b r == off) b.rs 0))) := by
  show some (RL b.rs = RL (unRL (RL b.rs)) ∧ (RL b.rs).length < 4611686018427387904, LV.sv (.int .i64 (idxP (fun r => atW ⟨b.ba, b.ct, b.pr, b.ep, b.sq, unRL (RL b.rs)⟩ r == off) (unRL (RL b.rs)) 0))) = _
  rw [unRL_RL]
theorem R81_nofz : R81.nofz = false := rfl

theorem idxP_spec (p : Rec → Bool) : ∀ (l : List Rec) (i : Nat), idxP p l i = -1 ∧ (∀ r ∈ l, p r = false) ∨ ∃ k, k < l.length ∧ idxP p l i = ((i + k : Nat) : Int) ∧ p (l.getD k rec0) = true ∧ ∀ j, j < k → p (l.getD j rec0) = false
  | [], i => .inl ⟨rfl, fun r h => by cases h⟩
  | r :: l, i => by
    cases hq : p r with
    | true => exact .inr ⟨0, by simp, by simp [idxP, hq], by simpa using hq, fun j hj => absurd hj (Nat.not_lt_zero _)⟩
    | false =>
      rcases idxP_spec p l (i + 1) with ⟨h1, h2⟩ | ⟨k, h1, h2, h3, h4⟩
      · exact .inl ⟨by simp [idxP, hq, h1], fun x hx => by rcases List.mem_cons.1 hx with rfl | hx; exact hq; exact h2 x hx⟩
      · refine .inr ⟨k + 1, by simpa using h1, by simp [idxP, hq, h2]; omega, by simpa using h3, fun j hj => ?_⟩
        cases j with
        | zero => simpa using hq
        | succ j => simpa using h4 j (by omega)
/-- The record of an offset, and whether there is one. -/
def atR (b : Bat) (off : Int) : Rec × Bool := if idxP (fun r => atW b r == off) b.rs 0 < 0 then (rec0, false) else (b.rs.getD (idxP (fun r => atW b r == off) b.rs 0).toNat rec0, true)
theorem at_pure (b : Bat) (off : Int) (hl : b.rs.length < 4611686018427387904) : Pure Try.prog 39 [b.sv, .int .i64 off] (.tup [.sv (atR b off).1.sv, .sv (.bool (atR b off).2)]) := by
  refine pure_go R81_ok Try.func39 Try.ntmps39 comp39 cres39 (by decide) (by simp) ?_
  unfold atR
  rcases idxP_spec (fun r => atW b r == off) b.rs 0 with ⟨h1, _⟩ | ⟨k, hk, h1, _, _⟩
  · rw [h1]
    simp [ac39, ar39, Bat.sv, Bat.cells, R81_81, R81_nofz, hl, h1, rec0, Rec.sv, Rec.cells]
  · rw [h1]
    have h2 : ¬ ((0 + k : Nat) : Int) < 0 := by omega
    rw [if_neg h2]
    have hg := RL_get b.rs hk
    have hiA : k < (RL b.rs).length := by simpa using hk
    have hg2 : (RL b.rs)[k] = (b.rs.getD k rec0).sv := by rw [← hg, List.getElem?_eq_getElem hiA]; rfl
    have hk1 : (k : Int) < b.rs.length := by omega
    simp only [Nat.zero_add, Int.toNat_natCast] at h1 h2 ⊢
    generalize b.rs.getD k rec0 = r at hg hg2 ⊢
    simp [ac39, ar39, Bat.sv, Bat.cells, R81_81, R81_nofz, hl, h1, hk, hk1, hg, hg2, Rec.sv, Rec.cells, rec0]
theorem rat_pure (b : Bat) (off : Int) (hl : b.rs.length < 4611686018427387904) : Pure Try.prog 40 [b.sv, .int .i64 off] (.tup [.sv (atR b off).1.sv, .sv (.bool (atR b off).2)]) := by
  refine pure_go R0_ok Try.func40 Try.ntmps40 comp40 cres40 (by decide) (by simp) ?_
  simp [ac40, ar40, Bat.sv, Bat.cells]
  refine awpR_loop (α := Nat) (fun i => i ≤ b.rs.length ∧ idxP (fun r => atW b r == off) b.rs 0 = idxP (fun r => atW b r == off) (b.rs.drop i) i) (fun i => { n := 31, sl := [(1, .sv (.int .i64 off)), (2, .lptr 2 0), (4, .lptr 4 0), (6, .sv (.int .i64 i))], bx := [(2, b.cells.map .sv), (4, rec0.cells.map .sv)], hp := fun _ => none })
    (fun i => b.rs.length - i) 0 ⟨by omega, rfl⟩ (by simp [Bat.cells, rec0, Rec.cells]) ?_
  rintro i ⟨hi, he⟩
  by_cases h : i < b.rs.length
  · have h1 : (i : Int) < b.rs.length := by omega
    have hw : IntKind.i64.wrap ((i : Int) + 1) = ((i + 1 : Nat) : Int) := by rw [IntKind.wrap_i64]; omega
    have hg := RL_get b.rs h
    have hiA : i < (RL b.rs).length := by simpa using h
    have hg2 : (RL b.rs)[i] = (b.rs.getD i rec0).sv := by rw [← hg, List.getElem?_eq_getElem hiA]; rfl
    rw [idxP_drop _ _ _ h] at he
    have hra : atR b off = if (atW b (b.rs.getD i rec0) == off) = true then (b.rs.getD i rec0, true) else atR b off := by
      by_cases q : (atW b (b.rs.getD i rec0) == off) = true
      · rw [if_pos q]
        rw [if_pos q] at he
        unfold atR
        rw [he, if_neg (by omega), Int.toNat_natCast]
      · rw [if_neg q]
    generalize b.rs.getD i rec0 = r at hg hg2 he hra
    by_cases q : IntKind.i64.wrap (b.ba + r.dl) = off
    · have q2 : (atW b r == off) = true := by simpa [atW] using q
      rw [if_pos q2] at hra
      rw [hra]
      simp [Bat.cells, h1, hg, hg2, h, Rec.sv, Rec.cells, hw, q, rec0]
    · have q2 : ¬ (atW b r == off) = true := by simpa [atW] using q
      rw [if_neg q2] at he
      simp [Bat.cells, h1, hg, hg2, h, Rec.sv, Rec.cells, hw, q, rec0, WkRs_refl]
      exact ⟨i + 1, ⟨by omega, he⟩, by omega, by omega⟩
  · have h1 : ¬ (i : Int) < b.rs.length := by omega
    obtain rfl : i = b.rs.length := by omega
    rw [List.drop_length] at he
    have hra : atR b off = (rec0, false) := by unfold atR; rw [he]; rfl
    rw [hra]
    simp [h1, Bat.cells, rec0, Rec.sv, Rec.cells]

/-! ### the records from an offset on -/
def fromR (b : Bat) (off : Int) : List Rec := b.rs.filter fun r => decide (off ≤ atW b r)
theorem rfrom_pure (b : Bat) (off : Int) (hl : b.rs.length ≤ 1000) : Pure Try.prog 48 [b.sv, .int .i64 off] (.own 6 (RL (fromR b off))) := by
  refine pure_go R0_ok Try.func48 Try.ntmps48 comp48 cres48 (by decide) (by simp) ?_
  simp [ac48, ar48, Bat.sv, Bat.cells]
  refine awpR_loop (α := Nat) (fun i => i ≤ b.rs.length) (fun i => { n := 34, sl := [(1, .sv (.int .i64 off)), (2, .lptr 2 0), (5, .own 6 (RL ((b.rs.take i).filter fun r => decide (off ≤ atW b r)))), (6, .sv (.int .i64 i))], bx := [(2, b.cells.map .sv)], hp := fun _ => none })
    (fun i => b.rs.length - i) 0 (by omega) (by simp [Bat.cells, RL]) ?_
  intro i hi
  have htl : ((b.rs.take i).filter fun r => decide (off ≤ atW b r)).length ≤ 1000 := by
    refine Nat.le_trans (List.length_filter_le _ _) ?_
    simp; omega
  by_cases h : i < b.rs.length
  · have h1 : (i : Int) < b.rs.length := by omega
    have hw : IntKind.i64.wrap ((i : Int) + 1) = ((i + 1 : Nat) : Int) := by rw [IntKind.wrap_i64]; omega
    have hg := RL_get b.rs h
    have hiA : i < (RL b.rs).length := by simpa using h
    have hg2 : (RL b.rs)[i] = (b.rs.getD i rec0).sv := by rw [← hg, List.getElem?_eq_getElem hiA]; rfl
    have hsn : (b.rs.take (i + 1)).filter (fun r => decide (off ≤ atW b r)) = (b.rs.take i).filter (fun r => decide (off ≤ atW b r)) ++ (if off ≤ atW b (b.rs.getD i rec0) then [b.rs.getD i rec0] else []) := by
      rw [List.take_succ_eq_append_getElem h, List.filter_append]
      congr 1
      simp only [List.getD_eq_getElem?_getD, List.getElem?_eq_getElem h, Option.getD_some, List.filter_cons, List.filter_nil]
      split <;> simp_all
    generalize b.rs.getD i rec0 = r at hg hg2 hsn
    generalize hF : (b.rs.take i).filter (fun r => decide (off ≤ atW b r)) = F at htl hsn
    by_cases q : off ≤ atW b r
    · have q' : off ≤ IntKind.i64.wrap (b.ba + r.dl) := q
      rw [if_pos q] at hsn
      simp [Bat.cells, h1, hg, hg2, h, Rec.sv, Rec.cells, hw, q', WkRs_refl]
      refine ⟨by omega, i + 1, by omega, by omega, ?_⟩
      rw [hsn]
      exact ⟨by simp [RL, Rec.sv, Rec.cells], by omega⟩
    · have q' : ¬ off ≤ IntKind.i64.wrap (b.ba + r.dl) := q
      rw [if_neg q, List.append_nil] at hsn
      simp [Bat.cells, h1, hg, hg2, h, Rec.sv, Rec.cells, hw, q', WkRs_refl]
      refine ⟨i + 1, by omega, by omega, ?_⟩
      rw [hsn]
      exact ⟨rfl, by omega⟩
  · have h1 : ¬ (i : Int) < b.rs.length := by omega
    obtain rfl : i = b.rs.length := by omega
    simp [h1, Bat.cells, fromR]
end Go.Proofs.Ytkiimlmlfhmkiaa
