import Derived.Test.YtkiimlmlfhmkiaaCbA
import Derived.Test.YtkiimlmlfhmkiaaMCrD
import Derived.Test.YtkiimlmlfhmkiaaMCgB

set_option linter.unusedVariables false
set_option linter.unusedSimpArgs false

set_option linter.unusedSimpArgs false
set_option linter.unusedVariables false
set_option maxHeartbeats 2000000
namespace Go.Proofs.Ytkiimlmlfhmkiaa
open Go.Av

/-- A batch: base, count, producer, epoch, sequence, records. -/
structure Bat where
  ba : Int
  ct : Int
  pr : Int
  ep : Int
  sq : Int
  rs : List Rec
def RL (l : List Rec) : List SV := l.map Rec.sv
@[simp] theorem RL_length (l : List Rec) : (RL l).length = l.length := by simp [RL]
theorem RL_get (l : List Rec) {i : Nat} (h : i < l.length) : (RL l)[i]?.getD .undef = (l.getD i rec0).sv := by simp [RL, List.getD_eq_getElem?_getD, h]
theorem RL_app (l m : List Rec) : RL l ++ RL m = RL (l ++ m) := by simp [RL]
theorem RL_take_succ (l : List Rec) {i : Nat} (h : i < l.length) : RL (l.take (i + 1)) = RL (l.take i) ++ [(l.getD i rec0).sv] := by
  rw [List.take_succ_eq_append_getElem h]
  simp only [RL, List.map_append, List.map_cons, List.map_nil, List.getD_eq_getElem?_getD, List.getElem?_eq_getElem h, Option.getD_some]
def unR : SV → Rec
  | .agg [.int _ a, .int _ b, .bool c, .str d, .bool e, .str f] => ⟨a, b, c, d, e, f⟩
  | _ => rec0
def unRL (xs : List SV) : List Rec := xs.map unR
@[simp] theorem unRL_RL (l : List Rec) : unRL (RL l) = l := by
  simp only [unRL, RL, List.map_map]
  conv => rhs; rw [← List.map_id l]
  rfl
def Bat.cells (b : Bat) : List SV := [.int .i64 b.ba, .int .i64 b.ct, .int .i64 b.pr, .int .i64 b.ep, .int .i64 b.sq, .sl 6 (RL b.rs)]
def Bat.sv (b : Bat) : SV := .agg b.cells
def Bat.ok (b : Bat) : Prop := I64 b.ba ∧ I64 b.ct ∧ I64 b.pr ∧ I64 b.ep ∧ I64 b.sq

def inW (n m : Int) : Bool := decide (0 ≤ n) && decide (n ≤ m)
theorem within_pure (n m : Int) : Pure Try.prog 100 [.int .i64 n, .int .i64 m] (.sv (.bool (inW n m))) := by
  refine pure_go R0_ok Try.func100 Try.ntmps100 comp100 cres100 (by decide) (by simp) ?_
  simp [ac100, ar100, R0, inW]
theorem head_pure (b : Bat) : Pure Try.prog 75 [b.sv] (.sv (.agg [.int .i64 b.ba, .int .i64 b.ct, .int .i64 b.pr, .int .i64 b.ep, .int .i64 b.sq, .int .i64 b.rs.length])) := by
  refine pure_go R0_ok Try.func75 Try.ntmps75 comp75 cres75 (by decide) (by simp) ?_
  simp [ac75, ar75, R0, Bat.sv, Bat.cells]

/-- What is wrong with a batch's numbers. -/
def batN (b : Bat) : Int :=
  if b.ct < 1 ∨ 32 < b.ct ∨ b.ba < 0 ∨ 4611686018427387903 - b.ct < b.ba then 11
  else if b.pr < 0 ∨ 1099511627776 < b.pr ∨ b.ep < 0 ∨ 32767 < b.ep ∨ b.sq < 0 ∨ 2147483647 < b.sq then 11
  else if b.pr = 0 ∧ (b.ep ≠ 0 ∨ b.sq ≠ 0) then 4
  else if b.ct < b.rs.length then 5 else 0
def RN : Orc := { p := fun f l => match f, l with
  | 100, [.int .i64 n, .int .i64 m] => some (True, .sv (.bool (inW n m)))
  | _, _ => none }
theorem RN_ok : RN.ok Try.prog := by
  refine ⟨fun f l c rv h hc => ?_, fun _ _ _ _ _ _ h => (by cases h), fun _ _ _ _ h => (by cases h), fun _ h => (by cases h), fun _ _ _ _ _ _ h => (by cases h), fun _ _ _ _ _ _ _ h => (by cases h)⟩
  simp only [RN] at h
  split at h <;> cases h
  exact within_pure _ _
theorem RN_100 (n m : Int) : RN.p 100 [.int .i64 n, .int .i64 m] = some (True, .sv (.bool (inW n m))) := rfl
theorem numbers_pure (b : Bat) (hI : I64 b.ct) : Pure Try.prog 73 [b.sv] (.sv (.int .i64 (batN b))) := by
  refine pure_go RN_ok Try.func73 Try.ntmps73 comp73 cres73 (by decide) (by simp) ?_
  obtain ⟨ba, ct, pr, ep, sq, rs⟩ := b
  simp only at hI
  have z1 : inW 0 1099511627776 = true := by decide
  have z2 : inW 0 32767 = true := by decide
  have z3 : inW 0 2147483647 = true := by decide
  unfold batN
  simp only
  by_cases h1 : ct < 1
  · simp [ac73, ar73, Bat.sv, Bat.cells, RN_100, h1]
  by_cases h2 : 32 < ct
  · simp [ac73, ar73, Bat.sv, Bat.cells, RN_100, h1, h2]
  have hw : IntKind.i64.wrap (4611686018427387903 - ct) = 4611686018427387903 - ct := by rw [IntKind.wrap_i64]; omega
  by_cases h3 : ba < 0 ∨ 4611686018427387903 - ct < ba
  · have e : inW ba (4611686018427387903 - ct) = false := by
      simp only [inW, Bool.and_eq_false_iff, decide_eq_false_iff_not]; omega
    rw [if_pos (by omega)]
    simp [ac73, ar73, Bat.sv, Bat.cells, RN_100, h1, h2, hw, e]
  have e1 : inW ba (4611686018427387903 - ct) = true := by
    simp only [inW, Bool.and_eq_true, decide_eq_true_eq]; omega
  rw [if_neg (by omega)]
  by_cases h4 : pr < 0 ∨ 1099511627776 < pr
  · have e : inW pr 1099511627776 = false := by
      simp only [inW, Bool.and_eq_false_iff, decide_eq_false_iff_not]; omega
    rw [if_pos (by omega)]
    simp [ac73, ar73, Bat.sv, Bat.cells, RN_100, h1, h2, hw, e1, e]
  have e2 : inW pr 1099511627776 = true := by
    simp only [inW, Bool.and_eq_true, decide_eq_true_eq]; omega
  by_cases h5 : ep < 0 ∨ 32767 < ep
  · have e : inW ep 32767 = false := by
      simp only [inW, Bool.and_eq_false_iff, decide_eq_false_iff_not]; omega
    rw [if_pos (by omega)]
    simp [ac73, ar73, Bat.sv, Bat.cells, RN_100, h1, h2, hw, e1, e2, e]
  have e3 : inW ep 32767 = true := by
    simp only [inW, Bool.and_eq_true, decide_eq_true_eq]; omega
  by_cases h6 : sq < 0 ∨ 2147483647 < sq
  · have e : inW sq 2147483647 = false := by
      simp only [inW, Bool.and_eq_false_iff, decide_eq_false_iff_not]; omega
    rw [if_pos (by omega)]
    simp [ac73, ar73, Bat.sv, Bat.cells, RN_100, h1, h2, hw, e1, e2, e3, e]
  have e4 : inW sq 2147483647 = true := by
    simp only [inW, Bool.and_eq_true, decide_eq_true_eq]; omega
  rw [if_neg (by omega)]
  by_cases h7 : pr = 0 ∧ (ep ≠ 0 ∨ sq ≠ 0)
  · rw [if_pos h7]
    obtain ⟨rfl, h8⟩ := h7
    by_cases h9 : ep = 0
    · have h10 : sq ≠ 0 := by rcases h8 with q | q; exact absurd h9 q; exact q
      simp [ac73, ar73, Bat.sv, Bat.cells, RN_100, z1, z2, z3, h1, h2, hw, e1, e2, e3, e4, h9, h10]
    · simp [ac73, ar73, Bat.sv, Bat.cells, RN_100, z1, z2, z3, h1, h2, hw, e1, e2, e3, e4, h9]
  rw [if_neg h7]
  by_cases h8 : pr = 0
  · have h9 : ep = 0 := Classical.byContradiction fun q => h7 ⟨h8, .inl q⟩
    have h10 : sq = 0 := Classical.byContradiction fun q => h7 ⟨h8, .inr q⟩
    by_cases h11 : ct < rs.length
    · simp [ac73, ar73, Bat.sv, Bat.cells, RN_100, z1, z2, z3, h1, h2, hw, e1, e2, e3, e4, h8, h9, h10, h11]
    · simp [ac73, ar73, Bat.sv, Bat.cells, RN_100, z1, z2, z3, h1, h2, hw, e1, e2, e3, e4, h8, h9, h10, h11]
  · by_cases h11 : ct < rs.length
    · simp [ac73, ar73, Bat.sv, Bat.cells, RN_100, z1, z2, z3, h1, h2, hw, e1, e2, e3, e4, h8, h11]
    · simp [ac73, ar73, Bat.sv, Bat.cells, RN_100, z1, z2, z3, h1, h2, hw, e1, e2, e3, e4, h8, h11]

/-! ### the bytes -/
def hdL (b : Bat) : List Int := [b.ba, b.ct, b.pr, b.ep, b.sq, b.rs.length]
def numsB (l : List Int) : List Nat := (l.map fun n => layN (zig n)).flatten
def recsB (l : List Rec) : List Nat := (l.map putR).flatten
def layB (b : Bat) : List Nat := numsB (hdL b) ++ recsB b.rs
theorem numsB_le : ∀ {l : List Int}, (∀ n ∈ l, I64 n) → (numsB l).length ≤ 10 * l.length
  | [], _ => by simp [numsB]
  | n :: l, h => by
    have h1 := layN_le10 (zig_lt (h n (by simp)).1 (h n (by simp)).2)
    have h2 := numsB_le (l := l) (fun m hm => h m (by simp [hm]))
    simp only [numsB, List.map_cons, List.flatten_cons, List.length_append, List.length_cons] at h2 ⊢
    omega
theorem recP_len {r : Rec} (h : recE r = 0) : 1 ≤ (recP r).length ∧ (recP r).length ≤ 1000 := by
  obtain ⟨a1, a2, a3, a4, a5, a6⟩ := recE_small h
  have l1 := layN_le10 (zig_lt (n := r.dl) (by omega) (by omega))
  have l2 := layN_le10 (zig_lt (n := r.tm) (by omega) (by omega))
  have l3 := layN_le10 (u := zig r.key.size) (zig_lt (by omega) (by omega))
  have l4 := layN_le10 (u := zig r.val.size) (zig_lt (by omega) (by omega))
  have k1 := bytesNat_length r.key
  have k2 := bytesNat_length r.val
  simp only [recP, List.length_append, List.length_cons]
  split <;> split <;> simp <;> omega
theorem putR_len (r : Rec) : (putR r).length ≤ 1000 := by
  unfold putR
  split
  · rename_i h; exact (recP_len h).2
  · simp
theorem recsB_le : ∀ l : List Rec, (recsB l).length ≤ 1000 * l.length
  | [] => by simp [recsB]
  | r :: l => by
    have h1 := putR_len r
    have h2 := recsB_le l
    simp only [recsB, List.map_cons, List.flatten_cons, List.length_append, List.length_cons] at h2 ⊢
    omega
theorem recsB_snoc (l : List Rec) (r : Rec) : recsB (l ++ [r]) = recsB l ++ putR r := by simp [recsB]
theorem numsB_snoc (l : List Int) (n : Int) : numsB (l ++ [n]) = numsB l ++ layN (zig n) := by simp [numsB]

def RB : Orc := { p := fun f l => match f, l with
  | 50, [.int .i64 n] => some (I64 n, .own 1 (bs (layN (zig n))))
  | 55, [.int .i64 n] => some (I64 n, .own 1 (bs (layN (zig n))))
  | 75, [.agg [.int .i64 a, .int .i64 b, .int .i64 c, .int .i64 d, .int .i64 e, .sl 6 xs]] => some (xs = RL (unRL xs), .sv (.agg [.int .i64 a, .int .i64 b, .int .i64 c, .int .i64 d, .int .i64 e, .int .i64 xs.length]))
  | 98, [.agg [.int .i64 dl, .int .i64 tm, .bool kd, .str key, .bool dd, .str val]] => some (True, .tup [.own 1 (bs (putR ⟨dl, tm, kd, key, dd, val⟩)), .sv (.int .i64 (recE ⟨dl, tm, kd, key, dd, val⟩))])
  | 99, [.agg [.int .i64 dl, .int .i64 tm, .bool kd, .str key, .bool dd, .str val]] => some (True, .tup [.own 1 (bs (putR ⟨dl, tm, kd, key, dd, val⟩)), .sv (.int .i64 (recE ⟨dl, tm, kd, key, dd, val⟩))])
  | _, _ => none }
theorem RB_ok : RB.ok Try.prog := by
  refine ⟨fun f l c rv h hc => ?_, fun _ _ _ _ _ _ h => (by cases h), fun _ _ _ _ h => (by cases h), fun _ h => (by cases h), fun _ _ _ _ _ _ h => (by cases h), fun _ _ _ _ _ _ _ h => (by cases h)⟩
  simp only [RB] at h
  split at h <;> cases h
  · exact put_pure _ hc
  · exact rput_pure _ hc
  · rename_i a b c d e xs
    have := head_pure ⟨a, b, c, d, e, unRL xs⟩
    simp only [Bat.sv, Bat.cells] at this
    rw [← hc] at this
    have hl : (unRL xs).length = xs.length := by simp [unRL]
    rw [hl] at this
    exact this
  · exact put_rec ⟨_, _, _, _, _, _⟩
  · exact rput_rec ⟨_, _, _, _, _, _⟩
theorem RB_50 (n : Int) : RB.p 50 [.int .i64 n] = some (I64 n, .own 1 (bs (layN (zig n)))) := rfl
theorem RB_55 (n : Int) : RB.p 55 [.int .i64 n] = some (I64 n, .own 1 (bs (layN (zig n)))) := rfl
theorem RB_75 (a b c d e : Int) (l : List Rec) : RB.p 75 [.agg [.int .i64 a, .int .i64 b, .int .i64 c, .int .i64 d, .int .i64 e, .sl 6 (RL l)]] = some (RL l = RL l, .sv (.agg [.int .i64 a, .int .i64 b, .int .i64 c, .int .i64 d, .int .i64 e, .int .i64 l.length])) := by
  show some (RL l = RL (unRL (RL l)), LV.sv (.agg [.int .i64 a, .int .i64 b, .int .i64 c, .int .i64 d, .int .i64 e, .int .i64 (RL l).length])) = _
  rw [unRL_RL, RL_length]
theorem RB_98 (r : Rec) : RB.p 98 [.agg [.int .i64 r.dl, .int .i64 r.tm, .bool r.kd, .str r.key, .bool r.dd, .str r.val]] = some (True, .tup [.own 1 (bs (putR r)), .sv (.int .i64 (recE r))]) := rfl
theorem RB_99 (r : Rec) : RB.p 99 [.agg [.int .i64 r.dl, .int .i64 r.tm, .bool r.kd, .str r.key, .bool r.dd, .str r.val]] = some (True, .tup [.own 1 (bs (putR r)), .sv (.int .i64 (recE r))]) := rfl

theorem lay_bat (b : Bat) (hI : b.ok) (hl : b.rs.length ≤ 1000) : Pure Try.prog 71 [b.sv] (.own 1 (bs (layB b))) := by
  refine pure_go RB_ok Try.func71 Try.ntmps71 comp71 cres71 (by decide) (by simp) ?_
  have hhd : ∀ n ∈ hdL b, I64 n := by
    intro n hn
    obtain ⟨i1, i2, i3, i4, i5⟩ := hI
    simp only [hdL, List.mem_cons, List.not_mem_nil, or_false] at hn
    rcases hn with rfl | rfl | rfl | rfl | rfl | rfl
    · exact i1
    · exact i2
    · exact i3
    · exact i4
    · exact i5
    · exact ⟨by omega, by omega⟩
  have hdl : (hdL b).length = 6 := rfl
  simp [ac71, ar71, Bat.sv, Bat.cells, RB_75]
  refine awpR_loop (α := Nat) (fun i => i ≤ 6) (fun i => { n := 37, sl := [(1, .lptr 1 0), (3, .own 1 (bs (numsB ((hdL b).take i)))), (11, .sv (.agg ((hdL b).map fun n => .int .i64 n))), (12, .sv (.int .i64 i))], bx := [(1, b.cells.map .sv)], hp := fun _ => none })
    (fun i => 6 - i) 0 (by omega) (by simp [numsB, bs, Bat.cells, hdL]) ?_
  intro i hi
  by_cases h : i < 6
  · have h1 : (i : Int) < 6 := by omega
    have hw : IntKind.i64.wrap ((i : Int) + 1) = ((i + 1 : Nat) : Int) := by rw [IntKind.wrap_i64]; omega
    have hlt : i < (hdL b).length := by rw [hdl]; exact h
    have hget : ((hdL b).map fun n => SV.int .i64 n)[i]?.getD .undef = .int .i64 ((hdL b).getD i 0) := by simp [List.getD_eq_getElem?_getD, hlt]
    have hin : I64 ((hdL b).getD i 0) := hhd _ (by simp only [List.getD_eq_getElem?_getD, List.getElem?_eq_getElem hlt, Option.getD_some]; exact List.getElem_mem hlt)
    have hsn : numsB ((hdL b).take (i + 1)) = numsB ((hdL b).take i) ++ layN (zig ((hdL b).getD i 0)) := by
      rw [List.take_succ_eq_append_getElem hlt, numsB_snoc]
      simp [List.getD_eq_getElem?_getD, hlt]
    have hle : (numsB ((hdL b).take i)).length ≤ 60 := by
      have := numsB_le (l := (hdL b).take i) (fun n hn => hhd n (List.mem_of_mem_take hn))
      simp at this; omega
    have hle2 := layN_le10 (zig_lt hin.1 hin.2)
    generalize hA : ((hdL b).map fun n => SV.int .i64 n) = A at hget ⊢
    have hAl : A.length = 6 := by rw [← hA]; simp [hdl]
    generalize (hdL b).getD i 0 = n at hget hin hsn hle2
    have h2 : i + 1 ≤ A.length := by omega
    have hiA : i < A.length := by omega
    have hget2 : A[i] = .int .i64 n := by rw [← hget, List.getElem?_eq_getElem hiA]; rfl
    simp [h1, hget, hget2, RB_50, hin, hw, hAl, h]
    refine ⟨by omega, by omega, i + 1, by omega, by omega, ?_⟩
    rw [hsn, bs_append]
    exact ⟨⟨rfl, by omega⟩, WkRs_refl _⟩
  · have h1 : ¬ (i : Int) < 6 := by omega
    obtain rfl : i = 6 := by omega
    have ht6 : (hdL b).take 6 = hdL b := rfl
    simp [Bat.cells, ht6]
    have hnl := numsB_le hhd
    rw [hdl] at hnl
    generalize hH : numsB (hdL b) = H at hnl ⊢
    refine awpR_loop (α := Nat) (fun i => i ≤ b.rs.length) (fun i => { n := 37, sl := [(1, .lptr 1 0), (3, .own 1 (bs (H ++ recsB (b.rs.take i)))), (21, .sv (.sl 6 (RL b.rs))), (22, .sv (.int .i64 b.rs.length)), (23, .sv (.int .i64 i))], bx := [], hp := fun _ => none })
      (fun i => b.rs.length - i) 0 (by omega) (by simp [recsB]) ?_
    intro i hi
    by_cases h : i < b.rs.length
    · have h1 : (i : Int) < b.rs.length := by omega
      have hw : IntKind.i64.wrap ((i : Int) + 1) = ((i + 1 : Nat) : Int) := by rw [IntKind.wrap_i64]; omega
      have hg := RL_get b.rs h
      have hsn : recsB (b.rs.take (i + 1)) = recsB (b.rs.take i) ++ putR (b.rs.getD i rec0) := by
        rw [List.take_succ_eq_append_getElem h, recsB_snoc]
        simp [List.getD_eq_getElem?_getD, h]
      have hle := recsB_le (b.rs.take i)
      have hle2 := putR_len (b.rs.getD i rec0)
      have htl : (b.rs.take i).length ≤ 1000 := by simp; omega
      generalize b.rs.getD i rec0 = r at hg hsn hle2
      simp [h1, hg, Rec.sv, Rec.cells, RB_98, hw]
      refine ⟨by omega, i + 1, by omega, by omega, ?_, by omega⟩
      rw [hsn]; simp [bs_append]
    · have h1 : ¬ (i : Int) < b.rs.length := by omega
      obtain rfl : i = b.rs.length := by omega
      simp [h1, layB, hH]
end Go.Proofs.Ytkiimlmlfhmkiaa

set_option linter.unusedSimpArgs false
set_option linter.unusedVariables false
set_option maxHeartbeats 2000000
namespace Go.Proofs.Ytkiimlmlfhmkiaa
open Go.Av

theorem hdL_in {b : Bat} (hI : b.ok) (hl : b.rs.length ≤ 1000) : ∀ n ∈ hdL b, I64 n := by
  intro n hn
  obtain ⟨i1, i2, i3, i4, i5⟩ := hI
  simp only [hdL, List.mem_cons, List.not_mem_nil, or_false] at hn
  rcases hn with rfl | rfl | rfl | rfl | rfl | rfl
  · exact i1
  · exact i2
  · exact i3
  · exact i4
  · exact i5
  · exact ⟨by omega, by omega⟩

theorem rlay_bat (b : Bat) (hI : b.ok) (hl : b.rs.length ≤ 1000) : Pure Try.prog 72 [b.sv] (.own 1 (bs (layB b))) := by
  refine pure_go RB_ok Try.func72 Try.ntmps72 comp72 cres72 (by decide) (by simp) ?_
  have hhd := hdL_in hI hl
  have hdl : (hdL b).length = 6 := rfl
  simp [ac72, ar72, Bat.sv, Bat.cells]
  have hA : [SV.int .i64 b.ba, .int .i64 b.ct, .int .i64 b.pr, .int .i64 b.ep, .int .i64 b.sq, .int .i64 b.rs.length] = (hdL b).map fun n => SV.int .i64 n := rfl
  refine awpR_loop (α := Nat) (fun i => i ≤ 6) (fun i => { n := 56, sl := [(1, .lptr 1 0), (3, .own 1 (bs (numsB ((hdL b).take i)))), (4, .sv (.sl 1 ((hdL b).map fun n => .int .i64 n))), (5, .sv (.int .i64 i))], bx := [(1, b.cells.map .sv)], hp := fun _ => none })
    (fun i => 6 - i) 0 (by omega) (by simp [numsB, bs, Bat.cells, hdL]) ?_
  intro i hi
  by_cases h : i < 6
  · have h1 : (i : Int) < 6 := by omega
    have hw : IntKind.i64.wrap ((i : Int) + 1) = ((i + 1 : Nat) : Int) := by rw [IntKind.wrap_i64]; omega
    have hlt : i < (hdL b).length := by rw [hdl]; exact h
    have hget : ((hdL b).map fun n => SV.int .i64 n)[i]?.getD .undef = .int .i64 ((hdL b).getD i 0) := by simp [List.getD_eq_getElem?_getD, hlt]
    have hin : I64 ((hdL b).getD i 0) := hhd _ (by simp only [List.getD_eq_getElem?_getD, List.getElem?_eq_getElem hlt, Option.getD_some]; exact List.getElem_mem hlt)
    have hsn : numsB ((hdL b).take (i + 1)) = numsB ((hdL b).take i) ++ layN (zig ((hdL b).getD i 0)) := by
      rw [List.take_succ_eq_append_getElem hlt, numsB_snoc]
      simp [List.getD_eq_getElem?_getD, hlt]
    have hle : (numsB ((hdL b).take i)).length ≤ 60 := by
      have := numsB_le (l := (hdL b).take i) (fun n hn => hhd n (List.mem_of_mem_take hn))
      simp at this; omega
    have hle2 := layN_le10 (zig_lt hin.1 hin.2)
    generalize hA : ((hdL b).map fun n => SV.int .i64 n) = A at hget ⊢
    have hAl : A.length = 6 := by rw [← hA]; simp [hdl]
    generalize (hdL b).getD i 0 = n at hget hin hsn hle2
    have h2 : i + 1 ≤ A.length := by omega
    have hiA : i < A.length := by omega
    have hget2 : A[i] = .int .i64 n := by rw [← hget, List.getElem?_eq_getElem hiA]; rfl
    simp [h1, hget, hget2, RB_55, hin, hw, hAl, h]
    refine ⟨by omega, i + 1, by omega, by omega, ?_⟩
    rw [hsn, bs_append]
    exact ⟨⟨rfl, by omega⟩, WkRs_refl _⟩
  · have h1 : ¬ (i : Int) < 6 := by omega
    obtain rfl : i = 6 := by omega
    have ht6 : (hdL b).take 6 = hdL b := rfl
    simp [Bat.cells, ht6, hdl]
    have hnl := numsB_le hhd
    rw [hdl] at hnl
    generalize hH : numsB (hdL b) = H at hnl ⊢
    refine awpR_loop (α := Nat) (fun i => i ≤ b.rs.length) (fun i => { n := 56, sl := [(1, .lptr 1 0), (3, .own 1 (bs (H ++ recsB (b.rs.take i)))), (6, .sv (.int .i64 i))], bx := [(1, b.cells.map .sv)], hp := fun _ => none })
      (fun i => b.rs.length - i) 0 (by omega) (by simp [recsB, Bat.cells]) ?_
    intro i hi
    by_cases h : i < b.rs.length
    · have h1 : (i : Int) < b.rs.length := by omega
      have hw : IntKind.i64.wrap ((i : Int) + 1) = ((i + 1 : Nat) : Int) := by rw [IntKind.wrap_i64]; omega
      have hg := RL_get b.rs h
      have hsn : recsB (b.rs.take (i + 1)) = recsB (b.rs.take i) ++ putR (b.rs.getD i rec0) := by
        rw [List.take_succ_eq_append_getElem h, recsB_snoc]
        simp [List.getD_eq_getElem?_getD, h]
      have hle := recsB_le (b.rs.take i)
      have hle2 := putR_len (b.rs.getD i rec0)
      have htl : (b.rs.take i).length ≤ 1000 := by simp; omega
      have hiA : i < (RL b.rs).length := by simpa using h
      have hg2 : (RL b.rs)[i] = (b.rs.getD i rec0).sv := by rw [← hg, List.getElem?_eq_getElem hiA]; rfl
      generalize b.rs.getD i rec0 = r at hg hg2 hsn hle2
      simp [Bat.cells, h1, hg, hg2, h, Rec.sv, Rec.cells, RB_99, hw]
      refine ⟨by omega, i + 1, by omega, by omega, ?_⟩
      rw [hsn]
      simp [bs_append, WkRs_refl]
    · have h1 : ¬ (i : Int) < b.rs.length := by omega
      obtain rfl : i = b.rs.length := by omega
      simp [Bat.cells, h1, layB, hH]

end Go.Proofs.Ytkiimlmlfhmkiaa
