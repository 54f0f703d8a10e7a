import Derived.Test.YtflcdbfcipkhkaaMDvF
import Derived.Test.YtflcdbfcipkhkaaDbA

set_option linter.unusedVariables false
set_option linter.unusedSimpArgs false

set_option linter.unusedSimpArgs false
set_option linter.unusedVariables false
set_option maxHeartbeats 40000000
namespace Go.Proofs.Ytflcdbfcipkhkaa
open Go.Av

def RW : Orc := {
  p := fun f l => match f, l with
  | 17, [.agg [.sl 1 xs, .int .i64 e]] => some (IsBs xs ∧ xs.length < 4611686018427387904, .tup [.sv (rd' (rNum (nsOf xs) e).2.1 (rNum (nsOf xs) e).2.2), .sv (.int .i64 (rNum (nsOf xs) e).1)])
  | 19, [.agg [.sl 1 xs, .int .i64 e], .int .i64 w] => some (IsBs xs ∧ xs.length < 4611686018427387904, .tup [.sv (rd' (rFixed (nsOf xs) e w).2.1 (rFixed (nsOf xs) e w).2.2), .sv (.int .u64 (rFixed (nsOf xs) e w).1)])
  | 21, [.agg [.sl 1 xs, .int .i64 e], .int .i64 m] => some (IsBs xs ∧ xs.length < 4611686018427387904, .tup [.sv (rd' (rText (nsOf xs) e m).2.1 (rText (nsOf xs) e m).2.2), .sv (.str (sOf (rText (nsOf xs) e m).1))])
  | 140, [.agg [.int .i64 dl, .int .i64 tm, .bool kd, .str key, .bool dd, .str val]] => some (True, .sv (.int .i64 (recE ⟨dl, tm, kd, key, dd, val⟩)))
  | _, _ => none }
theorem RW_ok : RW.ok Try.prog := by
  refine ⟨fun f l c rv h hc => ?_, fun _ _ _ _ _ _ h => (by cases h), fun _ _ _ _ h => (by cases h), fun _ h => (by cases h), fun _ _ _ _ _ _ h => (by cases h), fun _ _ _ _ _ _ _ h => (by cases h)⟩
  simp only [RW] at h
  split at h <;> cases h
  · rename_i xs e
    obtain ⟨⟨e1, h1⟩, h2⟩ := hc
    have := refnum (nsOf xs) e h1 (by rw [e1] at h2; simpa using h2)
    rw [rd', ← e1] at this
    exact this
  · rename_i xs e w
    obtain ⟨⟨e1, h1⟩, h2⟩ := hc
    have := reffix (nsOf xs) e w h1 (by rw [e1] at h2; simpa using h2)
    rw [rd', ← e1] at this
    exact this
  · rename_i xs e m
    obtain ⟨⟨e1, h1⟩, h2⟩ := hc
    have := reftext (nsOf xs) e m h1 (by rw [e1] at h2; simpa using h2)
    rw [rd', ← e1] at this
    exact this
  · exact rcheck_pure ⟨_, _, _, _, _, _⟩

theorem refget (l : List Nat) (e : Int) (hl : Bytes l) (hn : l.length < 4611686018427387904) : Pure Try.prog 139 [rd' l e] (.tup [.sv (rd' (recG l e).2.2.1 (recG l e).2.2.2), .sv (recG l e).1.sv, .sv (.int .i64 (recG l e).2.1)]) := by
  refine pure_go RW_ok Try.func139 Try.ntmps139 comp139 cres139 (by decide) (by simp [rd']) ?_
  unfold recG
  simp only [rd']
  have f1 := rFixed1_lt l hl e
  have f2 := rFixed_bytes hl e 1
  have f3 := rFixed_le l e 1
  generalize h1 : rFixed l e 1 = p1 at f1 f2 f3 ⊢
  obtain ⟨f, l1, e1⟩ := p1
  simp only at f1 f2 f3 ⊢
  have d2 := rNum_bytes f2 e1
  have d3 := rNum_le l1 e1
  generalize h2 : rNum l1 e1 = p2 at d2 d3 ⊢
  obtain ⟨dl, l2, e2⟩ := p2
  simp only at d2 d3 ⊢
  have t2 := rNum_bytes d2 e2
  have t3 := rNum_le l2 e2
  generalize h3 : rNum l2 e2 = p3 at t2 t3 ⊢
  obtain ⟨tm, l3, e3⟩ := p3
  simp only at t2 t3 ⊢
  have k2 := rText_bytes t2 e3 64
  have k3 := rText_le l3 e3 64
  have n1 : l1.length < 4611686018427387904 := by omega
  have n2 : l2.length < 4611686018427387904 := by omega
  have n3 : l3.length < 4611686018427387904 := by omega
  generalize h4 : rText l3 e3 64 = p4 at k2 k3
  obtain ⟨key, l4, e4⟩ := p4
  simp only at k2 k3
  have n4 : l4.length < 4611686018427387904 := by omega
  have a1 : (f : Int).tmod 2 = ((f % 2 : Nat) : Int) := tmod_nat f 2
  have a2 : (IntKind.u64.wrap ((f : Int) / 2)).tmod 2 = ((f / 2 % 2 : Nat) : Int) := by
    have : IntKind.u64.wrap ((f : Int) / 2) = ((f / 2 : Nat) : Int) := by rw [IntKind.wrap_u64]; omega
    rw [this]; exact tmod_nat (f / 2) 2
  unfold recG5
  rw [h4]
  by_cases hk : f % 2 = 1
  · by_cases hd : f / 2 % 2 = 1
    · simp only [hk, hd, if_true, decide_true]
      by_cases he : e4 = 0
      · by_cases h4f : 4 ≤ f
        · have h4f' : (3 : Int) < f := by omega
          simp [ac139, ar139, RW, h1, h2, h3, h4, k2, n4, isBs_bs, hl, f2, d2, t2, hn, n1, n2, n3, a1, a2, rec0, Rec.sv, Rec.cells, sOf_nil, rd', hk, hd, he, h4f, h4f']
        · have h4f' : ¬ (3 : Int) < f := by omega
          by_cases hr : recE ⟨dl, tm, true, sOf key, true, ByteArray.mk #[]⟩ = 0
          · simp [ac139, ar139, RW, h1, h2, h3, h4, k2, n4, isBs_bs, hl, f2, d2, t2, hn, n1, n2, n3, a1, a2, rec0, Rec.sv, Rec.cells, sOf_nil, rd', hk, hd, he, h4f, h4f', hr]
          · simp [ac139, ar139, RW, h1, h2, h3, h4, k2, n4, isBs_bs, hl, f2, d2, t2, hn, n1, n2, n3, a1, a2, rec0, Rec.sv, Rec.cells, sOf_nil, rd', hk, hd, he, h4f, h4f', hr]
      · simp [ac139, ar139, RW, h1, h2, h3, h4, k2, n4, isBs_bs, hl, f2, d2, t2, hn, n1, n2, n3, a1, a2, rec0, Rec.sv, Rec.cells, sOf_nil, rd', hk, hd, he]
    · have hd' : f / 2 % 2 = 0 := by omega
      have v2 := rText_bytes k2 e4 512
      have v3 := rText_le l4 e4 512
      simp only [hk, hd, if_true, if_false, decide_true]
      generalize h5 : rText l4 e4 512 = p5 at v2 v3 ⊢
      obtain ⟨val, l5, e5⟩ := p5
      simp only at v2 v3 ⊢
      have n5 : l5.length < 4611686018427387904 := by omega
      by_cases he : e5 = 0
      · by_cases h4f : 4 ≤ f
        · have h4f' : (3 : Int) < f := by omega
          simp [ac139, ar139, RW, h1, h2, h3, h4, k2, n4, h5, v2, n5, hd', isBs_bs, hl, f2, d2, t2, hn, n1, n2, n3, a1, a2, rec0, Rec.sv, Rec.cells, sOf_nil, rd', hk, hd, he, h4f, h4f']
        · have h4f' : ¬ (3 : Int) < f := by omega
          by_cases hr : recE ⟨dl, tm, true, sOf key, false, sOf val⟩ = 0
          · simp [ac139, ar139, RW, h1, h2, h3, h4, k2, n4, h5, v2, n5, hd', isBs_bs, hl, f2, d2, t2, hn, n1, n2, n3, a1, a2, rec0, Rec.sv, Rec.cells, sOf_nil, rd', hk, hd, he, h4f, h4f', hr]
          · simp [ac139, ar139, RW, h1, h2, h3, h4, k2, n4, h5, v2, n5, hd', isBs_bs, hl, f2, d2, t2, hn, n1, n2, n3, a1, a2, rec0, Rec.sv, Rec.cells, sOf_nil, rd', hk, hd, he, h4f, h4f', hr]
      · simp [ac139, ar139, RW, h1, h2, h3, h4, k2, n4, h5, v2, n5, hd', isBs_bs, hl, f2, d2, t2, hn, n1, n2, n3, a1, a2, rec0, Rec.sv, Rec.cells, sOf_nil, rd', hk, hd, he]
  · have hk' : f % 2 = 0 := by omega
    by_cases hd : f / 2 % 2 = 1
    · simp only [hk, hd, if_true, if_false, decide_true]
      by_cases he : e3 = 0
      · by_cases h4f : 4 ≤ f
        · have h4f' : (3 : Int) < f := by omega
          simp [ac139, ar139, RW, h1, h2, h3, hk', isBs_bs, hl, f2, d2, t2, hn, n1, n2, n3, a1, a2, rec0, Rec.sv, Rec.cells, sOf_nil, rd', hk, hd, he, h4f, h4f']
        · have h4f' : ¬ (3 : Int) < f := by omega
          by_cases hr : recE ⟨dl, tm, false, ByteArray.mk #[], true, ByteArray.mk #[]⟩ = 0
          · simp [ac139, ar139, RW, h1, h2, h3, hk', isBs_bs, hl, f2, d2, t2, hn, n1, n2, n3, a1, a2, rec0, Rec.sv, Rec.cells, sOf_nil, rd', hk, hd, he, h4f, h4f', hr]
          · simp [ac139, ar139, RW, h1, h2, h3, hk', isBs_bs, hl, f2, d2, t2, hn, n1, n2, n3, a1, a2, rec0, Rec.sv, Rec.cells, sOf_nil, rd', hk, hd, he, h4f, h4f', hr]
      · simp [ac139, ar139, RW, h1, h2, h3, hk', isBs_bs, hl, f2, d2, t2, hn, n1, n2, n3, a1, a2, rec0, Rec.sv, Rec.cells, sOf_nil, rd', hk, hd, he]
    · have hd' : f / 2 % 2 = 0 := by omega
      have v2 := rText_bytes t2 e3 512
      have v3 := rText_le l3 e3 512
      simp only [hk, hd, if_true, if_false, decide_true]
      generalize h5 : rText l3 e3 512 = p5 at v2 v3 ⊢
      obtain ⟨val, l5, e5⟩ := p5
      simp only at v2 v3 ⊢
      have n5 : l5.length < 4611686018427387904 := by omega
      by_cases he : e5 = 0
      · by_cases h4f : 4 ≤ f
        · have h4f' : (3 : Int) < f := by omega
          simp [ac139, ar139, RW, h1, h2, h3, h5, v2, n5, hk', hd', isBs_bs, hl, f2, d2, t2, hn, n1, n2, n3, a1, a2, rec0, Rec.sv, Rec.cells, sOf_nil, rd', hk, hd, he, h4f, h4f']
        · have h4f' : ¬ (3 : Int) < f := by omega
          by_cases hr : recE ⟨dl, tm, false, ByteArray.mk #[], false, sOf val⟩ = 0
          · simp [ac139, ar139, RW, h1, h2, h3, h5, v2, n5, hk', hd', isBs_bs, hl, f2, d2, t2, hn, n1, n2, n3, a1, a2, rec0, Rec.sv, Rec.cells, sOf_nil, rd', hk, hd, he, h4f, h4f', hr]
          · simp [ac139, ar139, RW, h1, h2, h3, h5, v2, n5, hk', hd', isBs_bs, hl, f2, d2, t2, hn, n1, n2, n3, a1, a2, rec0, Rec.sv, Rec.cells, sOf_nil, rd', hk, hd, he, h4f, h4f', hr]
      · simp [ac139, ar139, RW, h1, h2, h3, h5, v2, n5, hk', hd', isBs_bs, hl, f2, d2, t2, hn, n1, n2, n3, a1, a2, rec0, Rec.sv, Rec.cells, sOf_nil, rd', hk, hd, he]
end Go.Proofs.Ytflcdbfcipkhkaa

set_option linter.unusedSimpArgs false
set_option linter.unusedVariables false
set_option maxHeartbeats 2000000
namespace Go.Proofs.Ytflcdbfcipkhkaa
open Go.Av

/-- A batch: base, count, producer, epoch, sequence, records. -/
structure Bat where
  ba : Int
  ct : Int
  pr : Int
  ep : Int
  sq : Int
  rs : List Rec
def RL (l : List Rec) : List SV := l.map Rec.sv
@[simp] theorem RL_length (l : List Rec) : (RL l).length = l.length := by simp [RL]
theorem RL_get (l : List Rec) {i : Nat} (h : i < l.length) : (RL l)[i]?.getD .undef = (l.getD i rec0).sv := by simp [RL, List.getD_eq_getElem?_getD, h]
theorem RL_app (l m : List Rec) : RL l ++ RL m = RL (l ++ m) := by simp [RL]
theorem RL_take_succ (l : List Rec) {i : Nat} (h : i < l.length) : RL (l.take (i + 1)) = RL (l.take i) ++ [(l.getD i rec0).sv] := by
  rw [List.take_succ_eq_append_getElem h]
  simp only [RL, List.map_append, List.map_cons, List.map_nil, List.getD_eq_getElem?_getD, List.getElem?_eq_getElem h, Option.getD_some]
def unR : SV → Rec
  | .agg [.int _ a, .int _ b, .bool c, .str d, .bool e, .str f] => ⟨a, b, c, d, e, f⟩
  | _ => rec0
def unRL (xs : List SV) : List Rec := xs.map unR
@[simp] theorem unRL_RL (l : List Rec) : unRL (RL l) = l := by
  simp only [unRL, RL, List.map_map]
  conv => rhs; rw [← List.map_id l]
  rfl
def Bat.cells (b : Bat) : List SV := [.int .i64 b.ba, .int .i64 b.ct, .int .i64 b.pr, .int .i64 b.ep, .int .i64 b.sq, .sl 6 (RL b.rs)]
def Bat.sv (b : Bat) : SV := .agg b.cells
def Bat.ok (b : Bat) : Prop := I64 b.ba ∧ I64 b.ct ∧ I64 b.pr ∧ I64 b.ep ∧ I64 b.sq

def inW (n m : Int) : Bool := decide (0 ≤ n) && decide (n ≤ m)
theorem within_pure (n m : Int) : Pure Try.prog 153 [.int .i64 n, .int .i64 m] (.sv (.bool (inW n m))) := by
  refine pure_go R0_ok Try.func153 Try.ntmps153 comp153 cres153 (by decide) (by simp) ?_
  simp [ac153, ar153, R0, inW]
theorem head_pure (b : Bat) : Pure Try.prog 126 [b.sv] (.sv (.agg [.int .i64 b.ba, .int .i64 b.ct, .int .i64 b.pr, .int .i64 b.ep, .int .i64 b.sq, .int .i64 b.rs.length])) := by
  refine pure_go R0_ok Try.func126 Try.ntmps126 comp126 cres126 (by decide) (by simp) ?_
  simp [ac126, ar126, R0, Bat.sv, Bat.cells]

/-- What is wrong with a batch's numbers. -/
def batN (b : Bat) : Int :=
  if b.ct < 1 ∨ 32 < b.ct ∨ b.ba < 0 ∨ 4611686018427387903 - b.ct < b.ba then 11
  else if b.pr < 0 ∨ 1099511627776 < b.pr ∨ b.ep < 0 ∨ 32767 < b.ep ∨ b.sq < 0 ∨ 2147483647 < b.sq then 11
  else if b.pr = 0 ∧ (b.ep ≠ 0 ∨ b.sq ≠ 0) then 4
  else if b.ct < b.rs.length then 5 else 0
def RN : Orc := { p := fun f l => match f, l with
  | 153, [.int .i64 n, .int .i64 m] => some (True, .sv (.bool (inW n m)))
  | _, _ => none }
theorem RN_ok : RN.ok Try.prog := by
  refine ⟨fun f l c rv h hc => ?_, fun _ _ _ _ _ _ h => (by cases h), fun _ _ _ _ h => (by cases h), fun _ h => (by cases h), fun _ _ _ _ _ _ h => (by cases h), fun _ _ _ _ _ _ _ h => (by cases h)⟩
  simp only [RN] at h
  split at h <;> cases h
  exact within_pure _ _
theorem RN_153 (n m : Int) : RN.p 153 [.int .i64 n, .int .i64 m] = some (True, .sv (.bool (inW n m))) := rfl
theorem numbers_pure (b : Bat) (hI : I64 b.ct) : Pure Try.prog 123 [b.sv] (.sv (.int .i64 (batN b))) := by
  refine pure_go RN_ok Try.func123 Try.ntmps123 comp123 cres123 (by decide) (by simp) ?_
  obtain ⟨ba, ct, pr, ep, sq, rs⟩ := b
  simp only at hI
  have z1 : inW 0 1099511627776 = true := by decide
  have z2 : inW 0 32767 = true := by decide
  have z3 : inW 0 2147483647 = true := by decide
  unfold batN
  simp only
  by_cases h1 : ct < 1
  · simp [ac123, ar123, Bat.sv, Bat.cells, RN_153, h1]
  by_cases h2 : 32 < ct
  · simp [ac123, ar123, Bat.sv, Bat.cells, RN_153, h1, h2]
  have hw : IntKind.i64.wrap (4611686018427387903 - ct) = 4611686018427387903 - ct := by rw [IntKind.wrap_i64]; omega
  by_cases h3 : ba < 0 ∨ 4611686018427387903 - ct < ba
  · have e : inW ba (4611686018427387903 - ct) = false := by
      simp only [inW, Bool.and_eq_false_iff, decide_eq_false_iff_not]; omega
    rw [if_pos (by omega)]
    simp [ac123, ar123, Bat.sv, Bat.cells, RN_153, h1, h2, hw, e]
  have e1 : inW ba (4611686018427387903 - ct) = true := by
    simp only [inW, Bool.and_eq_true, decide_eq_true_eq]; omega
  rw [if_neg (by omega)]
  by_cases h4 : pr < 0 ∨ 1099511627776 < pr
  · have e : inW pr 1099511627776 = false := by
      simp only [inW, Bool.and_eq_false_iff, decide_eq_false_iff_not]; omega
    rw [if_pos (by omega)]
    simp [ac123, ar123, Bat.sv, Bat.cells, RN_153, h1, h2, hw, e1, e]
  have e2 : inW pr 1099511627776 = true := by
    simp only [inW, Bool.and_eq_true, decide_eq_true_eq]; omega
  by_cases h5 : ep < 0 ∨ 32767 < ep
  · have e : inW ep 32767 = false := by
      simp only [inW, Bool.and_eq_false_iff, decide_eq_false_iff_not]; omega
    rw [if_pos (by omega)]
    simp [ac123, ar123, Bat.sv, Bat.cells, RN_153, h1, h2, hw, e1, e2, e]
  have e3 : inW ep 32767 = true := by
    simp only [inW, Bool.and_eq_true, decide_eq_true_eq]; omega
  by_cases h6 : sq < 0 ∨ 2147483647 < sq
  · have e : inW sq 2147483647 = false := by
      simp only [inW, Bool.and_eq_false_iff, decide_eq_false_iff_not]; omega
    rw [if_pos (by omega)]
    simp [ac123, ar123, Bat.sv, Bat.cells, RN_153, h1, h2, hw, e1, e2, e3, e]
  have e4 : inW sq 2147483647 = true := by
    simp only [inW, Bool.and_eq_true, decide_eq_true_eq]; omega
  rw [if_neg (by omega)]
  by_cases h7 : pr = 0 ∧ (ep ≠ 0 ∨ sq ≠ 0)
  · rw [if_pos h7]
    obtain ⟨rfl, h8⟩ := h7
    by_cases h9 : ep = 0
    · have h10 : sq ≠ 0 := by rcases h8 with q | q; exact absurd h9 q; exact q
      simp [ac123, ar123, Bat.sv, Bat.cells, RN_153, z1, z2, z3, h1, h2, hw, e1, e2, e3, e4, h9, h10]
    · simp [ac123, ar123, Bat.sv, Bat.cells, RN_153, z1, z2, z3, h1, h2, hw, e1, e2, e3, e4, h9]
  rw [if_neg h7]
  by_cases h8 : pr = 0
  · have h9 : ep = 0 := Classical.byContradiction fun q => h7 ⟨h8, .inl q⟩
    have h10 : sq = 0 := Classical.byContradiction fun q => h7 ⟨h8, .inr q⟩
    by_cases h11 : ct < rs.length
    · simp [ac123, ar123, Bat.sv, Bat.cells, RN_153, z1, z2, z3, h1, h2, hw, e1, e2, e3, e4, h8, h9, h10, h11]
    · simp [ac123, ar123, Bat.sv, Bat.cells, RN_153, z1, z2, z3, h1, h2, hw, e1, e2, e3, e4, h8, h9, h10, h11]
  · by_cases h11 : ct < rs.length
    · simp [ac123, ar123, Bat.sv, Bat.cells, RN_153, z1, z2, z3, h1, h2, hw, e1, e2, e3, e4, h8, h11]
    · simp [ac123, ar123, Bat.sv, Bat.cells, RN_153, z1, z2, z3, h1, h2, hw, e1, e2, e3, e4, h8, h11]

/-! ### the bytes -/
def hdL (b : Bat) : List Int := [b.ba, b.ct, b.pr, b.ep, b.sq, b.rs.length]
def numsB (l : List Int) : List Nat := (l.map fun n => layN (zig n)).flatten
def recsB (l : List Rec) : List Nat := (l.map putR).flatten
def layB (b : Bat) : List Nat := numsB (hdL b) ++ recsB b.rs
theorem numsB_le : ∀ {l : List Int}, (∀ n ∈ l, I64 n) → (numsB l).length ≤ 10 * l.length
  | [], _ => by simp [numsB]
  | n :: l, h => by
    have h1 := layN_le10 (zig_lt (h n (by simp)).1 (h n (by simp)).2)
    have h2 := numsB_le (l := l) (fun m hm => h m (by simp [hm]))
    simp only [numsB, List.map_cons, List.flatten_cons, List.length_append, List.length_cons] at h2 ⊢
    omega
theorem recP_len {r : Rec} (h : recE r = 0) : 1 ≤ (recP r).length ∧ (recP r).length ≤ 1000 := by
  obtain ⟨a1, a2, a3, a4, a5, a6⟩ := recE_small h
  have l1 := layN_le10 (zig_lt (n := r.dl) (by omega) (by omega))
  have l2 := layN_le10 (zig_lt (n := r.tm) (by omega) (by omega))
  have l3 := layN_le10 (u := zig r.key.size) (zig_lt (by omega) (by omega))
  have l4 := layN_le10 (u := zig r.val.size) (zig_lt (by omega) (by omega))
  have k1 := bytesNat_length r.key
  have k2 := bytesNat_length r.val
  simp only [recP, List.length_append, List.length_cons]
  split <;> split <;> simp <;> omega
theorem putR_len (r : Rec) : (putR r).length ≤ 1000 := by
  unfold putR
  split
  · rename_i h; exact (recP_len h).2
  · simp
theorem recsB_le : ∀ l : List Rec, (recsB l).length ≤ 1000 * l.length
  | [] => by simp [recsB]
  | r :: l => by
    have h1 := putR_len r
    have h2 := recsB_le l
    simp only [recsB, List.map_cons, List.flatten_cons, List.length_append, List.length_cons] at h2 ⊢
    omega
theorem recsB_snoc (l : List Rec) (r : Rec) : recsB (l ++ [r]) = recsB l ++ putR r := by simp [recsB]
theorem numsB_snoc (l : List Int) (n : Int) : numsB (l ++ [n]) = numsB l ++ layN (zig n) := by simp [numsB]

def RB : Orc := { p := fun f l => match f, l with
  | 71, [.int .i64 n] => some (I64 n, .own 1 (bs (layN (zig n))))
  | 82, [.int .i64 n] => some (I64 n, .own 1 (bs (layN (zig n))))
  | 126, [.agg [.int .i64 a, .int .i64 b, .int .i64 c, .int .i64 d, .int .i64 e, .sl 6 xs]] => some (xs = RL (unRL xs), .sv (.agg [.int .i64 a, .int .i64 b, .int .i64 c, .int .i64 d, .int .i64 e, .int .i64 xs.length]))
  | 154, [.agg [.int .i64 dl, .int .i64 tm, .bool kd, .str key, .bool dd, .str val]] => some (True, .tup [.own 1 (bs (putR ⟨dl, tm, kd, key, dd, val⟩)), .sv (.int .i64 (recE ⟨dl, tm, kd, key, dd, val⟩))])
  | 155, [.agg [.int .i64 dl, .int .i64 tm, .bool kd, .str key, .bool dd, .str val]] => some (True, .tup [.own 1 (bs (putR ⟨dl, tm, kd, key, dd, val⟩)), .sv (.int .i64 (recE ⟨dl, tm, kd, key, dd, val⟩))])
  | _, _ => none }
theorem RB_ok : RB.ok Try.prog := by
  refine ⟨fun f l c rv h hc => ?_, fun _ _ _ _ _ _ h => (by cases h), fun _ _ _ _ h => (by cases h), fun _ h => (by cases h), fun _ _ _ _ _ _ h => (by cases h), fun _ _ _ _ _ _ _ h => (by cases h)⟩
  simp only [RB] at h
  split at h <;> cases h
  · exact put_pure _ hc
  · exact rput_pure _ hc
  · rename_i a b c d e xs
    have := head_pure ⟨a, b, c, d, e, unRL xs⟩
    simp only [Bat.sv, Bat.cells] at this
    rw [← hc] at this
    have hl : (unRL xs).length = xs.length := by simp [unRL]
    rw [hl] at this
    exact this
  · exact put_rec ⟨_, _, _, _, _, _⟩
  · exact rput_rec ⟨_, _, _, _, _, _⟩
theorem RB_71 (n : Int) : RB.p 71 [.int .i64 n] = some (I64 n, .own 1 (bs (layN (zig n)))) := rfl
theorem RB_82 (n : Int) : RB.p 82 [.int .i64 n] = some (I64 n, .own 1 (bs (layN (zig n)))) := rfl
theorem RB_126 (a b c d e : Int) (l : List Rec) : RB.p 126 [.agg [.int .i64 a, .int .i64 b, .int .i64 c, .int .i64 d, .int .i64 e, .sl 6 (RL l)]] = some (RL l = RL l, .sv (.agg [.int .i64 a, .int .i64 b, .int .i64 c, .int .i64 d, .int .i64 e, .int .i64 l.length])) := by
  show some (RL l = RL (unRL (RL l)), LV.sv (.agg [.int .i64 a, .int .i64 b, .int .i64 c, .int .i64 d, .int .i64 e, .int .i64 (RL l).length])) = _
  rw [unRL_RL, RL_length]
theorem RB_154 (r : Rec) : RB.p 154 [.agg [.int .i64 r.dl, .int .i64 r.tm, .bool r.kd, .str r.key, .bool r.dd, .str r.val]] = some (True, .tup [.own 1 (bs (putR r)), .sv (.int .i64 (recE r))]) := rfl
theorem RB_155 (r : Rec) : RB.p 155 [.agg [.int .i64 r.dl, .int .i64 r.tm, .bool r.kd, .str r.key, .bool r.dd, .str r.val]] = some (True, .tup [.own 1 (bs (putR r)), .sv (.int .i64 (recE r))]) := rfl

theorem lay_bat (b : Bat) (hI : b.ok) (hl : b.rs.length ≤ 1000) : Pure Try.prog 125 [b.sv] (.own 1 (bs (layB b))) := by
  refine pure_go RB_ok Try.func125 Try.ntmps125 comp125 cres125 (by decide) (by simp) ?_
  have hhd : ∀ n ∈ hdL b, I64 n := by
    intro n hn
    obtain ⟨i1, i2, i3, i4, i5⟩ := hI
    simp only [hdL, List.mem_cons, List.not_mem_nil, or_false] at hn
    rcases hn with rfl | rfl | rfl | rfl | rfl | rfl
    · exact i1
    · exact i2
    · exact i3
    · exact i4
    · exact i5
    · exact ⟨by omega, by omega⟩
  have hdl : (hdL b).length = 6 := rfl
  simp [ac125, ar125, Bat.sv, Bat.cells, RB_126]
  refine awpR_loop (α := Nat) (fun i => i ≤ 6) (fun i => { n := 37, sl := [(1, .lptr 1 0), (3, .own 1 (bs (numsB ((hdL b).take i)))), (11, .sv (.agg ((hdL b).map fun n => .int .i64 n))), (12, .sv (.int .i64 i))], bx := [(1, b.cells.map .sv)], hp := fun _ => none })
    (fun i => 6 - i) 0 (by omega) (by simp [numsB, bs, Bat.cells, hdL]) ?_
  intro i hi
  by_cases h : i < 6
  · have h1 : (i : Int) < 6 := by omega
    have hw : IntKind.i64.wrap ((i : Int) + 1) = ((i + 1 : Nat) : Int) := by rw [IntKind.wrap_i64]; omega
    have hlt : i < (hdL b).length := by rw [hdl]; exact h
    have hget : ((hdL b).map fun n => SV.int .i64 n)[i]?.getD .undef = .int .i64 ((hdL b).getD i 0) := by simp [List.getD_eq_getElem?_getD, hlt]
    have hin : I64 ((hdL b).getD i 0) := hhd _ (by simp only [List.getD_eq_getElem?_getD, List.getElem?_eq_getElem hlt, Option.getD_some]; exact List.getElem_mem hlt)
    have hsn : numsB ((hdL b).take (i + 1)) = numsB ((hdL b).take i) ++ layN (zig ((hdL b).getD i 0)) := by
      rw [List.take_succ_eq_append_getElem hlt, numsB_snoc]
      simp [List.getD_eq_getElem?_getD, hlt]
    have hle : (numsB ((hdL b).take i)).length ≤ 60 := by
      have := numsB_le (l := (hdL b).take i) (fun n hn => hhd n (List.mem_of_mem_take hn))
      simp at this; omega
    have hle2 := layN_le10 (zig_lt hin.1 hin.2)
    generalize hA : ((hdL b).map fun n => SV.int .i64 n) = A at hget ⊢
    have hAl : A.length = 6 := by rw [← hA]; simp [hdl]
    generalize (hdL b).getD i 0 = n at hget hin hsn hle2
    have h2 : i + 1 ≤ A.length := by omega
    have hiA : i < A.length := by omega
    have hget2 : A[i] = .int .i64 n := by rw [← hget, List.getElem?_eq_getElem hiA]; rfl
    simp [h1, hget, hget2, RB_71, hin, hw, hAl, h]
    refine ⟨by omega, by omega, i + 1, by omega, by omega, ?_⟩
    rw [hsn, bs_append]
    exact ⟨⟨rfl, by omega⟩, WkRs_refl _⟩
  · have h1 : ¬ (i : Int) < 6 := by omega
    obtain rfl : i = 6 := by omega
    have ht6 : (hdL b).take 6 = hdL b := rfl
    simp [Bat.cells, ht6]
    have hnl := numsB_le hhd
    rw [hdl] at hnl
    generalize hH : numsB (hdL b) = H at hnl ⊢
    refine awpR_loop (α := Nat) (fun i => i ≤ b.rs.length) (fun i => { n := 37, sl := [(1, .lptr 1 0), (3, .own 1 (bs (H ++ recsB (b.rs.take i)))), (21, .sv (.sl 6 (RL b.rs))), (22, .sv (.int .i64 b.rs.length)), (23, .sv (.int .i64 i))], bx := [], hp := fun _ => none })
      (fun i => b.rs.length - i) 0 (by omega) (by simp [recsB]) ?_
    intro i hi
    by_cases h : i < b.rs.length
    · have h1 : (i : Int) < b.rs.length := by omega
      have hw : IntKind.i64.wrap ((i : Int) + 1) = ((i + 1 : Nat) : Int) := by rw [IntKind.wrap_i64]; omega
      have hg := RL_get b.rs h
      have hsn : recsB (b.rs.take (i + 1)) = recsB (b.rs.take i) ++ putR (b.rs.getD i rec0) := by
        rw [List.take_succ_eq_append_getElem h, recsB_snoc]
        simp [List.getD_eq_getElem?_getD, h]
      have hle := recsB_le (b.rs.take i)
      have hle2 := putR_len (b.rs.getD i rec0)
      have htl : (b.rs.take i).length ≤ 1000 := by simp; omega
      generalize b.rs.getD i rec0 = r at hg hsn hle2
      simp [h1, hg, Rec.sv, Rec.cells, RB_154, hw]
      refine ⟨by omega, i + 1, by omega, by omega, ?_, by omega⟩
      rw [hsn]; simp [bs_append]
    · have h1 : ¬ (i : Int) < b.rs.length := by omega
      obtain rfl : i = b.rs.length := by omega
      simp [h1, layB, hH]
end Go.Proofs.Ytflcdbfcipkhkaa

set_option linter.unusedSimpArgs false
set_option linter.unusedVariables false
set_option maxHeartbeats 2000000
namespace Go.Proofs.Ytflcdbfcipkhkaa
open Go.Av

theorem hdL_in {b : Bat} (hI : b.ok) (hl : b.rs.length ≤ 1000) : ∀ n ∈ hdL b, I64 n := by
  intro n hn
  obtain ⟨i1, i2, i3, i4, i5⟩ := hI
  simp only [hdL, List.mem_cons, List.not_mem_nil, or_false] at hn
  rcases hn with rfl | rfl | rfl | rfl | rfl | rfl
  · exact i1
  · exact i2
  · exact i3
  · exact i4
  · exact i5
  · exact ⟨by omega, by omega⟩

theorem rlay_bat (b : Bat) (hI : b.ok) (hl : b.rs.length ≤ 1000) : Pure Try.prog 134 [b.sv] (.own 1 (bs (layB b))) := by
  refine pure_go RB_ok Try.func134 Try.ntmps134 comp134 cres134 (by decide) (by simp) ?_
  have hhd := hdL_in hI hl
  have hdl : (hdL b).length = 6 := rfl
  simp [ac134, ar134, Bat.sv, Bat.cells]
  have hA : [SV.int .i64 b.ba, .int .i64 b.ct, .int .i64 b.pr, .int .i64 b.ep, .int .i64 b.sq, .int .i64 b.rs.length] = (hdL b).map fun n => SV.int .i64 n := rfl
  refine awpR_loop (α := Nat) (fun i => i ≤ 6) (fun i => { n := 56, sl := [(1, .lptr 1 0), (3, .own 1 (bs (numsB ((hdL b).take i)))), (4, .sv (.sl 1 ((hdL b).map fun n => .int .i64 n))), (5, .sv (.int .i64 i))], bx := [(1, b.cells.map .sv)], hp := fun _ => none })
    (fun i => 6 - i) 0 (by omega) (by simp [numsB, bs, Bat.cells, hdL]) ?_
  intro i hi
  by_cases h : i < 6
  · have h1 : (i : Int) < 6 := by omega
    have hw : IntKind.i64.wrap ((i : Int) + 1) = ((i + 1 : Nat) : Int) := by rw [IntKind.wrap_i64]; omega
    have hlt : i < (hdL b).length := by rw [hdl]; exact h
    have hget : ((hdL b).map fun n => SV.int .i64 n)[i]?.getD .undef = .int .i64 ((hdL b).getD i 0) := by simp [List.getD_eq_getElem?_getD, hlt]
    have hin : I64 ((hdL b).getD i 0) := hhd _ (by simp only [List.getD_eq_getElem?_getD, List.getElem?_eq_getElem hlt, Option.getD_some]; exact List.getElem_mem hlt)
    have hsn : numsB ((hdL b).take (i + 1)) = numsB ((hdL b).take i) ++ layN (zig ((hdL b).getD i 0)) := by
      rw [List.take_succ_eq_append_getElem hlt, numsB_snoc]
      simp [List.getD_eq_getElem?_getD, hlt]
    have hle : (numsB ((hdL b).take i)).length ≤ 60 := by
      have := numsB_le (l := (hdL b).take i) (fun n hn => hhd n (List.mem_of_mem_take hn))
      simp at this; omega
    have hle2 := layN_le10 (zig_lt hin.1 hin.2)
    generalize hA : ((hdL b).map fun n => SV.int .i64 n) = A at hget ⊢
    have hAl : A.length = 6 := by rw [← hA]; simp [hdl]
    generalize (hdL b).getD i 0 = n at hget hin hsn hle2
    have h2 : i + 1 ≤ A.length := by omega
    have hiA : i < A.length := by omega
    have hget2 : A[i] = .int .i64 n := by rw [← hget, List.getElem?_eq_getElem hiA]; rfl
    simp [h1, hget, hget2, RB_82, hin, hw, hAl, h]
    refine ⟨by omega, i + 1, by omega, by omega, ?_⟩
    rw [hsn, bs_append]
    exact ⟨⟨rfl, by omega⟩, WkRs_refl _⟩
  · have h1 : ¬ (i : Int) < 6 := by omega
    obtain rfl : i = 6 := by omega
    have ht6 : (hdL b).take 6 = hdL b := rfl
    simp [Bat.cells, ht6, hdl]
    have hnl := numsB_le hhd
    rw [hdl] at hnl
    generalize hH : numsB (hdL b) = H at hnl ⊢
    refine awpR_loop (α := Nat) (fun i => i ≤ b.rs.length) (fun i => { n := 56, sl := [(1, .lptr 1 0), (3, .own 1 (bs (H ++ recsB (b.rs.take i)))), (6, .sv (.int .i64 i))], bx := [(1, b.cells.map .sv)], hp := fun _ => none })
      (fun i => b.rs.length - i) 0 (by omega) (by simp [recsB, Bat.cells]) ?_
    intro i hi
    by_cases h : i < b.rs.length
    · have h1 : (i : Int) < b.rs.length := by omega
      have hw : IntKind.i64.wrap ((i : Int) + 1) = ((i + 1 : Nat) : Int) := by rw [IntKind.wrap_i64]; omega
      have hg := RL_get b.rs h
      have hsn : recsB (b.rs.take (i + 1)) = recsB (b.rs.take i) ++ putR (b.rs.getD i rec0) := by
        rw [List.take_succ_eq_append_getElem h, recsB_snoc]
        simp [List.getD_eq_getElem?_getD, h]
      have hle := recsB_le (b.rs.take i)
      have hle2 := putR_len (b.rs.getD i rec0)
      have htl : (b.rs.take i).length ≤ 1000 := by simp; omega
      have hiA : i < (RL b.rs).length := by simpa using h
      have hg2 : (RL b.rs)[i] = (b.rs.getD i rec0).sv := by rw [← hg, List.getElem?_eq_getElem hiA]; rfl
      generalize b.rs.getD i rec0 = r at hg hg2 hsn hle2
      simp [Bat.cells, h1, hg, hg2, h, Rec.sv, Rec.cells, RB_155, hw]
      refine ⟨by omega, i + 1, by omega, by omega, ?_⟩
      rw [hsn]
      simp [bs_append, WkRs_refl]
    · have h1 : ¬ (i : Int) < b.rs.length := by omega
      obtain rfl : i = b.rs.length := by omega
      simp [Bat.cells, h1, layB, hH]

end Go.Proofs.Ytflcdbfcipkhkaa

set_option linter.unusedSimpArgs false
set_option linter.unusedVariables false
set_option maxHeartbeats 2000000
namespace Go.Proofs.Ytflcdbfcipkhkaa
open Go.Av

/-- What is wrong with records behind a delta. -/
def chkL (ct : Int) : Int → List Rec → Int
  | _, [] => 0
  | last, r :: l => if recE r ≠ 0 then recE r else if r.dl ≤ last ∨ ct ≤ r.dl then 16 else chkL ct r.dl l
def batE (b : Bat) : Int :=
  if batN b ≠ 0 then batN b else if chkL b.ct (-1) b.rs ≠ 0 then chkL b.ct (-1) b.rs else if 8192 < (layB b).length then 5 else 0
theorem chkL_drop (ct last : Int) (l : List Rec) (i : Nat) (h : i < l.length) : chkL ct last (l.drop i) = if recE (l.getD i rec0) ≠ 0 then recE (l.getD i rec0) else if (l.getD i rec0).dl ≤ last ∨ ct ≤ (l.getD i rec0).dl then 16 else chkL ct (l.getD i rec0).dl (l.drop (i + 1)) := by
  rw [List.drop_eq_getElem_cons h]
  simp [chkL, List.getD_eq_getElem?_getD, h]
theorem batN_len {b : Bat} (h : batN b = 0) : (b.rs.length : Int) ≤ 32 := by
  unfold batN at h
  split at h
  · cases h
  split at h
  · cases h
  split at h
  · cases h
  split at h
  · cases h
  omega
theorem layB_le (b : Bat) (hI : b.ok) (hl : b.rs.length ≤ 1000) : (layB b).length ≤ 60 + 1000 * b.rs.length := by
  have h1 := numsB_le (hdL_in hI hl)
  have h2 := recsB_le b.rs
  have h3 : (hdL b).length = 6 := rfl
  simp only [layB, List.length_append]
  omega

def RC : Orc := { p := fun f l => match f, l with
  | 125, [.agg [.int .i64 a, .int .i64 b, .int .i64 c, .int .i64 d, .int .i64 e, .sl 6 xs]] => some (xs = RL (unRL xs) ∧ Bat.ok ⟨a, b, c, d, e, unRL xs⟩ ∧ xs.length ≤ 1000, .own 1 (bs (layB ⟨a, b, c, d, e, unRL xs⟩)))
  | 134, [.agg [.int .i64 a, .int .i64 b, .int .i64 c, .int .i64 d, .int .i64 e, .sl 6 xs]] => some (xs = RL (unRL xs) ∧ Bat.ok ⟨a, b, c, d, e, unRL xs⟩ ∧ xs.length ≤ 1000, .own 1 (bs (layB ⟨a, b, c, d, e, unRL xs⟩)))
  | 123, [.agg [.int .i64 a, .int .i64 b, .int .i64 c, .int .i64 d, .int .i64 e, .sl 6 xs]] => some (xs = RL (unRL xs) ∧ I64 b, .sv (.int .i64 (batN ⟨a, b, c, d, e, unRL xs⟩)))
  | 124, [.agg [.int .i64 dl, .int .i64 tm, .bool kd, .str key, .bool dd, .str val]] => some (True, .sv (.int .i64 (recE ⟨dl, tm, kd, key, dd, val⟩)))
  | 140, [.agg [.int .i64 dl, .int .i64 tm, .bool kd, .str key, .bool dd, .str val]] => some (True, .sv (.int .i64 (recE ⟨dl, tm, kd, key, dd, val⟩)))
  | _, _ => none }
theorem RC_ok : RC.ok Try.prog := by
  refine ⟨fun f l c rv h hc => ?_, fun _ _ _ _ _ _ h => (by cases h), fun _ _ _ _ h => (by cases h), fun _ h => (by cases h), fun _ _ _ _ _ _ h => (by cases h), fun _ _ _ _ _ _ _ h => (by cases h)⟩
  simp only [RC] at h
  split at h <;> cases h
  · rename_i a b c d e xs
    obtain ⟨h1, h2, h3⟩ := hc
    have := lay_bat ⟨a, b, c, d, e, unRL xs⟩ h2 (by simpa [unRL] using h3)
    simp only [Bat.sv, Bat.cells, ← h1] at this
    exact this
  · rename_i a b c d e xs
    obtain ⟨h1, h2, h3⟩ := hc
    have := rlay_bat ⟨a, b, c, d, e, unRL xs⟩ h2 (by simpa [unRL] using h3)
    simp only [Bat.sv, Bat.cells, ← h1] at this
    exact this
  · rename_i a b c d e xs
    obtain ⟨h1, h2⟩ := hc
    have := numbers_pure ⟨a, b, c, d, e, unRL xs⟩ h2
    simp only [Bat.sv, Bat.cells, ← h1] at this
    exact this
  · exact check_pure ⟨_, _, _, _, _, _⟩
  · exact rcheck_pure ⟨_, _, _, _, _, _⟩
theorem RC_125 (b : Bat) : RC.p 125 [.agg [.int .i64 b.ba, .int .i64 b.ct, .int .i64 b.pr, .int .i64 b.ep, .int .i64 b.sq, .sl 6 (RL b.rs)]] = some (RL b.rs = RL b.rs ∧ b.ok ∧ (RL b.rs).length ≤ 1000, .own 1 (bs (layB b))) := by
  show some (RL b.rs = RL (unRL (RL b.rs)) ∧ Bat.ok ⟨b.ba, b.ct, b.pr, b.ep, b.sq, unRL (RL b.rs)⟩ ∧ (RL b.rs).length ≤ 1000, LV.own 1 (bs (layB ⟨b.ba, b.ct, b.pr, b.ep, b.sq, unRL (RL b.rs)⟩))) = _
  rw [unRL_RL]
theorem RC_134 (b : Bat) : RC.p 134 [.agg [.int .i64 b.ba, .int .i64 b.ct, .int .i64 b.pr, .int .i64 b.ep, .int .i64 b.sq, .sl 6 (RL b.rs)]] = some (RL b.rs = RL b.rs ∧ b.ok ∧ (RL b.rs).length ≤ 1000, .own 1 (bs (layB b))) := by
  show some (RL b.rs = RL (unRL (RL b.rs)) ∧ Bat.ok ⟨b.ba, b.ct, b.pr, b.ep, b.sq, unRL (RL b.rs)⟩ ∧ (RL b.rs).length ≤ 1000, LV.own 1 (bs (layB ⟨b.ba, b.ct, b.pr, b.ep, b.sq, unRL (RL b.rs)⟩))) = _
  rw [unRL_RL]
theorem RC_123 (b : Bat) : RC.p 123 [.agg [.int .i64 b.ba, .int .i64 b.ct, .int .i64 b.pr, .int .i64 b.ep, .int .i64 b.sq, .sl 6 (RL b.rs)]] = some (RL b.rs = RL b.rs ∧ I64 b.ct, .sv (.int .i64 (batN b))) := by
  show some (RL b.rs = RL (unRL (RL b.rs)) ∧ I64 b.ct, LV.sv (.int .i64 (batN ⟨b.ba, b.ct, b.pr, b.ep, b.sq, unRL (RL b.rs)⟩))) = _
  rw [unRL_RL]
theorem RC_124 (r : Rec) : RC.p 124 [.agg [.int .i64 r.dl, .int .i64 r.tm, .bool r.kd, .str r.key, .bool r.dd, .str r.val]] = some (True, .sv (.int .i64 (recE r))) := rfl
theorem RC_140 (r : Rec) : RC.p 140 [.agg [.int .i64 r.dl, .int .i64 r.tm, .bool r.kd, .str r.key, .bool r.dd, .str r.val]] = some (True, .sv (.int .i64 (recE r))) := rfl

theorem check_bat (b : Bat) (hI : b.ok) : Pure Try.prog 67 [b.sv] (.sv (.int .i64 (batE b))) := by
  refine pure_go RC_ok Try.func67 Try.ntmps67 comp67 cres67 (by decide) (by simp) ?_
  have hct := hI.2.1
  by_cases hN : batN b = 0
  case neg => simp [ac67, ar67, Bat.sv, Bat.cells, RC_123, hct, hN, batE]
  have hl := batN_len hN
  have hle : b.rs.length ≤ 1000 := by omega
  have hly := layB_le b hI (by omega)
  simp [ac67, ar67, Bat.sv, Bat.cells, RC_123, hct, hN]
  refine awpR_loop (α := Nat × Int) (fun x => x.1 ≤ b.rs.length ∧ chkL b.ct (-1) b.rs = chkL b.ct x.2 (b.rs.drop x.1)) (fun x => { n := 43, sl := [(1, .lptr 1 0), (4, .sv (.int .i64 x.2)), (14, .sv (.sl 6 (RL b.rs))), (15, .sv (.int .i64 b.rs.length)), (16, .sv (.int .i64 x.1))], bx := [(1, b.cells.map .sv)], hp := fun _ => none })
    (fun x => b.rs.length - x.1) (0, -1) ⟨by omega, rfl⟩ (by simp [Bat.cells]) ?_
  rintro ⟨i, last⟩ ⟨hi, he⟩
  simp only at hi he
  by_cases h : i < b.rs.length
  · have h1 : (i : Int) < b.rs.length := by omega
    have hw : IntKind.i64.wrap ((i : Int) + 1) = ((i + 1 : Nat) : Int) := by rw [IntKind.wrap_i64]; omega
    have hg := RL_get b.rs h
    have hiA : i < (RL b.rs).length := by simpa using h
    have hg2 : (RL b.rs)[i] = (b.rs.getD i rec0).sv := by rw [← hg, List.getElem?_eq_getElem hiA]; rfl
    rw [chkL_drop _ _ _ _ h] at he
    generalize b.rs.getD i rec0 = r at hg hg2 he
    by_cases h2 : recE r = 0
    case neg =>
      rw [if_pos h2] at he
      simp [Bat.cells, h1, hg, hg2, h, Rec.sv, Rec.cells, RC_124, hw, h2, batE, hN, he]
    rw [if_neg (fun q => q h2)] at he
    by_cases h3 : r.dl ≤ last
    · rw [if_pos (.inl h3)] at he
      simp [Bat.cells, h1, hg, hg2, h, Rec.sv, Rec.cells, RC_124, hw, h2, batE, hN, he, h3]
    by_cases h4 : b.ct ≤ r.dl
    · rw [if_pos (.inr h4)] at he
      simp [Bat.cells, h1, hg, hg2, h, Rec.sv, Rec.cells, RC_124, hw, h2, batE, hN, he, h3, h4]
    rw [if_neg (by omega)] at he
    simp [Bat.cells, h1, hg, hg2, h, Rec.sv, Rec.cells, RC_124, hw, h2, batE, hN, h3, h4]
    exact ⟨i + 1, r.dl, ⟨by omega, he⟩, by omega, rfl, by omega⟩
  · have h1 : ¬ (i : Int) < b.rs.length := by omega
    obtain rfl : i = b.rs.length := by omega
    rw [List.drop_length] at he
    simp only [chkL] at he
    by_cases h5 : 8192 < (layB b).length
    · have h6 : (8192 : Int) < (layB b).length := by omega
      simp [Bat.cells, h1, he, hN, batE, RC_125, hI, hle, h5, h6]
    · have h6 : ¬ (8192 : Int) < (layB b).length := by omega
      simp [Bat.cells, h1, he, hN, batE, RC_125, hI, hle, h5, h6]
theorem rcheck_bat (b : Bat) (hI : b.ok) : Pure Try.prog 107 [b.sv] (.sv (.int .i64 (batE b))) := by
  refine pure_go RC_ok Try.func107 Try.ntmps107 comp107 cres107 (by decide) (by simp) ?_
  by_cases hN : batN b = 0
  case neg =>
    have hE : batE b = batN b := if_pos hN
    rw [hE]
    obtain ⟨ba, ct, pr, ep, sq, rs⟩ := b
    have hct : I64 ct := hI.2.1
    unfold batN at hN ⊢
    simp only at hN ⊢
    by_cases h1 : ct < 1
    · simp [ac107, ar107, Bat.sv, Bat.cells, h1]
    by_cases h2 : 32 < ct
    · simp [ac107, ar107, Bat.sv, Bat.cells, h1, h2]
    have hw : IntKind.i64.wrap (4611686018427387903 - ct) = 4611686018427387903 - ct := by rw [IntKind.wrap_i64]; omega
    by_cases h3 : ba < 0
    · simp [ac107, ar107, Bat.sv, Bat.cells, h1, h2, h3]
    by_cases h4 : 4611686018427387903 - ct < ba
    · simp [ac107, ar107, Bat.sv, Bat.cells, h1, h2, h3, hw, h4]
    by_cases h5 : pr < 0
    · simp [ac107, ar107, Bat.sv, Bat.cells, h1, h2, h3, hw, h4, h5]
    by_cases h6 : 1099511627776 < pr
    · simp [ac107, ar107, Bat.sv, Bat.cells, h1, h2, h3, hw, h4, h5, h6]
    by_cases h7 : ep < 0
    · simp [ac107, ar107, Bat.sv, Bat.cells, h1, h2, h3, hw, h4, h5, h6, h7]
    by_cases h8 : 32767 < ep
    · simp [ac107, ar107, Bat.sv, Bat.cells, h1, h2, h3, hw, h4, h5, h6, h7, h8]
    by_cases h9 : sq < 0
    · simp [ac107, ar107, Bat.sv, Bat.cells, h1, h2, h3, hw, h4, h5, h6, h7, h8, h9]
    by_cases h10 : 2147483647 < sq
    · simp [ac107, ar107, Bat.sv, Bat.cells, h1, h2, h3, hw, h4, h5, h6, h7, h8, h9, h10]
    rw [if_neg (by omega), if_neg (by omega)] at hN ⊢
    by_cases h11 : pr = 0
    · by_cases h12 : ep = 0
      · by_cases h13 : sq = 0
        · rw [if_neg (by omega)] at hN ⊢
          have h14 : ct < rs.length := Classical.byContradiction fun q => hN (if_neg q)
          simp [ac107, ar107, Bat.sv, Bat.cells, h1, h2, h3, hw, h4, h5, h6, h7, h8, h9, h10, h11, h12, h13, h14]
        · simp [ac107, ar107, Bat.sv, Bat.cells, h1, h2, h3, hw, h4, h5, h6, h7, h8, h9, h10, h11, h12, h13]
      · simp [ac107, ar107, Bat.sv, Bat.cells, h1, h2, h3, hw, h4, h5, h6, h7, h8, h9, h10, h11, h12]
    · rw [if_neg (by omega)] at hN ⊢
      have h14 : ct < rs.length := Classical.byContradiction fun q => hN (if_neg q)
      simp [ac107, ar107, Bat.sv, Bat.cells, h1, h2, h3, hw, h4, h5, h6, h7, h8, h9, h10, h11, h14]
  have hl := batN_len hN
  have hle : b.rs.length ≤ 1000 := by omega
  have hly := layB_le b hI (by omega)
  have q := hN
  unfold batN at q
  have q1 : ¬ (b.ct < 1 ∨ 32 < b.ct ∨ b.ba < 0 ∨ 4611686018427387903 - b.ct < b.ba) := fun z => by rw [if_pos z] at q; cases q
  rw [if_neg q1] at q
  have q2 : ¬ (b.pr < 0 ∨ 1099511627776 < b.pr ∨ b.ep < 0 ∨ 32767 < b.ep ∨ b.sq < 0 ∨ 2147483647 < b.sq) := fun z => by rw [if_pos z] at q; cases q
  rw [if_neg q2] at q
  have q3 : ¬ (b.pr = 0 ∧ (b.ep ≠ 0 ∨ b.sq ≠ 0)) := fun z => by rw [if_pos z] at q; cases q
  rw [if_neg q3] at q
  have q4 : ¬ (b.ct < b.rs.length) := fun z => by rw [if_pos z] at q; cases q
  clear q
  have h1 : ¬ b.ct < 1 := by omega
  have h2 : ¬ 32 < b.ct := by omega
  have h3 : ¬ b.ba < 0 := by omega
  have h4 : ¬ 4611686018427387903 - b.ct < b.ba := by omega
  have h5 : ¬ b.pr < 0 := by omega
  have h6 : ¬ 1099511627776 < b.pr := by omega
  have h7 : ¬ b.ep < 0 := by omega
  have h8 : ¬ 32767 < b.ep := by omega
  have h9 : ¬ b.sq < 0 := by omega
  have h10 : ¬ 2147483647 < b.sq := by omega
  have hw0 : IntKind.i64.wrap (4611686018427387903 - b.ct) = 4611686018427387903 - b.ct := by rw [IntKind.wrap_i64]; omega
  by_cases h11 : b.pr = 0
  · have h12 : b.ep = 0 := Classical.byContradiction fun z => q3 ⟨h11, .inl z⟩
    have h13 : b.sq = 0 := Classical.byContradiction fun z => q3 ⟨h11, .inr z⟩
    simp [ac107, ar107, Bat.sv, Bat.cells, h1, h2, h3, hw0, h4, h5, h6, h7, h8, h9, h10, h11, h12, h13, q4]
    refine awpR_loop (α := Nat × Int) (fun x => x.1 ≤ b.rs.length ∧ chkL b.ct (-1) b.rs = chkL b.ct x.2 (b.rs.drop x.1)) (fun x => { n := 125, sl := [(1, .lptr 1 0), (3, .sv (.int .i64 x.2)), (4, .sv (.int .i64 x.1))], bx := [(1, b.cells.map .sv)], hp := fun _ => none })
      (fun x => b.rs.length - x.1) (0, -1) ⟨by omega, rfl⟩ (by simp [Bat.cells, h11, h12, h13]) ?_
    rintro ⟨i, last⟩ ⟨hi, he⟩
    simp only at hi he
    by_cases h : i < b.rs.length
    · have k1 : (i : Int) < b.rs.length := by omega
      have hw : IntKind.i64.wrap ((i : Int) + 1) = ((i + 1 : Nat) : Int) := by rw [IntKind.wrap_i64]; omega
      have hg := RL_get b.rs h
      have hiA : i < (RL b.rs).length := by simpa using h
      have hg2 : (RL b.rs)[i] = (b.rs.getD i rec0).sv := by rw [← hg, List.getElem?_eq_getElem hiA]; rfl
      rw [chkL_drop _ _ _ _ h] at he
      generalize b.rs.getD i rec0 = r at hg hg2 he
      by_cases k2 : recE r = 0
      case neg =>
        rw [if_pos k2] at he
        simp [Bat.cells, k1, hg, hg2, h, Rec.sv, Rec.cells, RC_140, hw, k2, batE, hN, he]
      rw [if_neg (fun q => q k2)] at he
      by_cases k3 : r.dl ≤ last
      · rw [if_pos (.inl k3)] at he
        simp [Bat.cells, k1, hg, hg2, h, Rec.sv, Rec.cells, RC_140, hw, k2, batE, hN, he, k3]
      by_cases k4 : b.ct ≤ r.dl
      · rw [if_pos (.inr k4)] at he
        simp [Bat.cells, k1, hg, hg2, h, Rec.sv, Rec.cells, RC_140, hw, k2, batE, hN, he, k3, k4]
      rw [if_neg (by omega)] at he
      simp [Bat.cells, k1, hg, hg2, h, Rec.sv, Rec.cells, RC_140, hw, k2, batE, hN, k3, k4, WkRs_refl]
      exact ⟨i + 1, r.dl, ⟨by omega, he⟩, by omega, rfl, by omega⟩
    · have k1 : ¬ (i : Int) < b.rs.length := by omega
      obtain rfl : i = b.rs.length := by omega
      rw [List.drop_length] at he
      simp only [chkL] at he
      by_cases k5 : 8192 < (layB b).length
      · have k6 : (8192 : Int) < (layB b).length := by omega
        simp [Bat.cells, k1, he, hN, batE, RC_134, hI, hle, k5, k6]
      · have k6 : ¬ (8192 : Int) < (layB b).length := by omega
        simp [Bat.cells, k1, he, hN, batE, RC_134, hI, hle, k5, k6]
  · simp [ac107, ar107, Bat.sv, Bat.cells, h1, h2, h3, hw0, h4, h5, h6, h7, h8, h9, h10, h11, q4]
    refine awpR_loop (α := Nat × Int) (fun x => x.1 ≤ b.rs.length ∧ chkL b.ct (-1) b.rs = chkL b.ct x.2 (b.rs.drop x.1)) (fun x => { n := 125, sl := [(1, .lptr 1 0), (3, .sv (.int .i64 x.2)), (4, .sv (.int .i64 x.1))], bx := [(1, b.cells.map .sv)], hp := fun _ => none })
      (fun x => b.rs.length - x.1) (0, -1) ⟨by omega, rfl⟩ (by simp [Bat.cells]) ?_
    rintro ⟨i, last⟩ ⟨hi, he⟩
    simp only at hi he
    by_cases h : i < b.rs.length
    · have k1 : (i : Int) < b.rs.length := by omega
      have hw : IntKind.i64.wrap ((i : Int) + 1) = ((i + 1 : Nat) : Int) := by rw [IntKind.wrap_i64]; omega
      have hg := RL_get b.rs h
      have hiA : i < (RL b.rs).length := by simpa using h
      have hg2 : (RL b.rs)[i] = (b.rs.getD i rec0).sv := by rw [← hg, List.getElem?_eq_getElem hiA]; rfl
      rw [chkL_drop _ _ _ _ h] at he
      generalize b.rs.getD i rec0 = r at hg hg2 he
      by_cases k2 : recE r = 0
      case neg =>
        rw [if_pos k2] at he
        simp [Bat.cells, k1, hg, hg2, h, Rec.sv, Rec.cells, RC_140, hw, k2, batE, hN, he]
      rw [if_neg (fun q => q k2)] at he
      by_cases k3 : r.dl ≤ last
      · rw [if_pos (.inl k3)] at he
        simp [Bat.cells, k1, hg, hg2, h, Rec.sv, Rec.cells, RC_140, hw, k2, batE, hN, he, k3]
      by_cases k4 : b.ct ≤ r.dl
      · rw [if_pos (.inr k4)] at he
        simp [Bat.cells, k1, hg, hg2, h, Rec.sv, Rec.cells, RC_140, hw, k2, batE, hN, he, k3, k4]
      rw [if_neg (by omega)] at he
      simp [Bat.cells, k1, hg, hg2, h, Rec.sv, Rec.cells, RC_140, hw, k2, batE, hN, k3, k4, WkRs_refl]
      exact ⟨i + 1, r.dl, ⟨by omega, he⟩, by omega, rfl, by omega⟩
    · have k1 : ¬ (i : Int) < b.rs.length := by omega
      obtain rfl : i = b.rs.length := by omega
      rw [List.drop_length] at he
      simp only [chkL] at he
      by_cases k5 : 8192 < (layB b).length
      · have k6 : (8192 : Int) < (layB b).length := by omega
        simp [Bat.cells, k1, he, hN, batE, RC_134, hI, hle, k5, k6]
      · have k6 : ¬ (8192 : Int) < (layB b).length := by omega
        simp [Bat.cells, k1, he, hN, batE, RC_134, hI, hle, k5, k6]
end Go.Proofs.Ytflcdbfcipkhkaa

set_option linter.unusedSimpArgs false
set_option linter.unusedVariables false
set_option maxHeartbeats 2000000
namespace Go.Proofs.Ytflcdbfcipkhkaa
open Go.Av

def recsS : List Rec → List Rec → Bool
  | [], [] => true
  | r :: a, s :: b => recS r s && recsS a b
  | _, _ => false
theorem recsS_iff : ∀ a b : List Rec, recsS a b = true ↔ a = b
  | [], [] => by simp [recsS]
  | r :: a, s :: b => by simp [recsS, recS_iff, recsS_iff a b]
  | [], _ :: _ => by simp [recsS]
  | _ :: _, [] => by simp [recsS]
theorem recsS_len {a b : List Rec} (h : a.length ≠ b.length) : recsS a b = false := by
  cases q : recsS a b with
  | false => rfl
  | true => exact absurd (congrArg List.length ((recsS_iff a b).1 q)) h
theorem recsS_drop (a b : List Rec) (i : Nat) (h : i < a.length) (h2 : i < b.length) : recsS (a.drop i) (b.drop i) = (recS (a.getD i rec0) (b.getD i rec0) && recsS (a.drop (i + 1)) (b.drop (i + 1))) := by
  rw [List.drop_eq_getElem_cons h, List.drop_eq_getElem_cons h2]
  simp [recsS, List.getD_eq_getElem?_getD, h, h2]

theorem eqR_pure (a b : List Rec) (hl : a.length < 4611686018427387904) : Pure Try.prog 127 [.sl 6 (RL a), .sl 6 (RL b)] (.sv (.bool (recsS a b))) := by
  refine pure_go R0_ok Try.func127 Try.ntmps127 comp127 cres127 (by decide) (by simp) ?_
  by_cases hab : a.length = b.length
  case neg =>
    have hab' : ¬ (a.length : Int) = b.length := by omega
    simp [ac127, ar127, hab, hab', recsS_len hab]
  simp [ac127, ar127, hab]
  refine awpR_loop (α := Nat) (fun i => i ≤ b.length ∧ recsS a b = recsS (a.drop i) (b.drop i)) (fun i => { n := 26, sl := [(0, .sv (.sl 6 (RL a))), (1, .sv (.sl 6 (RL b))), (12, .sv (.int .i64 b.length)), (13, .sv (.int .i64 i))], bx := [], hp := fun _ => none })
    (fun i => b.length - i) 0 ⟨by omega, rfl⟩ (by simp) ?_
  rintro i ⟨hi, he⟩
  by_cases h : i < b.length
  · have h1 : (i : Int) < b.length := by omega
    have hw : IntKind.i64.wrap ((i : Int) + 1) = ((i + 1 : Nat) : Int) := by rw [IntKind.wrap_i64]; omega
    have hg := RL_get b h
    have hia : i < a.length := by omega
    have hga := RL_get a hia
    have hA : i < (RL a).length := by simpa using hia
    have hB : i < (RL b).length := by simpa using h
    have hg2 : (RL b)[i] = (b.getD i rec0).sv := by rw [← hg, List.getElem?_eq_getElem hB]; rfl
    have hga2 : (RL a)[i] = (a.getD i rec0).sv := by rw [← hga, List.getElem?_eq_getElem hA]; rfl
    rw [recsS_drop a b i hia h] at he
    generalize a.getD i rec0 = r at hga hga2 he
    generalize b.getD i rec0 = s at hg hg2 he
    by_cases hrs : recS r s
    · rw [hrs, Bool.true_and] at he
      have hrs' := (recS_iff r s).1 hrs
      subst hrs'
      simp [h1, hg, hg2, hga, hga2, h, hia, Rec.sv, Rec.cells, hw]
      exact ⟨i + 1, ⟨by omega, he⟩, by omega, by omega⟩
    · have hrs2 : recS r s = false := by simpa using hrs
      rw [hrs2, Bool.false_and] at he
      simp only [recS] at hrs2
      simp [h1, hg, hg2, hga, hga2, h, hia, Rec.sv, Rec.cells, hw]
      exact ⟨fun _ => he, fun a1 a2 a3 a4 a5 a6 => by simp [a1, a2, a3, a4, a5, a6] at hrs2⟩
  · have h1 : ¬ (i : Int) < b.length := by omega
    obtain rfl : i = b.length := by omega
    rw [List.drop_length, ← hab, List.drop_length] at he
    simp [h1, he, recsS]

theorem sameAll_pure (a b : List Rec) (hl : a.length < 4611686018427387904) : Pure Try.prog 135 [.sl 6 (RL a), .sl 6 (RL b)] (.sv (.bool (recsS a b))) := by
  let R45 : Orc := { p := fun f l => match f, l with
    | 156, [.agg [.int .i64 dl, .int .i64 tm, .bool kd, .str key, .bool dd, .str val], .agg [.int .i64 dl', .int .i64 tm', .bool kd', .str key', .bool dd', .str val']] => some (True, .sv (.bool (recS ⟨dl, tm, kd, key, dd, val⟩ ⟨dl', tm', kd', key', dd', val'⟩)))
    | _, _ => none }
  have hR : R45.ok Try.prog := by
    refine ⟨fun f l c rv h hc => ?_, fun _ _ _ _ _ _ h => (by cases h), fun _ _ _ _ h => (by cases h), fun _ h => (by cases h), fun _ _ _ _ _ _ h => (by cases h), fun _ _ _ _ _ _ _ h => (by cases h)⟩
    simp only [R45] at h
    split at h <;> cases h
    exact rsame_pure ⟨_, _, _, _, _, _⟩ ⟨_, _, _, _, _, _⟩
  have hq : ∀ r s : Rec, R45.p 156 [.agg [.int .i64 r.dl, .int .i64 r.tm, .bool r.kd, .str r.key, .bool r.dd, .str r.val], .agg [.int .i64 s.dl, .int .i64 s.tm, .bool s.kd, .str s.key, .bool s.dd, .str s.val]] = some (True, .sv (.bool (recS r s))) := fun _ _ => rfl
  generalize R45 = R at hR hq
  refine pure_go hR Try.func135 Try.ntmps135 comp135 cres135 (by decide) (by simp) ?_
  by_cases hab : a.length = b.length
  case neg =>
    have hab' : ¬ (a.length : Int) = b.length := by omega
    simp [ac135, ar135, hab, hab', recsS_len hab]
  simp [ac135, ar135, hab]
  refine awpR_loop (α := Nat) (fun i => i ≤ b.length ∧ recsS a b = recsS (a.drop i) (b.drop i)) (fun i => { n := 27, sl := [(0, .sv (.sl 6 (RL a))), (1, .sv (.sl 6 (RL b))), (5, .sv (.int .i64 i))], bx := [], hp := fun _ => none })
    (fun i => b.length - i) 0 ⟨by omega, rfl⟩ (by simp) ?_
  rintro i ⟨hi, he⟩
  by_cases h : i < b.length
  · have h1 : (i : Int) < b.length := by omega
    have h1' : (i : Int) < a.length := by omega
    have hw : IntKind.i64.wrap ((i : Int) + 1) = ((i + 1 : Nat) : Int) := by rw [IntKind.wrap_i64]; omega
    have hg := RL_get b h
    have hia : i < a.length := by omega
    have hga := RL_get a hia
    have hA : i < (RL a).length := by simpa using hia
    have hB : i < (RL b).length := by simpa using h
    have hg2 : (RL b)[i] = (b.getD i rec0).sv := by rw [← hg, List.getElem?_eq_getElem hB]; rfl
    have hga2 : (RL a)[i] = (a.getD i rec0).sv := by rw [← hga, List.getElem?_eq_getElem hA]; rfl
    rw [recsS_drop a b i hia h] at he
    generalize a.getD i rec0 = r at hga hga2 he
    generalize b.getD i rec0 = s at hg hg2 he
    by_cases hrs : recS r s
    · rw [hrs, Bool.true_and] at he
      simp [h1, h1', hg, hg2, hga, hga2, h, hia, Rec.sv, Rec.cells, hw, hq, hrs]
      exact ⟨i + 1, ⟨by omega, he⟩, by omega, by omega⟩
    · have hrs2 : recS r s = false := by simpa using hrs
      rw [hrs2, Bool.false_and] at he
      simp [h1, h1', hg, hg2, hga, hga2, h, hia, Rec.sv, Rec.cells, hw, hq, hrs2, he]
  · have h1 : ¬ (i : Int) < b.length := by omega
    have h1' : ¬ (i : Int) < a.length := by omega
    obtain rfl : i = b.length := by omega
    rw [List.drop_length, ← hab, List.drop_length] at he
    simp [h1, h1', he, recsS]

theorem eqB_pure (a b : List Nat) (hl : a.length < 4611686018427387904) : Pure Try.prog 138 [.sl 1 (bs a), .sl 1 (bs b)] (.sv (.bool (decide (a = b)))) := by
  refine pure_go R0_ok Try.func138 Try.ntmps138 comp138 cres138 (by decide) (by simp) ?_
  by_cases hab : a.length = b.length
  case neg =>
    have hab' : ¬ (a.length : Int) = b.length := by omega
    have : a ≠ b := fun q => hab (by rw [q])
    simp [ac138, ar138, hab, hab', this]
  simp [ac138, ar138, hab]
  refine awpR_loop (α := Nat) (fun i => i ≤ b.length ∧ (a = b ↔ (a.drop i) = (b.drop i))) (fun i => { n := 26, sl := [(0, .sv (.sl 1 (bs a))), (1, .sv (.sl 1 (bs b))), (12, .sv (.int .i64 b.length)), (13, .sv (.int .i64 i))], bx := [], hp := fun _ => none })
    (fun i => b.length - i) 0 ⟨by omega, by simp⟩ (by simp) ?_
  rintro i ⟨hi, he⟩
  by_cases h : i < b.length
  · have h1 : (i : Int) < b.length := by omega
    have hw : IntKind.i64.wrap ((i : Int) + 1) = ((i + 1 : Nat) : Int) := by rw [IntKind.wrap_i64]; omega
    have hia : i < a.length := by omega
    have hA : i < (bs a).length := by simpa using hia
    have hB : i < (bs b).length := by simpa using h
    have hg2 : (bs b)[i] = .int .u8 b[i] := by simp [bs]
    have hga2 : (bs a)[i] = .int .u8 a[i] := by simp [bs]
    rw [List.drop_eq_getElem_cons h, List.drop_eq_getElem_cons hia, List.cons.injEq] at he
    generalize a[i] = r at hga2 he
    generalize b[i] = s at hg2 he
    by_cases hrs : r = s
    · subst hrs
      simp [h1, hg2, hga2, h, hia, hw]
      exact ⟨i + 1, ⟨by omega, by rw [he]; simp⟩, by omega, by omega⟩
    · have : a ≠ b := fun q => hrs (he.1 q).1
      have hrs' : ¬ (r : Int) = s := by omega
      simp [h1, hg2, hga2, h, hia, hw, hrs, hrs', this]
  · have h1 : ¬ (i : Int) < b.length := by omega
    obtain rfl : i = b.length := by omega
    rw [List.drop_length, ← hab, List.drop_length] at he
    simp [h1, he.2 rfl]
end Go.Proofs.Ytflcdbfcipkhkaa

set_option linter.unusedSimpArgs false
set_option linter.unusedVariables false
set_option maxHeartbeats 2000000
namespace Go.Proofs.Ytflcdbfcipkhkaa
open Go.Av

def RD : Orc := { p := fun f l => match f, l with
  | 67, [.agg [.int .i64 a, .int .i64 b, .int .i64 c, .int .i64 d, .int .i64 e, .sl 6 xs]] => some (xs = RL (unRL xs) ∧ Bat.ok ⟨a, b, c, d, e, unRL xs⟩, .sv (.int .i64 (batE ⟨a, b, c, d, e, unRL xs⟩)))
  | 107, [.agg [.int .i64 a, .int .i64 b, .int .i64 c, .int .i64 d, .int .i64 e, .sl 6 xs]] => some (xs = RL (unRL xs) ∧ Bat.ok ⟨a, b, c, d, e, unRL xs⟩, .sv (.int .i64 (batE ⟨a, b, c, d, e, unRL xs⟩)))
  | f, l => RC.p f l }
theorem RD_ok : RD.ok Try.prog := by
  refine ⟨fun f l c rv h hc => ?_, fun _ _ _ _ _ _ h => (by cases h), fun _ _ _ _ h => (by cases h), fun _ h => (by cases h), fun _ _ _ _ _ _ h => (by cases h), fun _ _ _ _ _ _ _ h => (by cases h)⟩
  simp only [RD] at h
  split at h
  · cases h
    rename_i a b c d e xs
    obtain ⟨h1, h2⟩ := hc
    have := check_bat ⟨a, b, c, d, e, unRL xs⟩ h2
    simp only [Bat.sv, Bat.cells, ← h1] at this
    exact this
  · cases h
    rename_i a b c d e xs
    obtain ⟨h1, h2⟩ := hc
    have := rcheck_bat ⟨a, b, c, d, e, unRL xs⟩ h2
    simp only [Bat.sv, Bat.cells, ← h1] at this
    exact this
  · exact RC_ok.p _ _ _ _ h hc
theorem RD_125 (b : Bat) : RD.p 125 [.agg [.int .i64 b.ba, .int .i64 b.ct, .int .i64 b.pr, .int .i64 b.ep, .int .i64 b.sq, .sl 6 (RL b.rs)]] = some (RL b.rs = RL b.rs ∧ b.ok ∧ (RL b.rs).length ≤ 1000, .own 1 (bs (layB b))) := RC_125 b
theorem RD_134 (b : Bat) : RD.p 134 [.agg [.int .i64 b.ba, .int .i64 b.ct, .int .i64 b.pr, .int .i64 b.ep, .int .i64 b.sq, .sl 6 (RL b.rs)]] = some (RL b.rs = RL b.rs ∧ b.ok ∧ (RL b.rs).length ≤ 1000, .own 1 (bs (layB b))) := RC_134 b
theorem RD_67 (b : Bat) : RD.p 67 [.agg [.int .i64 b.ba, .int .i64 b.ct, .int .i64 b.pr, .int .i64 b.ep, .int .i64 b.sq, .sl 6 (RL b.rs)]] = some (RL b.rs = RL b.rs ∧ b.ok, .sv (.int .i64 (batE b))) := by
  show some (RL b.rs = RL (unRL (RL b.rs)) ∧ Bat.ok ⟨b.ba, b.ct, b.pr, b.ep, b.sq, unRL (RL b.rs)⟩, LV.sv (.int .i64 (batE ⟨b.ba, b.ct, b.pr, b.ep, b.sq, unRL (RL b.rs)⟩))) = _
  rw [unRL_RL]
theorem RD_107 (b : Bat) : RD.p 107 [.agg [.int .i64 b.ba, .int .i64 b.ct, .int .i64 b.pr, .int .i64 b.ep, .int .i64 b.sq, .sl 6 (RL b.rs)]] = some (RL b.rs = RL b.rs ∧ b.ok, .sv (.int .i64 (batE b))) := by
  show some (RL b.rs = RL (unRL (RL b.rs)) ∧ Bat.ok ⟨b.ba, b.ct, b.pr, b.ep, b.sq, unRL (RL b.rs)⟩, LV.sv (.int .i64 (batE ⟨b.ba, b.ct, b.pr, b.ep, b.sq, unRL (RL b.rs)⟩))) = _
  rw [unRL_RL]
theorem batE_len {b : Bat} (h : batE b = 0) : b.rs.length ≤ 32 := by
  have : batN b = 0 := Classical.byContradiction fun q => by rw [batE, if_pos q] at h; exact q h
  have := batN_len this
  omega
theorem batE_lay {b : Bat} (h : batE b = 0) : (layB b).length ≤ 8192 := by
  unfold batE at h
  split at h
  · contradiction
  split at h
  · contradiction
  split at h
  · cases h
  omega
def putB (b : Bat) : List Nat := if batE b = 0 then layB b else []
theorem put_bat (b : Bat) (hI : b.ok) : Pure Try.prog 84 [b.sv] (.tup [.own 1 (bs (putB b)), .sv (.int .i64 (batE b))]) := by
  refine pure_go RD_ok Try.func84 Try.ntmps84 comp84 cres84 (by decide) (by simp) ?_
  by_cases hE : batE b = 0
  · have hl : b.rs.length ≤ 1000 := by have := batE_len hE; omega
    have hly := batE_lay hE
    simp [ac84, ar84, Bat.sv, Bat.cells, RD_67, RD_125, hI, hE, putB, hl]
  · simp [ac84, ar84, Bat.sv, Bat.cells, RD_67, hI, hE, putB, bs]
theorem rput_bat (b : Bat) (hI : b.ok) : Pure Try.prog 87 [b.sv] (.tup [.own 1 (bs (putB b)), .sv (.int .i64 (batE b))]) := by
  refine pure_go RD_ok Try.func87 Try.ntmps87 comp87 cres87 (by decide) (by simp) ?_
  by_cases hE : batE b = 0
  · have hl : b.rs.length ≤ 1000 := by have := batE_len hE; omega
    have hly := batE_lay hE
    simp [ac87, ar87, Bat.sv, Bat.cells, RD_107, RD_134, hI, hE, putB, hl]
  · simp [ac87, ar87, Bat.sv, Bat.cells, RD_107, hI, hE, putB, bs]

/-! ### reading -/
theorem i64_0 : I64 0 := ⟨by decide, by decide⟩
theorem rNum_in (l : List Nat) (e : Int) : I64 (rNum l e).1 := by
  unfold rNum
  split
  · unfold getN
    simp only
    split
    · split
      · exact zag_ge (Nat.mod_lt _ (Nat.succ_pos _))
      · exact i64_0
    · split
      · exact i64_0
      · exact i64_0
  · exact i64_0
theorem recG5_rest (f : Nat) (dl tm : Int) (l : List Nat) (e : Int) : (Bytes l → Bytes (recG5 f dl tm l e).2.2.1) ∧ (recG5 f dl tm l e).2.2.1.length ≤ l.length := by
  have k : ∀ c : Bool, (Bytes l → Bytes (if c = true then rText l e 64 else ([], l, e)).2.1) ∧ (if c = true then rText l e 64 else ([], l, e)).2.1.length ≤ l.length := by
    intro c
    cases c
    · exact ⟨fun h => h, Nat.le_refl _⟩
    · exact ⟨fun h => rText_bytes h _ _, rText_le _ _ _⟩
  unfold recG5
  have k1 := k (decide (f % 2 = 1))
  simp only [decide_eq_true_eq] at k1
  generalize (if f % 2 = 1 then rText l e 64 else ([], l, e)) = x at k1
  obtain ⟨k1, k2⟩ := k1
  have v : ∀ c : Bool, (Bytes x.2.1 → Bytes (if c = true then ([], x.2) else rText x.2.1 x.2.2 512).2.1) ∧ (if c = true then ([], x.2) else rText x.2.1 x.2.2 512).2.1.length ≤ x.2.1.length := by
    intro c
    cases c
    · exact ⟨fun h => rText_bytes h _ _, rText_le _ _ _⟩
    · exact ⟨fun h => h, Nat.le_refl _⟩
  have v1 := v (decide (f / 2 % 2 = 1))
  simp only [decide_eq_true_eq] at v1
  simp only
  generalize (if f / 2 % 2 = 1 then ([], x.2) else rText x.2.1 x.2.2 512) = y at v1
  obtain ⟨v1, v2⟩ := v1
  split
  · split <;> exact ⟨fun h => v1 (k1 h), Nat.le_trans v2 k2⟩
  · exact ⟨fun h => v1 (k1 h), Nat.le_trans v2 k2⟩
theorem recG_bytes {l : List Nat} (hl : Bytes l) (e : Int) : Bytes (recG l e).2.2.1 :=
  (recG5_rest _ _ _ _ _).1 (rNum_bytes (rNum_bytes (rFixed_bytes hl e 1) _) _)
theorem recG_le (l : List Nat) (e : Int) : (recG l e).2.2.1.length ≤ l.length :=
  Nat.le_trans (recG5_rest _ _ _ _ _).2 (Nat.le_trans (rNum_le _ _) (Nat.le_trans (rNum_le _ _) (rFixed_le l e 1)))
end Go.Proofs.Ytflcdbfcipkhkaa
