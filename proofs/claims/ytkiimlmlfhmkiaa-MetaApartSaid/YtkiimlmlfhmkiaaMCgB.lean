import Derived.Test.YtkiimlmlfhmkiaaMCrD
import Derived.Test.YtkiimlmlfhmkiaaCrA

set_option linter.unusedVariables false
set_option linter.unusedSimpArgs false

set_option linter.unusedSimpArgs false
set_option linter.unusedVariables false
set_option maxHeartbeats 2000000
namespace Go.Proofs.Ytkiimlmlfhmkiaa
open Go.Av

def rd' (l : List Nat) (e : Int) : SV := .agg [.sl 1 (bs l), .int .i64 e]
def R23 : Orc := {
  p := fun f l => match f, l with
  | 97, [.sl 1 xs] => some (IsBs xs ∧ xs.length < 4611686018427387904, .tup [.sv (.int .i64 (getN (nsOf xs)).1), .sv (.int .i64 (getN (nsOf xs)).2.1), .sv (.int .i64 (getN (nsOf xs)).2.2)])
  | 104, [.sl 1 xs] => some (IsBs xs ∧ xs.length < 4611686018427387904, .sv (.int .u64 (unF (nsOf xs))))
  | _, _ => none }
theorem R23_ok : R23.ok Try.prog := by
  refine ⟨fun f l c rv h hc => ?_, fun _ _ _ _ _ _ h => (by cases h), fun _ _ _ _ h => (by cases h), fun _ h => (by cases h), fun _ _ _ _ _ _ h => (by cases h), fun _ _ _ _ _ _ _ h => (by cases h)⟩
  simp only [R23] at h
  split at h <;> cases h
  · exact R3_ok.p 97 _ _ _ rfl hc
  · exact R3_ok.p 104 _ _ _ rfl hc

theorem getN_err (l : List Nat) (h : (getN l).2.2 ≠ 0) : (getN l).1 = 0 ∧ (getN l).2.1 = 0 := by
  unfold getN at h ⊢
  simp only [] at h ⊢
  split at h
  · split at h
    · simp at h
    · rename_i h1 h2; rw [if_pos h1, if_neg h2]; simp
  · rename_i h1; rw [if_neg h1]; split <;> simp

theorem refnum (l : List Nat) (e : Int) (hl : Bytes l) (hn : l.length < 4611686018427387904) : Pure Try.prog 68 [rd' l e] (.tup [.sv (rd' (rNum l e).2.1 (rNum l e).2.2), .sv (.int .i64 (rNum l e).1)]) := by
  refine pure_go R23_ok Try.func68 Try.ntmps68 comp68 cres68 (by decide) (by simp) ?_
  have hk := getN_k l
  simp only [rd']
  by_cases h : e = 0
  · by_cases h2 : (getN l).2.2 = 0
    · simp [ac68, ar68, h, h2, R23, rNum, isBs_bs, hl, hn, hk, bs_drop]
      rw [List.take_of_length_le (by simp)]
    · obtain ⟨q1, q2⟩ := getN_err l h2
      simp [ac68, ar68, h, h2, q1, q2, R23, rNum, isBs_bs, hl, hn]
  · simp [ac68, ar68, h, R23, rNum]
theorem reffix (l : List Nat) (e w : Int) (hl : Bytes l) (hn : l.length < 4611686018427387904) : Pure Try.prog 96 [rd' l e, .int .i64 w] (.tup [.sv (rd' (rFixed l e w).2.1 (rFixed l e w).2.2), .sv (.int .u64 (rFixed l e w).1)]) := by
  refine pure_go R23_ok Try.func96 Try.ntmps96 comp96 cres96 (by decide) (by simp) ?_
  simp only [rd']
  have hw : (if 0 < if 8 < w then 8 else w then if 8 < w then 8 else w else 0) = (wid w : Int) := by unfold wid; (repeat' split) <;> omega
  have hun : unF [] = 0 := rfl
  by_cases h : e = 0
  · by_cases h2 : (l.length : Int) < wid w
    · have h2' : l.length < wid w := by omega
      simp [ac96, ar96, h, hw, h2, h2', R23, rFixed, rTake, hun]
    · have h2' : ¬ l.length < wid w := by omega
      simp [ac96, ar96, h, hw, h2, h2', R23, rFixed, rTake, bs_take, bs_drop, isBs_bs, hl.take]
      exact ⟨⟨by omega, by omega⟩, by rw [List.take_of_length_le (by simp)]⟩
  · simp [ac96, ar96, h, hw, R23, rFixed]
def R27 : Orc := {
  p := fun f l => match f, l with
  | 68, [.agg [.sl 1 xs, .int .i64 e]] => some (IsBs xs ∧ xs.length < 4611686018427387904, .tup [.sv (rd' (rNum (nsOf xs) e).2.1 (rNum (nsOf xs) e).2.2), .sv (.int .i64 (rNum (nsOf xs) e).1)])
  | _, _ => none }
theorem R27_ok : R27.ok Try.prog := by
  refine ⟨fun f l c rv h hc => ?_, fun _ _ _ _ _ _ h => (by cases h), fun _ _ _ _ h => (by cases h), fun _ h => (by cases h), fun _ _ _ _ _ _ h => (by cases h), fun _ _ _ _ _ _ _ h => (by cases h)⟩
  simp only [R27] at h
  split at h <;> cases h
  rename_i xs e
  obtain ⟨⟨e1, h1⟩, h2⟩ := hc
  have := refnum (nsOf xs) e h1 (by rw [e1] at h2; simpa using h2)
  rw [rd', ← e1] at this
  exact this
theorem reftext (l : List Nat) (e m : Int) (hl : Bytes l) (hn : l.length < 4611686018427387904) : Pure Try.prog 69 [rd' l e, .int .i64 m] (.tup [.sv (rd' (rText l e m).2.1 (rText l e m).2.2), .sv (.str (sOf (rText l e m).1))]) := by
  refine pure_go R27_ok Try.func69 Try.ntmps69 comp69 cres69 (by decide) (by simp) ?_
  have hb := rNum_bytes hl e
  have hln := rNum_le l e
  simp only [rd']
  unfold rText
  generalize hp : rNum l e = p at hb hln
  obtain ⟨n, l', e'⟩ := p
  simp only at hb hln
  have hm : (if 0 < m then m else 0) ≥ 0 := by split <;> omega
  generalize hmm : (if 0 < m then m else 0) = q at hm
  by_cases h : e' = 0
  · by_cases h1 : n < 0
    · simp [ac69, ar69, R27, hp, h, h1, isBs_bs, hl, hn, rd', sOf_nil]
    · by_cases h2 : q < n
      · simp [ac69, ar69, R27, hp, h, h1, h2, hmm, isBs_bs, hl, hn, rd', sOf_nil]
      · have h3 : 0 ≤ n := by omega
        by_cases h4 : (l'.length : Int) < n
        · simp [ac69, ar69, R27, hp, h, h1, h2, h3, h4, hmm, isBs_bs, hl, hn, rd', sOf_nil, rTake]
        · have h5 : n ≤ (l'.length : Int) := by omega
          simp [ac69, ar69, R27, hp, h, h1, h2, h3, h4, h5, hmm, isBs_bs, hl, hn, rd', rTake, bs_take, bs_drop, bs_str]
          exact ⟨fun x hx => bs_byte _ x hx, by rw [List.take_of_length_le (by simp)]⟩
  · simp [ac69, ar69, R27, hp, h, isBs_bs, hl, hn, rd', sOf_nil]
end Go.Proofs.Ytkiimlmlfhmkiaa

set_option linter.unusedSimpArgs false
set_option linter.unusedVariables false
set_option maxHeartbeats 40000000
namespace Go.Proofs.Ytkiimlmlfhmkiaa
open Go.Av

def RW : Orc := {
  p := fun f l => match f, l with
  | 68, [.agg [.sl 1 xs, .int .i64 e]] => some (IsBs xs ∧ xs.length < 4611686018427387904, .tup [.sv (rd' (rNum (nsOf xs) e).2.1 (rNum (nsOf xs) e).2.2), .sv (.int .i64 (rNum (nsOf xs) e).1)])
  | 96, [.agg [.sl 1 xs, .int .i64 e], .int .i64 w] => some (IsBs xs ∧ xs.length < 4611686018427387904, .tup [.sv (rd' (rFixed (nsOf xs) e w).2.1 (rFixed (nsOf xs) e w).2.2), .sv (.int .u64 (rFixed (nsOf xs) e w).1)])
  | 69, [.agg [.sl 1 xs, .int .i64 e], .int .i64 m] => some (IsBs xs ∧ xs.length < 4611686018427387904, .tup [.sv (rd' (rText (nsOf xs) e m).2.1 (rText (nsOf xs) e m).2.2), .sv (.str (sOf (rText (nsOf xs) e m).1))])
  | 80, [.agg [.int .i64 dl, .int .i64 tm, .bool kd, .str key, .bool dd, .str val]] => some (True, .sv (.int .i64 (recE ⟨dl, tm, kd, key, dd, val⟩)))
  | _, _ => none }
theorem RW_ok : RW.ok Try.prog := by
  refine ⟨fun f l c rv h hc => ?_, fun _ _ _ _ _ _ h => (by cases h), fun _ _ _ _ h => (by cases h), fun _ h => (by cases h), fun _ _ _ _ _ _ h => (by cases h), fun _ _ _ _ _ _ _ h => (by cases h)⟩
  simp only [RW] at h
  split at h <;> cases h
  · rename_i xs e
    obtain ⟨⟨e1, h1⟩, h2⟩ := hc
    have := refnum (nsOf xs) e h1 (by rw [e1] at h2; simpa using h2)
    rw [rd', ← e1] at this
    exact this
  · rename_i xs e w
    obtain ⟨⟨e1, h1⟩, h2⟩ := hc
    have := reffix (nsOf xs) e w h1 (by rw [e1] at h2; simpa using h2)
    rw [rd', ← e1] at this
    exact this
  · rename_i xs e m
    obtain ⟨⟨e1, h1⟩, h2⟩ := hc
    have := reftext (nsOf xs) e m h1 (by rw [e1] at h2; simpa using h2)
    rw [rd', ← e1] at this
    exact this
  · exact rcheck_pure ⟨_, _, _, _, _, _⟩

theorem refget (l : List Nat) (e : Int) (hl : Bytes l) (hn : l.length < 4611686018427387904) : Pure Try.prog 79 [rd' l e] (.tup [.sv (rd' (recG l e).2.2.1 (recG l e).2.2.2), .sv (recG l e).1.sv, .sv (.int .i64 (recG l e).2.1)]) := by
  refine pure_go RW_ok Try.func79 Try.ntmps79 comp79 cres79 (by decide) (by simp [rd']) ?_
  unfold recG
  simp only [rd']
  have f1 := rFixed1_lt l hl e
  have f2 := rFixed_bytes hl e 1
  have f3 := rFixed_le l e 1
  generalize h1 : rFixed l e 1 = p1 at f1 f2 f3 ⊢
  obtain ⟨f, l1, e1⟩ := p1
  simp only at f1 f2 f3 ⊢
  have d2 := rNum_bytes f2 e1
  have d3 := rNum_le l1 e1
  generalize h2 : rNum l1 e1 = p2 at d2 d3 ⊢
  obtain ⟨dl, l2, e2⟩ := p2
  simp only at d2 d3 ⊢
  have t2 := rNum_bytes d2 e2
  have t3 := rNum_le l2 e2
  generalize h3 : rNum l2 e2 = p3 at t2 t3 ⊢
  obtain ⟨tm, l3, e3⟩ := p3
  simp only at t2 t3 ⊢
  have k2 := rText_bytes t2 e3 64
  have k3 := rText_le l3 e3 64
  have n1 : l1.length < 4611686018427387904 := by omega
  have n2 : l2.length < 4611686018427387904 := by omega
  have n3 : l3.length < 4611686018427387904 := by omega
  generalize h4 : rText l3 e3 64 = p4 at k2 k3
  obtain ⟨key, l4, e4⟩ := p4
  simp only at k2 k3
  have n4 : l4.length < 4611686018427387904 := by omega
  have a1 : (f : Int).tmod 2 = ((f % 2 : Nat) : Int) := tmod_nat f 2
  have a2 : (IntKind.u64.wrap ((f : Int) / 2)).tmod 2 = ((f / 2 % 2 : Nat) : Int) := by
    have : IntKind.u64.wrap ((f : Int) / 2) = ((f / 2 : Nat) : Int) := by rw [IntKind.wrap_u64]; omega
    rw [this]; exact tmod_nat (f / 2) 2
  unfold recG5
  rw [h4]
  by_cases hk : f % 2 = 1
  · by_cases hd : f / 2 % 2 = 1
    · simp only [hk, hd, if_true, decide_true]
      by_cases he : e4 = 0
      · by_cases h4f : 4 ≤ f
        · have h4f' : (3 : Int) < f := by omega
          simp [ac79, ar79, RW, h1, h2, h3, h4, k2, n4, isBs_bs, hl, f2, d2, t2, hn, n1, n2, n3, a1, a2, rec0, Rec.sv, Rec.cells, sOf_nil, rd', hk, hd, he, h4f, h4f']
        · have h4f' : ¬ (3 : Int) < f := by omega
          by_cases hr : recE ⟨dl, tm, true, sOf key, true, ByteArray.mk #[]⟩ = 0
          · simp [ac79, ar79, RW, h1, h2, h3, h4, k2, n4, isBs_bs, hl, f2, d2, t2, hn, n1, n2, n3, a1, a2, rec0, Rec.sv, Rec.cells, sOf_nil, rd', hk, hd, he, h4f, h4f', hr]
          · simp [ac79, ar79, RW, h1, h2, h3, h4, k2, n4, isBs_bs, hl, f2, d2, t2, hn, n1, n2, n3, a1, a2, rec0, Rec.sv, Rec.cells, sOf_nil, rd', hk, hd, he, h4f, h4f', hr]
      · simp [ac79, ar79, RW, h1, h2, h3, h4, k2, n4, isBs_bs, hl, f2, d2, t2, hn, n1, n2, n3, a1, a2, rec0, Rec.sv, Rec.cells, sOf_nil, rd', hk, hd, he]
    · have hd' : f / 2 % 2 = 0 := by omega
      have v2 := rText_bytes k2 e4 512
      have v3 := rText_le l4 e4 512
      simp only [hk, hd, if_true, if_false, decide_true]
      generalize h5 : rText l4 e4 512 = p5 at v2 v3 ⊢
      obtain ⟨val, l5, e5⟩ := p5
      simp only at v2 v3 ⊢
      have n5 : l5.length < 4611686018427387904 := by omega
      by_cases he : e5 = 0
      · by_cases h4f : 4 ≤ f
        · have h4f' : (3 : Int) < f := by omega
          simp [ac79, ar79, RW, h1, h2, h3, h4, k2, n4, h5, v2, n5, hd', isBs_bs, hl, f2, d2, t2, hn, n1, n2, n3, a1, a2, rec0, Rec.sv, Rec.cells, sOf_nil, rd', hk, hd, he, h4f, h4f']
        · have h4f' : ¬ (3 : Int) < f := by omega
          by_cases hr : recE ⟨dl, tm, true, sOf key, false, sOf val⟩ = 0
          · simp [ac79, ar79, RW, h1, h2, h3, h4, k2, n4, h5, v2, n5, hd', isBs_bs, hl, f2, d2, t2, hn, n1, n2, n3, a1, a2, rec0, Rec.sv, Rec.cells, sOf_nil, rd', hk, hd, he, h4f, h4f', hr]
          · simp [ac79, ar79, RW, h1, h2, h3, h4, k2, n4, h5, v2, n5, hd', isBs_bs, hl, f2, d2, t2, hn, n1, n2, n3, a1, a2, rec0, Rec.sv, Rec.cells, sOf_nil, rd', hk, hd, he, h4f, h4f', hr]
      · simp [ac79, ar79, RW, h1, h2, h3, h4, k2, n4, h5, v2, n5, hd', isBs_bs, hl, f2, d2, t2, hn, n1, n2, n3, a1, a2, rec0, Rec.sv, Rec.cells, sOf_nil, rd', hk, hd, he]
  · have hk' : f % 2 = 0 := by omega
    by_cases hd : f / 2 % 2 = 1
    · simp only [hk, hd, if_true, if_false, decide_true]
      by_cases he : e3 = 0
      · by_cases h4f : 4 ≤ f
        · have h4f' : (3 : Int) < f := by omega
          simp [ac79, ar79, RW, h1, h2, h3, hk', isBs_bs, hl, f2, d2, t2, hn, n1, n2, n3, a1, a2, rec0, Rec.sv, Rec.cells, sOf_nil, rd', hk, hd, he, h4f, h4f']
        · have h4f' : ¬ (3 : Int) < f := by omega
          by_cases hr : recE ⟨dl, tm, false, ByteArray.mk #[], true, ByteArray.mk #[]⟩ = 0
          · simp [ac79, ar79, RW, h1, h2, h3, hk', isBs_bs, hl, f2, d2, t2, hn, n1, n2, n3, a1, a2, rec0, Rec.sv, Rec.cells, sOf_nil, rd', hk, hd, he, h4f, h4f', hr]
          · simp [ac79, ar79, RW, h1, h2, h3, hk', isBs_bs, hl, f2, d2, t2, hn, n1, n2, n3, a1, a2, rec0, Rec.sv, Rec.cells, sOf_nil, rd', hk, hd, he, h4f, h4f', hr]
      · simp [ac79, ar79, RW, h1, h2, h3, hk', isBs_bs, hl, f2, d2, t2, hn, n1, n2, n3, a1, a2, rec0, Rec.sv, Rec.cells, sOf_nil, rd', hk, hd, he]
    · have hd' : f / 2 % 2 = 0 := by omega
      have v2 := rText_bytes t2 e3 512
      have v3 := rText_le l3 e3 512
      simp only [hk, hd, if_true, if_false, decide_true]
      generalize h5 : rText l3 e3 512 = p5 at v2 v3 ⊢
      obtain ⟨val, l5, e5⟩ := p5
      simp only at v2 v3 ⊢
      have n5 : l5.length < 4611686018427387904 := by omega
      by_cases he : e5 = 0
      · by_cases h4f : 4 ≤ f
        · have h4f' : (3 : Int) < f := by omega
          simp [ac79, ar79, RW, h1, h2, h3, h5, v2, n5, hk', hd', isBs_bs, hl, f2, d2, t2, hn, n1, n2, n3, a1, a2, rec0, Rec.sv, Rec.cells, sOf_nil, rd', hk, hd, he, h4f, h4f']
        · have h4f' : ¬ (3 : Int) < f := by omega
          by_cases hr : recE ⟨dl, tm, false, ByteArray.mk #[], false, sOf val⟩ = 0
          · simp [ac79, ar79, RW, h1, h2, h3, h5, v2, n5, hk', hd', isBs_bs, hl, f2, d2, t2, hn, n1, n2, n3, a1, a2, rec0, Rec.sv, Rec.cells, sOf_nil, rd', hk, hd, he, h4f, h4f', hr]
          · simp [ac79, ar79, RW, h1, h2, h3, h5, v2, n5, hk', hd', isBs_bs, hl, f2, d2, t2, hn, n1, n2, n3, a1, a2, rec0, Rec.sv, Rec.cells, sOf_nil, rd', hk, hd, he, h4f, h4f', hr]
      · simp [ac79, ar79, RW, h1, h2, h3, h5, v2, n5, hk', hd', isBs_bs, hl, f2, d2, t2, hn, n1, n2, n3, a1, a2, rec0, Rec.sv, Rec.cells, sOf_nil, rd', hk, hd, he]
end Go.Proofs.Ytkiimlmlfhmkiaa
