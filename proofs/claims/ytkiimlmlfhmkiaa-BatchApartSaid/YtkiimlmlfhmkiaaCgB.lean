import Derived.Test.YtkiimlmlfhmkiaaCrD
import Derived.Test.YtkiimlmlfhmkiaaCrA

set_option linter.unusedSimpArgs false
set_option linter.unusedVariables false
set_option maxHeartbeats 2000000
namespace Go.Proofs.Ytkiimlmlfhmkiaa
open Go.Av

def rd' (l : List Nat) (e : Int) : SV := .agg [.sl 1 (bs l), .int .i64 e]
def R23 : Orc := {
  p := fun f l => match f, l with
  | 97, [.sl 1 xs] => some (IsBs xs ∧ xs.length < 4611686018427387904, .tup [.sv (.int .i64 (getN (nsOf xs)).1), .sv (.int .i64 (getN (nsOf xs)).2.1), .sv (.int .i64 (getN (nsOf xs)).2.2)])
  | 104, [.sl 1 xs] => some (IsBs xs ∧ xs.length < 4611686018427387904, .sv (.int .u64 (unF (nsOf xs))))
  | _, _ => none }
theorem R23_ok : R23.ok Try.prog := by
  refine ⟨fun f l c rv h hc => ?_, fun _ _ _ _ _ _ h => (by cases h), fun _ _ _ _ h => (by cases h), fun _ h => (by cases h), fun _ _ _ _ _ _ h => (by cases h)⟩
  simp only [R23] at h
  split at h <;> cases h
  · exact R3_ok.p 97 _ _ _ rfl hc
  · exact R3_ok.p 104 _ _ _ rfl hc

theorem getN_err (l : List Nat) (h : (getN l).2.2 ≠ 0) : (getN l).1 = 0 ∧ (getN l).2.1 = 0 := by
  unfold getN at h ⊢
  simp only [] at h ⊢
  split at h
  · split at h
    · simp at h
    · rename_i h1 h2; rw [if_pos h1, if_neg h2]; simp
  · rename_i h1; rw [if_neg h1]; split <;> simp

theorem refnum (l : List Nat) (e : Int) (hl : Bytes l) (hn : l.length < 4611686018427387904) : Pure Try.prog 68 [rd' l e] (.tup [.sv (rd' (rNum l e).2.1 (rNum l e).2.2), .sv (.int .i64 (rNum l e).1)]) := by
  refine pure_go R23_ok Try.func68 Try.ntmps68 comp68 cres68 (by decide) (by simp) ?_
  have hk := getN_k l
  simp only [rd']
  by_cases h : e = 0
  · by_cases h2 : (getN l).2.2 = 0
    · simp [ac68, ar68, h, h2, R23, rNum, isBs_bs, hl, hn, hk, bs_drop]
      rw [List.take_of_length_le (by simp)]
    · obtain ⟨q1, q2⟩ := getN_err l h2
      simp [ac68, ar68, h, h2, q1, q2, R23, rNum, isBs_bs, hl, hn]
  · simp [ac68, ar68, h, R23, rNum]
theorem reffix (l : List Nat) (e w : Int) (hl : Bytes l) (hn : l.length < 4611686018427387904) : Pure Try.prog 96 [rd' l e, .int .i64 w] (.tup [.sv (rd' (rFixed l e w).2.1 (rFixed l e w).2.2), .sv (.int .u64 (rFixed l e w).1)]) := by
  refine pure_go R23_ok Try.func96 Try.ntmps96 comp96 cres96 (by decide) (by simp) ?_
  simp only [rd']
  have hw : (if 0 < if 8 < w then 8 else w then if 8 < w then 8 else w else 0) = (wid w : Int) := by unfold wid; (repeat' split) <;> omega
  have hun : unF [] = 0 := rfl
  by_cases h : e = 0
  · by_cases h2 : (l.length : Int) < wid w
    · have h2' : l.length < wid w := by omega
      simp [ac96, ar96, h, hw, h2, h2', R23, rFixed, rTake, hun]
    · have h2' : ¬ l.length < wid w := by omega
      simp [ac96, ar96, h, hw, h2, h2', R23, rFixed, rTake, bs_take, bs_drop, isBs_bs, hl.take]
      exact ⟨⟨by omega, by omega⟩, by rw [List.take_of_length_le (by simp)]⟩
  · simp [ac96, ar96, h, hw, R23, rFixed]
def R27 : Orc := {
  p := fun f l => match f, l with
  | 68, [.agg [.sl 1 xs, .int .i64 e]] => some (IsBs xs ∧ xs.length < 4611686018427387904, .tup [.sv (rd' (rNum (nsOf xs) e).2.1 (rNum (nsOf xs) e).2.2), .sv (.int .i64 (rNum (nsOf xs) e).1)])
  | _, _ => none }
theorem R27_ok : R27.ok Try.prog := by
  refine ⟨fun f l c rv h hc => ?_, fun _ _ _ _ _ _ h => (by cases h), fun _ _ _ _ h => (by cases h), fun _ h => (by cases h), fun _ _ _ _ _ _ h => (by cases h)⟩
  simp only [R27] at h
  split at h <;> cases h
  rename_i xs e
  obtain ⟨⟨e1, h1⟩, h2⟩ := hc
  have := refnum (nsOf xs) e h1 (by rw [e1] at h2; simpa using h2)
  rw [rd', ← e1] at this
  exact this
theorem reftext (l : List Nat) (e m : Int) (hl : Bytes l) (hn : l.length < 4611686018427387904) : Pure Try.prog 69 [rd' l e, .int .i64 m] (.tup [.sv (rd' (rText l e m).2.1 (rText l e m).2.2), .sv (.str (sOf (rText l e m).1))]) := by
  refine pure_go R27_ok Try.func69 Try.ntmps69 comp69 cres69 (by decide) (by simp) ?_
  have hb := rNum_bytes hl e
  have hln := rNum_le l e
  simp only [rd']
  unfold rText
  generalize hp : rNum l e = p at hb hln
  obtain ⟨n, l', e'⟩ := p
  simp only at hb hln
  have hm : (if 0 < m then m else 0) ≥ 0 := by split <;> omega
  generalize hmm : (if 0 < m then m else 0) = q at hm
  by_cases h : e' = 0
  · by_cases h1 : n < 0
    · simp [ac69, ar69, R27, hp, h, h1, isBs_bs, hl, hn, rd', sOf_nil]
    · by_cases h2 : q < n
      · simp [ac69, ar69, R27, hp, h, h1, h2, hmm, isBs_bs, hl, hn, rd', sOf_nil]
      · have h3 : 0 ≤ n := by omega
        by_cases h4 : (l'.length : Int) < n
        · simp [ac69, ar69, R27, hp, h, h1, h2, h3, h4, hmm, isBs_bs, hl, hn, rd', sOf_nil, rTake]
        · have h5 : n ≤ (l'.length : Int) := by omega
          simp [ac69, ar69, R27, hp, h, h1, h2, h3, h4, h5, hmm, isBs_bs, hl, hn, rd', rTake, bs_take, bs_drop, bs_str]
          exact ⟨fun x hx => bs_byte _ x hx, by rw [List.take_of_length_le (by simp)]⟩
  · simp [ac69, ar69, R27, hp, h, isBs_bs, hl, hn, rd', sOf_nil]
end Go.Proofs.Ytkiimlmlfhmkiaa
