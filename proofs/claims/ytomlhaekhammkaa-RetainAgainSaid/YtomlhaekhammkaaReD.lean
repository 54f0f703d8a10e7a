import Derived.Test.YtomlhaekhammkaaReC

set_option linter.unusedSimpArgs false
set_option linter.unusedVariables false
set_option maxHeartbeats 2000000
namespace Go.Proofs.Ytomlhaekhammkaa
open Go.Av

def R13 : Orc := { p := fun f l => match f, l with
  | 13, [] => some (True, .sv (.bool true))
  | 14, [.sl 4 xs] => some (xs = SgL (unL xs) ∧ xs.length ≤ 1000, .own 4 (SgL (unL xs)))
  | 15, [.sl 4 xs, .agg [.int .i64 t, .int .i64 u], .int .i64 n] => some (xs = SgL (unL xs) ∧ xs.length ≤ 1000 ∧ I64 n, .sv (.int .i64 (dropN (t, u) n (unL xs))))
  | 16, [.agg [.int .i64 a, .int .i64 b, .int .i64 c, .int .i64 d], .agg [.int .i64 t, .int .i64 u], .int .i64 n] => some (I64 n, .sv (.bool (old (a, b, c, d) (t, u) n)))
  | 17, [.sl 4 xs] => some (xs = SgL (unL xs) ∧ xs.length ≤ 1000, .sv (.int .i64 (tot (unL xs))))
  | 45, [.sl 4 xs, .int .i64 n] => some (xs = SgL (unL xs), .tup [.sv (.int .i64 (if 0 ≤ n ∧ n < xs.length then ((unL xs).getD n.toNat (0, 0, 0, 0)).1 else 0)), .sv (.bool (decide (0 ≤ n ∧ n < xs.length)))])
  | _, _ => none }
def R12 : Orc := { p := fun f l => if f = 13 then none else R13.p f l }
theorem R12_ok : R12.ok Try.prog := by
  refine ⟨fun f l c rv h hc => ?_, fun _ _ _ _ _ _ h => (by cases h), fun _ _ _ _ h => (by cases h), fun _ h => (by cases h)⟩
  simp only [R12] at h
  split at h
  · cases h
  rename_i hf
  simp only [R13] at h
  split at h <;> cases h
  · exact absurd rfl hf
  · rename_i xs
    have := as_pure (unL xs) (by simpa [unL] using hc.2)
    rw [← hc.1] at this ⊢
    exact this
  · rename_i xs t u n
    have := drop_pure (unL xs) (by simpa [unL] using hc.2.1) (t, u) n hc.2.2
    rw [← hc.1] at this
    exact this
  · rename_i a b c d t u n
    exact old_pure (a, b, c, d) (t, u) n hc
  · rename_i xs
    have := total_pure (unL xs) (by simpa [unL] using hc.2)
    rw [← hc.1] at this
    exact this
  · rename_i xs n
    have := start_pure (unL xs) n
    rw [← hc] at this
    have hl : (unL xs).length = xs.length := by simp [unL]
    rw [hl] at this
    exact this

theorem awake_pure : Pure Try.prog 13 [] (.sv (.bool true)) := by
  refine pure_go R12_ok Try.func13 Try.ntmps13 comp13 cres13 (by decide) (by simp) ?_
  simp [ac13, ar13, R12, R13, unL, unS, SgL, sgV, dropN, goes, old, tot, blk, I64]
  decide

theorem R13_ok : R13.ok Try.prog := by
  refine ⟨fun f l c rv h hc => ?_, fun _ _ _ _ _ _ h => (by cases h), fun _ _ _ _ h => (by cases h), fun _ h => (by cases h)⟩
  by_cases hf : f = 13
  · subst hf
    simp only [R13] at h
    split at h
    · cases h; exact awake_pure
    all_goals first | (rename_i q; exact absurd q (by decide)) | cases h
  · exact R12_ok.p f l c rv (by simp only [R12]; rw [if_neg hf]; exact h) hc
end Go.Proofs.Ytomlhaekhammkaa
