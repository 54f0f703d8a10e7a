import Derived.Test.YtomlhaekhammkaaReB

set_option linter.unusedSimpArgs false
set_option linter.unusedVariables false
set_option maxHeartbeats 1000000
namespace Go.Proofs.Ytomlhaekhammkaa
open Go.Av

def unS : SV → Seg
  | .agg [.int _ a, .int _ b, .int _ c, .int _ d] => (a, b, c, d)
  | _ => (0, 0, 0, 0)
def unL (xs : List SV) : List Seg := xs.map unS
@[simp] theorem unL_SgL (l : List Seg) : unL (SgL l) = l := by simp [unL, SgL, Function.comp_def, unS, sgV]

/-- Does the first one of these go? -/
def goes (r : Rule) (now : Int) (s : Seg) (t : Int) : Bool := old s r now || (decide (0 ≤ r.2) && decide (r.2 < t))
/-- How many go. -/
def dropN (r : Rule) (now : Int) : List Seg → Nat
  | [] => 0
  | s :: t => if t = [] then 0 else if goes r now s (tot (s :: t)) then 1 + dropN r now t else 0

def R15 : Orc := { p := fun f l => match f, l with
  | 46, [.sl 4 xs] => some (xs = SgL (unL xs) ∧ xs.length ≤ 1000, .sv (.sl 1 (sufs (unL xs))))
  | 16, [.agg [.int .i64 a, .int .i64 b, .int .i64 c, .int .i64 d], .agg [.int .i64 t, .int .i64 u], .int .i64 n] => some (I64 n, .sv (.bool (old (a, b, c, d) (t, u) n)))
  | _, _ => none }
theorem R15_ok : R15.ok Try.prog := by
  refine ⟨fun f l c rv h hc => ?_, fun _ _ _ _ _ _ h => (by cases h), fun _ _ _ _ h => (by cases h), fun _ h => (by cases h)⟩
  simp only [R15] at h
  split at h <;> cases h
  · rename_i xs
    have := f46_pure (unL xs) (by simpa [unL] using hc.2)
    have e : (unL xs).map sgV = xs := hc.1.symm
    rw [e] at this
    exact this
  · rename_i a b c d t u n
    exact old_pure (a, b, c, d) (t, u) n hc
theorem R15_46 (l : List Seg) : R15.p 46 [.sl 4 (SgL l)] = some (SgL l = SgL l ∧ l.length ≤ 1000, .sv (.sl 1 (sufs l))) := by
  show some (SgL l = SgL (unL (SgL l)) ∧ (SgL l).length ≤ 1000, LV.sv (.sl 1 (sufs (unL (SgL l))))) = _
  rw [unL_SgL, SgL_length]
theorem R15_16 (a b c d t u n : Int) : R15.p 16 [.agg [.int .i64 a, .int .i64 b, .int .i64 c, .int .i64 d], .agg [.int .i64 t, .int .i64 u], .int .i64 n] = some (I64 n, .sv (.bool (old (a, b, c, d) (t, u) n))) := rfl
@[simp] theorem sufs_length (l : List Seg) : (sufs l).length = l.length := by simp [sufs]
theorem sufs_get (l : List Seg) {i : Nat} (h : i < l.length) : (sufs l)[i]?.getD .undef = .int .i64 (tot (l.drop i)) := by simp [sufs, h]

theorem drop_pure (l : List Seg) (hl : l.length ≤ 1000) (r : Rule) (now : Int) (hn : I64 now) : Pure Try.prog 15 [.sl 4 (SgL l), ruV r, .int .i64 now] (.sv (.int .i64 (dropN r now l))) := by
  refine pure_go R15_ok Try.func15 Try.ntmps15 comp15 cres15 (by decide) (by simp) ?_
  simp [ac15, ar15, ruV, R15_46, hl]
  refine awpR_loop (α := Nat) (fun i => (i < l.length ∨ (l = [] ∧ i = 0)) ∧ dropN r now l = i + dropN r now (l.drop i))
    (fun i => { n := 50, sl := [(0, .sv (.sl 4 (SgL l))), (2, .sv (.int .i64 now)), (4, .lptr 4 0), (7, .sv (.sl 1 (sufs l))), (13, .sv (.sl 4 (SgL l))), (14, .sv (.int .i64 l.length)), (15, .sv (.int .i64 i))], bx := [(4, [.sv (.int .i64 r.1), .sv (.int .i64 r.2)])], hp := fun _ => none })
    (fun i => l.length - i) 0 (by cases l <;> simp) (by simp) ?_
  rintro i ⟨hi, hd⟩
  by_cases h : i < l.length
  · have h1 : (i : Int) < l.length := by omega
    have hg := SgL_get l h
    have hs := sufs_get l h
    have hc : l.drop i = l.getD i (0, 0, 0, 0) :: l.drop (i + 1) := by rw [List.drop_eq_getElem_cons h]; simp [List.getD_eq_getElem?_getD, h]
    have he : l.drop (i + 1) = [] ↔ i + 1 = l.length := by rw [List.drop_eq_nil_iff]; omega
    have hw : IntKind.i64.wrap ((i : Int) + 1) = ((i + 1 : Nat) : Int) := by rw [IntKind.wrap_i64]; omega
    rw [hc] at hd
    simp only [dropN] at hd
    rw [← hc] at hd
    generalize l.getD i (0, 0, 0, 0) = s at hg hd
    generalize tot (l.drop i) = t at hs hd
    simp [h1, hg, hs, sgV, R15_16, hn, hw]
    refine ⟨fun q => ⟨q, fun o => ⟨q, o⟩⟩, fun q => ?_, fun q1 q2 => ⟨i + 1, ⟨.inl (by omega), ?_⟩, by omega, by omega⟩⟩
    · rw [hd]
      by_cases q3 : i + 1 = l.length
      · rw [if_pos (he.2 q3)]; simp
      · have hgo : goes r now s t = false := by
          rcases q with q | ⟨q4, q5⟩
          · omega
          · simp only [goes, Bool.or_eq_false_iff]
            refine ⟨q4, ?_⟩
            rcases q5 with q5 | q5
            · simp [show ¬ 0 ≤ r.2 by omega]
            · simp [show ¬ r.2 < t by omega]
        rw [if_neg (fun e => q3 (he.1 e)), hgo]; simp
    · have hgo : goes r now s t = true := by
        simp only [goes, Bool.or_eq_true]
        cases q4 : old s r now with
        | true => exact .inl rfl
        | false => exact .inr (by simpa using q2 q4)
      rw [if_neg (fun e => by have := he.1 e; omega), if_pos hgo] at hd
      omega
  · have h1 : ¬ (i : Int) < l.length := by omega
    have hl0 : l = [] := by rcases hi with q | q; omega; exact q.1
    subst hl0
    simp at h1 ⊢
    simp [show ¬ (i : Int) < 0 by omega, dropN]
end Go.Proofs.Ytomlhaekhammkaa
