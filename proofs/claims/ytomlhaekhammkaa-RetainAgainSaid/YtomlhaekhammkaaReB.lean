import Derived.Test.YtomlhaekhammkaaReT

set_option linter.unusedSimpArgs false
set_option linter.unusedVariables false
set_option maxHeartbeats 1000000
namespace Go.Proofs.Ytomlhaekhammkaa
open Go.Av

def I64 (n : Int) : Prop := -9223372036854775808 ≤ n ∧ n < 9223372036854775808
abbrev Rule := Int × Int
def ruV (r : Rule) : SV := .agg [.int .i64 r.1, .int .i64 r.2]
def old (s : Seg) (r : Rule) (now : Int) : Bool := decide (0 ≤ r.1) && (decide (0 ≤ s.2.2.1) && (decide (0 ≤ now) && decide (r.1 < now - min s.2.2.1 1099511627776)))

theorem old_pure (s : Seg) (r : Rule) (now : Int) (hn : I64 now) : Pure Try.prog 16 [sgV s, ruV r, .int .i64 now] (.sv (.bool (old s r now))) := by
  refine pure_go R0_ok Try.func16 Try.ntmps16 comp16 cres16 (by decide) (by simp) ?_
  simp [ac16, ar16, R0, sgV, ruV, old]
  simp only [Bool.and_assoc]
  by_cases h1 : 0 ≤ s.2.2.1
  · by_cases h2 : 0 ≤ now
    · have e : IntKind.i64.wrap (now - if 1099511627776 < s.2.2.1 then 1099511627776 else s.2.2.1) = now - min s.2.2.1 1099511627776 := by
        obtain ⟨n1, n2⟩ := hn
        rw [IntKind.wrap_i64]
        split <;> omega
      rw [e]
    · simp [h2]
  · simp [h1]

def SgL (l : List Seg) : List SV := l.map sgV
@[simp] theorem SgL_length (l : List Seg) : (SgL l).length = l.length := by simp [SgL]
theorem SgL_get (l : List Seg) {i : Nat} (h : i < l.length) : (SgL l)[i]?.getD .undef = sgV (l.getD i (0, 0, 0, 0)) := by simp [SgL, List.getD_eq_getElem?_getD, h]
theorem SgL_drop (l : List Seg) (i : Nat) : (SgL l).drop i = SgL (l.drop i) := by simp [SgL, List.map_drop]
theorem SgL_take (l : List Seg) (i : Nat) : (SgL l).take i = SgL (l.take i) := by simp [SgL, List.map_take]

theorem tot_app (l m : List Seg) : tot (l ++ m) = tot l + tot m := by
  induction l with
  | nil => simp [tot]
  | cons s r ih => simp only [List.cons_append, tot, ih]; omega
theorem tot_take (l : List Seg) {i : Nat} (h : i < l.length) : tot (l.take (i + 1)) = tot (l.take i) + blk (l.getD i (0, 0, 0, 0)).2.2.2 := by
  rw [List.take_succ_eq_append_getElem h, tot_app]
  simp [tot, List.getD_eq_getElem?_getD, h]
theorem tot_small {l : List Seg} (hl : l.length ≤ 1000) : 0 ≤ tot l ∧ tot l ≤ 1099511627776000 := by
  obtain ⟨h1, h2⟩ := tot_le l
  have : (l.length : Int) ≤ 1000 := by omega
  exact ⟨h1, by omega⟩

def R47 : Orc := { p := fun f l => match f, l with
  | 47, [.agg [.int .i64 a, .int .i64 b, .int .i64 c, .int .i64 d]] => some (True, .sv (.int .i64 (blk d)))
  | _, _ => none }
theorem R47_ok : R47.ok Try.prog := by
  refine ⟨fun f l c rv h hc => ?_, fun _ _ _ _ _ _ h => (by cases h), fun _ _ _ _ h => (by cases h), fun _ h => (by cases h)⟩
  simp only [R47] at h
  split at h <;> cases h
  rename_i a b c d
  exact f47_pure (a, b, c, d)
theorem R47_47 (a b c d : Int) : R47.p 47 [.agg [.int .i64 a, .int .i64 b, .int .i64 c, .int .i64 d]] = some (True, .sv (.int .i64 (blk d))) := rfl

theorem total_pure (l : List Seg) (hl : l.length ≤ 1000) : Pure Try.prog 17 [.sl 4 (SgL l)] (.sv (.int .i64 (tot l))) := by
  refine pure_go R47_ok Try.func17 Try.ntmps17 comp17 cres17 (by decide) (by simp) ?_
  simp [ac17, ar17]
  refine awpR_loop (α := Nat) (fun i => i ≤ l.length) (fun i => { n := 18, sl := [(3, .sv (.int .i64 (tot (l.take i)))), (6, .sv (.sl 4 (SgL l))), (7, .sv (.int .i64 l.length)), (8, .sv (.int .i64 i))], bx := [], hp := fun _ => none })
    (fun i => l.length - i) 0 (by omega) (by simp [tot]) ?_
  intro i hi
  by_cases h : i < l.length
  · have h1 : (i : Int) < l.length := by omega
    have hg := SgL_get l h
    have ht := tot_small (l := l.take i) (by simp; omega)
    have hb := blk_le (l.getD i (0, 0, 0, 0)).2.2.2
    have ht2 := tot_take l h
    generalize l.getD i (0, 0, 0, 0) = s at hg hb ht2
    simp [h1, hg, sgV, R47_47]
    refine ⟨i + 1, by omega, by omega, ?_, ?_⟩
    · rw [ht2, IntKind.wrap_i64]; omega
    · rw [IntKind.wrap_i64]; omega
  · have h1 : ¬ (i : Int) < l.length := by omega
    have h2 : (l.length : Int) ≤ i := by omega
    obtain rfl : i = l.length := by omega
    simp [h1, h2]

theorem as_pure (l : List Seg) (hl : l.length ≤ 1000) : Pure Try.prog 14 [.sl 4 (SgL l)] (.own 4 (SgL l)) := by
  refine pure_go R0_ok Try.func14 Try.ntmps14 comp14 cres14 (by decide) (by simp) ?_
  simp [ac14, ar14]
  refine awpR_loop (α := Nat) (fun i => i ≤ l.length) (fun i => { n := 19, sl := [(0, .sv (.sl 4 (SgL l))), (3, .own 4 (SgL (l.take i))), (4, .sv (.int .i64 i))], bx := [], hp := fun _ => none })
    (fun i => l.length - i) 0 (by omega) (by simp [SgL]) ?_
  intro i hi
  by_cases h : i < l.length
  · have h1 : (i : Int) < l.length := by omega
    have hg := SgL_get l h
    have e : SgL (l.take (i + 1)) = SgL (l.take i) ++ [sgV (l.getD i (0, 0, 0, 0))] := by
      rw [List.take_succ_eq_append_getElem h]
      simp only [SgL, List.map_append, List.map_cons, List.map_nil, List.getD_eq_getElem?_getD, List.getElem?_eq_getElem h, Option.getD_some]
    generalize l.getD i (0, 0, 0, 0) = s at hg e
    simp [h1, hg, sgV]
    refine ⟨by omega, i + 1, by omega, by omega, ?_, ?_⟩
    · rw [e]; simp [sgV]
    · rw [IntKind.wrap_i64]; omega
  · have h1 : ¬ (i : Int) < l.length := by omega
    obtain rfl : i = l.length := by omega
    simp [h1]

theorem start_pure (l : List Seg) (n : Int) : Pure Try.prog 45 [.sl 4 (SgL l), .int .i64 n] (.tup [.sv (.int .i64 (if 0 ≤ n ∧ n < l.length then (l.getD n.toNat (0, 0, 0, 0)).1 else 0)), .sv (.bool (decide (0 ≤ n ∧ n < l.length)))]) := by
  refine pure_go R0_ok Try.func45 Try.ntmps45 comp45 cres45 (by decide) (by simp) ?_
  by_cases h0 : 0 ≤ n
  · by_cases h1 : n < l.length
    · have hg := SgL_get l (i := n.toNat) (by omega)
      have hb : n.toNat < (SgL l).length := by simp; omega
      have hg2 : (SgL l)[n.toNat] = sgV (l.getD n.toNat (0, 0, 0, 0)) := by rw [← hg, List.getElem?_eq_getElem hb]; rfl
      generalize l.getD n.toNat (0, 0, 0, 0) = s at hg hg2
      have h2 : ¬ (l.length : Int) ≤ n := by omega
      have h3 : ¬ n < 0 := by omega
      simp [ac45, ar45, h0, h1, h2, h3, hg, hg2, sgV]
    · have h2 : (l.length : Int) ≤ n := by omega
      have h3 : ¬ n < 0 := by omega
      simp [ac45, ar45, h0, h1, h2, h3]
  · have h3 : n < 0 := by omega
    simp [ac45, ar45, h0, h3]
end Go.Proofs.Ytomlhaekhammkaa
