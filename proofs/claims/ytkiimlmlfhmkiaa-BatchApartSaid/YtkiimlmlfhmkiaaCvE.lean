import Derived.Test.YtkiimlmlfhmkiaaCvD

set_option linter.unusedSimpArgs false
set_option linter.unusedVariables false
set_option maxHeartbeats 1000000
namespace Go.Proofs.Ytkiimlmlfhmkiaa
open Go.Av

def R2 : Orc := { p := fun f l => match f, l with
  | 103, [.int .u64 u] => some (U64 u, .sv (.int .i64 (zag u.toNat)))
  | 105, [.int .u64 u] => some (U64 u, .sv (.int .i64 (zag u.toNat)))
  | 86, [.int .u64 u] => some (U64 u, .own 1 (bs (layN u.toNat)))
  | 89, [.int .u64 u] => some (U64 u, .own 1 (bs (layN u.toNat)))
  | 65, [.sl 1 xs, .sl 1 ys] => some (IsBs xs ∧ IsBs ys, .sv (.bool (decide (nsOf xs = nsOf ys))))
  | _, _ => none }
theorem R2_ok : R2.ok Try.prog := by
  refine ⟨fun f l c rv h hc => ?_, fun _ _ _ _ _ _ h => (by cases h), fun _ _ _ _ h => (by cases h), fun _ h => (by cases h), fun _ _ _ _ _ _ h => (by cases h)⟩
  simp only [R2] at h
  split at h <;> cases h
  · exact R1_ok.p 103 _ _ _ rfl hc
  · exact R1_ok.p 105 _ _ _ rfl hc
  · exact R1_ok.p 86 _ _ _ rfl hc
  · exact R1_ok.p 89 _ _ _ rfl hc
  · obtain ⟨⟨e1, h1⟩, ⟨e2, h2⟩⟩ := hc
    have := equal_pure _ _ h1 h2
    rwa [← e1, ← e2] at this

@[simp] theorem R2_103 (u : Int) : R2.p 103 [.int .u64 u] = some (U64 u, .sv (.int .i64 (zag u.toNat))) := rfl
@[simp] theorem R2_105 (u : Int) : R2.p 105 [.int .u64 u] = some (U64 u, .sv (.int .i64 (zag u.toNat))) := rfl
@[simp] theorem R2_86 (u : Int) : R2.p 86 [.int .u64 u] = some (U64 u, .own 1 (bs (layN u.toNat))) := rfl
@[simp] theorem R2_89 (u : Int) : R2.p 89 [.int .u64 u] = some (U64 u, .own 1 (bs (layN u.toNat))) := rfl
@[simp] theorem R2_65 (xs ys : List SV) : R2.p 65 [.sl 1 xs, .sl 1 ys] = some (IsBs xs ∧ IsBs ys, .sv (.bool (decide (nsOf xs = nsOf ys)))) := rfl

theorem bs_take (l : List Nat) (n : Nat) : (bs l).take n = bs (l.take n) := by simp [bs]
theorem bs_drop (l : List Nat) (n : Nat) : (bs l).drop n = bs (l.drop n) := by simp [bs]

theorem get_pure (l : List Nat) (hl : Bytes l) (hn : l.length < 4611686018427387904) : Pure Try.prog 95 [.sl 1 (bs l)] (.tup [.sv (.int .i64 (getN l).1), .sv (.int .i64 (getN l).2.1), .sv (.int .i64 (getN l).2.2)]) := by
  refine pure_go R2_ok Try.func95 Try.ntmps95 comp95 cres95 (by decide) (by simp) ?_
  have e0 : (if (10 : Int) < l.length then 10 else (l.length : Int)) = ((min l.length 10 : Nat) : Int) := by split <;> omega
  generalize hM : min l.length 10 = M at e0
  simp [ac95, ar95, e0]
  refine awpR_loop (α := Nat) (fun i => i ≤ M ∧ ∀ j (h : j < l.length), j < i → 128 ≤ l[j]) (fun i => { n := 46, sl := [(0, .sv (.sl 1 (bs l))), (5, .sv (.int .u64 (valN (l.take i) % 18446744073709551616 : Nat))), (9, .sv (.int .i64 M)), (10, .sv (.int .i64 i))], bx := [], hp := fun _ => none })
    (fun i => M - i) 0 (by simp) ?_ ?_
  · simp [valN]
  rintro i ⟨hi, hb⟩
  by_cases hlt : i < M
  · have hil : i < l.length := by omega
    have e4 : IntKind.i64.wrap ((i : Int) + 1) = ((i + 1 : Nat) : Int) := by rw [wrap_i64_in (by omega) (by omega)]; omega
    have e7 : IntKind.i64.wrap (7 * (i : Int)) = ((7 * i : Nat) : Int) := by rw [wrap_i64_in (by omega) (by omega)]; omega
    have hb8 := hl.get hil
    have hv := u64_val_step l i hil (by omega)
    have a7 := w8_and127 l[i] hb8
    have a8 := w8_and128 l[i] hb8
    by_cases hc : l[i] < 128
    · have hg := getN_found hil (by omega) hb hc
      rw [if_pos hc] at a8
      generalize hV : valN (l.take (i + 1)) % 18446744073709551616 = V at hv hg
      have hVlt : V < 18446744073709551616 := by rw [← hV]; exact Nat.mod_lt _ (by decide)
      simp [hlt, e4, hil, e7, a7, a8, hv, bs_take, isBs_bs, layN_bytes, hl.take, -Int.natCast_add, -Int.natCast_mul, -Int.natCast_emod]
      refine ⟨⟨⟨by omega, by omega⟩, by omega⟩, fun q => ?_, fun q => ?_⟩
      · rw [if_neg q] at hg; simp [hg]
      · rw [if_pos q] at hg; simp [hg]; exact ⟨by omega, by omega⟩
    · rw [if_neg hc] at a8
      simp [hlt, e4, hil, e7, a7, a8, hv, -Int.natCast_add, -Int.natCast_mul, -Int.natCast_emod]
      refine ⟨i + 1, ⟨by omega, fun j h q => ?_⟩, by omega, rfl, rfl⟩
      by_cases e : j = i
      · subst e; omega
      · exact hb j h (by omega)
  · have : i = M := by omega
    subst this
    have hg := getN_none (l := l) (fun j h q => hb j h (by omega))
    simp
    refine ⟨fun q => ?_, fun q => ?_⟩
    · rw [if_pos (by omega)] at hg; simp [hg]
    · rw [if_neg (by omega)] at hg; simp [hg]
end Go.Proofs.Ytkiimlmlfhmkiaa
