import Derived.Test.YtkiimlmlfhmkiaaCvN
import Derived.Test.YtkiimlmlfhmkiaaCvA

set_option linter.unusedSimpArgs false
set_option maxHeartbeats 1000000
namespace Go.Proofs.Ytkiimlmlfhmkiaa
open Go.Av

theorem acc10 {acc : List Nat} {v u : Nat} (hu : u < 18446744073709551616) (hacc : acc ++ layN v = layN u) : acc.length + 1 ≤ 10 := by
  have h1 := congrArg List.length hacc
  have h2 := layN_pos v
  have h3 := layN_le10 hu
  simp at h1
  omega

theorem lay_pure (u : Nat) (hu : u < 18446744073709551616) : Pure Try.prog 86 [.int .u64 u] (.own 1 (bs (layN u))) := by
  refine pure_go R0_ok Try.func86 Try.ntmps86 comp86 cres86 (by decide) (by simp) ?_
  simp [ac86, ar86]
  refine awpR_loop (α := Nat × List Nat) (fun p => p.1 < 18446744073709551616 ∧ p.2 ++ layN p.1 = layN u) (fun p => { n := 19, sl := [(0, .sv (.int .u64 p.1)), (3, .own 1 (bs p.2))], bx := [], hp := fun _ => none })
    (fun p => p.1) (u, []) (by simp [hu]) (by simp) ?_
  rintro ⟨v, acc⟩ ⟨hv, hacc⟩
  simp only at hv hacc
  have hlen := acc10 hu hacc
  by_cases h : v < 128
  · have h1 : ¬ (127 : Int) < v := by omega
    have h2 : (v : Int) ≤ 127 := by omega
    rw [layN_small h] at hacc
    simp [h1, h2, w8_nat, ← hacc, bs_append]
    refine ⟨by omega, ?_⟩
    rw [Int.emod_eq_of_lt (by omega) (by omega)]; rfl
  · have h1 : (127 : Int) < v := by omega
    have h2 : ¬ (v : Int) ≤ 127 := by omega
    rw [layN_big h] at hacc
    simp only [awpR_seq, awpR_reg, awpR_cond, awpR_block]
    simp [h1, h2, w8_or128]
    refine ⟨by omega, v / 128, acc ++ [v % 128 + 128], ⟨by omega, by simpa using hacc⟩, by omega, fdiv_nat v 128, by simp [bs_append]; rfl⟩

theorem rbytes_pure (u : Nat) (hu : u < 18446744073709551616) : Pure Try.prog 89 [.int .u64 u] (.own 1 (bs (layN u))) := by
  refine pure_go R0_ok Try.func89 Try.ntmps89 comp89 cres89 (by decide) (by simp) ?_
  simp [ac89, ar89]
  refine awpR_loop (α := Nat × List Nat) (fun p => p.1 < 18446744073709551616 ∧ p.2 ++ layN p.1 = layN u) (fun p => { n := 20, sl := [(0, .sv (.int .u64 p.1)), (3, .own 1 (bs p.2))], bx := [], hp := fun _ => none })
    (fun p => p.1) (u, []) (by simp [hu]) (by simp) ?_
  rintro ⟨v, acc⟩ ⟨hv, hacc⟩
  simp only at hv hacc
  have hlen := acc10 hu hacc
  by_cases h : v < 128
  · have h1 : ¬ (128 : Int) ≤ v := by omega
    have h2 : (v : Int) < 128 := by omega
    rw [layN_small h] at hacc
    simp [h1, h2, w8_nat, ← hacc, bs_append]
    refine ⟨by omega, ?_⟩
    rw [Int.emod_eq_of_lt (by omega) (by omega)]; rfl
  · have h1 : (128 : Int) ≤ v := by omega
    have h2 : ¬ (v : Int) < 128 := by omega
    rw [layN_big h] at hacc
    simp [h1, h2]
    refine ⟨by omega, v / 128, acc ++ [v % 128 + 128], ⟨by omega, by simpa using hacc⟩, by omega, by rw [IntKind.wrap_u64]; omega, ?_⟩
    have ht : (v : Int).tmod 128 = ((v % 128 : Nat) : Int) := tmod_nat v 128
    rw [ht, w8_nat, IntKind.wrap_u8, bs_append]
    congr 2
    simp [bs]; omega

theorem wide_pure (w : Int) : Pure Try.prog 94 [.int .i64 w] (.sv (.int .i64 (wid w))) := by
  refine pure_go R0_ok Try.func94 Try.ntmps94 comp94 cres94 (by decide) (by simp) ?_
  simp [ac94, ar94]
  unfold wid
  (repeat' split) <;> omega

theorem zigzag_pure (n : Int) (h0 : -9223372036854775808 ≤ n) (h1 : n < 9223372036854775808) : Pure Try.prog 87 [.int .i64 n] (.sv (.int .u64 (zig n))) := by
  refine pure_go R0_ok Try.func87 Try.ntmps87 comp87 cres87 (by decide) (by simp) ?_
  simp [ac87, ar87]
  exact zig_xor h0 h1
theorem rzigzag_pure (n : Int) (h0 : -9223372036854775808 ≤ n) (h1 : n < 9223372036854775808) : Pure Try.prog 90 [.int .i64 n] (.sv (.int .u64 (zig n))) := by
  refine pure_go R0_ok Try.func90 Try.ntmps90 comp90 cres90 (by decide) (by simp) ?_
  by_cases h : 0 ≤ n
  · simp [ac90, ar90, h, zig, IntKind.wrap_u64]
    omega
  · simp [ac90, ar90, h, zig, IntKind.wrap_u64, IntKind.wrap_i64]
    omega
theorem zagzig_pure (u : Nat) (hu : u < 18446744073709551616) : Pure Try.prog 103 [.int .u64 u] (.sv (.int .i64 (zag u))) := by
  refine pure_go R0_ok Try.func103 Try.ntmps103 comp103 cres103 (by decide) (by simp) ?_
  simp [ac103, ar103]
  exact zag_xor hu
theorem rzagzig_pure (u : Nat) (hu : u < 18446744073709551616) : Pure Try.prog 105 [.int .u64 u] (.sv (.int .i64 (zag u))) := by
  refine pure_go R0_ok Try.func105 Try.ntmps105 comp105 cres105 (by decide) (by simp) ?_
  by_cases h : (u : Int).tmod 2 = 0
  · simp [ac105, ar105, h, zag, IntKind.wrap_u64, IntKind.wrap_i64]
    rw [show (2 : Int) = ((2 : Nat) : Int) from rfl, tmod_nat] at h
    rw [if_pos (by omega)]; omega
  · simp [ac105, ar105, h, zag, IntKind.wrap_u64, IntKind.wrap_i64]
    rw [show (2 : Int) = ((2 : Nat) : Int) from rfl, tmod_nat] at h
    rw [if_neg (by omega)]; omega
end Go.Proofs.Ytkiimlmlfhmkiaa
