import Derived.Test.YtabidcdfmkkegaaBvN
import Derived.Test.YtabidcdfmkkegaaBvA

set_option linter.unusedSimpArgs false
set_option maxHeartbeats 1000000
namespace Go.Proofs.Ytabidcdfmkkegaa
open Go.Av

theorem acc10 {acc : List Nat} {v u : Nat} (hu : u < 18446744073709551616) (hacc : acc ++ layN v = layN u) : acc.length + 1 ≤ 10 := by
  have h1 := congrArg List.length hacc
  have h2 := layN_pos v
  have h3 := layN_le10 hu
  simp at h1
  omega

theorem lay_pure (u : Nat) (hu : u < 18446744073709551616) : Pure Try.prog 49 [.int .u64 u] (.own 1 (bs (layN u))) := by
  refine pure_go R0_ok Try.func49 Try.ntmps49 comp49 cres49 (by decide) (by simp) ?_
  simp [ac49, ar49]
  refine awpR_loop (α := Nat × List Nat) (fun p => p.1 < 18446744073709551616 ∧ p.2 ++ layN p.1 = layN u) (fun p => { n := 19, sl := [(0, .sv (.int .u64 p.1)), (3, .own 1 (bs p.2))], bx := [], hp := fun _ => none })
    (fun p => p.1) (u, []) (by simp [hu]) (by simp) ?_
  rintro ⟨v, acc⟩ ⟨hv, hacc⟩
  simp only at hv hacc
  have hlen := acc10 hu hacc
  by_cases h : v < 128
  · have h1 : ¬ (127 : Int) < v := by omega
    have h2 : (v : Int) ≤ 127 := by omega
    rw [layN_small h] at hacc
    simp [h1, h2, w8_nat, ← hacc, bs_append]
    refine ⟨by omega, ?_⟩
    rw [Int.emod_eq_of_lt (by omega) (by omega)]; rfl
  · have h1 : (127 : Int) < v := by omega
    have h2 : ¬ (v : Int) ≤ 127 := by omega
    rw [layN_big h] at hacc
    simp only [awpR_seq, awpR_reg, awpR_cond, awpR_block]
    simp [h1, h2, w8_or128]
    refine ⟨by omega, v / 128, acc ++ [v % 128 + 128], ⟨by omega, by simpa using hacc⟩, by omega, fdiv_nat v 128, by simp [bs_append]; rfl⟩

theorem rbytes_pure (u : Nat) (hu : u < 18446744073709551616) : Pure Try.prog 50 [.int .u64 u] (.own 1 (bs (layN u))) := by
  refine pure_go R0_ok Try.func50 Try.ntmps50 comp50 cres50 (by decide) (by simp) ?_
  simp [ac50, ar50]
  refine awpR_loop (α := Nat × List Nat) (fun p => p.1 < 18446744073709551616 ∧ p.2 ++ layN p.1 = layN u) (fun p => { n := 20, sl := [(0, .sv (.int .u64 p.1)), (3, .own 1 (bs p.2))], bx := [], hp := fun _ => none })
    (fun p => p.1) (u, []) (by simp [hu]) (by simp) ?_
  rintro ⟨v, acc⟩ ⟨hv, hacc⟩
  simp only at hv hacc
  have hlen := acc10 hu hacc
  by_cases h : v < 128
  · have h1 : ¬ (128 : Int) ≤ v := by omega
    have h2 : (v : Int) < 128 := by omega
    rw [layN_small h] at hacc
    simp [h1, h2, w8_nat, ← hacc, bs_append]
    refine ⟨by omega, ?_⟩
    rw [Int.emod_eq_of_lt (by omega) (by omega)]; rfl
  · have h1 : (128 : Int) ≤ v := by omega
    have h2 : ¬ (v : Int) < 128 := by omega
    rw [layN_big h] at hacc
    simp [h1, h2]
    refine ⟨by omega, v / 128, acc ++ [v % 128 + 128], ⟨by omega, by simpa using hacc⟩, by omega, by rw [IntKind.wrap_u64]; omega, ?_⟩
    have ht : (v : Int).tmod 128 = ((v % 128 : Nat) : Int) := tmod_nat v 128
    rw [ht, w8_nat, IntKind.wrap_u8, bs_append]
    congr 2
    simp [bs]; omega

theorem wide_pure (w : Int) : Pure Try.prog 51 [.int .i64 w] (.sv (.int .i64 (wid w))) := by
  refine pure_go R0_ok Try.func51 Try.ntmps51 comp51 cres51 (by decide) (by simp) ?_
  simp [ac51, ar51]
  unfold wid
  (repeat' split) <;> omega

theorem zigzag_pure (n : Int) (h0 : -9223372036854775808 ≤ n) (h1 : n < 9223372036854775808) : Pure Try.prog 13 [.int .i64 n] (.sv (.int .u64 (zig n))) := by
  refine pure_go R0_ok Try.func13 Try.ntmps13 comp13 cres13 (by decide) (by simp) ?_
  simp [ac13, ar13]
  exact zig_xor h0 h1
theorem rzigzag_pure (n : Int) (h0 : -9223372036854775808 ≤ n) (h1 : n < 9223372036854775808) : Pure Try.prog 14 [.int .i64 n] (.sv (.int .u64 (zig n))) := by
  refine pure_go R0_ok Try.func14 Try.ntmps14 comp14 cres14 (by decide) (by simp) ?_
  by_cases h : 0 ≤ n
  · simp [ac14, ar14, h, zig, IntKind.wrap_u64]
    omega
  · simp [ac14, ar14, h, zig, IntKind.wrap_u64, IntKind.wrap_i64]
    omega
theorem zagzig_pure (u : Nat) (hu : u < 18446744073709551616) : Pure Try.prog 15 [.int .u64 u] (.sv (.int .i64 (zag u))) := by
  refine pure_go R0_ok Try.func15 Try.ntmps15 comp15 cres15 (by decide) (by simp) ?_
  simp [ac15, ar15]
  exact zag_xor hu
theorem rzagzig_pure (u : Nat) (hu : u < 18446744073709551616) : Pure Try.prog 16 [.int .u64 u] (.sv (.int .i64 (zag u))) := by
  refine pure_go R0_ok Try.func16 Try.ntmps16 comp16 cres16 (by decide) (by simp) ?_
  by_cases h : (u : Int).tmod 2 = 0
  · simp [ac16, ar16, h, zag, IntKind.wrap_u64, IntKind.wrap_i64]
    rw [show (2 : Int) = ((2 : Nat) : Int) from rfl, tmod_nat] at h
    rw [if_pos (by omega)]; omega
  · simp [ac16, ar16, h, zag, IntKind.wrap_u64, IntKind.wrap_i64]
    rw [show (2 : Int) = ((2 : Nat) : Int) from rfl, tmod_nat] at h
    rw [if_neg (by omega)]; omega
end Go.Proofs.Ytabidcdfmkkegaa
