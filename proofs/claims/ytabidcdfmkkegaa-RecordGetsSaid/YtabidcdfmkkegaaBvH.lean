import Derived.Test.YtabidcdfmkkegaaBvG

set_option linter.unusedSimpArgs false
set_option linter.unusedVariables false
set_option maxHeartbeats 1000000
namespace Go.Proofs.Ytabidcdfmkkegaa
open Go.Av

theorem lay1 : layN 1 = [1] := by rw [layN]; rfl
theorem lay4 : layN 4 = [4] := by rw [layN]; rfl
theorem lay128 : layN 128 = [128, 1] := by rw [layN, if_neg (by decide), show 128 / 128 = 1 from rfl, lay1]

theorem getA : getN [128, 1, 0, 9] = (64, 2, 0) := by
  have := getN_found (l := [128, 1, 0, 9]) (i := 1) (by decide) (by decide) (by decide) (by decide)
  rw [this]
  simp [valN, lay128, zag]
theorem getB : getN [4, 97, 98, 128, 1, 0, 9] = (2, 1, 0) := by
  have := getN_found (l := [4, 97, 98, 128, 1, 0, 9]) (i := 0) (by decide) (by decide) (by decide) (by decide)
  rw [this]
  simp [valN, lay4, zag]

def L0 : List SV := [.int .u8 4, .int .u8 97, .int .u8 98, .int .u8 128, .int .u8 1, .int .u8 0, .int .u8 9]
def RA : Orc := {
  p := fun f l => match f, l with
    | 18, [.int .i64 n] => if n = -1 then some (True, .own 1 [.int .u8 1]) else if n = 64 then some (True, .own 1 [.int .u8 128, .int .u8 1]) else none
    | 37, [.str s] => some (s = ByteArray.mk #[97, 98], .own 1 [.int .u8 4, .int .u8 97, .int .u8 98])
    | 20, [.int .u64 u, .int .i64 w] => some (u = 258 ∧ w = 3, .sv (.sl 1 [.int .u8 0, .int .u8 1, .int .u8 2]))
    | 13, [.int .i64 n] => some (n = -3, .sv (.int .u64 5))
    | 15, [.int .u64 n] => some (n = 5, .sv (.int .i64 (-3)))
    | 24, [.sl 1 xs] => some (xs = [.int .u8 1, .int .u8 0], .sv (.int .u64 256))
    | _, _ => none
  e := fun f cells l => match f, cells, l with
    | 32, [.sl 1 xs, .int .i64 e], [.int .i64 m] => some (xs = L0 ∧ e = 0 ∧ m = 9, .sv (.str (ByteArray.mk #[97, 98])), [.sl 1 [.int .u8 128, .int .u8 1, .int .u8 0, .int .u8 9], .int .i64 0])
    | 28, [.sl 1 xs, .int .i64 e], [] => some (xs = [.int .u8 128, .int .u8 1, .int .u8 0, .int .u8 9] ∧ e = 0, .sv (.int .i64 64), [.sl 1 [.int .u8 0, .int .u8 9], .int .i64 0])
    | 30, [.sl 1 xs, .int .i64 e], [.int .i64 w] => some (xs = [.int .u8 0, .int .u8 9] ∧ e = 0 ∧ w = 2, .sv (.int .u64 9), [.sl 1 [], .int .i64 0])
    | 35, [.sl 1 xs, .int .i64 e], [] => some (xs = [] ∧ e = 0, .sv (.int .i64 0), [.sl 1 [], .int .i64 0])
    | _, _, _ => none
  n := fun f l => match f, l with
    | 26, [.sl 1 xs] => some (xs.length ≤ 140737488355328, [.sl 1 xs, .int .i64 0])
    | _, _ => none }

theorem nat_bytes (l : List Nat) (h : l.all (fun c => decide (c < 256)) = true) : Bytes l := fun c hc => by simpa using List.all_eq_true.1 h c hc

theorem RA_ok : RA.ok Try.prog := by
  refine ⟨fun f l c rv h hc => ?_, fun f cells l c rv cells' h hc => ?_, fun f l c cells h hc => ?_⟩
  · simp only [RA] at h
    split at h
    · split at h
      · cases h; rename_i q; subst q
        have := put_pure (-1) ⟨by omega, by omega⟩
        rwa [show zig (-1) = 1 from rfl, lay1] at this
      · split at h
        · cases h; rename_i q; subst q
          have := put_pure 64 ⟨by omega, by omega⟩
          rwa [show zig 64 = 128 from rfl, lay128] at this
        · cases h
    · cases h; subst hc
      have := text_pure (ByteArray.mk #[97, 98]) (by decide)
      rwa [show zig ((ByteArray.mk #[97, 98]).size : Int) = 4 from rfl, lay4] at this
    · cases h; obtain ⟨rfl, rfl⟩ := hc
      exact fixed_pure 258 3 (by decide)
    · cases h; subst hc
      exact zigzag_pure (-3) (by omega) (by omega)
    · cases h; subst hc
      exact zagzig_pure 5 (by omega)
    · cases h; subst hc
      exact unfixed_pure [1, 0] (nat_bytes _ (by decide)) (by decide)
    · cases h
  · simp only [RA] at h
    split at h
    · cases h; obtain ⟨rfl, rfl, rfl⟩ := hc
      have := rtext_eff [4, 97, 98, 128, 1, 0, 9] 0 9 (nat_bytes _ (by decide)) (by decide)
      have e : rText [4, 97, 98, 128, 1, 0, 9] 0 9 = ([97, 98], [128, 1, 0, 9], 0) := by simp [rText, rNum, getB, rTake]
      rw [e] at this
      exact this
    · cases h; obtain ⟨rfl, rfl⟩ := hc
      have := num_eff [128, 1, 0, 9] 0 (nat_bytes _ (by decide)) (by decide)
      have e : rNum [128, 1, 0, 9] 0 = (64, [0, 9], 0) := by simp [rNum, getA]
      rw [e] at this
      exact this
    · cases h; obtain ⟨rfl, rfl, rfl⟩ := hc
      have := rfix_eff [0, 9] 0 2 (nat_bytes _ (by decide)) (by decide)
      have e : rFixed [0, 9] 0 2 = (9, [], 0) := by decide
      rw [e] at this
      exact this
    · cases h; obtain ⟨rfl, rfl⟩ := hc
      exact done_eff [] 0
    · cases h
  · simp only [RA] at h
    split at h
    · cases h; exact new_new _ hc
    · cases h

theorem awake_pure : Pure Try.prog 17 [] (.sv (.bool true)) := by
  refine pure_go RA_ok Try.func17 Try.ntmps17 comp17 cres17 (by decide) (by simp) ?_
  simp (maxSteps := 3000000) [ac17, ar17, RA, L0, Av.byteOf, isByte]
end Go.Proofs.Ytabidcdfmkkegaa
