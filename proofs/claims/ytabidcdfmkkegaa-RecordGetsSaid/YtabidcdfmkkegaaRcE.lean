import Derived.Test.YtabidcdfmkkegaaRcD
import Derived.Test.YtabidcdfmkkegaaBvH

set_option linter.unusedSimpArgs false
set_option linter.unusedVariables false
set_option maxHeartbeats 2000000
namespace Go.Proofs.Ytabidcdfmkkegaa
open Go.Av

def RZ : Orc := { p := fun f l => match f, l with
    | 41, [.agg [.int .i64 dl, .int .i64 tm, .bool kd, .str key, .bool dd, .str val]] => some (True, .tup [.own 1 (bs (putR ⟨dl, tm, kd, key, dd, val⟩)), .sv (.int .i64 (recE ⟨dl, tm, kd, key, dd, val⟩))])
    | _, _ => none }
theorem RZ_ok : RZ.ok Try.prog := by
  refine ⟨fun f l c rv h hc => ?_, fun _ _ _ _ _ _ h => (by cases h), fun _ _ _ _ h => (by cases h)⟩
  simp only [RZ] at h
  split at h <;> cases h
  exact put_rec ⟨_, _, _, _, _, _⟩
theorem size_rec (r : Rec) : Pure Try.prog 44 [r.sv] (.sv (.int .i64 (putR r).length)) := by
  refine pure_go RZ_ok Try.func44 Try.ntmps44 comp44 cres44 (by decide) (by simp) ?_
  obtain ⟨dl, tm, kd, key, dd, val⟩ := r
  simp [ac44, ar44, RZ, Rec.sv, Rec.cells]

theorem lay2 : layN 2 = [2] := by rw [layN]; rfl
theorem lay10 : layN 10 = [10] := by rw [layN]; rfl
theorem getC (c : Nat) (h : c < 128) (l : List Nat) : getN (c :: l) = (zag c, 1, 0) := by
  have := getN_found (l := c :: l) (i := 0) (by simp) (by decide) (fun j h q => by omega) (by simpa using h)
  rw [this]
  have e : layN c = [c] := layN_small h
  have e2 : (c % 128) % 18446744073709551616 = c := by omega
  simp [valN, e2, e]
def recA : Rec := ⟨1, 5, true, ByteArray.mk #[107], false, ByteArray.mk #[118]⟩
def recB : Rec := ⟨1, 5, true, ByteArray.mk #[107], true, ByteArray.mk #[]⟩
theorem tl1 (x : UInt8) : (ByteArray.mk #[x]).toList = [x] := by rw [ByteArray.toList_eq]
theorem tl0 : (ByteArray.mk #[]).toList = [] := by rw [ByteArray.toList_eq]
theorem sz1 (x : UInt8) : (ByteArray.mk #[x]).size = 1 := rfl
theorem sz0 : (ByteArray.mk #[]).size = 0 := rfl
theorem recEA : recE recA = 0 := by simp [recE, recA, isE, tl1, sz1]
theorem recEB : recE recB = 0 := by simp [recE, recB, isE, tl1, tl0, sz1, sz0]
theorem putA : putR recA = [1, 2, 10, 2, 107, 2, 118] := by
  rw [putR, if_pos recEA]
  simp [recP, recA, sz1, bytesNat, show zig 1 = 2 from rfl, show zig 5 = 10 from rfl, lay2, lay10]
theorem putB : putR recB = [3, 2, 10, 2, 107] := by
  rw [putR, if_pos recEB]
  simp [recP, recB, sz1, bytesNat, show zig 1 = 2 from rfl, show zig 5 = 10 from rfl, lay2, lay10]
theorem getRA : recG [1, 2, 10, 2, 107, 2, 118] 0 = (recA, 0, [], 0) := by
  have e1 : rFixed [1, 2, 10, 2, 107, 2, 118] 0 1 = (1, [2, 10, 2, 107, 2, 118], 0) := by decide
  have e2 : rNum [2, 10, 2, 107, 2, 118] 0 = (1, [10, 2, 107, 2, 118], 0) := by simp [rNum, getC 2 (by decide)]; rfl
  have e3 : rNum [10, 2, 107, 2, 118] 0 = (5, [2, 107, 2, 118], 0) := by simp [rNum, getC 10 (by decide)]; rfl
  have e4 : rText [2, 107, 2, 118] 0 64 = ([107], [2, 118], 0) := by
    have : rNum [2, 107, 2, 118] 0 = (1, [107, 2, 118], 0) := by simp [rNum, getC 2 (by decide)]; rfl
    simp [rText, this, rTake]
  have e5 : rText [2, 118] 0 512 = ([118], [], 0) := by
    have : rNum [2, 118] 0 = (1, [118], 0) := by simp [rNum, getC 2 (by decide)]; rfl
    simp [rText, this, rTake]
  simp only [recG, e1, e2, e3, recG5]
  have e6 : recE ⟨1, 5, true, sOf [107], false, sOf [118]⟩ = 0 := recEA
  simp [e4, e5, e6]
  rfl

def RE : Orc := {
  p := fun f l => match f, l with
    | 41, [.agg [.int .i64 dl, .int .i64 tm, .bool true, .str key, .bool dd, .str val]] => if dd then some (dl = 1 ∧ tm = 5 ∧ key = ByteArray.mk #[107] ∧ val = ByteArray.mk #[], .tup [.own 1 [.int .u8 3, .int .u8 2, .int .u8 10, .int .u8 2, .int .u8 107], .sv (.int .i64 0)])
        else some (dl = 1 ∧ tm = 5 ∧ key = ByteArray.mk #[107] ∧ val = ByteArray.mk #[118], .tup [.own 1 [.int .u8 1, .int .u8 2, .int .u8 10, .int .u8 2, .int .u8 107, .int .u8 2, .int .u8 118], .sv (.int .i64 0)])
    | 44, [.agg [.int .i64 dl, .int .i64 tm, .bool true, .str key, .bool true, .str val]] => some (dl = 1 ∧ tm = 5 ∧ key = ByteArray.mk #[107] ∧ val = ByteArray.mk #[], .sv (.int .i64 5))
    | 45, [.agg [.int .i64 dl, .int .i64 tm, .bool kd, .str key, .bool dd, .str val], .agg [.int .i64 dl', .int .i64 tm', .bool kd', .str key', .bool dd', .str val']] => some (True, .sv (.bool (recS ⟨dl, tm, kd, key, dd, val⟩ ⟨dl', tm', kd', key', dd', val'⟩)))
    | _, _ => none
  e := fun f cells l => match f, cells, l with
    | 47, [.sl 1 xs, .int .i64 e], [] => some (xs = [.int .u8 1, .int .u8 2, .int .u8 10, .int .u8 2, .int .u8 107, .int .u8 2, .int .u8 118] ∧ e = 0, .tup [.sv recA.sv, .sv (.int .i64 0)], [.sl 1 [], .int .i64 0])
    | _, _, _ => none
  n := fun f l => match f, l with
    | 26, [.sl 1 xs] => some (xs.length ≤ 140737488355328, [.sl 1 xs, .int .i64 0])
    | _, _ => none }
theorem RE_ok : RE.ok Try.prog := by
  refine ⟨fun f l c rv h hc => ?_, fun f cells l c rv cells' h hc => ?_, fun f l c cells h hc => ?_⟩
  · simp only [RE] at h
    split at h
    · split at h
      · cases h; obtain ⟨rfl, rfl, rfl, rfl⟩ := hc
        rename_i q; subst q
        have := put_rec recB
        rwa [putB, recEB] at this
      · cases h; obtain ⟨rfl, rfl, rfl, rfl⟩ := hc
        rename_i q
        have q' := (Bool.not_eq_true _).mp q
        subst q'
        have := put_rec recA
        rwa [putA, recEA] at this
    · cases h; obtain ⟨rfl, rfl, rfl, rfl⟩ := hc
      have := size_rec recB
      rwa [putB] at this
    · cases h
      exact same_pure ⟨_, _, _, _, _, _⟩ ⟨_, _, _, _, _, _⟩
    · cases h
  · simp only [RE] at h
    split at h
    · cases h; obtain ⟨rfl, rfl⟩ := hc
      have := get_rec [1, 2, 10, 2, 107, 2, 118] 0 (nat_bytes _ (by decide)) (by decide)
      rw [getRA] at this
      exact this
    · cases h
  · simp only [RE] at h
    split at h
    · cases h; exact new_new _ hc
    · cases h

theorem rawake_pure : Pure Try.prog 40 [] (.sv (.bool true)) := by
  refine pure_go RE_ok Try.func40 Try.ntmps40 comp40 cres40 (by decide) (by simp) ?_
  simp (maxSteps := 3000000) [ac40, ar40, RE, Av.byteOf, isByte, recA, Rec.sv, Rec.cells, recS, tl1, tl0]
end Go.Proofs.Ytabidcdfmkkegaa
