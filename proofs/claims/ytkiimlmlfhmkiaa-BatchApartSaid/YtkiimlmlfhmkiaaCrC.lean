import Derived.Test.YtkiimlmlfhmkiaaCrB
import Derived.Test.YtkiimlmlfhmkiaaCrA

set_option linter.unusedSimpArgs false
set_option linter.unusedVariables false
set_option maxHeartbeats 2000000
namespace Go.Proofs.Ytkiimlmlfhmkiaa
open Go.Av

def recP (r : Rec) : List Nat := ((if r.kd then 1 else 0) + (if r.dd then 2 else 0)) :: (layN (zig r.dl) ++ layN (zig r.tm)) ++ (if r.kd then layN (zig r.key.size) ++ bytesNat r.key else []) ++ (if r.dd then [] else layN (zig r.val.size) ++ bytesNat r.val)

def RP : Orc := { p := fun f l => match f, l with
    | 50, [.int .i64 n] => some (I64 n, .own 1 (bs (layN (zig n))))
    | 55, [.int .i64 n] => some (I64 n, .own 1 (bs (layN (zig n))))
    | 52, [.str s] => some (s.size ≤ 140737488355000, .own 1 (bs (layN (zig s.size) ++ bytesNat s)))
    | 74, [.agg [.int .i64 dl, .int .i64 tm, .bool kd, .str key, .bool dd, .str val]] => some (True, .sv (.int .i64 (recE ⟨dl, tm, kd, key, dd, val⟩)))
    | 80, [.agg [.int .i64 dl, .int .i64 tm, .bool kd, .str key, .bool dd, .str val]] => some (True, .sv (.int .i64 (recE ⟨dl, tm, kd, key, dd, val⟩)))
    | _, _ => none }
theorem RP_ok : RP.ok Try.prog := by
  refine ⟨fun f l c rv h hc => ?_, fun _ _ _ _ _ _ h => (by cases h), fun _ _ _ _ h => (by cases h), fun _ h => (by cases h), fun _ _ _ _ _ _ h => (by cases h)⟩
  simp only [RP] at h
  split at h <;> cases h
  · exact put_pure _ hc
  · exact rput_pure _ hc
  · exact text_pure _ hc
  · exact check_pure ⟨_, _, _, _, _, _⟩
  · exact rcheck_pure ⟨_, _, _, _, _, _⟩
@[simp] theorem RP_50 (n : Int) : RP.p 50 [.int .i64 n] = some (I64 n, .own 1 (bs (layN (zig n)))) := rfl
@[simp] theorem RP_52 (s : ByteArray) : RP.p 52 [.str s] = some (s.size ≤ 140737488355000, .own 1 (bs (layN (zig s.size) ++ bytesNat s))) := rfl
@[simp] theorem RP_74 (dl tm kd key dd val) : RP.p 74 [.agg [.int .i64 dl, .int .i64 tm, .bool kd, .str key, .bool dd, .str val]] = some (True, .sv (.int .i64 (recE ⟨dl, tm, kd, key, dd, val⟩))) := rfl
theorem recE_small {r : Rec} (h : recE r = 0) : 0 ≤ r.dl ∧ r.dl < 32 ∧ 0 ≤ r.tm ∧ r.tm ≤ 1099511627776 ∧ r.key.size ≤ 64 ∧ r.val.size ≤ 512 := by
  unfold recE at h
  split at h
  · cases h
  · split at h
    · cases h
    · omega

theorem bytesNat_length (s : ByteArray) : (bytesNat s).length = s.size := by simp [bytesNat]

def putR (r : Rec) : List Nat := if recE r = 0 then recP r else []
theorem put_rec (r : Rec) : Pure Try.prog 98 [r.sv] (.tup [.own 1 (bs (putR r)), .sv (.int .i64 (recE r))]) := by
  refine pure_go RP_ok Try.func98 Try.ntmps98 comp98 cres98 (by decide) (by simp) ?_
  by_cases h : recE r = 0
  · obtain ⟨a1, a2, a3, a4, a5, a6⟩ := recE_small h
    rw [putR, if_pos h, h]
    obtain ⟨dl, tm, kd, key, dd, val⟩ := r
    simp only at a1 a2 a3 a4 a5 a6
    have i1 : I64 dl := ⟨by omega, by omega⟩
    have i2 : I64 tm := ⟨by omega, by omega⟩
    have l1 := layN_le10 (zig_lt i1.1 i1.2)
    have l2 := layN_le10 (zig_lt i2.1 i2.2)
    have l3 := layN_le10 (u := zig key.size) (zig_lt (by omega) (by omega))
    have l4 := layN_le10 (u := zig val.size) (zig_lt (by omega) (by omega))
    have k1 : key.size ≤ 140737488355000 := by omega
    have k2 : val.size ≤ 140737488355000 := by omega
    simp only [Rec.sv, Rec.cells]
    cases kd <;> cases dd <;> simp [ac98, ar98, h, i1, i2, k1, k2, bytesNat_length]
    all_goals (repeat' apply And.intro) <;> first | omega | (simp [recP, bs_append, bs_cons]; done) | (simp [recP, bs_append, bs_cons]; rfl)
  · rw [putR, if_neg h]
    obtain ⟨dl, tm, kd, key, dd, val⟩ := r
    simp only [Rec.sv, Rec.cells]
    simp [ac98, ar98, h]

theorem rtext_pure (s : ByteArray) (h : s.size ≤ 140737488355000) : Pure Try.prog 56 [.str s] (.own 1 (bs (layN (zig s.size) ++ bytesNat s))) := by
  refine pure_go RP_ok Try.func56 Try.ntmps56 comp56 cres56 (by decide) (by simp) ?_
  have hI : I64 (s.size : Int) := ⟨by omega, by omega⟩
  simp [ac56, ar56, RP, hI]
  have h1 := layN_le10 (u := zig s.size) (zig_lt (by omega) (by omega))
  refine ⟨by omega, ?_⟩
  rw [bytesV_eq, bs_append]; rfl
def RP2 : Orc := { RP with p := fun f l => match f, l with
    | 56, [.str s] => some (s.size ≤ 140737488355000, .own 1 (bs (layN (zig s.size) ++ bytesNat s)))
    | f, l => RP.p f l }
theorem RP2_ok : RP2.ok Try.prog := by
  refine ⟨fun f l c rv h hc => ?_, RP_ok.e, RP_ok.n, fun _ h => (by cases h), fun _ _ _ _ _ _ h => (by cases h)⟩
  simp only [RP2] at h
  split at h
  · cases h; exact rtext_pure _ hc
  · exact RP_ok.p _ _ _ _ h hc
@[simp] theorem RP2_55 (n : Int) : RP2.p 55 [.int .i64 n] = some (I64 n, .own 1 (bs (layN (zig n)))) := rfl
@[simp] theorem RP2_56 (s : ByteArray) : RP2.p 56 [.str s] = some (s.size ≤ 140737488355000, .own 1 (bs (layN (zig s.size) ++ bytesNat s))) := rfl
@[simp] theorem RP2_80 (dl tm kd key dd val) : RP2.p 80 [.agg [.int .i64 dl, .int .i64 tm, .bool kd, .str key, .bool dd, .str val]] = some (True, .sv (.int .i64 (recE ⟨dl, tm, kd, key, dd, val⟩))) := rfl

theorem rput_rec (r : Rec) : Pure Try.prog 99 [r.sv] (.tup [.own 1 (bs (putR r)), .sv (.int .i64 (recE r))]) := by
  refine pure_go RP2_ok Try.func99 Try.ntmps99 comp99 cres99 (by decide) (by simp) ?_
  by_cases h : recE r = 0
  · obtain ⟨a1, a2, a3, a4, a5, a6⟩ := recE_small h
    rw [putR, if_pos h, h]
    obtain ⟨dl, tm, kd, key, dd, val⟩ := r
    simp only at a1 a2 a3 a4 a5 a6
    have i1 : I64 dl := ⟨by omega, by omega⟩
    have i2 : I64 tm := ⟨by omega, by omega⟩
    have l1 := layN_le10 (zig_lt i1.1 i1.2)
    have l2 := layN_le10 (zig_lt i2.1 i2.2)
    have l3 := layN_le10 (u := zig key.size) (zig_lt (by omega) (by omega))
    have l4 := layN_le10 (u := zig val.size) (zig_lt (by omega) (by omega))
    have k1 : key.size ≤ 140737488355000 := by omega
    have k2 : val.size ≤ 140737488355000 := by omega
    simp only [Rec.sv, Rec.cells]
    cases kd <;> cases dd <;> simp [ac99, ar99, h, i1, i2, k1, k2, bytesNat_length]
    all_goals (repeat' apply And.intro) <;> first | omega | (simp [recP, bs_append, bs_cons]; done) | (simp [recP, bs_append, bs_cons]; rfl)
  · rw [putR, if_neg h]
    obtain ⟨dl, tm, kd, key, dd, val⟩ := r
    simp only [Rec.sv, Rec.cells]
    simp [ac99, ar99, h]
end Go.Proofs.Ytkiimlmlfhmkiaa
