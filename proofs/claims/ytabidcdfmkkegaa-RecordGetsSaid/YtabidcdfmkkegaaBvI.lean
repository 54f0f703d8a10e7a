import Derived.Test.YtabidcdfmkkegaaBvH

set_option linter.unusedSimpArgs false
set_option linter.unusedVariables false
set_option maxHeartbeats 1000000
namespace Go.Proofs.Ytabidcdfmkkegaa
open Go.Av

def RL : Orc := { R3 with p := fun f l => match f, l with
    | 17, [] => some (True, .sv (.bool true))
    | f, l => R3.p f l }
theorem RL_ok : RL.ok Try.prog := by
  refine ⟨fun f l c rv h hc => ?_, R3_ok.e, R3_ok.n⟩
  simp only [RL] at h
  split at h
  · cases h; exact awake_pure
  · exact R3_ok.p _ _ _ _ h hc
@[simp] theorem RL_17 : RL.p 17 [] = some (True, .sv (.bool true)) := rfl
@[simp] theorem RL_13 (n : Int) : RL.p 13 [.int .i64 n] = some (I64 n, .sv (.int .u64 (zig n))) := rfl
@[simp] theorem RL_14 (n : Int) : RL.p 14 [.int .i64 n] = some (I64 n, .sv (.int .u64 (zig n))) := rfl
@[simp] theorem RL_15 (u : Int) : RL.p 15 [.int .u64 u] = some (U64 u, .sv (.int .i64 (zag u.toNat))) := rfl
@[simp] theorem RL_16 (u : Int) : RL.p 16 [.int .u64 u] = some (U64 u, .sv (.int .i64 (zag u.toNat))) := rfl
@[simp] theorem RL_18 (n : Int) : RL.p 18 [.int .i64 n] = some (I64 n, .own 1 (bs (layN (zig n)))) := rfl
@[simp] theorem RL_19 (n : Int) : RL.p 19 [.int .i64 n] = some (I64 n, .own 1 (bs (layN (zig n)))) := rfl
@[simp] theorem RL_20 (u w : Int) : RL.p 20 [.int .u64 u, .int .i64 w] = some (U64 u, .sv (.sl 1 (bs (fixL (wid w) u.toNat)))) := rfl
@[simp] theorem RL_21 (u w : Int) : RL.p 21 [.int .u64 u, .int .i64 w] = some (U64 u, .own 1 (bs (fixL (wid w) u.toNat))) := rfl
@[simp] theorem RL_22 (xs : List SV) : RL.p 22 [.sl 1 xs] = some (IsBs xs ∧ xs.length < 4611686018427387904, .tup [.sv (.int .i64 (getN (nsOf xs)).1), .sv (.int .i64 (getN (nsOf xs)).2.1), .sv (.int .i64 (getN (nsOf xs)).2.2)]) := rfl
@[simp] theorem RL_22n : RL.p 22 [.nils] = some (True, .tup [.sv (.int .i64 0), .sv (.int .i64 0), .sv (.int .i64 3)]) := rfl
@[simp] theorem RL_23 (xs : List SV) : RL.p 23 [.sl 1 xs] = some (IsBs xs ∧ xs.length < 4611686018427387904, .tup [.sv (.int .i64 (getN (nsOf xs)).1), .sv (.int .i64 (getN (nsOf xs)).2.1), .sv (.int .i64 (getN (nsOf xs)).2.2)]) := rfl
@[simp] theorem RL_23n : RL.p 23 [.nils] = some (True, .tup [.sv (.int .i64 0), .sv (.int .i64 0), .sv (.int .i64 3)]) := rfl
@[simp] theorem RL_24 (xs : List SV) : RL.p 24 [.sl 1 xs] = some (IsBs xs ∧ xs.length < 4611686018427387904, .sv (.int .u64 (unF (nsOf xs)))) := rfl
@[simp] theorem RL_24n : RL.p 24 [.nils] = some (True, .sv (.int .u64 0)) := rfl
@[simp] theorem RL_25 (xs : List SV) : RL.p 25 [.sl 1 xs] = some (IsBs xs ∧ xs.length < 4611686018427387904, .sv (.int .u64 (unF (nsOf xs)))) := rfl
@[simp] theorem RL_25n : RL.p 25 [.nils] = some (True, .sv (.int .u64 0)) := rfl

theorem zigs_pure (n u : Int) (hn : I64 n) (hu : U64 u) : Pure Try.prog 3 [.int .i64 n, .int .u64 u] (.sv (.bool true)) := by
  refine pure_go RL_ok Try.func3 Try.ntmps3 comp3 cres3 (by decide) (by simp) ?_
  simp [ac3, ar3, hn, hu]

theorem puts_pure (n u w : Int) (hn : I64 n) (hu : U64 u) : Pure Try.prog 4 [.int .i64 n, .int .u64 u, .int .i64 w] (.sv (.bool true)) := by
  refine pure_go RL_ok Try.func4 Try.ntmps4 comp4 cres4 (by decide) (by simp) ?_
  simp [ac4, ar4, hn, hu]
  exact ⟨fun x hx => bs_byte _ x hx, fun x hx => bs_byte _ x hx⟩

theorem gets_pure (l : List Nat) (hl : Bytes l) : Pure Try.prog 5 [.sl 1 (bs l)] (.sv (.bool true)) := by
  refine pure_go RL_ok Try.func5 Try.ntmps5 comp5 cres5 (by decide) (by simp) ?_
  by_cases h : 100 < (l.length : Int)
  · simp [ac5, ar5, h]
  · have hn : l.length < 4611686018427387904 := by omega
    simp [ac5, ar5, h, isBs_bs, hl, hn]

end Go.Proofs.Ytabidcdfmkkegaa
