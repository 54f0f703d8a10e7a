import Derived.Test.YtabidcdfmkkegaaRgC

set_option linter.unusedSimpArgs false
set_option linter.unusedVariables false
set_option maxHeartbeats 20000000
namespace Go.Proofs.Ytabidcdfmkkegaa
open Go.Av

/-! ### a reader that is not there -/
def RN1 : Orc := {
  p := fun f l => match f, l with
  | 34, [.nilp] => some (True, .sv (.int .i64 1))
  | _, _ => none }
theorem RN1_ok : RN1.ok Try.prog := by
  refine ⟨fun f l c rv h hc => ?_, fun _ _ _ _ _ _ h => (by cases h), fun _ _ _ _ h => (by cases h)⟩
  simp only [RN1] at h
  split at h <;> cases h
  exact err_nil
theorem num_nil : Pure Try.prog 28 [.nilp] (.sv (.int .i64 0)) := by
  refine pure_go RN1_ok Try.func28 Try.ntmps28 comp28 cres28 (by decide) (by simp) ?_
  simp [ac28, ar28, RN1]
theorem rfix_nil (w : Int) : Pure Try.prog 30 [.nilp, .int .i64 w] (.sv (.int .u64 0)) := by
  refine pure_go RN1_ok Try.func30 Try.ntmps30 comp30 cres30 (by decide) (by simp) ?_
  simp [ac30, ar30, RN1]
def RN2 : Orc := {
  p := fun f l => match f, l with
  | 34, [.nilp] => some (True, .sv (.int .i64 1))
  | 28, [.nilp] => some (True, .sv (.int .i64 0))
  | 30, [.nilp, .int .i64 _] => some (True, .sv (.int .u64 0))
  | _, _ => none }
theorem RN2_ok : RN2.ok Try.prog := by
  refine ⟨fun f l c rv h hc => ?_, fun _ _ _ _ _ _ h => (by cases h), fun _ _ _ _ h => (by cases h)⟩
  simp only [RN2] at h
  split at h <;> cases h
  · exact err_nil
  · exact num_nil
  · exact rfix_nil _
theorem rtext_nil (m : Int) : Pure Try.prog 32 [.nilp, .int .i64 m] (.sv (.str (ByteArray.mk #[]))) := by
  refine pure_go RN2_ok Try.func32 Try.ntmps32 comp32 cres32 (by decide) (by simp) ?_
  simp [ac32, ar32, RN2]
def RN3 : Orc := {
  p := fun f l => match f, l with
  | 34, [.nilp] => some (True, .sv (.int .i64 1))
  | 28, [.nilp] => some (True, .sv (.int .i64 0))
  | 30, [.nilp, .int .i64 _] => some (True, .sv (.int .u64 0))
  | 32, [.nilp, .int .i64 _] => some (True, .sv (.str (ByteArray.mk #[])))
  | _, _ => none }
theorem RN3_ok : RN3.ok Try.prog := by
  refine ⟨fun f l c rv h hc => ?_, fun _ _ _ _ _ _ h => (by cases h), fun _ _ _ _ h => (by cases h)⟩
  simp only [RN3] at h
  split at h <;> cases h
  · exact err_nil
  · exact num_nil
  · exact rfix_nil _
  · exact rtext_nil _
theorem get_nil : Pure Try.prog 47 [.nilp] (.tup [.sv rec0.sv, .sv (.int .i64 1)]) := by
  refine pure_go RN3_ok Try.func47 Try.ntmps47 comp47 cres47 (by decide) (by simp) ?_
  have a1 := u64_and1 0
  have a2 := u64_and2 0 (by decide)
  simp [ac47, ar47, RN3, rec0, Rec.sv, Rec.cells, IntKind.wrap_u64, IntKind.bits]

def RK : Orc := {
  p := fun f l => match f, l with
    | 40, [] => some (True, .sv (.bool true))
    | 46, [.agg [.int .i64 dl, .int .i64 tm, .bool kd, .str key, .bool dd, .str val], .agg [.int .i64 dl', .int .i64 tm', .bool kd', .str key', .bool dd', .str val']] => some (True, .sv (.bool (recS ⟨dl, tm, kd, key, dd, val⟩ ⟨dl', tm', kd', key', dd', val'⟩)))
    | 47, [.nilp] => some (True, .tup [.sv rec0.sv, .sv (.int .i64 1)])
    | 48, [.agg [.sl 1 xs, .int .i64 e]] => some (IsBs xs ∧ xs.length < 4611686018427387904, .tup [.sv (rd' (recG (nsOf xs) e).2.2.1 (recG (nsOf xs) e).2.2.2), .sv (recG (nsOf xs) e).1.sv, .sv (.int .i64 (recG (nsOf xs) e).2.1)])
    | _, _ => none
  e := RF.e
  n := RF.n }
theorem RK_ok : RK.ok Try.prog := by
  refine ⟨fun f l c rv h hc => ?_, RF_ok.e, RF_ok.n⟩
  simp only [RK] at h
  split at h <;> cases h
  · exact rawake_pure
  · exact rsame_pure ⟨_, _, _, _, _, _⟩ ⟨_, _, _, _, _, _⟩
  · exact get_nil
  · rename_i xs e
    obtain ⟨⟨e1, h1⟩, h2⟩ := hc
    have := refget (nsOf xs) e h1 (by rw [e1] at h2; simpa using h2)
    rw [rd', ← e1] at this
    exact this
section
variable (dl tm : Int) (kd : Bool) (key : ByteArray) (dd : Bool) (val : ByteArray) (dl' tm' : Int) (kd' : Bool) (key' : ByteArray) (dd' : Bool) (val' : ByteArray) (xs : List SV) (e : Int)
@[simp] theorem RK_40 : RK.p 40 [] = some (True, .sv (.bool true)) := rfl
@[simp] theorem RK_46 : RK.p 46 [.agg [.int .i64 dl, .int .i64 tm, .bool kd, .str key, .bool dd, .str val], .agg [.int .i64 dl', .int .i64 tm', .bool kd', .str key', .bool dd', .str val']] = some (True, .sv (.bool (recS ⟨dl, tm, kd, key, dd, val⟩ ⟨dl', tm', kd', key', dd', val'⟩))) := rfl
@[simp] theorem RK_47n : RK.p 47 [.nilp] = some (True, .tup [.sv rec0.sv, .sv (.int .i64 1)]) := rfl
@[simp] theorem RK_48 : RK.p 48 [.agg [.sl 1 xs, .int .i64 e]] = some (IsBs xs ∧ xs.length < 4611686018427387904, .tup [.sv (rd' (recG (nsOf xs) e).2.2.1 (recG (nsOf xs) e).2.2.2), .sv (recG (nsOf xs) e).1.sv, .sv (.int .i64 (recG (nsOf xs) e).2.1)]) := rfl
@[simp] theorem RK_47 : RK.e 47 [.sl 1 xs, .int .i64 e] [] = some (IsBs xs ∧ xs.length < 4611686018427387904, .tup [.sv (recG (nsOf xs) e).1.sv, .sv (.int .i64 (recG (nsOf xs) e).2.1)], [.sl 1 (bs (recG (nsOf xs) e).2.2.1), .int .i64 (recG (nsOf xs) e).2.2.2]) := rfl
@[simp] theorem RK_33 : RK.e 33 [.sl 1 xs, .int .i64 e] [] = some (True, .sv (.int .i64 xs.length), [.sl 1 xs, .int .i64 e]) := rfl
@[simp] theorem RK_26 : RK.n 26 [.sl 1 xs] = some (xs.length ≤ 140737488355328, [.sl 1 xs, .int .i64 0]) := rfl
end
theorem recS_iff' (r : Rec) : recS r r = true := by obtain ⟨a, b, c, d, e, f⟩ := r; simp [recS]
theorem law_gets (l : List Nat) (hl : Bytes l) : Pure Try.prog 11 [.sl 1 (bs l)] (.sv (.bool true)) := by
  refine pure_go RK_ok Try.func11 Try.ntmps11 comp11 cres11 (by decide) (by simp) ?_
  by_cases h2 : 900 < (l.length : Int)
  · simp [ac11, ar11, h2]
  · have hn : l.length < 4611686018427387904 := by omega
    have hn2 : l.length ≤ 140737488355328 := by omega
    have hS : ∀ r : Rec, recS ⟨r.dl, r.tm, r.kd, r.key, r.dd, r.val⟩ ⟨r.dl, r.tm, r.kd, r.key, r.dd, r.val⟩ = true := fun r => (recS_iff' r)
    generalize hp : recG l 0 = p
    obtain ⟨⟨dl, tm, kd, key, dd, val⟩, e, l', e'⟩ := p
    have hSS := hS ⟨dl, tm, kd, key, dd, val⟩
    by_cases he : e = 0
    · simp [ac11, ar11, h2, hn, hn2, isBs_bs, hl, hp, he, hSS, rd', Rec.sv, Rec.cells, rec0]
    · simp [ac11, ar11, h2, hn, hn2, isBs_bs, hl, hp, he, hSS, rd', Rec.sv, Rec.cells, rec0]
end Go.Proofs.Ytabidcdfmkkegaa
