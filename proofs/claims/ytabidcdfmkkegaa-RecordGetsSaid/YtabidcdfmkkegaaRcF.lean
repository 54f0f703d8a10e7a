import Derived.Test.YtabidcdfmkkegaaRcE
import Derived.Test.YtabidcdfmkkegaaBvZp

set_option linter.unusedSimpArgs false
set_option linter.unusedVariables false
set_option maxHeartbeats 2000000
namespace Go.Proofs.Ytabidcdfmkkegaa
open Go.Av

def RF : Orc := {
  p := fun f l => match f, l with
    | 39, [.agg [.int .i64 dl, .int .i64 tm, .bool kd, .str key, .bool dd, .str val]] => some (True, .sv (.bool (decide ((key.size : Int) ≤ 200) && decide ((val.size : Int) ≤ 700))))
    | 40, [] => some (True, .sv (.bool true))
    | 41, [.agg [.int .i64 dl, .int .i64 tm, .bool kd, .str key, .bool dd, .str val]] => some (True, .tup [.own 1 (bs (putR ⟨dl, tm, kd, key, dd, val⟩)), .sv (.int .i64 (recE ⟨dl, tm, kd, key, dd, val⟩))])
    | 42, [.agg [.int .i64 dl, .int .i64 tm, .bool kd, .str key, .bool dd, .str val]] => some (True, .tup [.own 1 (bs (putR ⟨dl, tm, kd, key, dd, val⟩)), .sv (.int .i64 (recE ⟨dl, tm, kd, key, dd, val⟩))])
    | 43, [.agg [.int .i64 dl, .int .i64 tm, .bool kd, .str key, .bool dd, .str val]] => some (True, .sv (.int .i64 (recE ⟨dl, tm, kd, key, dd, val⟩)))
    | 44, [.agg [.int .i64 dl, .int .i64 tm, .bool kd, .str key, .bool dd, .str val]] => some (True, .sv (.int .i64 (putR ⟨dl, tm, kd, key, dd, val⟩).length))
    | 45, [.agg [.int .i64 dl, .int .i64 tm, .bool kd, .str key, .bool dd, .str val], .agg [.int .i64 dl', .int .i64 tm', .bool kd', .str key', .bool dd', .str val']] => some (True, .sv (.bool (recS ⟨dl, tm, kd, key, dd, val⟩ ⟨dl', tm', kd', key', dd', val'⟩)))
    | 46, [.agg [.int .i64 dl, .int .i64 tm, .bool kd, .str key, .bool dd, .str val], .agg [.int .i64 dl', .int .i64 tm', .bool kd', .str key', .bool dd', .str val']] => some (True, .sv (.bool (recS ⟨dl, tm, kd, key, dd, val⟩ ⟨dl', tm', kd', key', dd', val'⟩)))
    | _, _ => none
  e := fun f cells l => match f, cells, l with
    | 47, [.sl 1 xs, .int .i64 e], [] => some (IsBs xs ∧ xs.length < 4611686018427387904, .tup [.sv (recG (nsOf xs) e).1.sv, .sv (.int .i64 (recG (nsOf xs) e).2.1)], [.sl 1 (bs (recG (nsOf xs) e).2.2.1), .int .i64 (recG (nsOf xs) e).2.2.2])
    | 33, [.sl 1 xs, .int .i64 e], [] => some (True, .sv (.int .i64 xs.length), [.sl 1 xs, .int .i64 e])
    | _, _, _ => none
  n := fun f l => match f, l with
    | 26, [.sl 1 xs] => some (xs.length ≤ 140737488355328, [.sl 1 xs, .int .i64 0])
    | _, _ => none }
theorem RF_ok : RF.ok Try.prog := by
  refine ⟨fun f l c rv h hc => ?_, fun f cells l c rv cells' h hc => ?_, fun f l c cells h hc => ?_⟩
  · simp only [RF] at h
    split at h <;> cases h
    · exact light_pure ⟨_, _, _, _, _, _⟩
    · exact rawake_pure
    · exact put_rec ⟨_, _, _, _, _, _⟩
    · exact rput_rec ⟨_, _, _, _, _, _⟩
    · exact check_pure ⟨_, _, _, _, _, _⟩
    · exact size_rec ⟨_, _, _, _, _, _⟩
    · exact same_pure ⟨_, _, _, _, _, _⟩ ⟨_, _, _, _, _, _⟩
    · exact rsame_pure ⟨_, _, _, _, _, _⟩ ⟨_, _, _, _, _, _⟩
  · simp only [RF] at h
    split at h <;> cases h
    · rename_i xs e
      obtain ⟨⟨e1, h1⟩, h2⟩ := hc
      have := get_rec (nsOf xs) e h1 (by rw [e1] at h2; simpa using h2)
      rwa [← e1] at this
    · exact left_eff _ _
  · simp only [RF] at h
    split at h <;> cases h
    exact new_new _ hc
section
variable (dl tm : Int) (kd : Bool) (key : ByteArray) (dd : Bool) (val : ByteArray) (dl' tm' : Int) (kd' : Bool) (key' : ByteArray) (dd' : Bool) (val' : ByteArray) (xs : List SV) (e : Int)
@[simp] theorem RF_39 : RF.p 39 [.agg [.int .i64 dl, .int .i64 tm, .bool kd, .str key, .bool dd, .str val]] = some (True, .sv (.bool (decide ((key.size : Int) ≤ 200) && decide ((val.size : Int) ≤ 700)))) := rfl
@[simp] theorem RF_40 : RF.p 40 [] = some (True, .sv (.bool true)) := rfl
@[simp] theorem RF_41 : RF.p 41 [.agg [.int .i64 dl, .int .i64 tm, .bool kd, .str key, .bool dd, .str val]] = some (True, .tup [.own 1 (bs (putR ⟨dl, tm, kd, key, dd, val⟩)), .sv (.int .i64 (recE ⟨dl, tm, kd, key, dd, val⟩))]) := rfl
@[simp] theorem RF_42 : RF.p 42 [.agg [.int .i64 dl, .int .i64 tm, .bool kd, .str key, .bool dd, .str val]] = some (True, .tup [.own 1 (bs (putR ⟨dl, tm, kd, key, dd, val⟩)), .sv (.int .i64 (recE ⟨dl, tm, kd, key, dd, val⟩))]) := rfl
@[simp] theorem RF_43 : RF.p 43 [.agg [.int .i64 dl, .int .i64 tm, .bool kd, .str key, .bool dd, .str val]] = some (True, .sv (.int .i64 (recE ⟨dl, tm, kd, key, dd, val⟩))) := rfl
@[simp] theorem RF_44 : RF.p 44 [.agg [.int .i64 dl, .int .i64 tm, .bool kd, .str key, .bool dd, .str val]] = some (True, .sv (.int .i64 (putR ⟨dl, tm, kd, key, dd, val⟩).length)) := rfl
@[simp] theorem RF_45 : RF.p 45 [.agg [.int .i64 dl, .int .i64 tm, .bool kd, .str key, .bool dd, .str val], .agg [.int .i64 dl', .int .i64 tm', .bool kd', .str key', .bool dd', .str val']] = some (True, .sv (.bool (recS ⟨dl, tm, kd, key, dd, val⟩ ⟨dl', tm', kd', key', dd', val'⟩))) := rfl
@[simp] theorem RF_46 : RF.p 46 [.agg [.int .i64 dl, .int .i64 tm, .bool kd, .str key, .bool dd, .str val], .agg [.int .i64 dl', .int .i64 tm', .bool kd', .str key', .bool dd', .str val']] = some (True, .sv (.bool (recS ⟨dl, tm, kd, key, dd, val⟩ ⟨dl', tm', kd', key', dd', val'⟩))) := rfl
@[simp] theorem RF_47 : RF.e 47 [.sl 1 xs, .int .i64 e] [] = some (IsBs xs ∧ xs.length < 4611686018427387904, .tup [.sv (recG (nsOf xs) e).1.sv, .sv (.int .i64 (recG (nsOf xs) e).2.1)], [.sl 1 (bs (recG (nsOf xs) e).2.2.1), .int .i64 (recG (nsOf xs) e).2.2.2]) := rfl
@[simp] theorem RF_33 : RF.e 33 [.sl 1 xs, .int .i64 e] [] = some (True, .sv (.int .i64 xs.length), [.sl 1 xs, .int .i64 e]) := rfl
@[simp] theorem RF_26 : RF.n 26 [.sl 1 xs] = some (xs.length ≤ 140737488355328, [.sl 1 xs, .int .i64 0]) := rfl
end

theorem law_puts (r s : Rec) : Pure Try.prog 9 [r.sv, s.sv] (.sv (.bool true)) := by
  refine pure_go RF_ok Try.func9 Try.ntmps9 comp9 cres9 (by decide) (by simp) ?_
  obtain ⟨dl, tm, kd, key, dd, val⟩ := r
  obtain ⟨dl', tm', kd', key', dd', val'⟩ := s
  simp only [Rec.sv, Rec.cells]
  by_cases h1 : ((key.size : Int) ≤ 200 ∧ (val.size : Int) ≤ 700)
  · by_cases h2 : ((key'.size : Int) ≤ 200 ∧ (val'.size : Int) ≤ 700)
    · simp [ac9, ar9, h1.1, h1.2, h2.1, h2.2]
      exact fun x hx => bs_byte _ x hx
    · simp [ac9, ar9, h1.1, h1.2, h2]
  · simp [ac9, ar9, h1]
theorem has_rec {v : SV} (h : (Sh.st [.int .i64, .int .i64, .bool, .str, .bool, .str]).hasV v) : ∃ r : Rec, v = r.sv ∧ r.fits := by
  simp only [Sh.hasV, Sh.hasL, Sh.has] at h
  obtain ⟨l, rfl, _, _, rfl, ⟨dl, rfl, w1⟩, _, _, rfl, ⟨tm, rfl, w2⟩, _, _, rfl, ⟨kd, rfl⟩, _, _, rfl, ⟨key, rfl, _⟩, _, _, rfl, ⟨dd, rfl⟩, _, _, rfl, ⟨val, rfl, _⟩, rfl⟩ := h
  exact ⟨⟨dl, tm, kd, key, dd, val⟩, rfl, wf64 w1, wf64 w2⟩
end Go.Proofs.Ytabidcdfmkkegaa
