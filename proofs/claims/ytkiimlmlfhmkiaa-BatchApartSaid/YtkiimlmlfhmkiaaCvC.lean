import Derived.Test.YtkiimlmlfhmkiaaCvM
import Derived.Test.YtkiimlmlfhmkiaaCvB

set_option linter.unusedSimpArgs false
set_option maxHeartbeats 1000000
namespace Go.Proofs.Ytkiimlmlfhmkiaa
open Go.Av

/-- A byte slice's numbers. -/
def nsOf (xs : List SV) : List Nat := xs.map fun x => match x with | .int _ n => n.toNat | _ => 0
@[simp] theorem nsOf_bs (l : List Nat) : nsOf (bs l) = l := by
  simp [nsOf, bs, Function.comp_def]
def IsBs (xs : List SV) : Prop := xs = bs (nsOf xs) ∧ Bytes (nsOf xs)
theorem isBs_bs {l : List Nat} : IsBs (bs l) ↔ Bytes l := by simp [IsBs]

def I64 (n : Int) : Prop := -9223372036854775808 ≤ n ∧ n < 9223372036854775808
def U64 (n : Int) : Prop := 0 ≤ n ∧ n < 18446744073709551616

def R1 : Orc := { p := fun f l => match f, l with
  | 87, [.int .i64 n] => some (I64 n, .sv (.int .u64 (zig n)))
  | 90, [.int .i64 n] => some (I64 n, .sv (.int .u64 (zig n)))
  | 103, [.int .u64 u] => some (U64 u, .sv (.int .i64 (zag u.toNat)))
  | 105, [.int .u64 u] => some (U64 u, .sv (.int .i64 (zag u.toNat)))
  | 86, [.int .u64 u] => some (U64 u, .own 1 (bs (layN u.toNat)))
  | 89, [.int .u64 u] => some (U64 u, .own 1 (bs (layN u.toNat)))
  | 94, [.int .i64 w] => some (True, .sv (.int .i64 (wid w)))
  | _, _ => none }
theorem R1_ok : R1.ok Try.prog := by
  refine ⟨fun f l c rv h hc => ?_, fun _ _ _ _ _ _ h => (by cases h), fun _ _ _ _ h => (by cases h), fun _ h => (by cases h), fun _ _ _ _ _ _ h => (by cases h)⟩
  simp only [R1] at h
  split at h <;> cases h
  · exact zigzag_pure _ hc.1 hc.2
  · exact rzigzag_pure _ hc.1 hc.2
  · obtain ⟨h0, h1⟩ := hc
    obtain ⟨u, rfl⟩ := Int.eq_ofNat_of_zero_le h0
    exact zagzig_pure u (by omega)
  · obtain ⟨h0, h1⟩ := hc
    obtain ⟨u, rfl⟩ := Int.eq_ofNat_of_zero_le h0
    exact rzagzig_pure u (by omega)
  · obtain ⟨h0, h1⟩ := hc
    obtain ⟨u, rfl⟩ := Int.eq_ofNat_of_zero_le h0
    exact lay_pure u (by omega)
  · obtain ⟨h0, h1⟩ := hc
    obtain ⟨u, rfl⟩ := Int.eq_ofNat_of_zero_le h0
    exact rbytes_pure u (by omega)
  · exact wide_pure _

theorem u64_zig {n : Int} (h : I64 n) : U64 (zig n : Int) := ⟨by omega, by have := zig_lt h.1 h.2; omega⟩

theorem put_pure (n : Int) (h : I64 n) : Pure Try.prog 50 [.int .i64 n] (.own 1 (bs (layN (zig n)))) := by
  refine pure_go R1_ok Try.func50 Try.ntmps50 comp50 cres50 (by decide) (by simp) ?_
  simp [ac50, ar50, R1, h, u64_zig h]
theorem rput_pure (n : Int) (h : I64 n) : Pure Try.prog 55 [.int .i64 n] (.own 1 (bs (layN (zig n)))) := by
  refine pure_go R1_ok Try.func55 Try.ntmps55 comp55 cres55 (by decide) (by simp) ?_
  simp [ac55, ar55, R1, h, u64_zig h]

theorem equal_pure (a b : List Nat) (ha : Bytes a) (hb : Bytes b) : Pure Try.prog 65 [.sl 1 (bs a), .sl 1 (bs b)] (.sv (.bool (decide (a = b)))) := by
  refine pure_go R0_ok Try.func65 Try.ntmps65 comp65 cres65 (by decide) (by simp) ?_
  have := sOf_eq ha hb
  simp [ac65, ar65, bs_str, this]
  exact ⟨fun x hx => bs_byte _ x hx, fun x hx => bs_byte _ x hx⟩

def R1a : Orc := { R1 with arr := fun s => s == 9 }
theorem R1a_ok : R1a.ok Try.prog := ⟨R1_ok.p, R1_ok.e, R1_ok.n, fun _ h => (by cases h), fun _ _ _ _ _ _ h => (by cases h)⟩

theorem wid_le (w : Int) : wid w ≤ 8 := by unfold wid; split <;> (try split) <;> omega

end Go.Proofs.Ytkiimlmlfhmkiaa
