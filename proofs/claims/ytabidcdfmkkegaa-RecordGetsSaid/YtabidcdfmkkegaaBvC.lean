import Derived.Test.YtabidcdfmkkegaaBvM
import Derived.Test.YtabidcdfmkkegaaBvB

set_option linter.unusedSimpArgs false
set_option maxHeartbeats 1000000
namespace Go.Proofs.Ytabidcdfmkkegaa
open Go.Av

/-- A byte slice's numbers. -/
def nsOf (xs : List SV) : List Nat := xs.map fun x => match x with | .int _ n => n.toNat | _ => 0
@[simp] theorem nsOf_bs (l : List Nat) : nsOf (bs l) = l := by
  simp [nsOf, bs, Function.comp_def]
def IsBs (xs : List SV) : Prop := xs = bs (nsOf xs) ∧ Bytes (nsOf xs)
theorem isBs_bs {l : List Nat} : IsBs (bs l) ↔ Bytes l := by simp [IsBs]

def I64 (n : Int) : Prop := -9223372036854775808 ≤ n ∧ n < 9223372036854775808
def U64 (n : Int) : Prop := 0 ≤ n ∧ n < 18446744073709551616

def R1 : Orc := { p := fun f l => match f, l with
  | 13, [.int .i64 n] => some (I64 n, .sv (.int .u64 (zig n)))
  | 14, [.int .i64 n] => some (I64 n, .sv (.int .u64 (zig n)))
  | 15, [.int .u64 u] => some (U64 u, .sv (.int .i64 (zag u.toNat)))
  | 16, [.int .u64 u] => some (U64 u, .sv (.int .i64 (zag u.toNat)))
  | 49, [.int .u64 u] => some (U64 u, .own 1 (bs (layN u.toNat)))
  | 50, [.int .u64 u] => some (U64 u, .own 1 (bs (layN u.toNat)))
  | 51, [.int .i64 w] => some (True, .sv (.int .i64 (wid w)))
  | _, _ => none }
theorem R1_ok : R1.ok Try.prog := by
  refine ⟨fun f l c rv h hc => ?_, fun _ _ _ _ _ _ h => (by cases h), fun _ _ _ _ h => (by cases h)⟩
  simp only [R1] at h
  split at h <;> cases h
  · exact zigzag_pure _ hc.1 hc.2
  · exact rzigzag_pure _ hc.1 hc.2
  · obtain ⟨h0, h1⟩ := hc
    obtain ⟨u, rfl⟩ := Int.eq_ofNat_of_zero_le h0
    exact zagzig_pure u (by omega)
  · obtain ⟨h0, h1⟩ := hc
    obtain ⟨u, rfl⟩ := Int.eq_ofNat_of_zero_le h0
    exact rzagzig_pure u (by omega)
  · obtain ⟨h0, h1⟩ := hc
    obtain ⟨u, rfl⟩ := Int.eq_ofNat_of_zero_le h0
    exact lay_pure u (by omega)
  · obtain ⟨h0, h1⟩ := hc
    obtain ⟨u, rfl⟩ := Int.eq_ofNat_of_zero_le h0
    exact rbytes_pure u (by omega)
  · exact wide_pure _

theorem u64_zig {n : Int} (h : I64 n) : U64 (zig n : Int) := ⟨by omega, by have := zig_lt h.1 h.2; omega⟩

theorem put_pure (n : Int) (h : I64 n) : Pure Try.prog 18 [.int .i64 n] (.own 1 (bs (layN (zig n)))) := by
  refine pure_go R1_ok Try.func18 Try.ntmps18 comp18 cres18 (by decide) (by simp) ?_
  simp [ac18, ar18, R1, h, u64_zig h]
theorem rput_pure (n : Int) (h : I64 n) : Pure Try.prog 19 [.int .i64 n] (.own 1 (bs (layN (zig n)))) := by
  refine pure_go R1_ok Try.func19 Try.ntmps19 comp19 cres19 (by decide) (by simp) ?_
  simp [ac19, ar19, R1, h, u64_zig h]

theorem equal_pure (a b : List Nat) (ha : Bytes a) (hb : Bytes b) : Pure Try.prog 52 [.sl 1 (bs a), .sl 1 (bs b)] (.sv (.bool (decide (a = b)))) := by
  refine pure_go R0_ok Try.func52 Try.ntmps52 comp52 cres52 (by decide) (by simp) ?_
  have := sOf_eq ha hb
  simp [ac52, ar52, bs_str, this]
  exact ⟨fun x hx => bs_byte _ x hx, fun x hx => bs_byte _ x hx⟩

def R1a : Orc := { R1 with arr := fun s => s == 9 }
theorem R1a_ok : R1a.ok Try.prog := ⟨R1_ok.p, R1_ok.e, R1_ok.n⟩

theorem wid_le (w : Int) : wid w ≤ 8 := by unfold wid; split <;> (try split) <;> omega

theorem fixed_pure (u : Nat) (w : Int) (hu : u < 18446744073709551616) : Pure Try.prog 20 [.int .u64 u, .int .i64 w] (.sv (.sl 1 (bs (fixL (wid w) u)))) := by
  refine pure_goF 9 R1a_ok Try.func20 Try.ntmps20 comp20 cres20 (by decide) (by simp) ?_
  have hw := wid_le w
  generalize hW : wid w = W at hw
  have hR : R1a.p 51 [.int .i64 w] = some (True, .sv (.int .i64 (W : Int))) := by rw [← hW]; rfl
  have hA : R1a.arr 9 = true := rfl
  have hA' : ∀ d, d ≠ 9 → R1a.arr d = false := fun d h => by simp [R1a, h]
  simp [ac20, ar20, hR, hA]
  refine ⟨by omega, ?_⟩
  refine awpR_loop (α := Nat) (fun i => i ≤ W) (fun i => { n := 29, sl := [(0, .sv (.int .u64 u)), (5, .lsl 9 1 0 W W), (10, .lsl 9 1 0 W W), (11, .sv (.int .i64 W)), (12, .sv (.int .i64 i))], bx := [(9, (bs (List.replicate (W - i) 0 ++ fixL i u)).map .sv)], hp := fun _ => none })
    (fun i => W - i) 0 (by simp) ?_ ?_
  · simp
    exact WkRs_eq (by simp [fixL, bs])
  intro i hi
  by_cases hlt : i < W
  · have e1 : IntKind.i64.wrap (8 * (i : Int)) = ((8 * i : Nat) : Int) := by rw [wrap_i64_in (by omega) (by omega)]; omega
    have e2 : IntKind.i64.wrap ((W : Int) - 1) = ((W - 1 : Nat) : Int) := by rw [wrap_i64_in (by omega) (by omega)]; omega
    have e3 : IntKind.i64.wrap (((W - 1 : Nat) : Int) - (i : Int)) = ((W - 1 - i : Nat) : Int) := by rw [wrap_i64_in (by omega) (by omega)]; omega
    have e4 : IntKind.i64.wrap ((i : Int) + 1) = ((i + 1 : Nat) : Int) := by rw [wrap_i64_in (by omega) (by omega)]; omega
    simp [hlt, e1, e2, e3, e4, -Int.natCast_mul, -Int.natCast_add]
    refine ⟨⟨by omega, by omega⟩, i + 1, by omega, by omega, rfl, WkRs_eq ?_⟩
    rw [shr8 u i (by omega), ← List.map_set, bs_set, show W - i = (W - 1 - i) + 1 by omega, set_zero, fixL_cons, show W - (i + 1) = W - 1 - i by omega]
  · have : i = W := by omega
    subst this
    simp
    refine ⟨fun a ha => ?_, ?_⟩
    · simp only [bs, List.mem_map] at ha
      obtain ⟨n, _, rfl⟩ := ha
      rfl
    · rw [List.take_of_length_le (by simp)]
      simp [Function.comp_def, RV.share]
end Go.Proofs.Ytabidcdfmkkegaa
