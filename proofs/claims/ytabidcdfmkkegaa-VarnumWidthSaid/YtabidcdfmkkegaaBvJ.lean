import Derived.Test.YtabidcdfmkkegaaBvI
import Derived.Test.YtabidcdfmkkegaaBvK
set_option linter.unusedSimpArgs false
set_option linter.unusedVariables false
set_option maxHeartbeats 1000000
namespace Go.Proofs.Ytabidcdfmkkegaa
open Go.Av
theorem back_pure (n : Int) (l : List Nat) (hI : I64 n) (hl : Bytes l) : Pure Try.prog 6 [.int .i64 n, .sl 1 (bs l)] (.sv (.bool true)) := by
  refine pure_go RL_ok Try.func6 Try.ntmps6 comp6 cres6 (by decide) (by simp) ?_
  by_cases h : 100 < (l.length : Int)
  · simp [ac6, ar6, h]
  · have hn : l.length < 4611686018427387904 := by omega
    simp [ac6, ar6, h, isBs_bs, hl, hn, hI]
    have hp := layN_pos (zig n)
    have hz := zig_lt hI.1 hI.2
    have h10 := layN_le10 hz
    have e1 : bs (layN (zig n)) ++ bs l = bs (layN (zig n) ++ l) := (bs_append _ _).symm
    have e2 : IntKind.i64.wrap (((layN (zig n)).length : Int) - 1) = (((layN (zig n)).length - 1 : Nat) : Int) := by rw [wrap_i64_in (by omega) (by omega)]; omega
    rw [e1, e2, nsOf_bs, getN_lay _ hz, bs_take, Int.toNat_natCast, nsOf_bs, getN_cut _ hz, zag_zig]
    have hu := u64_zig hI
    refine ⟨by omega, fun _ _ => ⟨⟨by omega, isBs_bs.2 ((layN_bytes _).append hl), by omega⟩, ⟨by omega, isBs_bs.2 ((layN_bytes _).take _), by omega⟩, by simp [hu], by simp⟩⟩

theorem width_pure (u w : Int) (hu : U64 u) (hw : 0 ≤ w ∧ w < 256) : Pure Try.prog 7 [.int .u64 u, .int .u8 w] (.sv (.bool true)) := by
  refine pure_go RL_ok Try.func7 Try.ntmps7 comp7 cres7 (by decide) (by simp) ?_
  obtain ⟨h0, h1⟩ := hu
  obtain ⟨v, rfl⟩ := Int.eq_ofNat_of_zero_le h0
  obtain ⟨z, rfl⟩ := Int.eq_ofNat_of_zero_le hw.1
  have hv : v < 18446744073709551616 := by omega
  have hu : U64 (v : Int) := ⟨h0, h1⟩
  have e1 : IntKind.i64.wrap ((z : Int).tmod 9) = ((z % 9 : Nat) : Int) := by
    have : (z : Int).tmod 9 = ((z % 9 : Nat) : Int) := tmod_nat z 9
    rw [this, wrap_i64_in (by omega) (by omega)]
  generalize hk : z % 9 = k at e1
  have hk8 : k ≤ 8 := by omega
  have e2 : wid (k : Int) = k := by unfold wid; rw [if_neg (by omega), if_neg (by omega)]; omega
  have e3 : IntKind.i64.wrap (8 * (k : Int)) = ((8 * k : Nat) : Int) := by rw [wrap_i64_in (by omega) (by omega)]; omega
  have e4 := unF_fixL k v hk8 hv
  have e5 := fixL_mod k v
  have hb := isBs_bs.2 (fixL_bytes k v)
  have hlow : v % 256 ^ k < 18446744073709551616 := Nat.lt_of_le_of_lt (Nat.mod_le _ _) hv
  by_cases h8 : k < 8
  · have e6 := low_tmod v k h8
    have e7 := low_pos k h8
    have hu2 : U64 ((v % 256 ^ k : Nat) : Int) := ⟨by omega, by omega⟩
    simp [ac7, ar7, hu, e1, e2, e3, e4, h8, e6, e7, hb, hu2, e5, -Int.natCast_emod, -Int.natCast_mul]
    exact ⟨fun _ => ⟨by omega, fun x hx => bs_byte _ x hx⟩, fun q => absurd q (by omega)⟩
  · have hk9 : k = 8 := by omega
    subst hk9
    have e8 := fixL_8 v hv
    rw [e8] at e4
    simp [ac7, ar7, hu, e1, e2, e3, e4, hb]
    have e9 : wid 8 = 8 := rfl
    simp [e9, e4, hb]
    exact fun x hx => bs_byte _ x hx
end Go.Proofs.Ytabidcdfmkkegaa
