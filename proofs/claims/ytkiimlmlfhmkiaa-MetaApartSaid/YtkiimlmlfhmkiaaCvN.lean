import Derived.Laws.BitsLemmas
import Derived.Laws.Bits64
import Derived.IntWalk
import Derived.Test.YtkiimlmlfhmkiaaAvAA

/- Plain arithmetic: numbers as bytes. -/
namespace Go.Av

theorem ofInt_nat (w a : Nat) : BitVec.ofInt w (a : Int) = BitVec.ofNat w a := by
  apply BitVec.eq_of_toNat_eq
  simp

theorem or_nat (w a b : Nat) : (BitVec.ofInt w (a : Int) ||| BitVec.ofInt w (b : Int)).toNat = (a % 2 ^ w) ||| (b % 2 ^ w) := by simp
theorem and_nat (w a b : Nat) : (BitVec.ofInt w (a : Int) &&& BitVec.ofInt w (b : Int)).toNat = (a % 2 ^ w) &&& (b % 2 ^ w) := by simp
theorem xor_nat (w a b : Nat) : (BitVec.ofInt w (a : Int) ^^^ BitVec.ofInt w (b : Int)).toNat = (a % 2 ^ w) ^^^ (b % 2 ^ w) := by simp

/-- A number with more bytes to come. -/
theorem or128 (a : Nat) (h : a < 256) : a ||| 128 = a % 128 + 128 := by
  have : ∀ x : Fin 256, x.val ||| 128 = x.val % 128 + 128 := by decide +kernel
  exact this ⟨a, h⟩
theorem and127 (a : Nat) (h : a < 256) : a &&& 127 = a % 128 := by
  have : ∀ x : Fin 256, x.val &&& 127 = x.val % 128 := by decide +kernel
  exact this ⟨a, h⟩
theorem and128 (a : Nat) (h : a < 256) : a &&& 128 = if a < 128 then 0 else 128 := by
  have : ∀ x : Fin 256, x.val &&& 128 = if x.val < 128 then 0 else 128 := by decide +kernel
  exact this ⟨a, h⟩

def bs (l : List Nat) : List SV := l.map fun n : Nat => .int .u8 (n : Int)
@[simp] theorem bs_length (l : List Nat) : (bs l).length = l.length := by simp [bs]
@[simp] theorem bs_nil : bs [] = [] := rfl
theorem bs_append (a b : List Nat) : bs (a ++ b) = bs a ++ bs b := by simp [bs]
theorem bs_cons (a : Nat) (b : List Nat) : bs (a :: b) = .int .u8 a :: bs b := rfl
def sOf (l : List Nat) : ByteArray := ⟨(l.map fun n => UInt8.ofNat n).toArray⟩
@[simp] theorem bs_byte (l : List Nat) : ∀ x ∈ bs l, isByte x := by
  intro x hx
  simp only [bs, List.mem_map] at hx
  obtain ⟨n, _, rfl⟩ := hx
  trivial
theorem bs_str (l : List Nat) : (⟨((bs l).map byteOf).toArray⟩ : ByteArray) = sOf l := by
  simp [bs, sOf, byteOf, Function.comp_def]

def layN (u : Nat) : List Nat := if u < 128 then [u] else (u % 128 + 128) :: layN (u / 128)
termination_by u
decreasing_by omega

theorem layN_small {u : Nat} (h : u < 128) : layN u = [u] := by rw [layN, if_pos h]
theorem layN_big {u : Nat} (h : ¬ u < 128) : layN u = (u % 128 + 128) :: layN (u / 128) := by rw [layN, if_neg h]
theorem layN_length : ∀ (k u : Nat), u < 128 ^ k → (layN u).length ≤ max 1 k
  | 0, u, h => by rw [layN_small (by simp at h; omega)]; simp
  | k + 1, u, h => by
    by_cases q : u < 128
    · rw [layN_small q]; simp
    · rw [layN_big q]
      have hk : k ≠ 0 := by rintro rfl; simp at h; omega
      have := layN_length k (u / 128) (by rw [Nat.pow_succ] at h; omega)
      simp only [List.length_cons]
      omega
theorem layN_le10 {u : Nat} (h : u < 18446744073709551616) : (layN u).length ≤ 10 := by
  have := layN_length 10 u (by omega)
  omega
theorem layN_pos (u : Nat) : 1 ≤ (layN u).length := by
  rw [layN]; split <;> simp
end Go.Av
namespace Go.Av
theorem w8_or128 (v : Nat) : IntKind.u8.wrap ↑((IntKind.u8.wrap ↑v % 2 ^ IntKind.u8.bits).toNat ||| 128 % 2 ^ IntKind.u8.bits) = ((v % 128 + 128 : Nat) : Int) := by
  have e1 : (IntKind.u8.wrap ↑v % 2 ^ IntKind.u8.bits).toNat = v % 256 := by rw [IntKind.wrap_u8]; simp [IntKind.bits]; omega
  rw [e1, show (128 % 2 ^ IntKind.u8.bits) = 128 from rfl, or128 _ (by omega), IntKind.wrap_u8]
  omega
theorem w8_nat (v : Nat) : IntKind.u8.wrap (v : Int) = ((v % 256 : Nat) : Int) := by rw [IntKind.wrap_u8]; omega
theorem fdiv_nat (v m : Nat) : (v : Int).fdiv (m : Int) = ((v / m : Nat) : Int) := by
  rw [Int.fdiv_eq_ediv_of_nonneg _ (by omega)]; omega
theorem w8_of_add (v : Nat) : IntKind.u8.wrap ((v : Int) % 128 + 128) = ((v % 128 + 128 : Nat) : Int) := by rw [IntKind.wrap_u8]; omega
end Go.Av
namespace Go.Av
theorem xor_ones (a : Nat) (h : a < 18446744073709551616) : a ^^^ 18446744073709551615 = 18446744073709551615 - a := by
  have h1 : (BitVec.ofNat 64 a ^^^ BitVec.allOnes 64).toNat = (~~~ BitVec.ofNat 64 a).toNat := by rw [BitVec.xor_allOnes]
  simp only [BitVec.toNat_xor, BitVec.toNat_ofNat, BitVec.toNat_allOnes, BitVec.toNat_not] at h1
  rw [Nat.mod_eq_of_lt (by omega)] at h1
  omega
theorem tmod_nat (v m : Nat) : ((v : Int).tmod (m : Int)) = ((v % m : Nat) : Int) := by
  rw [Int.tmod_eq_emod_of_nonneg (by omega)]; omega
def wid (w : Int) : Nat := if w < 0 then 0 else if 8 < w then 8 else w.toNat
def zig (n : Int) : Nat := if 0 ≤ n then (2 * n).toNat else (-2 * n - 1).toNat
def zag (u : Nat) : Int := if u % 2 = 0 then ((u / 2 : Nat) : Int) else -((u / 2 : Nat) : Int) - 1
theorem zag_zig (n : Int) : zag (zig n) = n := by
  unfold zag zig
  by_cases h : 0 ≤ n
  · simp only [h, if_true]
    rw [if_pos (by omega)]; omega
  · simp only [h, if_false]
    rw [if_neg (by omega)]; omega
theorem zig_lt {n : Int} (h0 : -9223372036854775808 ≤ n) (h1 : n < 9223372036854775808) : zig n < 18446744073709551616 := by
  unfold zig; split <;> omega
theorem zag_ge {u : Nat} (h : u < 18446744073709551616) : -9223372036854775808 ≤ zag u ∧ zag u < 9223372036854775808 := by
  unfold zag; split <;> omega
theorem zig_xor {n : Int} (h0 : -9223372036854775808 ≤ n) (h1 : n < 9223372036854775808) : IntKind.u64.wrap
      ↑((IntKind.u64.wrap (IntKind.u64.wrap n * 2 ^ min 1 IntKind.u64.bits) % 2 ^ IntKind.u64.bits).toNat ^^^
          (IntKind.u64.wrap (n.fdiv (2 ^ min 63 IntKind.i64.bits)) % 2 ^ IntKind.u64.bits).toNat) =
    ↑(zig n) := by
  have e1 : (IntKind.u64.wrap (IntKind.u64.wrap n * 2 ^ min 1 IntKind.u64.bits) % 2 ^ IntKind.u64.bits).toNat = ((2 * n) % 18446744073709551616).toNat := by
    rw [IntKind.wrap_u64, IntKind.wrap_u64]; simp [IntKind.bits]; omega
  have e2 : (IntKind.u64.wrap (n.fdiv (2 ^ min 63 IntKind.i64.bits)) % 2 ^ IntKind.u64.bits).toNat = if 0 ≤ n then 0 else 18446744073709551615 := by
    have : (2 ^ min 63 IntKind.i64.bits : Int) = 9223372036854775808 := by decide
    rw [this, Int.fdiv_eq_ediv_of_nonneg _ (by omega), IntKind.wrap_u64]
    simp [IntKind.bits]
    split <;> omega
  rw [e1, e2]
  unfold zig
  by_cases h : 0 ≤ n
  · simp only [h, if_true, Nat.xor_zero]; rw [IntKind.wrap_u64]; omega
  · simp only [h, if_false]; rw [xor_ones _ (by omega), IntKind.wrap_u64]; omega
theorem zag_xor {u : Nat} (hu : u < 18446744073709551616) : IntKind.i64.wrap
      ↑((IntKind.i64.wrap ((↑u : Int).fdiv (2 ^ min 1 IntKind.u64.bits)) % 2 ^ IntKind.i64.bits).toNat ^^^
          (IntKind.i64.wrap
                (-IntKind.i64.wrap (IntKind.u64.wrap ↑(u % 2 ^ IntKind.u64.bits &&& 1 % 2 ^ IntKind.u64.bits))) %
              2 ^ IntKind.i64.bits).toNat) =
    zag u := by
  have e0 : (2 ^ min 1 IntKind.u64.bits : Int) = 2 := by decide
  have e1 : (IntKind.i64.wrap ((↑u : Int).fdiv (2 ^ min 1 IntKind.u64.bits)) % 2 ^ IntKind.i64.bits).toNat = u / 2 := by
    rw [e0, Int.fdiv_eq_ediv_of_nonneg _ (by omega), IntKind.wrap_i64]; simp [IntKind.bits]; omega
  have e2 : (u % 2 ^ IntKind.u64.bits &&& 1 % 2 ^ IntKind.u64.bits) = u % 2 := by
    rw [show (1 % 2 ^ IntKind.u64.bits) = 1 from rfl, Nat.and_one_is_mod]; simp [IntKind.bits]
  have e3 : (IntKind.i64.wrap (-IntKind.i64.wrap (IntKind.u64.wrap ↑(u % 2 ^ IntKind.u64.bits &&& 1 % 2 ^ IntKind.u64.bits))) % 2 ^ IntKind.i64.bits).toNat = if u % 2 = 0 then 0 else 18446744073709551615 := by
    rw [e2, IntKind.wrap_u64, IntKind.wrap_i64, IntKind.wrap_i64]; simp [IntKind.bits]; split <;> omega
  rw [e1, e3]
  unfold zag
  by_cases h : u % 2 = 0
  · simp only [h, if_true, Nat.xor_zero]; rw [IntKind.wrap_i64]; omega
  · simp only [h, if_false]; rw [xor_ones _ (by omega), IntKind.wrap_i64]; omega
end Go.Av
