import Derived.Laws.BitsLemmas
import Derived.Laws.Bits64
import Derived.IntWalk
import Derived.Test.YtflcdbfcipkhkaaAvAA
import Derived.Laws.Strings

set_option linter.unusedVariables false
set_option linter.unusedSimpArgs false

/- Plain arithmetic: numbers as bytes. -/
namespace Go.Av


theorem ofInt_nat (w a : Nat) : BitVec.ofInt w (a : Int) = BitVec.ofNat w a := by
  apply BitVec.eq_of_toNat_eq
  simp

theorem or_nat (w a b : Nat) : (BitVec.ofInt w (a : Int) ||| BitVec.ofInt w (b : Int)).toNat = (a % 2 ^ w) ||| (b % 2 ^ w) := by simp
theorem and_nat (w a b : Nat) : (BitVec.ofInt w (a : Int) &&& BitVec.ofInt w (b : Int)).toNat = (a % 2 ^ w) &&& (b % 2 ^ w) := by simp
theorem xor_nat (w a b : Nat) : (BitVec.ofInt w (a : Int) ^^^ BitVec.ofInt w (b : Int)).toNat = (a % 2 ^ w) ^^^ (b % 2 ^ w) := by simp

/-- A number with more bytes to come. -/
theorem or128 (a : Nat) (h : a < 256) : a ||| 128 = a % 128 + 128 := by
  have : ∀ x : Fin 256, x.val ||| 128 = x.val % 128 + 128 := by decide +kernel
  exact this ⟨a, h⟩
theorem and127 (a : Nat) (h : a < 256) : a &&& 127 = a % 128 := by
  have : ∀ x : Fin 256, x.val &&& 127 = x.val % 128 := by decide +kernel
  exact this ⟨a, h⟩
theorem and128 (a : Nat) (h : a < 256) : a &&& 128 = if a < 128 then 0 else 128 := by
  have : ∀ x : Fin 256, x.val &&& 128 = if x.val < 128 then 0 else 128 := by decide +kernel
  exact this ⟨a, h⟩

def bs (l : List Nat) : List SV := l.map fun n : Nat => .int .u8 (n : Int)
@[simp] theorem bs_length (l : List Nat) : (bs l).length = l.length := by simp [bs]
@[simp] theorem bs_nil : bs [] = [] := rfl
theorem bs_append (a b : List Nat) : bs (a ++ b) = bs a ++ bs b := by simp [bs]
theorem bs_cons (a : Nat) (b : List Nat) : bs (a :: b) = .int .u8 a :: bs b := rfl
def sOf (l : List Nat) : ByteArray := ⟨(l.map fun n => UInt8.ofNat n).toArray⟩
@[simp] theorem bs_byte (l : List Nat) : ∀ x ∈ bs l, isByte x := by
  intro x hx
  simp only [bs, List.mem_map] at hx
  obtain ⟨n, _, rfl⟩ := hx
  trivial
theorem bs_str (l : List Nat) : (⟨((bs l).map byteOf).toArray⟩ : ByteArray) = sOf l := by
  simp [bs, sOf, byteOf, Function.comp_def]

def layN (u : Nat) : List Nat := if u < 128 then [u] else (u % 128 + 128) :: layN (u / 128)
termination_by u
decreasing_by omega

theorem layN_small {u : Nat} (h : u < 128) : layN u = [u] := by rw [layN, if_pos h]
theorem layN_big {u : Nat} (h : ¬ u < 128) : layN u = (u % 128 + 128) :: layN (u / 128) := by rw [layN, if_neg h]
theorem layN_length : ∀ (k u : Nat), u < 128 ^ k → (layN u).length ≤ max 1 k
  | 0, u, h => by rw [layN_small (by simp at h; omega)]; simp
  | k + 1, u, h => by
    by_cases q : u < 128
    · rw [layN_small q]; simp
    · rw [layN_big q]
      have hk : k ≠ 0 := by rintro rfl; simp at h; omega
      have := layN_length k (u / 128) (by rw [Nat.pow_succ] at h; omega)
      simp only [List.length_cons]
      omega
theorem layN_le10 {u : Nat} (h : u < 18446744073709551616) : (layN u).length ≤ 10 := by
  have := layN_length 10 u (by omega)
  omega
theorem layN_pos (u : Nat) : 1 ≤ (layN u).length := by
  rw [layN]; split <;> simp
end Go.Av
namespace Go.Av
theorem w8_or128 (v : Nat) : IntKind.u8.wrap ↑((IntKind.u8.wrap ↑v % 2 ^ IntKind.u8.bits).toNat ||| 128 % 2 ^ IntKind.u8.bits) = ((v % 128 + 128 : Nat) : Int) := by
  have e1 : (IntKind.u8.wrap ↑v % 2 ^ IntKind.u8.bits).toNat = v % 256 := by rw [IntKind.wrap_u8]; simp [IntKind.bits]; omega
  rw [e1, show (128 % 2 ^ IntKind.u8.bits) = 128 from rfl, or128 _ (by omega), IntKind.wrap_u8]
  omega
theorem w8_nat (v : Nat) : IntKind.u8.wrap (v : Int) = ((v % 256 : Nat) : Int) := by rw [IntKind.wrap_u8]; omega
theorem fdiv_nat (v m : Nat) : (v : Int).fdiv (m : Int) = ((v / m : Nat) : Int) := by
  rw [Int.fdiv_eq_ediv_of_nonneg _ (by omega)]; omega
theorem w8_of_add (v : Nat) : IntKind.u8.wrap ((v : Int) % 128 + 128) = ((v % 128 + 128 : Nat) : Int) := by rw [IntKind.wrap_u8]; omega
end Go.Av
namespace Go.Av
theorem xor_ones (a : Nat) (h : a < 18446744073709551616) : a ^^^ 18446744073709551615 = 18446744073709551615 - a := by
  have h1 : (BitVec.ofNat 64 a ^^^ BitVec.allOnes 64).toNat = (~~~ BitVec.ofNat 64 a).toNat := by rw [BitVec.xor_allOnes]
  simp only [BitVec.toNat_xor, BitVec.toNat_ofNat, BitVec.toNat_allOnes, BitVec.toNat_not] at h1
  rw [Nat.mod_eq_of_lt (by omega)] at h1
  omega
theorem tmod_nat (v m : Nat) : ((v : Int).tmod (m : Int)) = ((v % m : Nat) : Int) := by
  rw [Int.tmod_eq_emod_of_nonneg (by omega)]; omega
def wid (w : Int) : Nat := if w < 0 then 0 else if 8 < w then 8 else w.toNat
def zig (n : Int) : Nat := if 0 ≤ n then (2 * n).toNat else (-2 * n - 1).toNat
def zag (u : Nat) : Int := if u % 2 = 0 then ((u / 2 : Nat) : Int) else -((u / 2 : Nat) : Int) - 1
theorem zag_zig (n : Int) : zag (zig n) = n := by
  unfold zag zig
  by_cases h : 0 ≤ n
  · simp only [h, if_true]
    rw [if_pos (by omega)]; omega
  · simp only [h, if_false]
    rw [if_neg (by omega)]; omega
theorem zig_lt {n : Int} (h0 : -9223372036854775808 ≤ n) (h1 : n < 9223372036854775808) : zig n < 18446744073709551616 := by
  unfold zig; split <;> omega
theorem zag_ge {u : Nat} (h : u < 18446744073709551616) : -9223372036854775808 ≤ zag u ∧ zag u < 9223372036854775808 := by
  unfold zag; split <;> omega
theorem zig_xor {n : Int} (h0 : -9223372036854775808 ≤ n) (h1 : n < 9223372036854775808) : IntKind.u64.wrap
      ↑((IntKind.u64.wrap (IntKind.u64.wrap n * 2 ^ min 1 IntKind.u64.bits) % 2 ^ IntKind.u64.bits).toNat ^^^
          (IntKind.u64.wrap (n.fdiv (2 ^ min 63 IntKind.i64.bits)) % 2 ^ IntKind.u64.bits).toNat) =
    ↑(zig n) := by
  have e1 : (IntKind.u64.wrap (IntKind.u64.wrap n * 2 ^ min 1 IntKind.u64.bits) % 2 ^ IntKind.u64.bits).toNat = ((2 * n) % 18446744073709551616).toNat := by
    rw [IntKind.wrap_u64, IntKind.wrap_u64]; simp [IntKind.bits]; omega
  have e2 : (IntKind.u64.wrap (n.fdiv (2 ^ min 63 IntKind.i64.bits)) % 2 ^ IntKind.u64.bits).toNat = if 0 ≤ n then 0 else 18446744073709551615 := by
    have : (2 ^ min 63 IntKind.i64.bits : Int) = 9223372036854775808 := by decide
    rw [this, Int.fdiv_eq_ediv_of_nonneg _ (by omega), IntKind.wrap_u64]
    simp [IntKind.bits]
    split <;> omega
  rw [e1, e2]
  unfold zig
  by_cases h : 0 ≤ n
  · simp only [h, if_true, Nat.xor_zero]; rw [IntKind.wrap_u64]; omega
  · simp only [h, if_false]; rw [xor_ones _ (by omega), IntKind.wrap_u64]; omega
theorem zag_xor {u : Nat} (hu : u < 18446744073709551616) : IntKind.i64.wrap
      ↑((IntKind.i64.wrap ((↑u : Int).fdiv (2 ^ min 1 IntKind.u64.bits)) % 2 ^ IntKind.i64.bits).toNat ^^^
          (IntKind.i64.wrap
                (-IntKind.i64.wrap (IntKind.u64.wrap ↑(u % 2 ^ IntKind.u64.bits &&& 1 % 2 ^ IntKind.u64.bits))) %
              2 ^ IntKind.i64.bits).toNat) =
    zag u := by
  have e0 : (2 ^ min 1 IntKind.u64.bits : Int) = 2 := by decide
  have e1 : (IntKind.i64.wrap ((↑u : Int).fdiv (2 ^ min 1 IntKind.u64.bits)) % 2 ^ IntKind.i64.bits).toNat = u / 2 := by
    rw [e0, Int.fdiv_eq_ediv_of_nonneg _ (by omega), IntKind.wrap_i64]; simp [IntKind.bits]; omega
  have e2 : (u % 2 ^ IntKind.u64.bits &&& 1 % 2 ^ IntKind.u64.bits) = u % 2 := by
    rw [show (1 % 2 ^ IntKind.u64.bits) = 1 from rfl, Nat.and_one_is_mod]; simp [IntKind.bits]
  have e3 : (IntKind.i64.wrap (-IntKind.i64.wrap (IntKind.u64.wrap ↑(u % 2 ^ IntKind.u64.bits &&& 1 % 2 ^ IntKind.u64.bits))) % 2 ^ IntKind.i64.bits).toNat = if u % 2 = 0 then 0 else 18446744073709551615 := by
    rw [e2, IntKind.wrap_u64, IntKind.wrap_i64, IntKind.wrap_i64]; simp [IntKind.bits]; split <;> omega
  rw [e1, e3]
  unfold zag
  by_cases h : u % 2 = 0
  · simp only [h, if_true, Nat.xor_zero]; rw [IntKind.wrap_i64]; omega
  · simp only [h, if_false]; rw [xor_ones _ (by omega), IntKind.wrap_i64]; omega
end Go.Av

/- Plain facts on numbers as bytes. -/
set_option linter.unusedSimpArgs false
namespace Go.Av


def Bytes (l : List Nat) : Prop := ∀ c ∈ l, c < 256
theorem Bytes.append {a b : List Nat} (h : Bytes a) (k : Bytes b) : Bytes (a ++ b) := fun c hc => by
  rcases List.mem_append.1 hc with q | q
  · exact h c q
  · exact k c q
theorem Bytes.take {a : List Nat} (h : Bytes a) (n : Nat) : Bytes (a.take n) := fun c hc => h c (List.mem_of_mem_take hc)
theorem Bytes.drop {a : List Nat} (h : Bytes a) (n : Nat) : Bytes (a.drop n) := fun c hc => h c (List.mem_of_mem_drop hc)
theorem Bytes.get {a : List Nat} (h : Bytes a) {i : Nat} (hi : i < a.length) : a[i] < 256 := h _ (List.getElem_mem hi)

theorem layN_bytes (u : Nat) : Bytes (layN u) := by
  induction u using Nat.strongRecOn with
  | _ u ih =>
    by_cases h : u < 128
    · rw [layN_small h]; intro c hc; simp at hc; omega
    · rw [layN_big h]
      intro c hc
      rcases List.mem_cons.1 hc with rfl | hc
      · omega
      · exact ih (u / 128) (by omega) c hc

theorem sOf_toList (l : List Nat) : (sOf l).toList = l.map UInt8.ofNat := by
  simp [sOf, ByteArray.toList_eq]
theorem ofNat_inj {a b : Nat} (ha : a < 256) (hb : b < 256) (h : UInt8.ofNat a = UInt8.ofNat b) : a = b := by
  have := congrArg UInt8.toNat h
  simp at this
  omega
theorem map_ofNat_inj : ∀ {a b : List Nat}, Bytes a → Bytes b → a.map UInt8.ofNat = b.map UInt8.ofNat → a = b
  | [], [], _, _, _ => rfl
  | [], _ :: _, _, _, h => by simp at h
  | _ :: _, [], _, _, h => by simp at h
  | x :: a, y :: b, ha, hb, h => by
    simp only [List.map_cons, List.cons.injEq] at h
    rw [ofNat_inj (ha x (by simp)) (hb y (by simp)) h.1, map_ofNat_inj (fun c hc => ha c (by simp [hc])) (fun c hc => hb c (by simp [hc])) h.2]
theorem sOf_eq {a b : List Nat} (ha : Bytes a) (hb : Bytes b) : ((sOf a).toList == (sOf b).toList) = decide (a = b) := by
  rw [sOf_toList, sOf_toList]
  by_cases h : a = b
  · subst h; simp
  · simp only [h, decide_false, beq_eq_false_iff_ne, ne_eq]
    exact fun q => h (map_ofNat_inj ha hb q)

/-! ### numbers of a set width -/
def fixL : Nat → Nat → List Nat
  | 0, _ => []
  | k + 1, u => fixL k (u / 256) ++ [u % 256]
@[simp] theorem fixL_length : ∀ (k u : Nat), (fixL k u).length = k
  | 0, _ => rfl
  | k + 1, u => by simp [fixL, fixL_length k]
theorem fixL_bytes : ∀ (k u : Nat), Bytes (fixL k u)
  | 0, _ => fun c hc => by simp [fixL] at hc
  | k + 1, u => (fixL_bytes k _).append (fun c hc => by simp at hc; omega)
theorem fixL_cons : ∀ (k u : Nat), fixL (k + 1) u = (u / 256 ^ k % 256) :: fixL k u
  | 0, u => by simp [fixL]
  | k + 1, u => by
    rw [fixL, fixL_cons k (u / 256), fixL]
    rw [Nat.pow_succ, Nat.mul_comm, ← Nat.div_div_eq_div_mul]
    rfl
theorem fixL_mod : ∀ (k u : Nat), fixL k (u % 256 ^ k) = fixL k u
  | 0, _ => rfl
  | k + 1, u => by
    rw [fixL, fixL]
    have e1 : u % 256 ^ (k + 1) / 256 = (u / 256) % 256 ^ k := by
      rw [Nat.pow_succ, Nat.mul_comm, Nat.mod_mul_right_div_self]
    have e2 : u % 256 ^ (k + 1) % 256 = u % 256 := by
      rw [Nat.pow_succ]
      exact Nat.mod_mul_left_mod ..
    rw [e1, e2, fixL_mod k]

def unL (l : List Nat) : Nat := l.foldl (fun n c => n * 256 + c) 0
theorem foldl_un : ∀ (l : List Nat) (n : Nat), l.foldl (fun n c => n * 256 + c) n = n * 256 ^ l.length + unL l
  | [], n => by simp [unL]
  | c :: l, n => by
    have e : unL (c :: l) = c * 256 ^ l.length + unL l := by
      show (c :: l).foldl _ 0 = _
      rw [List.foldl_cons, foldl_un l, Nat.zero_mul, Nat.zero_add]
    rw [List.foldl_cons, foldl_un l, e, List.length_cons, Nat.pow_succ, Nat.add_mul, Nat.mul_assoc, Nat.mul_comm 256 (256 ^ l.length), Nat.add_assoc]
theorem unL_append (a b : List Nat) : unL (a ++ b) = unL a * 256 ^ b.length + unL b := by
  rw [unL, List.foldl_append, foldl_un]; rfl
theorem unL_snoc (a : List Nat) (c : Nat) : unL (a ++ [c]) = unL a * 256 + c := by rw [unL_append]; simp [unL]
theorem unL_fixL : ∀ (k u : Nat), unL (fixL k u) = u % 256 ^ k
  | 0, u => by simp [fixL, unL, Nat.mod_one]
  | k + 1, u => by
    rw [fixL, unL_snoc, unL_fixL k]
    have : 256 ^ (k + 1) = 256 * 256 ^ k := by rw [Nat.pow_succ, Nat.mul_comm]
    rw [this, Nat.mod_mul]; omega
def unF (l : List Nat) : Nat := unL l % 18446744073709551616
theorem unF_last8 (l : List Nat) : unF (l.drop (l.length - 8)) = unF l := by
  by_cases h : l.length ≤ 8
  · rw [show l.length - 8 = 0 by omega, List.drop_zero]
  · conv => rhs; rw [← List.take_append_drop (l.length - 8) l]
    unfold unF
    rw [unL_append, List.length_drop, show l.length - (l.length - 8) = 8 by omega]
    omega
theorem unF_lt (l : List Nat) : unF l < 18446744073709551616 := Nat.mod_lt _ (by decide)

theorem or_add {a c k : Nat} (h : c < 2 ^ k) (ha : a % 2 ^ k = 0) : a ||| c = a + c := by
  obtain ⟨q, rfl⟩ : ∃ q, a = q * 2 ^ k := ⟨a / 2 ^ k, by have := Nat.div_add_mod a (2 ^ k); rw [ha] at this; rw [Nat.mul_comm]; omega⟩
  rw [← Nat.shiftLeft_eq, Nat.shiftLeft_add_eq_or_of_lt h]

/-! ### numbers of few bytes -/
def valN : List Nat → Nat
  | [] => 0
  | c :: r => c % 128 + 128 * valN r
theorem valN_append : ∀ (a b : List Nat), valN (a ++ b) = valN a + 128 ^ a.length * valN b
  | [], b => by simp [valN]
  | c :: a, b => by
    simp only [List.cons_append, valN, valN_append a b, List.length_cons, Nat.pow_succ, Nat.mul_add]
    rw [Nat.mul_comm (128 ^ a.length) 128, Nat.mul_assoc]; omega
theorem valN_lt : ∀ (a : List Nat), valN a < 128 ^ a.length
  | [] => by simp [valN]
  | c :: a => by
    have := valN_lt a
    simp only [valN, List.length_cons, Nat.pow_succ]; omega
theorem valN_layN (u : Nat) : valN (layN u) = u := by
  induction u using Nat.strongRecOn with
  | _ u ih =>
    by_cases h : u < 128
    · rw [layN_small h]; simp [valN]; omega
    · rw [layN_big h, valN, ih (u / 128) (by omega)]; omega

/-- Where the first byte stands that is the last one of its number. -/
def endN : List Nat → Nat
  | [] => 0
  | c :: r => if c < 128 then 0 else endN r + 1
theorem endN_le : ∀ (l : List Nat), endN l ≤ l.length
  | [] => Nat.le_refl _
  | c :: r => by simp only [endN, List.length_cons]; have := endN_le r; split <;> omega
theorem endN_big : ∀ (l : List Nat) (i : Nat) (h : i < l.length), i < endN l → 128 ≤ l[i]
  | c :: r, 0, h, q => by simp only [endN] at q; split at q <;> simp at * ; omega
  | c :: r, i + 1, h, q => by
    simp only [endN] at q
    split at q
    · omega
    · simpa using endN_big r i (by simpa using h) (by omega)
theorem endN_small : ∀ (l : List Nat) (h : endN l < l.length), l[endN l] < 128
  | c :: r, h => by
    simp only [endN] at h ⊢
    by_cases q : c < 128
    · simp [q]
    · simp only [q, if_false] at h ⊢
      simpa using endN_small r (by simpa using h)
theorem endN_eq {l : List Nat} {i : Nat} (h1 : ∀ j (h : j < l.length), j < i → 128 ≤ l[j]) (h2 : ∀ h : i < l.length, l[i] < 128) (h3 : i ≤ l.length) : endN l = i := by
  rcases Nat.lt_trichotomy (endN l) i with q | q | q
  · have := endN_small l (by omega); have := h1 _ (by omega) q; omega
  · exact q
  · have h4 := endN_le l
    have := endN_big l i (by omega) q; have := h2 (by omega); omega

/-- What any bytes begin with: the number, its bytes, the error. -/
def getN (l : List Nat) : Int × Nat × Int :=
  let n := endN (l.take 10)
  if n < (l.take 10).length then
    let u := valN (l.take (n + 1)) % 18446744073709551616
    if layN u = l.take (n + 1) then (zag u, n + 1, 0) else (0, 0, 4)
  else if l.length < 10 then (0, 0, 3) else (0, 0, 4)

theorem WkR_refl (a : RV) : WkR a a := by
  unfold WkR
  split <;> simp_all
theorem WkRs_refl : ∀ (l : List RV), WkRs l l
  | [] => trivial
  | a :: r => ⟨WkR_refl a, WkRs_refl r⟩
theorem WkRs_eq {l l' : List RV} (h : l = l') : WkRs l l' := h ▸ WkRs_refl l
theorem wrap_i64_small (n : Nat) (h : n < 9223372036854775808) : IntKind.i64.wrap (n : Int) = n := by rw [IntKind.wrap_i64]; omega
theorem wrap_i64_in {n : Int} (h0 : -9223372036854775808 ≤ n) (h1 : n < 9223372036854775808) : IntKind.i64.wrap n = n := by rw [IntKind.wrap_i64]; omega
theorem wrap_u64_in {n : Int} (h0 : 0 ≤ n) (h1 : n < 18446744073709551616) : IntKind.u64.wrap n = n := by rw [IntKind.wrap_u64]; omega

theorem two_pow_nat (n : Nat) : (2 : Int) ^ n = ((2 ^ n : Nat) : Int) := by simp
theorem shr8 (u i : Nat) (hi : i ≤ 8) : IntKind.u8.wrap ((u : Int).fdiv (2 ^ min (8 * i) IntKind.u64.bits)) = ((u / 256 ^ i % 256 : Nat) : Int) := by
  have h1 : min (8 * i) IntKind.u64.bits = 8 * i := by simp [IntKind.bits]; omega
  have h2 : (2 : Nat) ^ (8 * i) = 256 ^ i := by rw [Nat.pow_mul]
  rw [h1, two_pow_nat, h2, fdiv_nat, w8_nat]
theorem set_zero (k x : Nat) (l : List Nat) : (List.replicate (k + 1) 0 ++ l).set k x = List.replicate k 0 ++ x :: l := by
  rw [List.replicate_succ', List.append_assoc, List.set_append_right _ _ (by simp)]
  simp
theorem bs_set (l : List Nat) (k x : Nat) : (bs l).set k (.int .u8 x) = bs (l.set k x) := by simp [bs, List.map_set]

@[simp] theorem bs_get (l : List Nat) (i : Nat) (h : i < (bs l).length) : (bs l)[i] = .int .u8 ((l[i]'(by simpa using h) : Nat) : Int) := by simp [bs]
theorem unF_step (l : List Nat) (i : Nat) (h : i < l.length) : unF (l.take (i + 1)) = (unF (l.take i) * 256 + l[i]) % 18446744073709551616 := by
  rw [List.take_succ_eq_append_getElem h]
  unfold unF
  rw [unL_snoc]
  omega
theorem shl8_or (n c : Nat) (hn : n < 18446744073709551616) (hc : c < 256) : IntKind.u64.wrap ((((IntKind.u64.wrap (n * 2 ^ min 8 IntKind.u64.bits)) % 2 ^ IntKind.u64.bits).toNat ||| (IntKind.u64.wrap (c : Int) % 2 ^ IntKind.u64.bits).toNat : Nat) : Int) = (((n * 256 + c) % 18446744073709551616 : Nat) : Int) := by
  have e1 : ((IntKind.u64.wrap (n * 2 ^ min 8 IntKind.u64.bits)) % 2 ^ IntKind.u64.bits).toNat = (n * 256) % 18446744073709551616 := by
    rw [IntKind.wrap_u64]; simp [IntKind.bits]; omega
  have e2 : (IntKind.u64.wrap (c : Int) % 2 ^ IntKind.u64.bits).toNat = c := by rw [IntKind.wrap_u64]; simp [IntKind.bits]; omega
  rw [e1, e2, or_add (k := 8) (by omega) (by omega), IntKind.wrap_u64]
  omega

theorem getN_found {l : List Nat} {i : Nat} (hi : i < l.length) (h10 : i < 10) (hb : ∀ j (h : j < l.length), j < i → 128 ≤ l[j]) (hs : l[i] < 128) :
    getN l = if layN (valN (l.take (i + 1)) % 18446744073709551616) = l.take (i + 1) then (zag (valN (l.take (i + 1)) % 18446744073709551616), i + 1, 0) else (0, 0, 4) := by
  have he : endN (l.take 10) = i := endN_eq (fun j h q => by
    rw [List.getElem_take]; exact hb j (by simp at h; omega) q) (fun h => by rw [List.getElem_take]; exact hs) (by simp; omega)
  simp only [getN, he]
  rw [if_pos (by simp; omega)]
theorem getN_none {l : List Nat} (hb : ∀ j (h : j < l.length), j < 10 → 128 ≤ l[j]) : getN l = if l.length < 10 then (0, 0, 3) else (0, 0, 4) := by
  have he : endN (l.take 10) = (l.take 10).length := endN_eq (fun j h q => by
    rw [List.getElem_take]; exact hb j (by simp at h; omega) (by simp at h; omega)) (fun h => absurd h (Nat.lt_irrefl _)) (Nat.le_refl _)
  simp only [getN, he]
  rw [if_neg (by simp)]
theorem valN_snoc (l : List Nat) (i : Nat) (h : i < l.length) : valN (l.take (i + 1)) = valN (l.take i) + 128 ^ i * (l[i] % 128) := by
  rw [List.take_succ_eq_append_getElem h, valN_append]
  simp [valN, Nat.min_eq_left (Nat.le_of_lt h)]

theorem w8_and127 (c : Nat) (h : c < 256) : IntKind.u8.wrap ((c % 2 ^ IntKind.u8.bits &&& 127 % 2 ^ IntKind.u8.bits : Nat) : Int) = ((c % 128 : Nat) : Int) := by
  rw [show 127 % 2 ^ IntKind.u8.bits = 127 from rfl, and127 _ (by simp [IntKind.bits]; omega), IntKind.wrap_u8]; simp [IntKind.bits]; omega
theorem w8_and128 (c : Nat) (h : c < 256) : IntKind.u8.wrap ((c % 2 ^ IntKind.u8.bits &&& 128 % 2 ^ IntKind.u8.bits : Nat) : Int) = if c < 128 then 0 else 128 := by
  have e : c % 2 ^ IntKind.u8.bits = c := by simp [IntKind.bits]; omega
  rw [show 128 % 2 ^ IntKind.u8.bits = 128 from rfl, e, and128 _ h, IntKind.wrap_u8]
  split <;> rfl
theorem u64_val_step (l : List Nat) (i : Nat) (h : i < l.length) (h9 : i < 10) :
    IntKind.u64.wrap (((valN (l.take i) % 18446744073709551616 % 2 ^ IntKind.u64.bits) ||| (IntKind.u64.wrap (IntKind.u64.wrap ((l[i] % 128 : Nat) : Int) * 2 ^ min (7 * i) IntKind.u64.bits) % 2 ^ IntKind.u64.bits).toNat : Nat) : Int) = ((valN (l.take (i + 1)) % 18446744073709551616 : Nat) : Int) := by
  have hm : min (7 * i) IntKind.u64.bits = 7 * i := by simp [IntKind.bits]; omega
  have hp : (2 : Nat) ^ (7 * i) = 128 ^ i := by rw [Nat.pow_mul]
  have hv : valN (l.take i) < 128 ^ i := by
    have := valN_lt (l.take i)
    rwa [List.length_take, Nat.min_eq_left (Nat.le_of_lt h)] at this
  have h63 : 128 ^ i ≤ 128 ^ 9 := Nat.pow_le_pow_right (by decide) (by omega)
  have e1 : (valN (l.take i) % 18446744073709551616) % 2 ^ IntKind.u64.bits = valN (l.take i) := by
    simp [IntKind.bits]; omega
  have e2 : (IntKind.u64.wrap (IntKind.u64.wrap ((l[i] % 128 : Nat) : Int) * 2 ^ min (7 * i) IntKind.u64.bits) % 2 ^ IntKind.u64.bits).toNat = (128 ^ i * (l[i] % 128)) % 18446744073709551616 := by
    rw [hm, two_pow_nat, hp, IntKind.wrap_u64, IntKind.wrap_u64]
    generalize 128 ^ i = q at *
    have : ((l[i] % 128 : Nat) : Int) % 18446744073709551616 = ((l[i] % 128 : Nat) : Int) := by omega
    have hb : (2 : Int) ^ IntKind.u64.bits = 18446744073709551616 := by decide
    rw [this, ← Int.natCast_mul, Nat.mul_comm q, hb]
    generalize l[i] % 128 * q = n
    omega
  have hdiv : (128 ^ i * (l[i] % 128)) % 18446744073709551616 % 2 ^ (7 * i) = 0 := by
    have : 18446744073709551616 = 2 ^ (7 * i) * 2 ^ (64 - 7 * i) := by rw [← Nat.pow_add]; rw [show 7 * i + (64 - 7 * i) = 64 by omega]
    rw [this, hp, Nat.mul_mod_mul_left]
    exact Nat.mul_mod_right ..
  rw [e1, e2, valN_snoc l i h, Nat.or_comm, or_add (k := 7 * i) (by rw [hp]; exact hv) hdiv, IntKind.wrap_u64]
  omega
end Go.Av
