import Derived.Test.YtkiimlmlfhmkiaaCvN
import Derived.Laws.Strings

set_option linter.unusedVariables false
set_option linter.unusedSimpArgs false

/- Plain facts on numbers as bytes. -/
set_option linter.unusedSimpArgs false
namespace Go.Av

def Bytes (l : List Nat) : Prop := ∀ c ∈ l, c < 256
theorem Bytes.append {a b : List Nat} (h : Bytes a) (k : Bytes b) : Bytes (a ++ b) := fun c hc => by
  rcases List.mem_append.1 hc with q | q
  · exact h c q
  · exact k c q
theorem Bytes.take {a : List Nat} (h : Bytes a) (n : Nat) : Bytes (a.take n) := fun c hc => h c (List.mem_of_mem_take hc)
theorem Bytes.drop {a : List Nat} (h : Bytes a) (n : Nat) : Bytes (a.drop n) := fun c hc => h c (List.mem_of_mem_drop hc)
theorem Bytes.get {a : List Nat} (h : Bytes a) {i : Nat} (hi : i < a.length) : a[i] < 256 := h _ (List.getElem_mem hi)

theorem layN_bytes (u : Nat) : Bytes (layN u) := by
  induction u using Nat.strongRecOn with
  | _ u ih =>
    by_cases h : u < 128
    · rw [layN_small h]; intro c hc; simp at hc; omega
    · rw [layN_big h]
      intro c hc
      rcases List.mem_cons.1 hc with rfl | hc
      · omega
      · exact ih (u / 128) (by omega) c hc

theorem sOf_toList (l : List Nat) : (sOf l).toList = l.map UInt8.ofNat := by
  simp [sOf, ByteArray.toList_eq]
theorem ofNat_inj {a b : Nat} (ha : a < 256) (hb : b < 256) (h : UInt8.ofNat a = UInt8.ofNat b) : a = b := by
  have := congrArg UInt8.toNat h
  simp at this
  omega
theorem map_ofNat_inj : ∀ {a b : List Nat}, Bytes a → Bytes b → a.map UInt8.ofNat = b.map UInt8.ofNat → a = b
  | [], [], _, _, _ => rfl
  | [], _ :: _, _, _, h => by simp at h
  | _ :: _, [], _, _, h => by simp at h
  | x :: a, y :: b, ha, hb, h => by
    simp only [List.map_cons, List.cons.injEq] at h
    rw [ofNat_inj (ha x (by simp)) (hb y (by simp)) h.1, map_ofNat_inj (fun c hc => ha c (by simp [hc])) (fun c hc => hb c (by simp [hc])) h.2]
theorem sOf_eq {a b : List Nat} (ha : Bytes a) (hb : Bytes b) : ((sOf a).toList == (sOf b).toList) = decide (a = b) := by
  rw [sOf_toList, sOf_toList]
  by_cases h : a = b
  · subst h; simp
  · simp only [h, decide_false, beq_eq_false_iff_ne, ne_eq]
    exact fun q => h (map_ofNat_inj ha hb q)

/-! ### numbers of a set width -/
def fixL : Nat → Nat → List Nat
  | 0, _ => []
  | k + 1, u => fixL k (u / 256) ++ [u % 256]
@[simp] theorem fixL_length : ∀ (k u : Nat), (fixL k u).length = k
  | 0, _ => rfl
  | k + 1, u => by simp [fixL, fixL_length k]
theorem fixL_bytes : ∀ (k u : Nat), Bytes (fixL k u)
  | 0, _ => fun c hc => by simp [fixL] at hc
  | k + 1, u => (fixL_bytes k _).append (fun c hc => by simp at hc; omega)
theorem fixL_cons : ∀ (k u : Nat), fixL (k + 1) u = (u / 256 ^ k % 256) :: fixL k u
  | 0, u => by simp [fixL]
  | k + 1, u => by
    rw [fixL, fixL_cons k (u / 256), fixL]
    rw [Nat.pow_succ, Nat.mul_comm, ← Nat.div_div_eq_div_mul]
    rfl
theorem fixL_mod : ∀ (k u : Nat), fixL k (u % 256 ^ k) = fixL k u
  | 0, _ => rfl
  | k + 1, u => by
    rw [fixL, fixL]
    have e1 : u % 256 ^ (k + 1) / 256 = (u / 256) % 256 ^ k := by
      rw [Nat.pow_succ, Nat.mul_comm, Nat.mod_mul_right_div_self]
    have e2 : u % 256 ^ (k + 1) % 256 = u % 256 := by
      rw [Nat.pow_succ]
      exact Nat.mod_mul_left_mod ..
    rw [e1, e2, fixL_mod k]

def unL (l : List Nat) : Nat := l.foldl (fun n c => n * 256 + c) 0
theorem foldl_un : ∀ (l : List Nat) (n : Nat), l.foldl (fun n c => n * 256 + c) n = n * 256 ^ l.length + unL l
  | [], n => by simp [unL]
  | c :: l, n => by
    have e : unL (c :: l) = c * 256 ^ l.length + unL l := by
      show (c :: l).foldl _ 0 = _
      rw [List.foldl_cons, foldl_un l, Nat.zero_mul, Nat.zero_add]
    rw [List.foldl_cons, foldl_un l, e, List.length_cons, Nat.pow_succ, Nat.add_mul, Nat.mul_assoc, Nat.mul_comm 256 (256 ^ l.length), Nat.add_assoc]
theorem unL_append (a b : List Nat) : unL (a ++ b) = unL a * 256 ^ b.length + unL b := by
  rw [unL, List.foldl_append, foldl_un]; rfl
theorem unL_snoc (a : List Nat) (c : Nat) : unL (a ++ [c]) = unL a * 256 + c := by rw [unL_append]; simp [unL]
theorem unL_fixL : ∀ (k u : Nat), unL (fixL k u) = u % 256 ^ k
  | 0, u => by simp [fixL, unL, Nat.mod_one]
  | k + 1, u => by
    rw [fixL, unL_snoc, unL_fixL k]
    have : 256 ^ (k + 1) = 256 * 256 ^ k := by rw [Nat.pow_succ, Nat.mul_comm]
    rw [this, Nat.mod_mul]; omega
def unF (l : List Nat) : Nat := unL l % 18446744073709551616
theorem unF_last8 (l : List Nat) : unF (l.drop (l.length - 8)) = unF l := by
  by_cases h : l.length ≤ 8
  · rw [show l.length - 8 = 0 by omega, List.drop_zero]
  · conv => rhs; rw [← List.take_append_drop (l.length - 8) l]
    unfold unF
    rw [unL_append, List.length_drop, show l.length - (l.length - 8) = 8 by omega]
    omega
theorem unF_lt (l : List Nat) : unF l < 18446744073709551616 := Nat.mod_lt _ (by decide)

theorem or_add {a c k : Nat} (h : c < 2 ^ k) (ha : a % 2 ^ k = 0) : a ||| c = a + c := by
  obtain ⟨q, rfl⟩ : ∃ q, a = q * 2 ^ k := ⟨a / 2 ^ k, by have := Nat.div_add_mod a (2 ^ k); rw [ha] at this; rw [Nat.mul_comm]; omega⟩
  rw [← Nat.shiftLeft_eq, Nat.shiftLeft_add_eq_or_of_lt h]

/-! ### numbers of few bytes -/
def valN : List Nat → Nat
  | [] => 0
  | c :: r => c % 128 + 128 * valN r
theorem valN_append : ∀ (a b : List Nat), valN (a ++ b) = valN a + 128 ^ a.length * valN b
  | [], b => by simp [valN]
  | c :: a, b => by
    simp only [List.cons_append, valN, valN_append a b, List.length_cons, Nat.pow_succ, Nat.mul_add]
    rw [Nat.mul_comm (128 ^ a.length) 128, Nat.mul_assoc]; omega
theorem valN_lt : ∀ (a : List Nat), valN a < 128 ^ a.length
  | [] => by simp [valN]
  | c :: a => by
    have := valN_lt a
    simp only [valN, List.length_cons, Nat.pow_succ]; omega
theorem valN_layN (u : Nat) : valN (layN u) = u := by
  induction u using Nat.strongRecOn with
  | _ u ih =>
    by_cases h : u < 128
    · rw [layN_small h]; simp [valN]; omega
    · rw [layN_big h, valN, ih (u / 128) (by omega)]; omega

/-- Where the first byte stands that is the last one of its number. -/
def endN : List Nat → Nat
  | [] => 0
  | c :: r => if c < 128 then 0 else endN r + 1
theorem endN_le : ∀ (l : List Nat), endN l ≤ l.length
  | [] => Nat.le_refl _
  | c :: r => by simp only [endN, List.length_cons]; have := endN_le r; split <;> omega
theorem endN_big : ∀ (l : List Nat) (i : Nat) (h : i < l.length), i < endN l → 128 ≤ l[i]
  | c :: r, 0, h, q => by simp only [endN] at q; split at q <;> simp at * ; omega
  | c :: r, i + 1, h, q => by
    simp only [endN] at q
    split at q
    · omega
    · simpa using endN_big r i (by simpa using h) (by omega)
theorem endN_small : ∀ (l : List Nat) (h : endN l < l.length), l[endN l] < 128
  | c :: r, h => by
    simp only [endN] at h ⊢
    by_cases q : c < 128
    · simp [q]
    · simp only [q, if_false] at h ⊢
      simpa using endN_small r (by simpa using h)
theorem endN_eq {l : List Nat} {i : Nat} (h1 : ∀ j (h : j < l.length), j < i → 128 ≤ l[j]) (h2 : ∀ h : i < l.length, l[i] < 128) (h3 : i ≤ l.length) : endN l = i := by
  rcases Nat.lt_trichotomy (endN l) i with q | q | q
  · have := endN_small l (by omega); have := h1 _ (by omega) q; omega
  · exact q
  · have h4 := endN_le l
    have := endN_big l i (by omega) q; have := h2 (by omega); omega

/-- What any bytes begin with: the number, its bytes, the error. -/
def getN (l : List Nat) : Int × Nat × Int :=
  let n := endN (l.take 10)
  if n < (l.take 10).length then
    let u := valN (l.take (n + 1)) % 18446744073709551616
    if layN u = l.take (n + 1) then (zag u, n + 1, 0) else (0, 0, 4)
  else if l.length < 10 then (0, 0, 3) else (0, 0, 4)

theorem WkR_refl (a : RV) : WkR a a := by
  unfold WkR
  split <;> simp_all
theorem WkRs_refl : ∀ (l : List RV), WkRs l l
  | [] => trivial
  | a :: r => ⟨WkR_refl a, WkRs_refl r⟩
theorem WkRs_eq {l l' : List RV} (h : l = l') : WkRs l l' := h ▸ WkRs_refl l
theorem wrap_i64_small (n : Nat) (h : n < 9223372036854775808) : IntKind.i64.wrap (n : Int) = n := by rw [IntKind.wrap_i64]; omega
theorem wrap_i64_in {n : Int} (h0 : -9223372036854775808 ≤ n) (h1 : n < 9223372036854775808) : IntKind.i64.wrap n = n := by rw [IntKind.wrap_i64]; omega
theorem wrap_u64_in {n : Int} (h0 : 0 ≤ n) (h1 : n < 18446744073709551616) : IntKind.u64.wrap n = n := by rw [IntKind.wrap_u64]; omega

theorem two_pow_nat (n : Nat) : (2 : Int) ^ n = ((2 ^ n : Nat) : Int) := by simp
theorem shr8 (u i : Nat) (hi : i ≤ 8) : IntKind.u8.wrap ((u : Int).fdiv (2 ^ min (8 * i) IntKind.u64.bits)) = ((u / 256 ^ i % 256 : Nat) : Int) := by
  have h1 : min (8 * i) IntKind.u64.bits = 8 * i := by simp [IntKind.bits]; omega
  have h2 : (2 : Nat) ^ (8 * i) = 256 ^ i := by rw [Nat.pow_mul]
  rw [h1, two_pow_nat, h2, fdiv_nat, w8_nat]
theorem set_zero (k x : Nat) (l : List Nat) : (List.replicate (k + 1) 0 ++ l).set k x = List.replicate k 0 ++ x :: l := by
  rw [List.replicate_succ', List.append_assoc, List.set_append_right _ _ (by simp)]
  simp
theorem bs_set (l : List Nat) (k x : Nat) : (bs l).set k (.int .u8 x) = bs (l.set k x) := by simp [bs, List.map_set]

@[simp] theorem bs_get (l : List Nat) (i : Nat) (h : i < (bs l).length) : (bs l)[i] = .int .u8 ((l[i]'(by simpa using h) : Nat) : Int) := by simp [bs]
theorem unF_step (l : List Nat) (i : Nat) (h : i < l.length) : unF (l.take (i + 1)) = (unF (l.take i) * 256 + l[i]) % 18446744073709551616 := by
  rw [List.take_succ_eq_append_getElem h]
  unfold unF
  rw [unL_snoc]
  omega
theorem shl8_or (n c : Nat) (hn : n < 18446744073709551616) (hc : c < 256) : IntKind.u64.wrap ((((IntKind.u64.wrap (n * 2 ^ min 8 IntKind.u64.bits)) % 2 ^ IntKind.u64.bits).toNat ||| (IntKind.u64.wrap (c : Int) % 2 ^ IntKind.u64.bits).toNat : Nat) : Int) = (((n * 256 + c) % 18446744073709551616 : Nat) : Int) := by
  have e1 : ((IntKind.u64.wrap (n * 2 ^ min 8 IntKind.u64.bits)) % 2 ^ IntKind.u64.bits).toNat = (n * 256) % 18446744073709551616 := by
    rw [IntKind.wrap_u64]; simp [IntKind.bits]; omega
  have e2 : (IntKind.u64.wrap (c : Int) % 2 ^ IntKind.u64.bits).toNat = c := by rw [IntKind.wrap_u64]; simp [IntKind.bits]; omega
  rw [e1, e2, or_add (k := 8) (by omega) (by omega), IntKind.wrap_u64]
  omega

theorem getN_found {l : List Nat} {i : Nat} (hi : i < l.length) (h10 : i < 10) (hb : ∀ j (h : j < l.length), j < i → 128 ≤ l[j]) (hs : l[i] < 128) :
    getN l = if layN (valN (l.take (i + 1)) % 18446744073709551616) = l.take (i + 1) then (zag (valN (l.take (i + 1)) % 18446744073709551616), i + 1, 0) else (0, 0, 4) := by
  have he : endN (l.take 10) = i := endN_eq (fun j h q => by
    rw [List.getElem_take]; exact hb j (by simp at h; omega) q) (fun h => by rw [List.getElem_take]; exact hs) (by simp; omega)
  simp only [getN, he]
  rw [if_pos (by simp; omega)]
theorem getN_none {l : List Nat} (hb : ∀ j (h : j < l.length), j < 10 → 128 ≤ l[j]) : getN l = if l.length < 10 then (0, 0, 3) else (0, 0, 4) := by
  have he : endN (l.take 10) = (l.take 10).length := endN_eq (fun j h q => by
    rw [List.getElem_take]; exact hb j (by simp at h; omega) (by simp at h; omega)) (fun h => absurd h (Nat.lt_irrefl _)) (Nat.le_refl _)
  simp only [getN, he]
  rw [if_neg (by simp)]
theorem valN_snoc (l : List Nat) (i : Nat) (h : i < l.length) : valN (l.take (i + 1)) = valN (l.take i) + 128 ^ i * (l[i] % 128) := by
  rw [List.take_succ_eq_append_getElem h, valN_append]
  simp [valN, Nat.min_eq_left (Nat.le_of_lt h)]

theorem w8_and127 (c : Nat) (h : c < 256) : IntKind.u8.wrap ((c % 2 ^ IntKind.u8.bits &&& 127 % 2 ^ IntKind.u8.bits : Nat) : Int) = ((c % 128 : Nat) : Int) := by
  rw [show 127 % 2 ^ IntKind.u8.bits = 127 from rfl, and127 _ (by simp [IntKind.bits]; omega), IntKind.wrap_u8]; simp [IntKind.bits]; omega
theorem w8_and128 (c : Nat) (h : c < 256) : IntKind.u8.wrap ((c % 2 ^ IntKind.u8.bits &&& 128 % 2 ^ IntKind.u8.bits : Nat) : Int) = if c < 128 then 0 else 128 := by
  have e : c % 2 ^ IntKind.u8.bits = c := by simp [IntKind.bits]; omega
  rw [show 128 % 2 ^ IntKind.u8.bits = 128 from rfl, e, and128 _ h, IntKind.wrap_u8]
  split <;> rfl
theorem u64_val_step (l : List Nat) (i : Nat) (h : i < l.length) (h9 : i < 10) :
    IntKind.u64.wrap (((valN (l.take i) % 18446744073709551616 % 2 ^ IntKind.u64.bits) ||| (IntKind.u64.wrap (IntKind.u64.wrap ((l[i] % 128 : Nat) : Int) * 2 ^ min (7 * i) IntKind.u64.bits) % 2 ^ IntKind.u64.bits).toNat : Nat) : Int) = ((valN (l.take (i + 1)) % 18446744073709551616 : Nat) : Int) := by
  have hm : min (7 * i) IntKind.u64.bits = 7 * i := by simp [IntKind.bits]; omega
  have hp : (2 : Nat) ^ (7 * i) = 128 ^ i := by rw [Nat.pow_mul]
  have hv : valN (l.take i) < 128 ^ i := by
    have := valN_lt (l.take i)
    rwa [List.length_take, Nat.min_eq_left (Nat.le_of_lt h)] at this
  have h63 : 128 ^ i ≤ 128 ^ 9 := Nat.pow_le_pow_right (by decide) (by omega)
  have e1 : (valN (l.take i) % 18446744073709551616) % 2 ^ IntKind.u64.bits = valN (l.take i) := by
    simp [IntKind.bits]; omega
  have e2 : (IntKind.u64.wrap (IntKind.u64.wrap ((l[i] % 128 : Nat) : Int) * 2 ^ min (7 * i) IntKind.u64.bits) % 2 ^ IntKind.u64.bits).toNat = (128 ^ i * (l[i] % 128)) % 18446744073709551616 := by
    rw [hm, two_pow_nat, hp, IntKind.wrap_u64, IntKind.wrap_u64]
    generalize 128 ^ i = q at *
    have : ((l[i] % 128 : Nat) : Int) % 18446744073709551616 = ((l[i] % 128 : Nat) : Int) := by omega
    have hb : (2 : Int) ^ IntKind.u64.bits = 18446744073709551616 := by decide
    rw [this, ← Int.natCast_mul, Nat.mul_comm q, hb]
    generalize l[i] % 128 * q = n
    omega
  have hdiv : (128 ^ i * (l[i] % 128)) % 18446744073709551616 % 2 ^ (7 * i) = 0 := by
    have : 18446744073709551616 = 2 ^ (7 * i) * 2 ^ (64 - 7 * i) := by rw [← Nat.pow_add]; rw [show 7 * i + (64 - 7 * i) = 64 by omega]
    rw [this, hp, Nat.mul_mod_mul_left]
    exact Nat.mul_mod_right ..
  rw [e1, e2, valN_snoc l i h, Nat.or_comm, or_add (k := 7 * i) (by rw [hp]; exact hv) hdiv, IntKind.wrap_u64]
  omega
end Go.Av

set_option linter.unusedSimpArgs false
set_option linter.unusedVariables false
/- Plain facts: a number that is put is got. -/
namespace Go.Av

theorem lay_big (u : Nat) : ∀ (j : Nat) (h : j < (layN u).length), j + 1 < (layN u).length → 128 ≤ (layN u)[j] := by
  induction u using Nat.strongRecOn with
  | _ u ih =>
    intro j h h1
    by_cases q : u < 128
    · have := layN_small q
      simp [this] at h1
    · have e := layN_big q
      cases j with
      | zero => simp [e]
      | succ j =>
        have hl : (layN u).length = (layN (u / 128)).length + 1 := by rw [e]; simp
        have := ih (u / 128) (by omega) j (by omega) (by omega)
        simpa [e] using this
theorem lay_last (u : Nat) : ∀ (j : Nat) (h : j < (layN u).length), j + 1 = (layN u).length → (layN u)[j] < 128 := by
  induction u using Nat.strongRecOn with
  | _ u ih =>
    intro j h h1
    by_cases q : u < 128
    · have e := layN_small q
      have hj : j = 0 := by simp [e] at h1; exact h1
      subst hj
      simp [e, q]
    · have e := layN_big q
      have hl : (layN u).length = (layN (u / 128)).length + 1 := by rw [e]; simp
      have hp := layN_pos (u / 128)
      cases j with
      | zero => omega
      | succ j =>
        have := ih (u / 128) (by omega) j (by omega) (by omega)
        simpa [e] using this

theorem getN_lay (u : Nat) (hu : u < 18446744073709551616) (l : List Nat) : getN (layN u ++ l) = (zag u, (layN u).length, 0) := by
  have hp := layN_pos u
  have h10 := layN_le10 hu
  have ht : (layN u ++ l).take ((layN u).length - 1 + 1) = layN u := by
    rw [show (layN u).length - 1 + 1 = (layN u).length by omega]; simp
  have := getN_found (l := layN u ++ l) (i := (layN u).length - 1) (by simp; omega) (by omega) (fun j h q => by
      have hj : j < (layN u).length := by omega
      rw [List.getElem_append_left hj]
      exact lay_big u j hj (by omega)) (by
      have hj : (layN u).length - 1 < (layN u).length := by omega
      rw [List.getElem_append_left hj]
      exact lay_last u _ hj (by omega))
  rw [this, ht, valN_layN, Nat.mod_eq_of_lt hu, if_pos rfl]
  congr 2; omega
theorem getN_cut (u : Nat) (hu : u < 18446744073709551616) : getN ((layN u).take ((layN u).length - 1)) = (0, 0, 3) := by
  have hp := layN_pos u
  have h10 := layN_le10 hu
  rw [getN_none (fun j h q => by
    rw [List.getElem_take]
    simp at h
    exact lay_big u j (by omega) (by omega)), if_pos (by simp; omega)]

theorem unF_fixL (w u : Nat) (hw : w ≤ 8) (hu : u < 18446744073709551616) : unF (fixL w u) = u % 256 ^ w := by
  unfold unF
  rw [unL_fixL]
  have : u % 256 ^ w ≤ u := Nat.mod_le _ _
  omega
theorem fixL_8 (u : Nat) (hu : u < 18446744073709551616) : u % 256 ^ 8 = u := by omega
theorem pow8 (w : Nat) : (2 : Nat) ^ (8 * w) = 256 ^ w := by rw [Nat.pow_mul]
theorem low_tmod (u w : Nat) (hw : w < 8) : ((u : Int).tmod (IntKind.u64.wrap (2 ^ min (8 * w) IntKind.u64.bits))) = ((u % 256 ^ w : Nat) : Int) := by
  have hm : min (8 * w) IntKind.u64.bits = 8 * w := by simp [IntKind.bits]; omega
  have h64 : 256 ^ w ≤ 256 ^ 7 := Nat.pow_le_pow_right (by decide) (by omega)
  have hw2 : IntKind.u64.wrap ((256 ^ w : Nat) : Int) = ((256 ^ w : Nat) : Int) := by
    rw [IntKind.wrap_u64]; generalize 256 ^ w = q at h64 ⊢; omega
  rw [hm, two_pow_nat, pow8, hw2, tmod_nat]
theorem low_pos (w : Nat) (hw : w < 8) : ¬ IntKind.u64.wrap (2 ^ min (8 * w) IntKind.u64.bits) = 0 := by
  have hm : min (8 * w) IntKind.u64.bits = 8 * w := by simp [IntKind.bits]; omega
  have h64 : 256 ^ w ≤ 256 ^ 7 := Nat.pow_le_pow_right (by decide) (by omega)
  have h0 : 0 < 256 ^ w := Nat.pow_pos (by decide)
  rw [hm, two_pow_nat, pow8, IntKind.wrap_u64]
  generalize 256 ^ w = q at h64 h0 ⊢
  omega
end Go.Av
