import Derived.Test.YtkiimlmlfhmkiaaCvM

set_option linter.unusedSimpArgs false
set_option linter.unusedVariables false
/- Plain facts: a number that is put is got. -/
namespace Go.Av

theorem lay_big (u : Nat) : ∀ (j : Nat) (h : j < (layN u).length), j + 1 < (layN u).length → 128 ≤ (layN u)[j] := by
  induction u using Nat.strongRecOn with
  | _ u ih =>
    intro j h h1
    by_cases q : u < 128
    · have := layN_small q
      simp [this] at h1
    · have e := layN_big q
      cases j with
      | zero => simp [e]
      | succ j =>
        have hl : (layN u).length = (layN (u / 128)).length + 1 := by rw [e]; simp
        have := ih (u / 128) (by omega) j (by omega) (by omega)
        simpa [e] using this
theorem lay_last (u : Nat) : ∀ (j : Nat) (h : j < (layN u).length), j + 1 = (layN u).length → (layN u)[j] < 128 := by
  induction u using Nat.strongRecOn with
  | _ u ih =>
    intro j h h1
    by_cases q : u < 128
    · have e := layN_small q
      have hj : j = 0 := by simp [e] at h1; exact h1
      subst hj
      simp [e, q]
    · have e := layN_big q
      have hl : (layN u).length = (layN (u / 128)).length + 1 := by rw [e]; simp
      have hp := layN_pos (u / 128)
      cases j with
      | zero => omega
      | succ j =>
        have := ih (u / 128) (by omega) j (by omega) (by omega)
        simpa [e] using this

theorem getN_lay (u : Nat) (hu : u < 18446744073709551616) (l : List Nat) : getN (layN u ++ l) = (zag u, (layN u).length, 0) := by
  have hp := layN_pos u
  have h10 := layN_le10 hu
  have ht : (layN u ++ l).take ((layN u).length - 1 + 1) = layN u := by
    rw [show (layN u).length - 1 + 1 = (layN u).length by omega]; simp
  have := getN_found (l := layN u ++ l) (i := (layN u).length - 1) (by simp; omega) (by omega) (fun j h q => by
      have hj : j < (layN u).length := by omega
      rw [List.getElem_append_left hj]
      exact lay_big u j hj (by omega)) (by
      have hj : (layN u).length - 1 < (layN u).length := by omega
      rw [List.getElem_append_left hj]
      exact lay_last u _ hj (by omega))
  rw [this, ht, valN_layN, Nat.mod_eq_of_lt hu, if_pos rfl]
  congr 2; omega
theorem getN_cut (u : Nat) (hu : u < 18446744073709551616) : getN ((layN u).take ((layN u).length - 1)) = (0, 0, 3) := by
  have hp := layN_pos u
  have h10 := layN_le10 hu
  rw [getN_none (fun j h q => by
    rw [List.getElem_take]
    simp at h
    exact lay_big u j (by omega) (by omega)), if_pos (by simp; omega)]

theorem unF_fixL (w u : Nat) (hw : w ≤ 8) (hu : u < 18446744073709551616) : unF (fixL w u) = u % 256 ^ w := by
  unfold unF
  rw [unL_fixL]
  have : u % 256 ^ w ≤ u := Nat.mod_le _ _
  omega
theorem fixL_8 (u : Nat) (hu : u < 18446744073709551616) : u % 256 ^ 8 = u := by omega
theorem pow8 (w : Nat) : (2 : Nat) ^ (8 * w) = 256 ^ w := by rw [Nat.pow_mul]
theorem low_tmod (u w : Nat) (hw : w < 8) : ((u : Int).tmod (IntKind.u64.wrap (2 ^ min (8 * w) IntKind.u64.bits))) = ((u % 256 ^ w : Nat) : Int) := by
  have hm : min (8 * w) IntKind.u64.bits = 8 * w := by simp [IntKind.bits]; omega
  have h64 : 256 ^ w ≤ 256 ^ 7 := Nat.pow_le_pow_right (by decide) (by omega)
  have hw2 : IntKind.u64.wrap ((256 ^ w : Nat) : Int) = ((256 ^ w : Nat) : Int) := by
    rw [IntKind.wrap_u64]; generalize 256 ^ w = q at h64 ⊢; omega
  rw [hm, two_pow_nat, pow8, hw2, tmod_nat]
theorem low_pos (w : Nat) (hw : w < 8) : ¬ IntKind.u64.wrap (2 ^ min (8 * w) IntKind.u64.bits) = 0 := by
  have hm : min (8 * w) IntKind.u64.bits = 8 * w := by simp [IntKind.bits]; omega
  have h64 : 256 ^ w ≤ 256 ^ 7 := Nat.pow_le_pow_right (by decide) (by omega)
  have h0 : 0 < 256 ^ w := Nat.pow_pos (by decide)
  rw [hm, two_pow_nat, pow8, IntKind.wrap_u64]
  generalize 256 ^ w = q at h64 h0 ⊢
  omega
end Go.Av
