import Derived.Test.YtkiimlmlfhmkiaaCrD
import Derived.Test.YtkiimlmlfhmkiaaCvK

set_option linter.unusedSimpArgs false
set_option linter.unusedVariables false
set_option maxHeartbeats 2000000
namespace Go.Proofs.Ytkiimlmlfhmkiaa
open Go.Av

theorem sOf_bytesNat (s : ByteArray) : sOf (bytesNat s) = s := by
  simp [sOf, bytesNat, Function.comp_def]
theorem bytesNat_bytes (s : ByteArray) : Bytes (bytesNat s) := by
  intro c hc
  simp only [bytesNat, List.mem_map] at hc
  obtain ⟨x, _, rfl⟩ := hc
  exact x.toNat_lt
theorem rNum_lay {n : Int} (h : I64 n) (l : List Nat) : rNum (layN (zig n) ++ l) 0 = (n, l, 0) := by
  simp [rNum, getN_lay _ (zig_lt h.1 h.2), zag_zig]
theorem rText_lay (s : ByteArray) (m : Int) (h : I64 (s.size : Int)) (hm : (s.size : Int) ≤ m) (l : List Nat) : rText (layN (zig s.size) ++ (bytesNat s ++ l)) 0 m = (bytesNat s, l, 0) := by
  have hl := bytesNat_length s
  have h1 : ¬ ((s.size : Int) < 0 ∨ (s.size : Int) > if m > 0 then m else 0) := by split <;> omega
  simp only [rText, rNum_lay h, if_true, if_neg h1, rTake]
  rw [if_neg (by simp [hl]; omega)]
  simp [← hl]
theorem rText_cut (s : ByteArray) (m : Int) (h : I64 (s.size : Int)) (hm : (s.size : Int) ≤ m) : (rText (layN (zig s.size) ++ bytesNat s).dropLast 0 m).2.2 = 3 := by
  have hl := bytesNat_length s
  by_cases hs : bytesNat s = []
  · rw [hs] at hl
    have : s.size = 0 := by simpa using hl.symm
    rw [hs, List.append_nil]
    have e : (layN (zig s.size)).dropLast = [] := by
      rw [this, show zig ((0 : Nat) : Int) = 0 from rfl, layN_small (by decide)]; rfl
    rw [e]
    have : getN [] = (0, 0, 3) := by rw [getN_none (fun j h => by simp at h)]; rfl
    simp [rText, rNum, this]
  · rw [List.dropLast_append_of_ne_nil hs]
    have h1 : ¬ ((s.size : Int) < 0 ∨ (s.size : Int) > if m > 0 then m else 0) := by split <;> omega
    have hp : 0 < (bytesNat s).length := List.length_pos_iff.2 hs
    simp only [rText, rNum_lay h, if_true, if_neg h1, rTake]
    rw [if_pos (by simp [hl]; omega)]
theorem rFixed_1 (c : Nat) (h : c < 256) (l : List Nat) : rFixed (c :: l) 0 1 = (c, l, 0) := by
  have hw : wid 1 = 1 := rfl
  simp [rFixed, rTake, hw, unF, unL]
  rw [if_neg (by omega)]
  simp; omega

theorem recE_form {r : Rec} (h : recE r = 0) : (r.kd = false → r.key = ByteArray.mk #[] ∧ r.dd = false) ∧ (r.dd = true → r.val = ByteArray.mk #[]) := by
  have em : ∀ s : ByteArray, isE s = true → s = ByteArray.mk #[] := fun s hs => by
    simp [isE, ByteArray.toList_eq] at hs
    obtain ⟨⟨d⟩⟩ := s
    simp at hs
    subst hs; rfl
  unfold recE at h
  split at h
  · cases h
  split at h
  · cases h
  split at h
  · cases h
  rename_i hq
  simp only [Bool.not_eq_true, Bool.or_eq_false_iff, Bool.and_eq_false_iff, Bool.not_eq_false'] at hq
  obtain ⟨q1, q2⟩ := hq
  refine ⟨fun hk => ?_, fun hd => ?_⟩
  · rcases q1 with q | q
    · rw [hk] at q; cases q
    · exact ⟨em _ (by simpa using q.1), q.2⟩
  · rcases q2 with q | q
    · rw [hd] at q; cases q
    · exact em _ (by simpa using q)

def flagR (r : Rec) : Nat := (if r.kd then 1 else 0) + (if r.dd then 2 else 0)
theorem recG_put (r : Rec) (h : recE r = 0) (l : List Nat) : recG (recP r ++ l) 0 = (r, 0, l, 0) := by
  obtain ⟨a1, a2, a3, a4, a5, a6⟩ := recE_small h
  obtain ⟨b1, b2⟩ := recE_form h
  obtain ⟨dl, tm, kd, key, dd, val⟩ := r
  simp only at a1 a2 a3 a4 a5 a6 b1 b2
  have i1 : I64 dl := ⟨by omega, by omega⟩
  have i2 : I64 tm := ⟨by omega, by omega⟩
  have i3 : I64 (key.size : Int) := ⟨by omega, by omega⟩
  have i4 : I64 (val.size : Int) := ⟨by omega, by omega⟩
  cases kd
  · obtain ⟨rfl, rfl⟩ := b1 rfl
    have e1 : recP ⟨dl, tm, false, ByteArray.mk #[], false, val⟩ ++ l = 0 :: (layN (zig dl) ++ (layN (zig tm) ++ (layN (zig val.size) ++ (bytesNat val ++ l)))) := by simp [recP]
    rw [e1]
    simp only [recG, rFixed_1 0 (by decide), rNum_lay i1, rNum_lay i2, recG5]
    simp [rText_lay val 512 i4 (by omega), sOf_bytesNat, sOf_nil, h]
  · cases dd
    · have e1 : recP ⟨dl, tm, true, key, false, val⟩ ++ l = 1 :: (layN (zig dl) ++ (layN (zig tm) ++ (layN (zig key.size) ++ (bytesNat key ++ (layN (zig val.size) ++ (bytesNat val ++ l)))))) := by simp [recP]
      rw [e1]
      simp only [recG, rFixed_1 1 (by decide), rNum_lay i1, rNum_lay i2, recG5]
      simp only [if_true, rText_lay key 64 i3 (by omega), rText_lay val 512 i4 (by omega)]
      simp [rText_lay val 512 i4 (by omega), sOf_bytesNat, sOf_nil, h]
    · obtain rfl := b2 rfl
      have e1 : recP ⟨dl, tm, true, key, true, ByteArray.mk #[]⟩ ++ l = 3 :: (layN (zig dl) ++ (layN (zig tm) ++ (layN (zig key.size) ++ (bytesNat key ++ l)))) := by simp [recP]
      rw [e1]
      simp only [recG, rFixed_1 3 (by decide), rNum_lay i1, rNum_lay i2, recG5]
      simp [rText_lay key 64 i3 (by omega), sOf_bytesNat, sOf_nil, h]
theorem recG_cut (r : Rec) (h : recE r = 0) : (recG (recP r).dropLast 0).2.1 = 3 := by
  obtain ⟨a1, a2, a3, a4, a5, a6⟩ := recE_small h
  obtain ⟨b1, b2⟩ := recE_form h
  obtain ⟨dl, tm, kd, key, dd, val⟩ := r
  simp only at a1 a2 a3 a4 a5 a6 b1 b2
  have i1 : I64 dl := ⟨by omega, by omega⟩
  have i2 : I64 tm := ⟨by omega, by omega⟩
  have i3 : I64 (key.size : Int) := ⟨by omega, by omega⟩
  have i4 : I64 (val.size : Int) := ⟨by omega, by omega⟩
  have ne : ∀ s : ByteArray, layN (zig s.size) ++ bytesNat s ≠ [] := fun s q => by
    have := layN_pos (zig s.size)
    have := congrArg List.length q
    simp only [List.length_append, List.length_nil] at this; omega
  cases kd
  · obtain ⟨rfl, rfl⟩ := b1 rfl
    have e1 : (recP ⟨dl, tm, false, ByteArray.mk #[], false, val⟩).dropLast = 0 :: (layN (zig dl) ++ (layN (zig tm) ++ (layN (zig val.size) ++ bytesNat val).dropLast)) := by
      have : recP ⟨dl, tm, false, ByteArray.mk #[], false, val⟩ = (0 :: (layN (zig dl) ++ layN (zig tm))) ++ (layN (zig val.size) ++ bytesNat val) := by simp [recP]
      rw [this, List.dropLast_append_of_ne_nil (ne val)]; simp
    rw [e1]
    have hc := rText_cut val 512 i4 (by omega)
    simp only [recG, rFixed_1 0 (by decide), rNum_lay i1, rNum_lay i2, recG5]
    simp [hc]
  · cases dd
    · have e1 : (recP ⟨dl, tm, true, key, false, val⟩).dropLast = 1 :: (layN (zig dl) ++ (layN (zig tm) ++ (layN (zig key.size) ++ (bytesNat key ++ (layN (zig val.size) ++ bytesNat val).dropLast)))) := by
        have : recP ⟨dl, tm, true, key, false, val⟩ = (1 :: (layN (zig dl) ++ layN (zig tm) ++ (layN (zig key.size) ++ bytesNat key))) ++ (layN (zig val.size) ++ bytesNat val) := by simp [recP]
        rw [this, List.dropLast_append_of_ne_nil (ne val)]; simp
      rw [e1]
      have hc := rText_cut val 512 i4 (by omega)
      simp only [recG, rFixed_1 1 (by decide), rNum_lay i1, rNum_lay i2, recG5]
      simp only [if_true, rText_lay key 64 i3 (by omega)]
      simp [hc]
    · obtain rfl := b2 rfl
      have e1 : (recP ⟨dl, tm, true, key, true, ByteArray.mk #[]⟩).dropLast = 3 :: (layN (zig dl) ++ (layN (zig tm) ++ (layN (zig key.size) ++ bytesNat key).dropLast)) := by
        have : recP ⟨dl, tm, true, key, true, ByteArray.mk #[]⟩ = (3 :: (layN (zig dl) ++ layN (zig tm))) ++ (layN (zig key.size) ++ bytesNat key) := by simp [recP]
        rw [this, List.dropLast_append_of_ne_nil (ne key)]; simp
      rw [e1]
      have hc := rText_cut key 64 i3 (by omega)
      simp only [recG, rFixed_1 3 (by decide), rNum_lay i1, rNum_lay i2, recG5]
      simp [hc]

theorem recS_iff (r s : Rec) : recS r s = true ↔ r = s := by
  obtain ⟨dl, tm, kd, key, dd, val⟩ := r
  obtain ⟨dl', tm', kd', key', dd', val'⟩ := s
  have ba : ∀ a b : ByteArray, a.toList = b.toList → a = b := fun a b h => by
    rw [ByteArray.toList_eq, ByteArray.toList_eq] at h
    obtain ⟨⟨x⟩⟩ := a
    obtain ⟨⟨y⟩⟩ := b
    simp at h; subst h; rfl
  simp only [recS, Bool.and_eq_true, beq_iff_eq, Rec.mk.injEq]
  constructor
  · rintro ⟨h1, h2, h3, h4, h5, h6⟩; exact ⟨h1, h2, h3, ba _ _ h4, h5, ba _ _ h6⟩
  · rintro ⟨h1, h2, h3, h4, h5, h6⟩; exact ⟨h1, h2, h3, by rw [h4], h5, by rw [h6]⟩
theorem rec_prefix {r s : Rec} (hr : recE r = 0) (hs : recE s = 0) {t : List Nat} (h : recP s = recP r ++ t) : r = s := by
  have h1 := recG_put s hs []
  rw [List.append_nil, h, recG_put r hr t] at h1
  exact congrArg Prod.fst h1
theorem recP_bytes (r : Rec) : Bytes (recP r) := by
  have h0 : Bytes [(if r.kd = true then 1 else 0) + (if r.dd = true then 2 else 0)] := fun c hc => by
    simp at hc; subst hc; split <;> split <;> omega
  have : recP r = [(if r.kd = true then 1 else 0) + (if r.dd = true then 2 else 0)] ++ (layN (zig r.dl) ++ layN (zig r.tm)) ++ (if r.kd then layN (zig r.key.size) ++ bytesNat r.key else []) ++ (if r.dd then [] else layN (zig r.val.size) ++ bytesNat r.val) := by simp [recP]
  rw [this]
  refine ((h0.append ((layN_bytes _).append (layN_bytes _))).append ?_).append ?_
  · split
    · exact (layN_bytes _).append (bytesNat_bytes _)
    · exact fun c h => by simp at h
  · split
    · exact fun c h => by simp at h
    · exact (layN_bytes _).append (bytesNat_bytes _)
end Go.Proofs.Ytkiimlmlfhmkiaa
