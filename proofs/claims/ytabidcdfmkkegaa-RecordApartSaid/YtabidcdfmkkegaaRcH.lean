import Derived.Test.YtabidcdfmkkegaaRcG
set_option linter.unusedSimpArgs false
set_option linter.unusedVariables false
set_option maxHeartbeats 2000000
namespace Go.Proofs.Ytabidcdfmkkegaa
open Go.Av

theorem putR_ok {r : Rec} (h : recE r = 0) : putR r = recP r := by rw [putR, if_pos h]
theorem begins_same {r s : Rec} (hr : recE r = 0) (hs : recE s = 0) (hle : (recP r).length ≤ (recP s).length) : ((recP s).take (min (recP r).length (recP s).length) = recP r) ↔ recS r s = true := by
  rw [recS_iff, Nat.min_eq_left hle]
  constructor
  · intro h
    refine rec_prefix hr hs (t := (recP s).drop (recP r).length) ?_
    conv => lhs; rw [← List.take_append_drop (recP r).length (recP s), h]
  · rintro rfl; simp
theorem same_len {r s : Rec} (h : recS r s = true) : (recP r).length ≤ (recP s).length := by
  rw [(recS_iff r s).1 h]; exact Nat.le_refl _
theorem eq_same {r s : Rec} (hr : recE r = 0) (hs : recE s = 0) : recP r = recP s ↔ recS r s = true := by
  rw [recS_iff]
  constructor
  · intro h; exact rec_prefix hr hs (t := []) (by simp [h])
  · rintro rfl; rfl

theorem law_apart (r s : Rec) : Pure Try.prog 10 [r.sv, s.sv] (.sv (.bool true)) := by
  refine pure_go RF_ok Try.func10 Try.ntmps10 comp10 cres10 (by decide) (by simp) ?_
  have hrs := @recS_iff r s
  by_cases hr : recE r = 0
  · by_cases hs : recE s = 0
    · have q1 := putR_ok hr
      have q2 := putR_ok hs
      have q3 := begins_same hr hs
      have q4 := same_len (r := r) (s := s)
      have q5 := eq_same hr hs
      have b1 := recP_bytes r
      have b2 := recP_bytes s
      generalize hS : recS r s = S at q3 q4 q5
      obtain ⟨dl, tm, kd, key, dd, val⟩ := r
      obtain ⟨dl', tm', kd', key', dd', val'⟩ := s
      generalize recP ⟨dl, tm, kd, key, dd, val⟩ = x at q1 q3 q4 q5 b1
      generalize recP ⟨dl', tm', kd', key', dd', val'⟩ = y at q2 q3 q4 q5 b2
      simp only [Rec.sv, Rec.cells]
      have o1 := fun n : Nat => sOf_eq (b2.take n) b1
      have o2 := sOf_eq b1 b2
      by_cases h1 : ((key.size : Int) ≤ 200 ∧ (val.size : Int) ≤ 700)
      · by_cases h2 : ((key'.size : Int) ≤ 200 ∧ (val'.size : Int) ≤ 700)
        · simp [ac10, ar10, h1.1, h1.2, h2.1, h2.2, hr, hs, q1, q2, hS, bs_take, bs_str, o1, o2]
          have em : ∀ l : List Nat, ∀ z ∈ bs l, isByte z := fun l z hz => bs_byte l z hz
          by_cases hxy : x.length ≤ y.length
          · have hm : (if y.length < x.length then (y.length : Int) else (x.length : Int)) = x.length := by rw [if_neg (by omega)]
            have q3' := q3 hxy
            rw [Nat.min_eq_left hxy] at q3'
            have d1 : decide (y.take x.length = x) = S := by cases S <;> simp_all
            have d2 : decide (x = y) = S := by cases S <;> simp_all
            simp [hxy, hm, d1, d2]
            exact ⟨⟨fun z hz => em _ z hz, fun z hz => em _ z hz⟩, fun z hz => em _ z hz, fun z hz => em _ z hz⟩
          · have hS' : S = false := by cases S <;> simp_all
            have d2 : ¬ x = y := fun q => hxy (by rw [q]; exact Nat.le_refl _)
            simp [hxy, hS', d2]
            exact ⟨fun z hz => em _ z hz, fun z hz => em _ z hz⟩
        · simp [ac10, ar10, h1.1, h1.2, h2]
      · simp [ac10, ar10, h1]
    · obtain ⟨dl, tm, kd, key, dd, val⟩ := r
      obtain ⟨dl', tm', kd', key', dd', val'⟩ := s
      simp only [Rec.sv, Rec.cells]
      by_cases h1 : ((key.size : Int) ≤ 200 ∧ (val.size : Int) ≤ 700)
      · by_cases h2 : ((key'.size : Int) ≤ 200 ∧ (val'.size : Int) ≤ 700)
        · simp [ac10, ar10, h1.1, h1.2, h2.1, h2.2, hr, hs]
        · simp [ac10, ar10, h1.1, h1.2, h2]
      · simp [ac10, ar10, h1]
  · obtain ⟨dl, tm, kd, key, dd, val⟩ := r
    obtain ⟨dl', tm', kd', key', dd', val'⟩ := s
    simp only [Rec.sv, Rec.cells]
    by_cases h1 : ((key.size : Int) ≤ 200 ∧ (val.size : Int) ≤ 700)
    · by_cases h2 : ((key'.size : Int) ≤ 200 ∧ (val'.size : Int) ≤ 700)
      · simp [ac10, ar10, h1.1, h1.2, h2.1, h2.2, hr]
      · simp [ac10, ar10, h1.1, h1.2, h2]
    · simp [ac10, ar10, h1]
end Go.Proofs.Ytabidcdfmkkegaa
