/- Batch: the laws Puts, Gets, Looks, Apart. -/
import Derived.Test.YtkiimlmlfhmkiaaCbP

set_option linter.unusedSimpArgs false
set_option linter.unusedVariables false
set_option maxHeartbeats 4000000
namespace Go.Proofs.Ytkiimlmlfhmkiaa
open Go.Av

theorem recS_self (r : Rec) : recS r r = true := by
  have : recsS [r] [r] = true := (recsS_iff _ _).2 rfl
  simp [recsS] at this
  exact this
theorem law_puts (a b : Bat) (ha : a.ok) (hb : b.ok) : Pure Try.prog 8 [a.sv, b.sv] (.sv (.bool true)) := by
  have e29a := R4_29 a
  have e29b := R4_29 b
  have e30 := R4_30
  have e31 := R4_31 a
  have e32 := R4_32 a
  have e33 := R4_33 a
  have e34 := R4_34 a b
  have e35 := R4_35 a b
  have hR := R4_ok
  have hnf : R4.nofz = false := rfl
  have hw := awake_pure
  generalize R4 = R at hR e29a e29b e30 e31 e32 e33 e34 e35 hnf
  refine pure_go hR Try.func8 Try.ntmps8 comp8 cres8 (by decide) (by simp) ?_
  simp only [Bat.sv, Bat.cells]
  cases h1 : lightB a
  · simp [ac8, ar8, e29a, e29b, e30, h1, hw, hnf]
  cases h2 : lightB b
  · simp [ac8, ar8, e29a, e29b, e30, h1, h2, hw, hnf]
  · have hla : a.rs.length < 4611686018427387904 := by have := light_len h1; omega
    simp [ac8, ar8, e29a, e29b, e30, e31, e32, e33, e34, e35, h1, h2, hla, ha, hb, hw, hnf]
    exact bs_byte _
theorem law_gets (l : List Nat) (hb : Bytes l) : Pure Try.prog 9 [.sl 1 (bs l)] (.sv (.bool true)) := by
  have e30 := R4_30
  have e36 := R4_36 l
  have e37 := R4_37 l
  rw [← batG_batQ] at e37
  have e35 := R4_35 (batG l).1 (batG l).1
  have hs : batS (batG l).1 (batG l).1 = true := (batS_iff _ _).2 rfl
  have hlen : (batG l).1.rs.length < 4611686018427387904 := by
    rcases batG_cases l with h | ⟨b, h1, h2, h3⟩
    · rw [h]; decide
    · rw [h3]; have := batE_len h1; simp only; omega
  have hR := R4_ok
  have hnf : R4.nofz = false := rfl
  have hw := awake_pure
  generalize R4 = R at hR e30 e36 e37 e35 hnf
  generalize batG l = G at e36 e37 e35 hs hlen
  refine pure_go hR Try.func9 Try.ntmps9 comp9 cres9 (by decide) (by simp) ?_
  by_cases h : (2000 : Int) < l.length
  · simp [ac9, ar9, e30, h, hw, hnf]
  · simp [ac9, ar9, e30, e36, e37, e35, h, hw, hnf, hb, hs, hlen]
    omega
theorem law_looks (b : Bat) (n : Int) (ho : b.ok) : Pure Try.prog 10 [b.sv, .int .i64 n] (.sv (.bool true)) := by
  have e29 := R4_29 b
  have e30 := R4_30
  have e38 := R4_38 b
  have e39 := R4_39 b n
  have e40 := R4_40 b n
  have e41 := R4_41 b
  have e42 := R4_42 b
  have e43 := R4_43 b
  have e44 := R4_44 b
  have e45 := R4_45 (atR b n).1 (atR b n).1
  have e46 := R4_46 (fromR b n) (fromR b n)
  have e47 := R4_47 b n
  have e48 := R4_48 b n
  have hR := R4_ok
  have hnf : R4.nofz = false := rfl
  have hw := awake_pure
  have hs := recS_self (atR b n).1
  have hs2 : recsS (fromR b n) (fromR b n) = true := (recsS_iff _ _).2 rfl
  have hfl : (fromR b n).length ≤ b.rs.length := List.length_filter_le _ _
  generalize R4 = R at hR e29 e30 e38 e39 e40 e41 e42 e43 e44 e45 e46 e47 e48 hnf
  generalize atR b n = A at e39 e40 e45 hs
  generalize fromR b n = F at e46 e47 e48 hs2 hfl
  refine pure_go hR Try.func10 Try.ntmps10 comp10 cres10 (by decide) (by simp) ?_
  simp only [Bat.sv, Bat.cells]
  cases h1 : lightB b
  · simp [ac10, ar10, e29, e30, e38, h1, ho, hw, hnf]
  · have h40 := light_len h1
    have hl : b.rs.length < 4611686018427387904 := by omega
    by_cases h2 : batE b = 0
    · have k1 : b.rs.length ≤ 1000 := by omega
      have k2 : F.length < 4611686018427387904 := by omega
      simp [ac10, ar10, e29, e30, e38, e39, e40, e41, e42, e43, e44, e45, e46, e47, e48, h1, h2, hl, ho, hw, hnf, hs, hs2, k1, k2]
    · simp (maxSteps := 1000000) [ac10, ar10, e29, e30, e38, e39, e40, e41, e42, e43, e44, e45, e46, e47, e48, h1, h2, hl, ho, hw, hnf]
theorem law_apart (a b : Bat) (ha : a.ok) (hb : b.ok) : Pure Try.prog 13 [a.sv, b.sv] (.sv (.bool true)) := by
  have e29a := R4_29 a
  have e29b := R4_29 b
  have e30 := R4_30
  have e33a := R4_33 a
  have e33b := R4_33 b
  have e31a := R4_31 a
  have e31b := R4_31 b
  have e34 := R4_34 a b
  have hR := R4_ok
  have hnf : R4.nofz = false := rfl
  have hw := awake_pure
  generalize R4 = R at hR e29a e29b e30 e31a e31b e33a e33b e34 hnf
  refine pure_go hR Try.func13 Try.ntmps13 comp13 cres13 (by decide) (by simp) ?_
  simp only [Bat.sv, Bat.cells]
  cases h1 : lightB a
  · simp [ac13, ar13, e29a, e29b, e30, e33a, e33b, h1, ha, hb, hw, hnf]
  cases h2 : lightB b
  · simp [ac13, ar13, e29a, e29b, e30, e33a, e33b, h1, h2, ha, hb, hw, hnf]
  have hla : a.rs.length < 4611686018427387904 := by have := light_len h1; omega
  by_cases h3 : batE a = 0
  · by_cases h4 : batE b = 0
    · have hx : ((sOf (putB a)).toList == (sOf (putB b)).toList) = batS a b := by
        rw [sOf_eq (putB_bytes a) (putB_bytes b), putB, putB, if_pos h3, if_pos h4]
        cases q : batS a b
        · apply decide_eq_false
          intro z
          have := (batS_iff a b).2 (layB_inj h3 h4 z)
          rw [q] at this; cases this
        · rw [(batS_iff a b).1 q]; simp
      simp [ac13, ar13, e29a, e29b, e30, e31a, e31b, e33a, e33b, e34, h1, h2, h3, h4, hla, ha, hb, hw, hnf, bs_str, hx]
      exact ⟨bs_byte _, bs_byte _⟩
    · simp [ac13, ar13, e29a, e29b, e30, e31a, e31b, e33a, e33b, e34, h1, h2, h3, h4, hla, ha, hb, hw, hnf]
  · simp [ac13, ar13, e29a, e29b, e30, e31a, e31b, e33a, e33b, e34, h1, h2, h3, ha, hb, hw, hnf]
end Go.Proofs.Ytkiimlmlfhmkiaa
