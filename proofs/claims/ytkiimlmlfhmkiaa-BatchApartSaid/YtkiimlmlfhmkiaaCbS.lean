/- Batch: the law From. -/
import Derived.Test.YtkiimlmlfhmkiaaCbP
import Derived.Test.YtkiimlmlfhmkiaaCbR

set_option linter.unusedSimpArgs false
set_option linter.unusedVariables false
set_option maxHeartbeats 4000000
namespace Go.Proofs.Ytkiimlmlfhmkiaa
open Go.Av

theorem law_from (b : Bat) (off : Int) (ho : b.ok) : Pure Try.prog 12 [b.sv, .int .i64 off] (.sv (.bool true)) := by
  have e29 := R4_29 b
  have e30 := R4_30
  have e33 := R4_33 b
  have e47 := R4_47 b off
  have e39 := R4_39 b off
  have hR := R4_ok
  have hnf : R4.nofz = false := rfl
  have hw := awake_pure
  generalize R4 = R at hR e29 e30 e33 e47 e39 hnf
  refine pure_go hR Try.func12 Try.ntmps12 comp12 cres12 (by decide) (by simp) ?_
  simp only [Bat.sv, Bat.cells]
  cases h1 : lightB b
  · simp [ac12, ar12, e29, e30, e33, e47, e39, h1, ho, hw, hnf]
  have h40 : b.rs.length ≤ 40 := light_len h1
  have hl : b.rs.length < 4611686018427387904 := by omega
  by_cases h2 : batE b = 0
  case neg => simp [ac12, ar12, e29, e30, e33, e47, e39, h1, h2, hl, ho, hw, hnf]
  obtain ⟨n, hn, hF, hs⟩ := from_spec h2 off
  have ha := at_spec h2 hn hs
  rw [hF] at e47
  have hk : b.rs.length ≤ 1000 := by omega
  have hw1 : IntKind.i64.wrap ((b.rs.length : Int) - ((b.rs.length - n : Nat) : Int)) = n := by rw [wrap_i64_in (by omega) (by omega)]; omega
  have hn0 : (0 : Int) ≤ n := by omega
  simp (maxSteps := 1000000) [ac12, ar12, e29, e30, e33, e47, e39, h1, h2, hl, ho, hw, hnf, hk, hw1, hn0]
  refine awpR_loop (α := Nat) (fun i => i ≤ b.rs.length) (fun i => { n := 109, sl := [(1, .sv (.int .i64 off)), (2, .lptr 2 0), (5, .own 6 (RL (b.rs.drop n))), (6, .sv (.int .i64 n)), (7, .sv (.int .i64 i))], bx := [(2, b.cells.map .sv)], hp := fun _ => none })
    (fun i => b.rs.length - i) 0 (by omega) (by simp [Bat.cells]) ?_
  intro i hi
  by_cases h : i < b.rs.length
  · have h1 : (i : Int) < b.rs.length := by omega
    have hw : IntKind.i64.wrap ((i : Int) + 1) = ((i + 1 : Nat) : Int) := by rw [IntKind.wrap_i64]; omega
    have hg := RL_get b.rs h
    have hiA : i < (RL b.rs).length := by simpa using h
    have hg2 : (RL b.rs)[i] = (b.rs.getD i rec0).sv := by rw [← hg, List.getElem?_eq_getElem hiA]; rfl
    have hat := hs i h
    have hlt := (atW_eq h2 h).1
    have hn' : n ≤ i → (RL (b.rs.drop n))[i - n]?.getD .undef = (b.rs.getD i rec0).sv := by
      intro q
      rw [RL_get _ (by rw [List.length_drop]; omega)]
      congr 1
      simp [List.getD_eq_getElem?_getD, Nat.add_sub_cancel' q]
    have hsub : n ≤ i → IntKind.i64.wrap ((i : Int) - n) = ((i - n : Nat) : Int) := by
      intro q
      rw [wrap_i64_in (by omega) (by omega)]; omega
    generalize b.rs.getD i rec0 = r at hg hg2 hat hn' hlt
    unfold atW at hat
    by_cases q : n ≤ i
    · have q1 : (n : Int) ≤ i := by omega
      have q2 := hat.2 q
      have hn2 := hn' q
      have hs2 := hsub q
      simp [Bat.cells, h1, hg, hg2, h, Rec.sv, Rec.cells, hw, q, q1, q2, hn2, hs2, WkRs_refl]
      exact ⟨by omega, i + 1, by omega, by omega, by omega⟩
    · have q1 : ¬ (n : Int) ≤ i := by omega
      have q2 : ¬ off ≤ IntKind.i64.wrap (b.ba + r.dl) := fun z => q (hat.1 z)
      have hz : (IntKind.i64.wrap ((i : Int) - n)).toNat = 0 := by rw [wrap_i64_in (by omega) (by omega)]; omega
      by_cases hnl : n < b.rs.length
      · have hg0 : (RL (b.rs.drop n))[0]?.getD .undef = (b.rs.getD n rec0).sv := by
          rw [RL_get _ (by rw [List.length_drop]; omega)]
          congr 1
          simp [List.getD_eq_getElem?_getD]
        generalize b.rs.getD n rec0 = r0 at hg0
        simp [Bat.cells, h1, hg, hg2, h, Rec.sv, Rec.cells, hw, q, q1, q2, hz, hg0, WkRs_refl]
        exact ⟨i + 1, by omega, by omega, by omega⟩
      · have hg0 : (RL (b.rs.drop n))[0]?.getD .undef = .undef := by
          rw [List.drop_of_length_le (by omega)]; rfl
        simp [Bat.cells, h1, hg, hg2, h, Rec.sv, Rec.cells, hw, q, q1, q2, hz, hg0, WkRs_refl]
        exact ⟨i + 1, by omega, by omega, by omega⟩
  · have h1 : ¬ (i : Int) < b.rs.length := by omega
    obtain rfl : i = b.rs.length := by omega
    by_cases hnl : n < b.rs.length
    · have p1 : (0 : Int) < ((b.rs.length - n : Nat) : Int) := by omega
      have p2 : 0 < b.rs.length - n := by omega
      have hg : (RL (b.rs.drop n))[0]?.getD .undef = (b.rs.getD n rec0).sv := by
        rw [RL_get _ (by rw [List.length_drop]; omega)]
        congr 1
        simp [List.getD_eq_getElem?_getD]
      have hlen : 0 < (RL (b.rs.drop n)).length := by simp; omega
      have hg2 : (RL (b.rs.drop n))[0] = (b.rs.getD n rec0).sv := by rw [← hg, List.getElem?_eq_getElem hlen]; rfl
      generalize b.rs.getD n rec0 = r at ha hg hg2
      rcases ha with ⟨z1, z2, z3⟩ | ⟨z1, z3⟩
      · rw [z3] at e39
        unfold atW at z2
        simp [h1, Bat.cells, e30, e39, hl, hw, hnf, p1, p2, hnl, hg, hg2, Rec.sv, Rec.cells, z2]
      · rw [z3] at e39
        have z2 := z1 hnl
        unfold atW at z2
        simp [h1, Bat.cells, e30, e39, hl, hw, hnf, p1, p2, hnl, hg, hg2, Rec.sv, Rec.cells, z2]
    · have p1 : ¬ (0 : Int) < ((b.rs.length - n : Nat) : Int) := by omega
      have p2 : b.rs.length - n = 0 := by omega
      rcases ha with ⟨z1, z2, z3⟩ | ⟨z1, z3⟩
      · omega
      · rw [z3] at e39
        simp [h1, Bat.cells, e30, e39, hl, hw, hnf, p1, p2, hnl]
end Go.Proofs.Ytkiimlmlfhmkiaa
