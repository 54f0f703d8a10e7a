/- Meta: the answer's GetAll, walked. -/
import Derived.Test.YtkiimlmlfhmkiaaMCmQ

set_option linter.unusedSimpArgs false
set_option linter.unusedVariables false
set_option maxHeartbeats 4000000
set_option maxRecDepth 10000
namespace Go.Proofs.Ytkiimlmlfhmkiaa
open Go.Av

theorem R24_68 (l : List Nat) (e : Int) : R24.p 68 [.agg [.sl 1 (bs l), .int .i64 e]] = some (Bytes l ∧ l.length < 4611686018427387904, .tup [.sv (.agg [.sl 1 (bs (rNum l e).2.1), .int .i64 (rNum l e).2.2]), .sv (.int .i64 (rNum l e).1)]) := R66_68 l e
theorem R24_69 (l : List Nat) (e w : Int) : R24.p 69 [.agg [.sl 1 (bs l), .int .i64 e], .int .i64 w] = some (Bytes l ∧ l.length < 4611686018427387904, .tup [.sv (.agg [.sl 1 (bs (rText l e w).2.1), .int .i64 (rText l e w).2.2]), .sv (.str (sOf (rText l e w).1))]) := R66_69 l e w
theorem rgetAll_pure (l : List Nat) (hb : Bytes l) : Pure Try.prog 25 [.sl 1 (bs l)] (.tup [.sv (.int .i64 (refA l).1), .sv (.sl 9 (ML (refA l).2.1)), .sv (.int .i64 (refA l).2.2)]) := by
  have e23 := R24_23
  have e28 := R24_28
  have e68 := R24_68
  have e69 := R24_69
  have hR := R24_ok
  have h1i := rNum_in l 0
  have b1 := rNum_bytes hb 0
  have c1 := rNum_le l 0
  unfold refA gA2 gA1
  generalize R24 = R at hR e23 e28 e68 e69
  by_cases hl : 8192 < l.length
  · rw [if_pos hl]
    have hl' : (8192 : Int) < l.length := by omega
    refine pure_go hR Try.func25 Try.ntmps25 comp25 cres25 (by decide) (by simp) ?_
    simp [ac25, ar25, hl', ML]
  rw [if_neg hl]
  have hl' : ¬ (8192 : Int) < l.length := by omega
  have e68a := e68 l 0
  rcases h1 : rNum l 0 with ⟨gen, l1, e1⟩
  rw [h1] at h1i b1 c1 e68a
  simp only at h1i b1 c1 e68a ⊢
  have e68b := e68 l1 e1
  have h2i := rNum_in l1 e1
  have b2 := rNum_bytes b1 e1
  have c2 := rNum_le l1 e1
  rcases h2 : rNum l1 e1 with ⟨n, l2, e2⟩
  rw [h2] at h2i b2 c2 e68b
  simp only at h2i b2 c2 e68b ⊢
  have z0 : l.length < 4611686018427387904 := by omega
  have z1 : l1.length < 4611686018427387904 := by omega
  refine pure_go hR Try.func25 Try.ntmps25 comp25 cres25 (by decide) (by simp) ?_
  simp [ac25, ar25, hl', e68a, e68b, hb, b1, z0, z1]
  generalize hG : rgoM n (l.length + 2) l2 e2 [] = G
  refine awpR_loop (α := List Met × List Nat × Int) (fun x => x.1.length ≤ l.length + 1 ∧ (x.2.2 = 0 → x.1.length + x.2.1.length ≤ l.length) ∧ Bytes x.2.1 ∧ x.2.1.length ≤ l.length ∧ (∀ m ∈ x.1, m.ok) ∧ G = rgoM n (l.length + 2 - x.1.length) x.2.1 x.2.2 x.1)
    (fun x => { n := 71, sl := [(0, .sv (.sl 1 (bs l))), (5, .lptr 5 0), (6, .sv (.int .i64 gen)), (7, .sv (.int .i64 n)), (8, .own 9 (ML x.1)), (10, .sv (.int .i64 x.1.length))], bx := [(5, [.sv (.sl 1 (bs x.2.1)), .sv (.int .i64 x.2.2)])], hp := fun _ => none })
    (fun x => l.length + 2 - x.1.length) ([], l2, e2) ⟨by simp, fun _ => by simp; omega, b2, by simp only; omega, fun m hm => by simp at hm, by simpa using hG.symm⟩ (by simp [ML]) ?_
  rintro ⟨acc, l', e'⟩ ⟨hi, hi2, hb', hle', hok, hg⟩
  simp only at hi hi2 hb' hle' hok hg
  have hw : IntKind.i64.wrap ((acc.length : Int) + 1) = ((acc.length + 1 : Nat) : Int) := by rw [IntKind.wrap_i64]; omega
  by_cases h : (acc.length : Int) < n ∧ e' = 0
  · obtain ⟨h, rfl⟩ := h
    have hi3 := hi2 rfl
    have hg2 : G = rgoM n (l.length + 2 - (acc.length + 1)) (rText l' 0 8192).2.1 (rText l' 0 8192).2.2 (acc ++ [(metG (rText l' 0 8192).1).1]) := by
      rw [hg, show l.length + 2 - acc.length = (l.length + 2 - (acc.length + 1)) + 1 by omega, rgoM, if_pos ⟨h, rfl⟩]
    have z' : l'.length < 4611686018427387904 := by omega
    obtain ⟨bt, ct⟩ := rText_out hb' 0 8192
    have b3 := rText_bytes hb' 0 8192
    have c3 := rText_le l' 0 8192
    have hdec := rText_dec (l := l') 0 8192
    have hmo := metG_ok bt
    have hss := s2b_sOf _ bt
    have e23' := e23 (rText l' 0 8192).1
    have e69' := e69 l' 0 8192
    rcases h3 : rText l' 0 8192 with ⟨tx, l3, e3⟩
    rw [h3] at bt ct b3 c3 hdec hmo hss e23' hg2 e69'
    simp only at bt ct b3 c3 hdec hmo hss e23' hg2 e69'
    have zt : tx.length < 140737488355328 := by omega
    rcases h4 : metG tx with ⟨M, eM'⟩
    rw [h4] at hmo e23' hg2
    simp only at hmo e23' hg2
    simp [h, hb', z', e69', hss, e23', bt, zt, hw]
    refine ⟨by rw [sOf_size]; omega, by omega, acc ++ [M], l3, e3, ⟨by simp; omega, fun q => by have := hdec q; simp; omega, b3, by omega, fun m hm => ?_, by rw [hg2]; simp⟩, by simp; omega, ⟨by simp [ML, Met.sv, Met.cells], by simp⟩, rfl, rfl⟩
    rcases List.mem_append.1 hm with hm | hm
    · exact hok m hm
    · simp at hm; subst hm; exact hmo
  · have hst : acc = G := by
      rw [hg]
      cases l.length + 2 - acc.length with
      | zero => rfl
      | succ f => rw [rgoM, if_neg h]
    subst hst
    have e28' := e28 gen acc
    have hal : acc.length ≤ 100000 := by omega
    have hbb : Bytes (allB gen acc) := allB_bytes hok h1i hal
    have hseq := sOf_eq hbb hb
    have hcase : ¬ (acc.length : Int) < n ∨ (acc.length : Int) < n ∧ ¬ e' = 0 := by
      by_cases q : (acc.length : Int) < n
      · exact .inr ⟨q, fun z => h ⟨q, z⟩⟩
      · exact .inl q
    by_cases hA : allE gen acc = 0
    · by_cases hB : allB gen acc = l
      · have hf : finA l gen acc = (gen, acc, 0) := if_pos ⟨hA, hB⟩
        rw [hA, hB] at e28'
        simp only [hf]
        rcases hcase with q | ⟨q, q2⟩
        · simp [q, e28', h1i, hok, hal, bs_str]
          exact ⟨hok, bs_byte _⟩
        · simp [q, q2, e28', h1i, hok, hal, bs_str]
          exact ⟨hok, bs_byte _⟩
      · have hf : finA l gen acc = (0, [], 4) := if_neg (fun z => hB z.2)
        rw [hA] at e28'
        simp [hB] at hseq
        simp only [hf]
        rcases hcase with q | ⟨q, q2⟩
        · simp [q, e28', h1i, hok, hal, bs_str, hseq]
          exact ⟨hok, ⟨bs_byte _, bs_byte _⟩, rfl⟩
        · simp [q, q2, e28', h1i, hok, hal, bs_str, hseq]
          exact ⟨hok, ⟨bs_byte _, bs_byte _⟩, rfl⟩
    · have hf : finA l gen acc = (0, [], 4) := if_neg (fun z => hA z.1)
      simp only [hf]
      generalize allE gen acc = E at e28' hA
      rcases hcase with q | ⟨q, q2⟩
      · simp [q, e28', h1i, hok, hal, hA, bs_str]
        exact ⟨hok, rfl⟩
      · simp [q, q2, e28', h1i, hok, hal, hA, bs_str]
        exact ⟨hok, rfl⟩
end Go.Proofs.Ytkiimlmlfhmkiaa
