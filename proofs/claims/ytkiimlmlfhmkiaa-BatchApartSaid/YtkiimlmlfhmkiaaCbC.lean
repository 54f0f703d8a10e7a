import Derived.Test.YtkiimlmlfhmkiaaCbB

set_option linter.unusedSimpArgs false
set_option linter.unusedVariables false
set_option maxHeartbeats 2000000
namespace Go.Proofs.Ytkiimlmlfhmkiaa
open Go.Av

theorem hdL_in {b : Bat} (hI : b.ok) (hl : b.rs.length ≤ 1000) : ∀ n ∈ hdL b, I64 n := by
  intro n hn
  obtain ⟨i1, i2, i3, i4, i5⟩ := hI
  simp only [hdL, List.mem_cons, List.not_mem_nil, or_false] at hn
  rcases hn with rfl | rfl | rfl | rfl | rfl | rfl
  · exact i1
  · exact i2
  · exact i3
  · exact i4
  · exact i5
  · exact ⟨by omega, by omega⟩

theorem rlay_bat (b : Bat) (hI : b.ok) (hl : b.rs.length ≤ 1000) : Pure Try.prog 72 [b.sv] (.own 1 (bs (layB b))) := by
  refine pure_go RB_ok Try.func72 Try.ntmps72 comp72 cres72 (by decide) (by simp) ?_
  have hhd := hdL_in hI hl
  have hdl : (hdL b).length = 6 := rfl
  simp [ac72, ar72, Bat.sv, Bat.cells]
  have hA : [SV.int .i64 b.ba, .int .i64 b.ct, .int .i64 b.pr, .int .i64 b.ep, .int .i64 b.sq, .int .i64 b.rs.length] = (hdL b).map fun n => SV.int .i64 n := rfl
  refine awpR_loop (α := Nat) (fun i => i ≤ 6) (fun i => { n := 56, sl := [(1, .lptr 1 0), (3, .own 1 (bs (numsB ((hdL b).take i)))), (4, .sv (.sl 1 ((hdL b).map fun n => .int .i64 n))), (5, .sv (.int .i64 i))], bx := [(1, b.cells.map .sv)], hp := fun _ => none })
    (fun i => 6 - i) 0 (by omega) (by simp [numsB, bs, Bat.cells, hdL]) ?_
  intro i hi
  by_cases h : i < 6
  · have h1 : (i : Int) < 6 := by omega
    have hw : IntKind.i64.wrap ((i : Int) + 1) = ((i + 1 : Nat) : Int) := by rw [IntKind.wrap_i64]; omega
    have hlt : i < (hdL b).length := by rw [hdl]; exact h
    have hget : ((hdL b).map fun n => SV.int .i64 n)[i]?.getD .undef = .int .i64 ((hdL b).getD i 0) := by simp [List.getD_eq_getElem?_getD, hlt]
    have hin : I64 ((hdL b).getD i 0) := hhd _ (by simp only [List.getD_eq_getElem?_getD, List.getElem?_eq_getElem hlt, Option.getD_some]; exact List.getElem_mem hlt)
    have hsn : numsB ((hdL b).take (i + 1)) = numsB ((hdL b).take i) ++ layN (zig ((hdL b).getD i 0)) := by
      rw [List.take_succ_eq_append_getElem hlt, numsB_snoc]
      simp [List.getD_eq_getElem?_getD, hlt]
    have hle : (numsB ((hdL b).take i)).length ≤ 60 := by
      have := numsB_le (l := (hdL b).take i) (fun n hn => hhd n (List.mem_of_mem_take hn))
      simp at this; omega
    have hle2 := layN_le10 (zig_lt hin.1 hin.2)
    generalize hA : ((hdL b).map fun n => SV.int .i64 n) = A at hget ⊢
    have hAl : A.length = 6 := by rw [← hA]; simp [hdl]
    generalize (hdL b).getD i 0 = n at hget hin hsn hle2
    have h2 : i + 1 ≤ A.length := by omega
    have hiA : i < A.length := by omega
    have hget2 : A[i] = .int .i64 n := by rw [← hget, List.getElem?_eq_getElem hiA]; rfl
    simp [h1, hget, hget2, RB_55, hin, hw, hAl, h]
    refine ⟨by omega, i + 1, by omega, by omega, ?_⟩
    rw [hsn, bs_append]
    exact ⟨⟨rfl, by omega⟩, WkRs_refl _⟩
  · have h1 : ¬ (i : Int) < 6 := by omega
    obtain rfl : i = 6 := by omega
    have ht6 : (hdL b).take 6 = hdL b := rfl
    simp [Bat.cells, ht6, hdl]
    have hnl := numsB_le hhd
    rw [hdl] at hnl
    generalize hH : numsB (hdL b) = H at hnl ⊢
    refine awpR_loop (α := Nat) (fun i => i ≤ b.rs.length) (fun i => { n := 56, sl := [(1, .lptr 1 0), (3, .own 1 (bs (H ++ recsB (b.rs.take i)))), (6, .sv (.int .i64 i))], bx := [(1, b.cells.map .sv)], hp := fun _ => none })
      (fun i => b.rs.length - i) 0 (by omega) (by simp [recsB, Bat.cells]) ?_
    intro i hi
    by_cases h : i < b.rs.length
    · have h1 : (i : Int) < b.rs.length := by omega
      have hw : IntKind.i64.wrap ((i : Int) + 1) = ((i + 1 : Nat) : Int) := by rw [IntKind.wrap_i64]; omega
      have hg := RL_get b.rs h
      have hsn : recsB (b.rs.take (i + 1)) = recsB (b.rs.take i) ++ putR (b.rs.getD i rec0) := by
        rw [List.take_succ_eq_append_getElem h, recsB_snoc]
        simp [List.getD_eq_getElem?_getD, h]
      have hle := recsB_le (b.rs.take i)
      have hle2 := putR_len (b.rs.getD i rec0)
      have htl : (b.rs.take i).length ≤ 1000 := by simp; omega
      have hiA : i < (RL b.rs).length := by simpa using h
      have hg2 : (RL b.rs)[i] = (b.rs.getD i rec0).sv := by rw [← hg, List.getElem?_eq_getElem hiA]; rfl
      generalize b.rs.getD i rec0 = r at hg hg2 hsn hle2
      simp [Bat.cells, h1, hg, hg2, h, Rec.sv, Rec.cells, RB_99, hw]
      refine ⟨by omega, i + 1, by omega, by omega, ?_⟩
      rw [hsn]
      simp [bs_append, WkRs_refl]
    · have h1 : ¬ (i : Int) < b.rs.length := by omega
      obtain rfl : i = b.rs.length := by omega
      simp [Bat.cells, h1, layB, hH]

end Go.Proofs.Ytkiimlmlfhmkiaa
