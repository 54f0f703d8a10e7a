import Derived.Test.YtabidcdfmkkegaaRcG
set_option linter.unusedSimpArgs false
set_option linter.unusedVariables false
set_option maxHeartbeats 2000000
namespace Go.Proofs.Ytabidcdfmkkegaa
open Go.Av

theorem recP_len {r : Rec} (h : recE r = 0) : 1 ≤ (recP r).length ∧ (recP r).length ≤ 1000 := by
  obtain ⟨a1, a2, a3, a4, a5, a6⟩ := recE_small h
  have l1 := layN_le10 (zig_lt (n := r.dl) (by omega) (by omega))
  have l2 := layN_le10 (zig_lt (n := r.tm) (by omega) (by omega))
  have l3 := layN_le10 (u := zig r.key.size) (zig_lt (by omega) (by omega))
  have l4 := layN_le10 (u := zig r.val.size) (zig_lt (by omega) (by omega))
  have k1 := bytesNat_length r.key
  have k2 := bytesNat_length r.val
  simp only [recP, List.length_append, List.length_cons]
  split <;> split <;> simp <;> omega

theorem law_back (r : Rec) (l : List Nat) (hl : Bytes l) : Pure Try.prog 12 [r.sv, .sl 1 (bs l)] (.sv (.bool true)) := by
  refine pure_go RF_ok Try.func12 Try.ntmps12 comp12 cres12 (by decide) (by simp) ?_
  obtain ⟨dl, tm, kd, key, dd, val⟩ := r
  by_cases h1 : ((key.size : Int) ≤ 200 ∧ (val.size : Int) ≤ 700)
  rotate_left
  · simp [ac12, ar12, h1, Rec.sv, Rec.cells]
  by_cases h2 : 100 < (l.length : Int)
  · simp [ac12, ar12, h1.1, h1.2, h2, Rec.sv, Rec.cells]
  by_cases hr : recE ⟨dl, tm, kd, key, dd, val⟩ = 0
  · have q1 : putR ⟨dl, tm, kd, key, dd, val⟩ = recP ⟨dl, tm, kd, key, dd, val⟩ := by rw [putR, if_pos hr]
    have hlen := recP_len hr
    have q2 := recG_put _ hr l
    have q3 := recG_cut _ hr
    have b1 := recP_bytes ⟨dl, tm, kd, key, dd, val⟩
    have hS : recS ⟨dl, tm, kd, key, dd, val⟩ ⟨dl, tm, kd, key, dd, val⟩ = true := (recS_iff _ _).2 rfl
    generalize recP ⟨dl, tm, kd, key, dd, val⟩ = x at q1 q2 q3 b1 hlen
    simp only [Rec.sv, Rec.cells]
    have e0 : ¬ (x.length : Int) = 0 := by omega
    have e1 : IntKind.i64.wrap ((x.length : Int) - 1) = ((x.length - 1 : Nat) : Int) := by rw [wrap_i64_in (by omega) (by omega)]; omega
    have e2 : x.take (x.length - 1) = x.dropLast := by rw [List.dropLast_eq_take]
    have e3 : bs x ++ bs l = bs (x ++ l) := (bs_append _ _).symm
    generalize hcut : recG x.dropLast 0 = cut at q3
    obtain ⟨rc, ec, lc, fc⟩ := cut
    obtain ⟨rdl, rtm, rkd, rkey, rdd, rval⟩ := rc
    simp only at q3
    have hb2 : Bytes x.dropLast := by rw [← e2]; exact b1.take _
    simp [ac12, ar12, h1.1, h1.2, h2, hr, q1, e0, e1, bs_take, e2, e3, isBs_bs, b1.append hl, hb2, q2, hcut, q3, hS, Rec.sv, Rec.cells]
    have hx : ¬ x = [] := by rintro rfl; simp at hlen
    exact ⟨hx, fun _ => ⟨⟨by omega, by omega⟩, by omega, by omega, by omega⟩⟩
  · have q1 : putR ⟨dl, tm, kd, key, dd, val⟩ = [] := by rw [putR, if_neg hr]
    simp [ac12, ar12, h1.1, h1.2, h2, hr, q1, Rec.sv, Rec.cells]
end Go.Proofs.Ytabidcdfmkkegaa
