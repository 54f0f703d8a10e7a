/- Wire: the law Back. -/
import Derived.Test.YtflcdbfcipkhkaaMDwT

set_option linter.unusedSimpArgs false
set_option linter.unusedVariables false
set_option maxHeartbeats 8000000
set_option maxRecDepth 100000
namespace Go.Proofs.Ytflcdbfcipkhkaa
open Go.Av

/-- What a list of bytes, one byte more and one byte less are, in cells. -/
theorem lay_facts {X : List Nat} (hby : Bytes X) (hpos : 1 ≤ X.length) (hle : X.length ≤ 900000) :
    IntKind.i64.wrap ((X.length : Int) - 1) = ((X.length - 1 : Nat) : Int) ∧ ¬ ((X.length : Int) = 0) ∧ ¬ (X = []) ∧ bs X ++ [.int .u8 0] = bs (X ++ [0]) ∧ (bs X).take (X.length - 1) = bs X.dropLast ∧ Bytes (X ++ [0]) ∧ Bytes X.dropLast := by
  refine ⟨by rw [IntKind.wrap_i64]; omega, by omega, fun q => by rw [q] at hpos; simp at hpos, by simp [bs], by rw [List.dropLast_eq_take]; simp [bs], ?_, fun c hc => hby c (List.dropLast_subset X hc)⟩
  intro c hc
  rcases List.mem_append.1 hc with hc | hc
  · exact hby c hc
  · simp at hc; omega
theorem law_wback (q : Req) (a : Rsp) (hq : q.ok) (ha : a.ok) : Pure Try.prog 7 [q.sv, a.sv] (.sv (.bool true)) := by
  have e29 := RXo_29 q
  have e37 := RXo_37 a
  have e30 := RXo_30
  have e31 := RXo_31 q
  have e33 := RXo_33 q q
  have e38 := RXo_38 a
  have e40 := RXo_40 a a
  rw [(reqS_iff _ _).2 rfl] at e33
  rw [(rspS_iff _ _).2 rfl] at e40
  have e42 := RXo_42
  have e44 := RXo_44
  have hw := wawake
  have hR := RXo_ok
  have hnf : RXo.nofz = false := rfl
  generalize RXo = R at hR e29 e37 e30 e31 e33 e38 e40 e42 e44 hnf
  refine pure_go hR Try.func7 Try.ntmps7 comp7 cres7 (by decide) (by simp) ?_
  cases h1 : lightQ q with
  | false =>
    rw [h1] at e29
    generalize lightP a = L at *
    simp (maxSteps := 600000) [ac7, ar7, Req.sv, Req.cells, Rsp.sv, Rsp.cells, e29, e37, e30, hw, hnf]
  | true =>
  have hl := lightQ_len h1
  rw [h1] at e29
  cases h2 : lightP a with
  | false =>
    rw [h2] at e37
    simp (maxSteps := 600000) [ac7, ar7, Req.sv, Req.cells, Rsp.sv, Rsp.cells, e29, e37, e30, hw, hnf]
  | true =>
  have hs := lightP_small h2
  have hs4 := hs.2.2.2
  rw [h2] at e37
  have hk : ∀ k, qsv (kReq k) = .agg [.int .u8 k, .str (ByteArray.mk #[]), .int .i64 0, .int .i64 0, .bool false, .bool false, .int .i64 0, .int .i64 0, .int .i64 0, .str (ByteArray.mk #[]), .str (ByteArray.mk #[]), .int .i64 0, .int .i64 0, .int .i64 0, .int .i64 0, .int .i64 0, .int .i64 0, .sl 6 []] := fun k => rfl
  have hp0 : psv rsp0 = .agg [.int .u8 0, .int .i64 0, .int .i64 0, .int .i64 0, .bool false, .int .i64 0, .sl 6 [], .sl 1 [], .sl 1 []] := rfl
  by_cases hE : reqE q = 0
  · rw [hE, putQ_eq hE] at e31
    have a1 := e42 (reqL q)
    rw [getR_lay hq hE 8192 (by decide)] at a1
    have a2 := e42 (reqL q ++ [0])
    rw [getR_more hq hE 0 (by decide)] at a2
    have a3 := e42 (reqL q).dropLast
    rw [getR_less hq hE] at a3
    have hby := reqL_bytes hq (.inr trivial) hE
    have hpos := reqL_pos q
    have hle := reqL_len hq hE
    simp only [hk] at a2 a3
    simp only at a1
    clear e42
    generalize reqL q = X at *
    obtain ⟨x1, x2, x3, x4, x5, x6, x7⟩ := lay_facts hby hpos (by omega)
    have y1 : X.length < 100000000 := by omega
    have y2 : (X ++ [0]).length < 100000000 := by simp; omega
    have y3 : X.dropLast.length < 100000000 := by simp; omega
    have y4 : X.length ≤ 140737488355328 := by omega
    have y5 : X.length + 1 ≤ 140737488355328 := by omega
    have y6 : X.length + 1 < 100000000 := by omega
    have y7 : X.length - 1 < 100000000 := by omega
    have y8 : ((X.length - 1 : Nat) : Int) ≤ X.length := by omega
    by_cases hF : rspE a = 0
    · rw [hF, putP_eq hF] at e38
      have b1 := e44 (rspL a)
      rw [(getP_lay ha hF).1] at b1
      have b2 := e44 (rspL a ++ [0])
      rw [getP_more ha hF 0 (by decide)] at b2
      have b3 := e44 (rspL a).dropLast
      rw [getP_less ha hF] at b3
      have hby' := rspL_bytes ha
      have hpos' := rspL_pos a
      have hle' := rspL_len ha hF
      simp only [hp0] at b2 b3
      simp only at b1
      clear e44
      generalize rspL a = Y at *
      obtain ⟨u1, u2, u3, u4, u5, u6, u7⟩ := lay_facts hby' hpos' (by omega)
      have v1 : Y.length < 100000000 := by omega
      have v2 : (Y ++ [0]).length < 100000000 := by simp; omega
      have v3 : Y.dropLast.length < 100000000 := by simp; omega
      have v4 : Y.length ≤ 140737488355328 := by omega
      have v5 : Y.length + 1 ≤ 140737488355328 := by omega
      have v6 : Y.length + 1 < 100000000 := by omega
      have v7 : Y.length - 1 < 100000000 := by omega
      have v8 : ((Y.length - 1 : Nat) : Int) ≤ Y.length := by omega
      simp (maxSteps := 800000) [ac7, ar7, Req.sv, Req.cells, Rsp.sv, Rsp.cells, e29, e37, e30, e31, e33, e38, e40, a1, a2, a3, b1, b2, b3, hw, hnf, hq, ha, hl, hs, hs4, hby, hby', x1, x2, x3, x4, x5, x6, x7, y1, y2, y3, y4, y5, y6, y7, y8, u1, u2, u3, u4, u5, u6, u7, v1, v2, v3, v4, v5, v6, v7, v8]
      try omega
    · generalize rspE a = F at *
      generalize putP a = Y at *
      clear e44
      simp (maxSteps := 800000) [ac7, ar7, Req.sv, Req.cells, Rsp.sv, Rsp.cells, e29, e37, e30, e31, e33, e38, a1, a2, a3, hw, hnf, hq, ha, hl, hs, hs4, hby, x1, x2, x3, x4, x5, x6, x7, y1, y2, y3, y4, y5, y6, y7, y8, hF]
      try omega
  · generalize reqE q = E at *
    generalize putQ q = X at *
    clear e42
    by_cases hF : rspE a = 0
    · rw [hF, putP_eq hF] at e38
      have b1 := e44 (rspL a)
      rw [(getP_lay ha hF).1] at b1
      have b2 := e44 (rspL a ++ [0])
      rw [getP_more ha hF 0 (by decide)] at b2
      have b3 := e44 (rspL a).dropLast
      rw [getP_less ha hF] at b3
      have hby' := rspL_bytes ha
      have hpos' := rspL_pos a
      have hle' := rspL_len ha hF
      simp only [hp0] at b2 b3
      simp only at b1
      clear e44
      generalize rspL a = Y at *
      obtain ⟨u1, u2, u3, u4, u5, u6, u7⟩ := lay_facts hby' hpos' (by omega)
      have v1 : Y.length < 100000000 := by omega
      have v2 : (Y ++ [0]).length < 100000000 := by simp; omega
      have v3 : Y.dropLast.length < 100000000 := by simp; omega
      have v4 : Y.length ≤ 140737488355328 := by omega
      have v5 : Y.length + 1 ≤ 140737488355328 := by omega
      have v6 : Y.length + 1 < 100000000 := by omega
      have v7 : Y.length - 1 < 100000000 := by omega
      have v8 : ((Y.length - 1 : Nat) : Int) ≤ Y.length := by omega
      simp (maxSteps := 800000) [ac7, ar7, Req.sv, Req.cells, Rsp.sv, Rsp.cells, e29, e37, e30, e31, e38, e40, b1, b2, b3, hw, hnf, hq, ha, hl, hs, hs4, hby', u1, u2, u3, u4, u5, u6, u7, v1, v2, v3, v4, v5, v6, v7, v8, hE]
      try omega
    · generalize rspE a = F at *
      generalize putP a = Y at *
      clear e44
      simp (maxSteps := 800000) [ac7, ar7, Req.sv, Req.cells, Rsp.sv, Rsp.cells, e29, e37, e30, e31, e38, hw, hnf, hq, ha, hl, hs, hs4, hE, hF]
end Go.Proofs.Ytflcdbfcipkhkaa
