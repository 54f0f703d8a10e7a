/- Meta: Check, by both; Same. -/
import Derived.Test.YtkiimlmlfhmkiaaMCmB

set_option linter.unusedSimpArgs false
set_option linter.unusedVariables false
set_option maxHeartbeats 4000000
namespace Go.Proofs.Ytkiimlmlfhmkiaa
open Go.Av

def rngM (m : Met) : Prop := m.tp < 0 ∨ 2147483647 < m.tp ∨ m.ix < 0 ∨ 7 < m.ix ∨ m.zo < 0 ∨ 63 < m.zo ∨ m.ba < 0 ∨ 4611686018427387903 < m.ba ∨ m.cn < 0 ∨ 64 < m.cn
instance (m : Met) : Decidable (rngM m) := by unfold rngM; infer_instance
/-- What is wrong with a meta. -/
def metE (m : Met) : Int :=
  if 6 < m.kd then 22 else if strg m = true then 4 else if rngM m then 11 else if m.kd ≠ 0 then 0
  else if m.pa < 1 ∨ 8 < m.pa then 11 else if nameB m.nm = false then 6 else 0
def onlyM (m : Met) : Met := ⟨m.kd, m.tp, if m.kd = 2 ∨ m.kd = 3 ∨ m.kd = 4 ∨ m.kd = 5 then m.ix else 0, if m.kd = 0 then m.nm else ByteArray.mk #[], if m.kd = 0 then m.pa else 0, decide (m.kd = 0) && m.co,
  if m.kd = 2 ∨ m.kd = 3 ∨ m.kd = 4 then m.zo else 0, if m.kd = 2 ∨ m.kd = 4 ∨ m.kd = 5 then m.ba else 0, if m.kd = 4 then m.cn else 0⟩
theorem only_pure (m : Met) : Pure Try.prog 88 [m.sv] (.sv (onlyM m).sv) := by
  refine pure_go R0_ok Try.func88 Try.ntmps88 comp88 cres88 (by decide) (by simp) ?_
  obtain ⟨k, tp, ix, nm, pa, co, zo, ba, cn⟩ := m
  by_cases h0 : k = 0
  · subst h0; simp [ac88, ar88, R0, Met.sv, Met.cells, onlyM]
  by_cases h2 : k = 2
  · subst h2; simp [ac88, ar88, R0, Met.sv, Met.cells, onlyM]
  by_cases h3 : k = 3
  · subst h3; simp [ac88, ar88, R0, Met.sv, Met.cells, onlyM]
  by_cases h4 : k = 4
  · subst h4; simp [ac88, ar88, R0, Met.sv, Met.cells, onlyM]
  by_cases h5 : k = 5
  · subst h5; simp [ac88, ar88, R0, Met.sv, Met.cells, onlyM]
  by_cases h1 : 2 ≤ k
  · have h6 : ¬ k ≤ 5 := by omega
    have h7 : ¬ k ≤ 4 := by omega
    simp [ac88, ar88, R0, Met.sv, Met.cells, onlyM, h0, h2, h3, h4, h5, h1, h6, h7]
  · simp [ac88, ar88, R0, Met.sv, Met.cells, onlyM, h0, h2, h3, h4, h5, h1]
abbrev msv (m : Met) : SV := .agg [.int .u8 m.kd, .int .i64 m.tp, .int .i64 m.ix, .str m.nm, .int .i64 m.pa, .bool m.co, .int .i64 m.zo, .int .i64 m.ba, .int .i64 m.cn]
def eM (m : Met) : List SV := [m.sv]
theorem eM_inj (a b : Met) (h : eM a = eM b) : a = b := by simp [eM] at h; exact Met.sv_inj _ _ h
noncomputable def RmBp (f : FuncId) (l : List SV) : Option (Prop × LV) :=
  match f with
  | 57 => row eM (fun m => (True, .sv (.bool (strg m)))) l
  | 88 => row eM (fun m => (True, .sv (onlyM m).sv)) l
  | _ => RmA.p f l
noncomputable def RmB : Orc := { p := RmBp }
theorem RmB_ok : RmB.ok Try.prog := by
  refine ⟨fun f l c rv h hc => ?_, fun _ _ _ _ _ _ h => (by cases h), fun _ _ _ _ h => (by cases h), fun _ h => (by cases h), fun _ _ _ _ _ _ h => (by cases h), fun _ _ _ _ _ _ _ h => (by cases h)⟩
  change RmBp f l = _ at h
  unfold RmBp at h
  split at h
  · exact row_ok h hc (fun m _ => strange_pure m)
  · exact row_ok h hc (fun m _ => only_pure m)
  · exact RmA_ok.p _ _ _ _ h hc
theorem RmB_57 (m : Met) : RmB.p 57 [msv m] = some (True, .sv (.bool (strg m))) := row_eq eM_inj _ m
theorem RmB_88 (m : Met) : RmB.p 88 [msv m] = some (True, .sv (msv (onlyM m))) := row_eq eM_inj _ m
theorem RmB_58 (n m : Int) : RmB.p 58 [.int .i64 n, .int .i64 m] = some (True, .sv (.bool (decide (0 ≤ n) && decide (n ≤ m)))) := rfl
theorem RmB_20 (s : ByteArray) : RmB.p 20 [.str s] = some (True, .sv (.bool (nameB s))) := rfl
theorem RmB_21 (s : ByteArray) : RmB.p 21 [.str s] = some (True, .sv (.bool (nameB s))) := rfl
theorem check_met (m : Met) : Pure Try.prog 18 [m.sv] (.sv (.int .i64 (metE m))) := by
  have e57 := RmB_57 m
  have e58 := RmB_58
  have e20 := RmB_20
  have hR := RmB_ok
  generalize RmB = R at hR e57 e58 e20
  refine pure_go hR Try.func18 Try.ntmps18 comp18 cres18 (by decide) (by simp) ?_
  simp only [Met.sv, Met.cells]
  by_cases h1 : 6 < m.kd
  · have hE : metE m = 22 := if_pos h1
    simp [ac18, ar18, h1, hE]
  have h1' := h1
  cases h2 : strg m with
  | true =>
    have hE : metE m = 4 := by unfold metE; rw [if_neg h1, if_pos h2]
    rw [h2] at e57
    simp [ac18, ar18, h1, hE, e57]
  | false =>
  rw [h2] at e57
  by_cases h3 : rngM m
  · have hE : metE m = 11 := by unfold metE; rw [if_neg h1, if_neg (by simp [h2]), if_pos h3]
    unfold rngM at h3
    generalize metE m = E at hE
    simp [ac18, ar18, h1, e57, e58, e20]
    clear e57 e58 e20 hR
    grind (splits := 100)
  have h3' := h3
  simp only [rngM, not_or, Int.not_lt] at h3
  obtain ⟨q1, q2, q3, q4, q5, q6, q7, q8, q9, q10⟩ := h3
  have hE : metE m = if m.kd ≠ 0 then 0 else if m.pa < 1 ∨ 8 < m.pa then 11 else if nameB m.nm = false then 6 else 0 := by unfold metE; rw [if_neg h1, if_neg (by simp [h2]), if_neg h3']
  simp (maxSteps := 60000) [ac18, ar18, h1, e57, e58, e20, q1, q2, q3, q4, q5, q6, q7, q8, q9, q10]
  rw [hE]
  refine ⟨fun h4 => by rw [if_pos h4], fun h4 => ?_⟩
  rw [if_neg (fun q => q h4)]
  refine ⟨fun h5 => by rw [if_pos h5], fun h5 h6 => ?_⟩
  rw [if_neg (by omega)]
  exact ⟨fun h8 => by rw [if_pos h8], fun h8 => by rw [if_neg (by simp [h8])]⟩
theorem only_strg (m : Met) (h : ¬ 6 < m.kd) (h0 : 0 ≤ m.kd) : (eqC m.cells (onlyM m).cells) = some (!strg m) := by
  obtain ⟨k, tp, ix, nm, pa, co, zo, ba, cn⟩ := m
  have : k = 0 ∨ k = 1 ∨ k = 2 ∨ k = 3 ∨ k = 4 ∨ k = 5 ∨ k = 6 := by simp only at h h0; omega
  rcases this with rfl | rfl | rfl | rfl | rfl | rfl | rfl <;> simp [Met.cells, onlyM, strg, eqC, noN]
  all_goals grind
theorem rcheck_met (m : Met) (h0 : 0 ≤ m.kd) : Pure Try.prog 53 [m.sv] (.sv (.int .i64 (metE m))) := by
  have e88 := RmB_88 m
  have e20 := RmB_21
  have hR := RmB_ok
  generalize RmB = R at hR e88 e20
  refine pure_go hR Try.func53 Try.ntmps53 comp53 cres53 (by decide) (by simp) ?_
  simp only [Met.sv, Met.cells]
  by_cases h1 : 6 < m.kd
  · have hE : metE m = 22 := if_pos h1
    simp [ac53, ar53, h1, hE]
  have he := only_strg m h1 h0
  simp only [Met.cells] at he
  generalize onlyM m = O at e88 he
  have hkd : ([SV.int .u8 O.kd, .int .i64 O.tp, .int .i64 O.ix, .str O.nm, .int .i64 O.pa, .bool O.co, .int .i64 O.zo, .int .i64 O.ba, .int .i64 O.cn].map kdOf) = [1, 1, 1, 2, 1, 0, 1, 1, 1] := rfl
  cases h2 : strg m with
  | true =>
    have hE : metE m = 4 := by unfold metE; rw [if_neg h1, if_pos h2]
    rw [h2] at he
    simp [-eqC, ac53, ar53, h1, hE, e88, he]
  | false =>
  rw [h2] at he
  by_cases h3 : rngM m
  · have hE : metE m = 11 := by unfold metE; rw [if_neg h1, if_neg (by simp [h2]), if_pos h3]
    unfold rngM at h3
    generalize metE m = E at hE
    simp [-eqC, ac53, ar53, h1, e88, he, e20]
    clear e88 e20 hR he
    grind (splits := 100)
  have h3' := h3
  simp only [rngM, not_or, Int.not_lt] at h3
  obtain ⟨q1, q2, q3, q4, q5, q6, q7, q8, q9, q10⟩ := h3
  have hE : metE m = if m.kd ≠ 0 then 0 else if m.pa < 1 ∨ 8 < m.pa then 11 else if nameB m.nm = false then 6 else 0 := by unfold metE; rw [if_neg h1, if_neg (by simp [h2]), if_neg h3']
  simp (maxSteps := 60000) [-eqC, ac53, ar53, h1, e88, he, e20, Int.not_lt.2 q1, Int.not_lt.2 q2, Int.not_lt.2 q3, Int.not_lt.2 q4, Int.not_lt.2 q5, Int.not_lt.2 q6, Int.not_lt.2 q7, Int.not_lt.2 q8, Int.not_lt.2 q9, Int.not_lt.2 q10]
  rw [hE]
  clear e88 e20 hR he hE
  grind
def metS (a b : Met) : Bool := (a.kd == b.kd) && ((a.tp == b.tp) && ((a.ix == b.ix) && ((a.nm.toList == b.nm.toList) && ((a.pa == b.pa) && ((a.co == b.co) && ((a.zo == b.zo) && ((a.ba == b.ba) && (a.cn == b.cn))))))))
theorem same_met (a b : Met) : Pure Try.prog 19 [a.sv, b.sv] (.sv (.bool (metS a b))) := by
  refine pure_go R0_ok Try.func19 Try.ntmps19 comp19 cres19 (by decide) (by simp) ?_
  simp [ac19, ar19, R0, Met.sv, Met.cells, metS]
end Go.Proofs.Ytkiimlmlfhmkiaa
