import Derived.Test.YtkiimlmlfhmkiaaCmS
import Derived.Test.YtkiimlmlfhmkiaaCmT

set_option linter.unusedVariables false
set_option linter.unusedSimpArgs false

/- Meta: all contracts in one oracle; awake. -/


set_option linter.unusedSimpArgs false
set_option linter.unusedVariables false
set_option maxHeartbeats 4000000
set_option maxRecDepth 100000
namespace Go.Proofs.Ytkiimlmlfhmkiaa
open Go.Av

def eMM (p : Met × Met) : List SV := [p.1.sv, p.2.sv]
theorem eMM_inj (a b : Met × Met) (h : eMM a = eMM b) : a = b := by simp [eMM] at h; exact Prod.ext (Met.sv_inj _ _ h.1) (Met.sv_inj _ _ h.2)
def eMl (p : List Met × Int) : List SV := [.sl 9 (ML p.1), .int .i64 p.2]
theorem eMl_inj (a b : List Met × Int) (h : eMl a = eMl b) : a = b := by simp [eMl] at h; exact Prod.ext (ML_inj _ _ h.1) h.2
def eMLL (p : List Met × List Met) : List SV := [.sl 9 (ML p.1), .sl 9 (ML p.2)]
theorem eMLL_inj (a b : List Met × List Met) (h : eMLL a = eMLL b) : a = b := by simp [eMLL] at h; exact Prod.ext (ML_inj _ _ h.1) (ML_inj _ _ h.2)
def eBy (l : List Nat) : List SV := [.sl 1 (bs l)]
theorem eBy_inj (a b : List Nat) (h : eBy a = eBy b) : a = b := by simp [eBy] at h; exact bs_inj' h
def eGM (p : Int × List Met) : List SV := [.int .i64 p.1, .sl 9 (ML p.2)]
theorem eGM_inj (a b : Int × List Met) (h : eGM a = eGM b) : a = b := by simp [eGM] at h; exact Prod.ext h.1 (ML_inj _ _ h.2)
def eSt (s : ByteArray) : List SV := [.str s]
theorem eSt_inj (a b : ByteArray) (h : eSt a = eSt b) : a = b := by simpa [eSt] using h
noncomputable def RMp (f : FuncId) (l : List SV) : Option (Prop × LV) :=
  match f with
  | 14 => row eMl (fun p => (p.2 < 4611686018427387904, .sv (.bool (lightM p.1 p.2)))) l
  | 15 => row (fun _ : Unit => []) (fun _ => (Pure Try.prog 15 [] (.sv (.bool true)), .sv (.bool true))) l
  | 16 => row eM (fun m => (m.ok, .tup [.sv (.sl 1 (bs (putM m))), .sv (.int .i64 (metE m))])) l
  | 17 => row eM (fun m => (m.ok, .tup [.own 1 (bs (putM m)), .sv (.int .i64 (metE m))])) l
  | 18 => row eM (fun m => (True, .sv (.int .i64 (metE m)))) l
  | 19 => row eMM (fun p => (True, .sv (.bool (metS p.1 p.2)))) l
  | 20 => row eSt (fun s => (True, .sv (.bool (nameB s)))) l
  | 21 => row eSt (fun s => (True, .sv (.bool (nameB s)))) l
  | 22 => row eBy (fun l => (Bytes l ∧ l.length < 140737488355328, .tup [.sv (metG l).1.sv, .sv (.int .i64 (metG l).2)])) l
  | 23 => row eBy (fun l => (Bytes l ∧ l.length < 140737488355328, .tup [.sv (metG l).1.sv, .sv (.int .i64 (metG l).2)])) l
  | 24 => row eBy (fun l => (Bytes l ∧ l.length ≤ 10000, .tup [.sv (.int .i64 (getA l).1), .sv (.sl 9 (ML (getA l).2.1)), .sv (.int .i64 (getA l).2.2)])) l
  | 25 => row eBy (fun l => (Bytes l, .tup [.sv (.int .i64 (refA l).1), .sv (.sl 9 (ML (refA l).2.1)), .sv (.int .i64 (refA l).2.2)])) l
  | 26 => row eMLL (fun p => (p.1.length < 4611686018427387904, .sv (.bool (metsS p.1 p.2)))) l
  | 27 => row eGM (fun p => (I64 p.1 ∧ (∀ m ∈ p.2, m.ok) ∧ p.2.length ≤ 100000, .tup [.own 1 (bs (allB p.1 p.2)), .sv (.int .i64 (allE p.1 p.2))])) l
  | 28 => row eGM (fun p => (I64 p.1 ∧ (∀ m ∈ p.2, m.ok) ∧ p.2.length ≤ 100000, .tup [.own 1 (bs (allB p.1 p.2)), .sv (.int .i64 (allE p.1 p.2))])) l
  | _ => none
noncomputable def RM : Orc := { p := RMp }
theorem RM_ok : RM.ok Try.prog := by
  refine ⟨fun f l c rv h hc => ?_, fun _ _ _ _ _ _ h => (by cases h), fun _ _ _ _ h => (by cases h), fun _ h => (by cases h), fun _ _ _ _ _ _ h => (by cases h), fun _ _ _ _ _ _ _ h => (by cases h)⟩
  change RMp f l = _ at h
  unfold RMp at h
  split at h
  · exact row_ok h hc (fun p hp => mlight p.1 p.2 (.inr hp))
  · exact row_ok h hc (fun _ hp => hp)
  · exact row_ok h hc (fun m hm => put_met m hm)
  · exact row_ok h hc (fun m hm => rput_met m hm)
  · exact row_ok h hc (fun m _ => check_met m)
  · exact row_ok h hc (fun p _ => same_met p.1 p.2)
  · exact row_ok h hc (fun s _ => name_pure s)
  · exact row_ok h hc (fun s _ => rname_pure s)
  · exact row_ok h hc (fun l hl => get_met l hl.1 hl.2)
  · exact row_ok h hc (fun l hl => rget_met l hl.1 hl.2)
  · exact row_ok h hc (fun l hl => getAll_pure l hl.1 hl.2)
  · exact row_ok h hc (fun l hl => rgetAll_pure l hl)
  · exact row_ok h hc (fun p hp => msameAll p.1 p.2 hp)
  · exact row_ok h hc (fun p hp => putAll_pure p.1 p.2 hp.1 hp.2.1 hp.2.2)
  · exact row_ok h hc (fun p hp => rputAll_pure p.1 p.2 hp.1 hp.2.1 hp.2.2)
  · cases h
theorem RM_14 (l : List Met) (n : Int) : RM.p 14 [.sl 9 (ML l), .int .i64 n] = some (n < 4611686018427387904, .sv (.bool (lightM l n))) := row_eq eMl_inj _ (l, n)
theorem RM_15 : RM.p 15 [] = some (Pure Try.prog 15 [] (.sv (.bool true)), .sv (.bool true)) := row_eq (enc := fun _ : Unit => []) (fun _ _ _ => rfl) _ ()
theorem RM_16 (m : Met) : RM.p 16 [msv m] = some (m.ok, .tup [.sv (.sl 1 (bs (putM m))), .sv (.int .i64 (metE m))]) := row_eq eM_inj _ m
theorem RM_17 (m : Met) : RM.p 17 [msv m] = some (m.ok, .tup [.own 1 (bs (putM m)), .sv (.int .i64 (metE m))]) := row_eq eM_inj _ m
theorem RM_18 (m : Met) : RM.p 18 [msv m] = some (True, .sv (.int .i64 (metE m))) := row_eq eM_inj _ m
theorem RM_19 (a b : Met) : RM.p 19 [msv a, msv b] = some (True, .sv (.bool (metS a b))) := row_eq eMM_inj _ (a, b)
theorem RM_20 (s : ByteArray) : RM.p 20 [.str s] = some (True, .sv (.bool (nameB s))) := row_eq eSt_inj _ s
theorem RM_21 (s : ByteArray) : RM.p 21 [.str s] = some (True, .sv (.bool (nameB s))) := row_eq eSt_inj _ s
theorem RM_22 (l : List Nat) : RM.p 22 [.sl 1 (bs l)] = some (Bytes l ∧ l.length < 140737488355328, .tup [.sv (msv (metG l).1), .sv (.int .i64 (metG l).2)]) := row_eq eBy_inj _ l
theorem RM_23 (l : List Nat) : RM.p 23 [.sl 1 (bs l)] = some (Bytes l ∧ l.length < 140737488355328, .tup [.sv (msv (metG l).1), .sv (.int .i64 (metG l).2)]) := row_eq eBy_inj _ l
theorem RM_24 (l : List Nat) : RM.p 24 [.sl 1 (bs l)] = some (Bytes l ∧ l.length ≤ 10000, .tup [.sv (.int .i64 (getA l).1), .sv (.sl 9 (ML (getA l).2.1)), .sv (.int .i64 (getA l).2.2)]) := row_eq eBy_inj _ l
theorem RM_25 (l : List Nat) : RM.p 25 [.sl 1 (bs l)] = some (Bytes l, .tup [.sv (.int .i64 (refA l).1), .sv (.sl 9 (ML (refA l).2.1)), .sv (.int .i64 (refA l).2.2)]) := row_eq eBy_inj _ l
theorem RM_26 (a b : List Met) : RM.p 26 [.sl 9 (ML a), .sl 9 (ML b)] = some (a.length < 4611686018427387904, .sv (.bool (metsS a b))) := row_eq eMLL_inj _ (a, b)
theorem RM_27 (g : Int) (l : List Met) : RM.p 27 [.int .i64 g, .sl 9 (ML l)] = some (I64 g ∧ (∀ m ∈ l, m.ok) ∧ l.length ≤ 100000, .tup [.own 1 (bs (allB g l)), .sv (.int .i64 (allE g l))]) := row_eq eGM_inj _ (g, l)
theorem RM_28 (g : Int) (l : List Met) : RM.p 28 [.int .i64 g, .sl 9 (ML l)] = some (I64 g ∧ (∀ m ∈ l, m.ok) ∧ l.length ≤ 100000, .tup [.own 1 (bs (allB g l)), .sv (.int .i64 (allE g l))]) := row_eq eGM_inj _ (g, l)
def wM : Met := ⟨2, 1, 0, ByteArray.mk #[], 0, false, 5, 64, 0⟩
theorem wM_ok : wM.ok := by simp [Met.ok, wM, I64]
theorem wM_E : metE wM = 0 := by
  have h1 : strg wM = false := by simp [strg, wM, noN]
  have h2 : ¬ rngM wM := by simp [rngM, wM]
  unfold metE
  rw [if_neg (by decide), if_neg (by simp [h1]), if_neg h2, if_pos (by decide)]
theorem wM_put : putM wM = [2, 2, 0, 10, 128, 1] := by
  have l2 : layN 2 = [2] := layN_small (by decide)
  have l0 : layN 0 = [0] := layN_small (by decide)
  have l10 : layN 10 = [10] := layN_small (by decide)
  have l128 : layN 128 = [128, 1] := by
    rw [layN, if_neg (by decide)]
    have : layN (128 / 128) = [1] := layN_small (by decide)
    rw [this]
  rw [putM, if_pos wM_E, metL]
  simp [wM, lz, show zig 1 = 2 from rfl, show zig 0 = 0 from rfl, show zig 5 = 10 from rfl, show zig 64 = 128 from rfl, l2, l0, l10, l128]
theorem wAll : okAll 3 [wM] := by
  refine ⟨⟨by omega, by omega⟩, fun m hm => by simp at hm; subst hm; exact wM_ok, ?_⟩
  unfold allE
  rw [if_neg (by decide)]
  have h1 : metsE [wM] = 0 := by simp [metsE, wM_E]
  rw [if_neg (fun q => q h1), if_neg]
  have h2 := catM_le (l := [wM]) (fun m hm => by simp at hm; subst hm; exact wM_ok) (fun m hm => by simp at hm; subst hm; exact wM_E)
  have h3 := layN_le10 (u := zig 3) (by decide)
  have h4 := layN_le10 (u := zig 1) (by decide)
  simp only [allL, List.length_append, List.length_singleton] at h2 ⊢
  have : zig ((1 : Nat) : Int) = zig 1 := rfl
  rw [this]
  omega
theorem nm1 : nameB (ByteArray.mk #[97, 46, 98]) = true := by decide
theorem nm2 : nameB (ByteArray.mk #[97, 32, 98]) = false := by decide
theorem mawake : Pure Try.prog 15 [] (.sv (.bool true)) := by
  have e16 := RM_16 wM
  have e22 := RM_22 (putM wM)
  have e27 := RM_27 3 [wM]
  have e24 := RM_24 (allL 3 [wM])
  have e19a := RM_19 wM wM
  have e19b := RM_19 wM met0
  have e20a := RM_20 (ByteArray.mk #[97, 46, 98])
  have e20b := RM_20 (ByteArray.mk #[97, 32, 98])
  have hR := RM_ok
  have hnf : RM.nofz = false := rfl
  obtain ⟨f1, f2, f3, f4⟩ := wAll.facts
  rw [show metG (putM wM) = (wM, 0) by rw [putM, if_pos wM_E]; exact metG_lay wM_ok wM_E] at e22
  rw [f4, wAll.2.2] at e27
  rw [getA_lay wAll] at e24
  rw [wM_E] at e16
  rw [nm1] at e20a
  rw [nm2] at e20b
  rw [(metS_iff wM wM).2 rfl] at e19a
  rw [show metS wM met0 = false by simp [metS, wM, met0]] at e19b
  have hby := putM_bytes wM_ok
  have hal := allL_bytes wAll
  have hpl : (putM wM).length < 140737488355328 := by rw [wM_put]; decide
  have hxs : (bs (putM wM)).map Go.Av.byteOf = [2, 2, 0, 10, 128, 1] := by rw [wM_put]; rfl
  have hbb := bs_byte (putM wM)
  have hok := wM_ok
  have hI3 : I64 3 := ⟨by omega, by omega⟩
  have hall : ∀ m ∈ [wM], m.ok := fun m hm => by simp at hm; subst hm; exact wM_ok
  have hML : ML [wM] = [msv wM] := rfl
  generalize RM = R at hR e16 e22 e27 e24 e19a e19b e20a e20b hnf
  generalize putM wM = X at e16 e22 hby hpl hxs hbb
  have hlen : (allL 3 [wM]).length ≤ 10000 := by omega
  generalize allL 3 [wM] = Y at e27 e24 hal hlen
  rw [hML] at e27 e24
  simp only [hML, msv, wM, met0] at e16 e22 e19a e19b e27 e24
  refine pure_go hR Try.func15 Try.ntmps15 comp15 cres15 (by decide) (by simp) ?_
  simp (maxSteps := 600000) [ac15, ar15, e16, e22, e27, e24, e19a, e19b, e20a, e20b, hnf, hby, hal, hpl, hlen, hxs, hI3]
  exact ⟨hok, hbb⟩
end Go.Proofs.Ytkiimlmlfhmkiaa

/- Meta: the laws Puts, Gets, All, Apart. -/

set_option linter.unusedSimpArgs false
set_option linter.unusedVariables false
set_option maxHeartbeats 4000000
set_option maxRecDepth 100000
namespace Go.Proofs.Ytkiimlmlfhmkiaa
open Go.Av

theorem law_mputs (m n : Met) (s : ByteArray) (hm : m.ok) (hn : n.ok) : Pure Try.prog 3 [m.sv, n.sv, .str s] (.sv (.bool true)) := by
  have e14 := RM_14 [m, n] 2
  have e15 := RM_15
  have e16 := RM_16 m
  have e17 := RM_17 m
  have e18 := RM_18 m
  have e19 := RM_19 m n
  have e20 := RM_20 s
  have e21 := RM_21 s
  have hw := mawake
  have hR := RM_ok
  have hnf : RM.nofz = false := rfl
  have hML : ML [m, n] = [msv m, msv n] := rfl
  rw [hML] at e14
  generalize RM = R at hR e14 e15 e16 e17 e18 e19 e20 e21 hnf
  unfold metS at e19
  simp only [msv] at e14 e16 e17 e18 e19
  refine pure_go hR Try.func3 Try.ntmps3 comp3 cres3 (by decide) (by simp) ?_
  simp only [Met.sv, Met.cells]
  cases h1 : lightM [m, n] 2
  · simp [ac3, ar3, e14, e15, h1, hw, hnf]
  by_cases h2 : (100 : Int) < s.size
  · simp [ac3, ar3, e14, e15, h1, h2, hw, hnf]
  · generalize metE m = E at e16 e17 e18
    simp (maxSteps := 400000) [ac3, ar3, e14, e15, e16, e17, e18, e19, e20, e21, h1, h2, hw, hnf, hm, hn]
    exact bs_byte _
theorem law_mgets (a b : List Nat) (ha : Bytes a) (hb : Bytes b) : Pure Try.prog 4 [.sl 1 (bs a), .sl 1 (bs b)] (.sv (.bool true)) := by
  have e15 := RM_15
  have e22 := RM_22 a
  have e23 := RM_23 a
  have e24 := RM_24 b
  have e25 := RM_25 b
  rw [← getA_refA hb] at e25
  have e26 := RM_26 (getA b).2.1 (getA b).2.1
  have hs : metsS (getA b).2.1 (getA b).2.1 = true := (metsS_iff _ _).2 rfl
  have hlen : b.length ≤ 600 → (getA b).2.1.length < 4611686018427387904 := by
    intro hl
    rcases getA_cases hb with h | ⟨g, ms, h1, h2, h3⟩
    · rw [h]; decide
    · rw [h3]; have := h1.facts.2.2.1; simp only; omega
  rw [hs] at e26
  have hw := mawake
  have hR := RM_ok
  have hnf : RM.nofz = false := rfl
  generalize RM = R at hR e15 e22 e23 e24 e25 e26 hnf
  generalize getA b = G at e24 e25 e26 hlen
  generalize metG a = H at e22 e23
  simp only [msv] at e22 e23
  refine pure_go hR Try.func4 Try.ntmps4 comp4 cres4 (by decide) (by simp) ?_
  by_cases h : (600 : Int) < a.length
  · simp [ac4, ar4, e15, h, hw, hnf]
  by_cases h2 : (600 : Int) < b.length
  · simp [ac4, ar4, e15, h, h2, hw, hnf]
  have hl := hlen (by omega)
  have z1 : a.length < 140737488355328 := by omega
  have z2 : b.length ≤ 10000 := by omega
  simp (maxSteps := 400000) [ac4, ar4, e15, e22, e23, e24, e25, e26, h, h2, hw, hnf, ha, hb, hl, z1, z2]
theorem law_mall (gen : Int) (l : List Met) (hg : I64 gen) (ho : ∀ m ∈ l, m.ok) : Pure Try.prog 5 [.int .i64 gen, .sl 9 (ML l)] (.sv (.bool true)) := by
  have e14 := RM_14 l 60
  have e15 := RM_15
  have e27 := RM_27 gen l
  have e28 := RM_28 gen l
  have hw := mawake
  have hR := RM_ok
  have hnf : RM.nofz = false := rfl
  generalize RM = R at hR e14 e15 e27 e28 hnf
  refine pure_go hR Try.func5 Try.ntmps5 comp5 cres5 (by decide) (by simp) ?_
  cases h1 : lightM l 60
  · simp [ac5, ar5, e14, e15, h1, hw, hnf]
  · have hl : l.length ≤ 100000 := by have := lightM_len h1; omega
    generalize allE gen l = E at e27 e28
    generalize allB gen l = X at e27 e28
    simp (maxSteps := 400000) [ac5, ar5, e14, e15, e27, e28, h1, hw, hnf, hg, ho, hl]
    try exact ⟨ho, bs_byte _⟩
theorem law_mapart (a b : Met) (ha : a.ok) (hb : b.ok) : Pure Try.prog 7 [a.sv, b.sv] (.sv (.bool true)) := by
  have e14 := RM_14 [a, b] 2
  have e15 := RM_15
  have e16a := RM_16 a
  have e16b := RM_16 b
  have e18a := RM_18 a
  have e18b := RM_18 b
  have hw := mawake
  have hR := RM_ok
  have hnf : RM.nofz = false := rfl
  have hML : ML [a, b] = [msv a, msv b] := rfl
  rw [hML] at e14
  have hS : metE a = 0 → metE b = 0 → metS a b = ((sOf (putM a)).toList == (sOf (putM b)).toList) := by
    intro h3 h4
    rw [putM, putM, if_pos h3, if_pos h4, sOf_eq (metL_bytes ha h3) (metL_bytes hb h4)]
    cases q : metS a b
    · symm
      apply decide_eq_false
      intro z
      have : metL b = metL a ++ [] := by rw [List.append_nil, z]
      have := (metS_iff a b).2 (met_prefix ha hb h3 h4 this)
      rw [q] at this; cases this
    · rw [(metS_iff a b).1 q]; simp
  have hba := bs_byte (putM a)
  have hbb := bs_byte (putM b)
  generalize RM = R at hR e14 e15 e16a e16b e18a e18b hnf
  unfold metS at hS
  simp only [msv] at e14 e16a e16b e18a e18b
  refine pure_go hR Try.func7 Try.ntmps7 comp7 cres7 (by decide) (by simp) ?_
  simp only [Met.sv, Met.cells]
  generalize putM a = A at e16a hS hba
  generalize putM b = B at e16b hS hbb
  cases hl : lightM [a, b] 2
  · clear hS
    generalize metE a = E1 at e16a e18a
    generalize metE b = E2 at e16b e18b
    simp (maxSteps := 600000) [ac7, ar7, e14, e15, e16a, e16b, e18a, e18b, ha, hb, bs_str, hl, hw, hnf]
  by_cases h3 : metE a = 0
  · by_cases h4 : metE b = 0
    · have hS := hS h3 h4
      rw [h3] at e18a e16a
      rw [h4] at e18b e16b
      simp (maxSteps := 400000) [ac7, ar7, e14, e15, e16a, e16b, e18a, e18b, hl, hw, hnf, ha, hb, bs_str]
      exact ⟨⟨hba, hbb⟩, hS.symm⟩
    · rw [h3] at e18a e16a
      generalize metE b = E at e18b e16b h4
      simp (maxSteps := 400000) [ac7, ar7, e14, e15, e16a, e16b, e18a, e18b, hl, hw, hnf, h4, ha, hb, bs_str]
  · generalize metE a = E at e18a e16a h3
    simp (maxSteps := 400000) [ac7, ar7, e14, e15, e16a, e16b, e18a, e18b, hl, hw, hnf, h3, ha, hb, bs_str]
end Go.Proofs.Ytkiimlmlfhmkiaa
