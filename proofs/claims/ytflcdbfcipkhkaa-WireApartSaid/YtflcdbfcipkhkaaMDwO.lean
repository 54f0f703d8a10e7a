import Derived.Test.YtflcdbfcipkhkaaMDwB

set_option linter.unusedVariables false
set_option linter.unusedSimpArgs false

/- Wire: lists of batches, numbers and texts compared. -/

set_option linter.unusedSimpArgs false
set_option linter.unusedVariables false
set_option maxHeartbeats 8000000
namespace Go.Proofs.Ytflcdbfcipkhkaa
open Go.Av

instance : DecidableEq Bat := fun a b => if h : batS a b = true then isTrue ((batS_iff a b).1 h) else isFalse (fun e => h ((batS_iff a b).2 e))
theorem batS_dec (a b : Bat) : batS a b = decide (a = b) := by
  rw [Bool.eq_iff_iff, batS_iff]; simp
def BL (l : List Bat) : List SV := l.map Bat.sv
def IL (l : List Int) : List SV := l.map fun n => .int .i64 n
def TL (l : List ByteArray) : List SV := l.map SV.str
@[simp] theorem BL_length (l : List Bat) : (BL l).length = l.length := by simp [BL]
@[simp] theorem IL_length (l : List Int) : (IL l).length = l.length := by simp [IL]
@[simp] theorem TL_length (l : List ByteArray) : (TL l).length = l.length := by simp [TL]
theorem BL_inj (a b : List Bat) (h : BL a = BL b) : a = b := map_inj Bat.sv_inj _ _ h
theorem IL_inj (a b : List Int) (h : IL a = IL b) : a = b := map_inj (fun x y e => by simpa using e) _ _ h
theorem TL_inj (a b : List ByteArray) (h : TL a = TL b) : a = b := map_inj (fun x y e => by simpa using e) _ _ h
theorem BL_get (l : List Bat) {i : Nat} (h : i < l.length) : (BL l)[i]?.getD .undef = (l.getD i bat0).sv := by simp [BL, List.getD_eq_getElem?_getD, h]
theorem IL_get (l : List Int) {i : Nat} (h : i < l.length) : (IL l)[i]?.getD .undef = .int .i64 (l.getD i 0) := by simp [IL, List.getD_eq_getElem?_getD, h]
theorem TL_get (l : List ByteArray) {i : Nat} (h : i < l.length) : (TL l)[i]?.getD .undef = .str (l.getD i ⟨#[]⟩) := by simp [TL, List.getD_eq_getElem?_getD, h]
theorem take_eq {α : Type} {a b : List α} {i : Nat} (d : α) (ha : i < a.length) (hb : i < b.length) (h : a.take i = b.take i) (e : a.getD i d = b.getD i d) : a.take (i + 1) = b.take (i + 1) := by
  rw [List.take_succ_eq_append_getElem ha, List.take_succ_eq_append_getElem hb, h]
  simp only [List.getD_eq_getElem?_getD, List.getElem?_eq_getElem ha, List.getElem?_eq_getElem hb, Option.getD_some] at e
  rw [e]
theorem ne_of_get {α : Type} {a b : List α} {i : Nat} (d : α) (e : a.getD i d ≠ b.getD i d) : a ≠ b := fun h => e (by rw [h])
theorem wrap_succ {i n : Nat} (h : i < n) (hn : n < 4611686018427387904) : IntKind.i64.wrap ((i : Int) + 1) = ((i + 1 : Nat) : Int) := by rw [IntKind.wrap_i64]; omega

theorem eqInts (a b : List Int) (hl : a.length < 4611686018427387904) : Pure Try.prog 95 [.sl 1 (IL a), .sl 1 (IL b)] (.sv (.bool (decide (a = b)))) := by
  refine pure_go R0_ok Try.func95 Try.ntmps95 comp95 cres95 (by decide) (by simp) ?_
  by_cases h0 : a.length = b.length
  case neg =>
    have h0' : ¬ (a.length : Int) = b.length := by omega
    have hne : a ≠ b := fun e => h0 (by rw [e])
    simp [ac95, ar95, R0, h0', hne]
  have h0' : (a.length : Int) = b.length := by omega
  simp [ac95, ar95, R0, h0']
  refine awpR_loop (α := Nat) (fun i => i ≤ a.length ∧ a.take i = b.take i) (fun i => { n := 26, sl := [(0, .sv (.sl 1 (IL a))), (1, .sv (.sl 1 (IL b))), (12, .sv (.int .i64 b.length)), (13, .sv (.int .i64 i))], bx := [], hp := fun _ => none })
    (fun i => a.length - i) 0 ⟨by omega, by simp⟩ (by simp) ?_
  rintro i ⟨hi, ha⟩
  by_cases h : i < a.length
  · have hlt : (i : Int) < b.length := by omega
    have hb : i < b.length := by omega
    have hw := wrap_succ h hl
    have hg1 := IL_get a h
    have hg2 := IL_get b hb
    have hn := take_eq 0 h hb ha
    have hz := @ne_of_get _ a b i 0
    have e1 : (IL a)[i]'(by simpa using h) = .int .i64 (a.getD i 0) := by rw [← hg1, List.getElem?_eq_getElem]; rfl
    have e2 : (IL b)[i]'(by simpa using hb) = .int .i64 (b.getD i 0) := by rw [← hg2, List.getElem?_eq_getElem]; rfl
    generalize a.getD i 0 = x at *
    generalize b.getD i 0 = y at *
    by_cases q : x = y
    · have q2 := hn q
      simp [hlt, h, hb, hg1, hg2, e1, e2, q, hw]
      refine ⟨i + 1, ⟨by omega, q2⟩, by omega, by omega⟩
    · have q2 := hz q
      simp [hlt, h, hb, hg1, hg2, e1, e2, q, q2]
  · obtain rfl : i = a.length := by omega
    have hlt : ¬ ((a.length : Nat) : Int) < b.length := by omega
    have : a = b := by
      rw [List.take_length, h0, List.take_length] at ha
      exact ha
    simp [hlt, this]
theorem eqTexts (a b : List ByteArray) (hl : a.length < 4611686018427387904) : Pure Try.prog 96 [.sl 1 (TL a), .sl 1 (TL b)] (.sv (.bool (decide (a = b)))) := by
  refine pure_go R0_ok Try.func96 Try.ntmps96 comp96 cres96 (by decide) (by simp) ?_
  have tl : ∀ x y : ByteArray, x.toList = y.toList ↔ x = y := fun x y => ⟨fun h => by
    rw [ByteArray.toList_eq, ByteArray.toList_eq] at h
    cases x; cases y; simp at h; rw [h], fun h => by rw [h]⟩
  by_cases h0 : a.length = b.length
  case neg =>
    have h0' : ¬ (a.length : Int) = b.length := by omega
    have hne : a ≠ b := fun e => h0 (by rw [e])
    simp [ac96, ar96, R0, h0', hne]
  have h0' : (a.length : Int) = b.length := by omega
  simp [ac96, ar96, R0, h0']
  refine awpR_loop (α := Nat) (fun i => i ≤ a.length ∧ a.take i = b.take i) (fun i => { n := 26, sl := [(0, .sv (.sl 1 (TL a))), (1, .sv (.sl 1 (TL b))), (12, .sv (.int .i64 b.length)), (13, .sv (.int .i64 i))], bx := [], hp := fun _ => none })
    (fun i => a.length - i) 0 ⟨by omega, by simp⟩ (by simp) ?_
  rintro i ⟨hi, ha⟩
  by_cases h : i < a.length
  · have hlt : (i : Int) < b.length := by omega
    have hb : i < b.length := by omega
    have hw := wrap_succ h hl
    have hg1 := TL_get a h
    have hg2 := TL_get b hb
    have hn := take_eq ⟨#[]⟩ h hb ha
    have hz := @ne_of_get _ a b i ⟨#[]⟩
    have e1 : (TL a)[i]'(by simpa using h) = .str (a.getD i ⟨#[]⟩) := by rw [← hg1, List.getElem?_eq_getElem]; rfl
    have e2 : (TL b)[i]'(by simpa using hb) = .str (b.getD i ⟨#[]⟩) := by rw [← hg2, List.getElem?_eq_getElem]; rfl
    generalize a.getD i ⟨#[]⟩ = x at *
    generalize b.getD i ⟨#[]⟩ = y at *
    by_cases q : x = y
    · have q2 := hn q
      have q3 : x.toList = y.toList := by rw [q]
      simp [hlt, h, hb, hg1, hg2, e1, e2, q, hw]
      refine ⟨i + 1, ⟨by omega, q2⟩, by omega, by omega⟩
    · have q2 := hz q
      have q3 : ¬ x.toList = y.toList := fun z => q ((tl x y).1 z)
      simp [hlt, h, hb, hg1, hg2, e1, e2, q3, q2]
  · obtain rfl : i = a.length := by omega
    have hlt : ¬ ((a.length : Nat) : Int) < b.length := by omega
    have : a = b := by
      rw [List.take_length, h0, List.take_length] at ha
      exact ha
    simp [hlt, this]
theorem ok69 : okFn Try.prog 69 := ⟨_, Try.func69, rfl, rfl⟩
noncomputable def RwE : Orc := { RwA with fv := fun f => f == 69 }
theorem RwE_ok : RwE.ok Try.prog := by
  refine ⟨RwA_ok.p, fun _ _ _ _ _ _ h => (by cases h), fun _ _ _ _ h => (by cases h), fun f h => ?_, fun _ _ _ _ _ _ h => (by cases h), fun _ _ _ _ _ _ _ h => (by cases h)⟩
  have : f = 69 := by simpa [RwE] using h
  subst this; exact ok69
theorem RwE_69 (a b : Bat) : RwE.p 69 [bsv a, bsv b] = some (a.rs.length < 4611686018427387904, .sv (.bool (batS a b))) := RwA_69 a b
def smallB (l : List Bat) : Prop := ∀ b ∈ l, b.rs.length < 4611686018427387904
theorem eqBats (a b : List Bat) (hl : a.length < 4611686018427387904) (hs : smallB a) : Pure Try.prog 94 [.sl 6 (BL a), .sl 6 (BL b), .fn 69 [] []] (.sv (.bool (decide (a = b)))) := by
  have e := RwE_69
  have hR := RwE_ok
  have hfv : RwE.fv 69 = true := rfl
  have hnf : RwE.nofz = false := rfl
  generalize RwE = R at hR e hfv hnf
  refine pure_go hR Try.func94 Try.ntmps94 comp94 cres94 (by decide) (by simp) ?_
  by_cases h0 : a.length = b.length
  case neg =>
    have h0' : ¬ (a.length : Int) = b.length := by omega
    have hne : a ≠ b := fun e => h0 (by rw [e])
    simp [ac94, ar94, h0', hne, hnf]
  have h0' : (a.length : Int) = b.length := by omega
  simp [ac94, ar94, h0', hnf]
  refine awpR_loop (α := Nat) (fun i => i ≤ a.length ∧ a.take i = b.take i) (fun i => { n := 32, sl := [(1, .sv (.sl 6 (BL b))), (2, .sv (.fn 69 [] [])), (15, .sv (.sl 6 (BL a))), (16, .sv (.int .i64 b.length)), (17, .sv (.int .i64 i))], bx := [], hp := fun _ => none })
    (fun i => a.length - i) 0 ⟨by omega, by simp⟩ (by simp) ?_
  rintro i ⟨hi, ha⟩
  by_cases h : i < a.length
  · have hlt : (i : Int) < b.length := by omega
    have hb : i < b.length := by omega
    have hw := wrap_succ h hl
    have hg1 := BL_get a h
    have hg2 := BL_get b hb
    have hn := take_eq bat0 h hb ha
    have hz := @ne_of_get _ a b i bat0
    have e1 : (BL a)[i]'(by simpa using h) = (a.getD i bat0).sv := by rw [← hg1, List.getElem?_eq_getElem]; rfl
    have e2 : (BL b)[i]'(by simpa using hb) = (b.getD i bat0).sv := by rw [← hg2, List.getElem?_eq_getElem]; rfl
    have hsx : (a.getD i bat0).rs.length < 4611686018427387904 := by
      rw [List.getD_eq_getElem?_getD, List.getElem?_eq_getElem h]; exact hs _ (List.getElem_mem h)
    generalize a.getD i bat0 = x at *
    generalize b.getD i bat0 = y at *
    have e := e x y
    rw [batS_dec] at e
    by_cases q : x = y
    · have q2 := hn q
      simp [hlt, h, hb, hg1, hg2, e1, e2, Bat.sv, Bat.cells, e, hsx, hfv, hw, hnf]
      refine ⟨fun z => absurd q z, fun _ => ⟨i + 1, ⟨by omega, q2⟩, by omega, by omega⟩⟩
    · have q2 := hz q
      simp [hlt, h, hb, hg1, hg2, e1, e2, Bat.sv, Bat.cells, e, hsx, hfv, q2, hnf]
      try exact fun z => absurd z q
  · obtain rfl : i = a.length := by omega
    have hlt : ¬ ((a.length : Nat) : Int) < b.length := by omega
    have : a = b := by
      rw [List.take_length, h0, List.take_length] at ha
      exact ha
    simp [hlt, this]
theorem rsameAll (a b : List Bat) (hl : a.length < 4611686018427387904) (hs : smallB a) : Pure Try.prog 49 [.sl 6 (BL a), .sl 6 (BL b)] (.sv (.bool (decide (a = b)))) := by
  have e := RwA_89
  have hR := RwA_ok
  generalize RwA = R at hR e
  refine pure_go hR Try.func49 Try.ntmps49 comp49 cres49 (by decide) (by simp) ?_
  by_cases h0 : a.length = b.length
  case neg =>
    have h0' : ¬ (a.length : Int) = b.length := by omega
    have hne : a ≠ b := fun e => h0 (by rw [e])
    simp [ac49, ar49, h0', hne]
  have h0' : (a.length : Int) = b.length := by omega
  simp [ac49, ar49, h0']
  refine awpR_loop (α := Nat) (fun i => i ≤ a.length ∧ a.take i = b.take i) (fun i => { n := 27, sl := [(0, .sv (.sl 6 (BL a))), (1, .sv (.sl 6 (BL b))), (5, .sv (.int .i64 i))], bx := [], hp := fun _ => none })
    (fun i => a.length - i) 0 ⟨by omega, by simp⟩ (by simp) ?_
  rintro i ⟨hi, ha⟩
  by_cases h : i < a.length
  · have hlt : (i : Int) < a.length := by omega
    have hlb : (i : Int) < b.length := by omega
    have hb : i < b.length := by omega
    have hw := wrap_succ h hl
    have hg1 := BL_get a h
    have hg2 := BL_get b hb
    have hn := take_eq bat0 h hb ha
    have hz := @ne_of_get _ a b i bat0
    have e1 : (BL a)[i]'(by simpa using h) = (a.getD i bat0).sv := by rw [← hg1, List.getElem?_eq_getElem]; rfl
    have e2 : (BL b)[i]'(by simpa using hb) = (b.getD i bat0).sv := by rw [← hg2, List.getElem?_eq_getElem]; rfl
    have hsx : (a.getD i bat0).rs.length < 4611686018427387904 := by
      rw [List.getD_eq_getElem?_getD, List.getElem?_eq_getElem h]; exact hs _ (List.getElem_mem h)
    generalize a.getD i bat0 = x at *
    generalize b.getD i bat0 = y at *
    have e := e x y
    rw [batS_dec] at e
    by_cases q : x = y
    · have q2 := hn q
      simp [hlt, hlb, h, hb, hg1, hg2, e1, e2, Bat.sv, Bat.cells, e, hsx, hw]
      refine ⟨fun z => absurd q z, fun _ => ⟨i + 1, ⟨by omega, q2⟩, by omega, by omega⟩⟩
    · have q2 := hz q
      simp [hlt, hlb, h, hb, hg1, hg2, e1, e2, Bat.sv, Bat.cells, e, hsx, q2]
      try exact fun z => absurd z q
  · obtain rfl : i = a.length := by omega
    have hlt : ¬ ((a.length : Nat) : Int) < a.length := by omega
    have : a = b := by
      rw [List.take_length, h0, List.take_length] at ha
      exact ha
    simp [hlt, this]
end Go.Proofs.Ytflcdbfcipkhkaa

/- Wire: long texts; what is light. -/

set_option linter.unusedSimpArgs false
set_option linter.unusedVariables false
set_option maxHeartbeats 8000000
namespace Go.Proofs.Ytflcdbfcipkhkaa
open Go.Av

def isLong (s : ByteArray) : Bool := decide (255 < (s.size : Int))
theorem long_pure (s : ByteArray) : Pure Try.prog 92 [.str s] (.sv (.bool (isLong s))) := by
  refine pure_go R0_ok Try.func92 Try.ntmps92 comp92 cres92 (by decide) (by simp) ?_
  simp [ac92, ar92, R0, isLong]
theorem ok92 : okFn Try.prog 92 := ⟨_, Try.func92, rfl, rfl⟩
/-- The first place of a long text, or -1. -/
def idxL : List ByteArray → Nat → Int
  | [], _ => -1
  | s :: l, i => if isLong s = true then (i : Int) else idxL l (i + 1)
theorem idxL_any : ∀ (l : List ByteArray) (i : Nat), decide (0 ≤ idxL l i) = l.any isLong
  | [], i => by simp [idxL]
  | s :: l, i => by
    rw [idxL, List.any_cons]
    cases h : isLong s with
    | true => simp
    | false => simp [idxL_any l (i + 1)]
theorem idxL_drop (l : List ByteArray) {i : Nat} (h : i < l.length) : idxL (l.drop i) i = if isLong (l.getD i ⟨#[]⟩) = true then (i : Int) else idxL (l.drop (i + 1)) (i + 1) := by
  rw [List.drop_eq_getElem_cons h, idxL]
  simp [List.getD_eq_getElem?_getD, h]
noncomputable def R136p (f : FuncId) (l : List SV) : Option (Prop × LV) :=
  match f with
  | 92 => row eSt (fun s => (True, .sv (.bool (isLong s)))) l
  | _ => none
noncomputable def R136 : Orc := { p := R136p, fv := fun f => f == 92 }
theorem R136_ok : R136.ok Try.prog := by
  refine ⟨fun f l c rv h hc => ?_, fun _ _ _ _ _ _ h => (by cases h), fun _ _ _ _ h => (by cases h), fun f h => ?_, fun _ _ _ _ _ _ h => (by cases h), fun _ _ _ _ _ _ _ h => (by cases h)⟩
  · change R136p f l = _ at h
    unfold R136p at h
    split at h
    · exact row_ok h hc (fun s _ => long_pure s)
    · cases h
  · have : f = 92 := by simpa [R136] using h
    subst this; exact ok92
theorem R136_92 (s : ByteArray) : R136.p 92 [.str s] = some (True, .sv (.bool (isLong s))) := row_eq eSt_inj _ s
theorem indexLong (l : List ByteArray) (hl : l.length < 4611686018427387904) : Pure Try.prog 136 [.sl 1 (TL l), .fn 92 [] []] (.sv (.int .i64 (idxL l 0))) := by
  have e := R136_92
  have hR := R136_ok
  have hfv : R136.fv 92 = true := rfl
  have hnf : R136.nofz = false := rfl
  generalize R136 = R at hR e hfv hnf
  refine pure_go hR Try.func136 Try.ntmps136 comp136 cres136 (by decide) (by simp) ?_
  simp [ac136, ar136]
  refine awpR_loop (α := Nat) (fun i => i ≤ l.length ∧ idxL l 0 = idxL (l.drop i) i) (fun i => { n := 19, sl := [(0, .sv (.sl 1 (TL l))), (1, .sv (.fn 92 [] [])), (7, .sv (.int .i64 l.length)), (8, .sv (.int .i64 i))], bx := [], hp := fun _ => none })
    (fun i => l.length - i) 0 ⟨by omega, by simp⟩ (by simp) ?_
  rintro i ⟨hi, ha⟩
  by_cases h : i < l.length
  · have hlt : (i : Int) < l.length := by omega
    have hw := wrap_succ h hl
    have hg1 := TL_get l h
    have e1 : (TL l)[i]'(by simpa using h) = .str (l.getD i ⟨#[]⟩) := by rw [← hg1, List.getElem?_eq_getElem]; rfl
    rw [idxL_drop l h] at ha
    generalize l.getD i ⟨#[]⟩ = x at *
    have e := e x
    cases q : isLong x with
    | true =>
      rw [q] at e ha
      rw [ha]
      simp [hlt, h, hg1, e1, e, hfv, q]
    | false =>
      rw [q] at e ha
      simp only [Bool.false_eq_true, if_false] at ha
      simp [hlt, h, hg1, e1, e, hfv, q, hw]
      refine ⟨i + 1, ⟨by omega, ha⟩, by omega, by omega⟩
  · obtain rfl : i = l.length := by omega
    have hlt : ¬ ((l.length : Nat) : Int) < l.length := by omega
    rw [List.drop_length] at ha
    rw [ha]
    simp [hlt, idxL]
def eTf (l : List ByteArray) : List SV := [.sl 1 (TL l), .fn 92 [] []]
theorem eTf_inj (a b : List ByteArray) (h : eTf a = eTf b) : a = b := by simp [eTf] at h; exact TL_inj _ _ h
noncomputable def R91 : Orc := { p := fun f l => match f with
    | 136 => row eTf (fun l => (l.length < 4611686018427387904, .sv (.int .i64 (idxL l 0)))) l
    | _ => none }
theorem R91_ok : R91.ok Try.prog := by
  refine ⟨fun f l c rv h hc => ?_, fun _ _ _ _ _ _ h => (by cases h), fun _ _ _ _ h => (by cases h), fun _ h => (by cases h), fun _ _ _ _ _ _ h => (by cases h), fun _ _ _ _ _ _ _ h => (by cases h)⟩
  simp only [R91] at h
  split at h
  · exact row_ok h hc (fun l hl => indexLong l hl)
  · cases h
theorem R91_136 (l : List ByteArray) : R91.p 136 [.sl 1 (TL l), .fn 92 [] []] = some (l.length < 4611686018427387904, .sv (.int .i64 (idxL l 0))) := row_eq eTf_inj _ l
theorem anyLong (l : List ByteArray) (hl : l.length < 4611686018427387904) : Pure Try.prog 91 [.sl 1 (TL l), .fn 92 [] []] (.sv (.bool (l.any isLong))) := by
  have e := R91_136 l
  have hR := R91_ok
  generalize R91 = R at hR e
  rw [← idxL_any l 0]
  refine pure_go hR Try.func91 Try.ntmps91 comp91 cres91 (by decide) (by simp) ?_
  generalize idxL l 0 = x at *
  simp [ac91, ar91, e, hl]
/-! ### light -/
def lightA (l : List Bat) (n : Int) : Bool := decide ((l.length : Int) ≤ n) && l.all lightB
theorem all_dropB (l : List Bat) {i : Nat} (h : i < l.length) : (l.drop i).all lightB = (lightB (l.getD i bat0) && (l.drop (i + 1)).all lightB) := by
  rw [List.drop_eq_getElem_cons h, List.all_cons, List.getD_eq_getElem?_getD, List.getElem?_eq_getElem h]
  rfl
noncomputable def R90 : Orc := { p := fun f l => match f with
    | 64 => row eB (fun b => (True, .sv (.bool (lightB b)))) l
    | _ => none }
theorem R90_ok : R90.ok Try.prog := by
  refine ⟨fun f l c rv h hc => ?_, fun _ _ _ _ _ _ h => (by cases h), fun _ _ _ _ h => (by cases h), fun _ h => (by cases h), fun _ _ _ _ _ _ h => (by cases h), fun _ _ _ _ _ _ _ h => (by cases h)⟩
  simp only [R90] at h
  split at h
  · exact row_ok h hc (fun b _ => light_bat b)
  · cases h
theorem R90_64 (b : Bat) : R90.p 64 [bsv b] = some (True, .sv (.bool (lightB b))) := row_eq eB_inj _ b
theorem lightAll (l : List Bat) (n : Int) (hn : n < 4611686018427387904) : Pure Try.prog 90 [.sl 6 (BL l), .int .i64 n] (.sv (.bool (lightA l n))) := by
  have e := R90_64
  have hR := R90_ok
  generalize R90 = R at hR e
  refine pure_go hR Try.func90 Try.ntmps90 comp90 cres90 (by decide) (by simp) ?_
  unfold lightA
  by_cases h0 : (l.length : Int) ≤ n
  case neg =>
    have h0' : n < (l.length : Int) := by omega
    simp [ac90, ar90, h0, h0']
  have h0' : ¬ n < (l.length : Int) := by omega
  have hl : l.length < 4611686018427387904 := by omega
  simp [ac90, ar90, h0, h0']
  refine awpR_loop (α := Nat) (fun i => i ≤ l.length ∧ l.all lightB = (l.drop i).all lightB) (fun i => { n := 22, sl := [(0, .sv (.sl 6 (BL l))), (5, .sv (.int .i64 i))], bx := [], hp := fun _ => none })
    (fun i => l.length - i) 0 ⟨by omega, by simp⟩ (by simp) ?_
  rintro i ⟨hi, ha⟩
  by_cases h : i < l.length
  · have hlt : (i : Int) < l.length := by omega
    have hw := wrap_succ h hl
    have hg1 := BL_get l h
    have e1 : (BL l)[i]'(by simpa using h) = (l.getD i bat0).sv := by rw [← hg1, List.getElem?_eq_getElem]; rfl
    rw [all_dropB l h] at ha
    generalize l.getD i bat0 = x at *
    have e := e x
    cases q : lightB x with
    | true =>
      rw [q] at e ha
      rw [Bool.true_and] at ha
      simp [hlt, h, hg1, e1, Bat.sv, Bat.cells, e, q, hw]
      refine ⟨i + 1, ⟨by omega, ha⟩, by omega, by omega⟩
    | false =>
      rw [q] at e ha
      rw [Bool.false_and] at ha
      rw [ha]
      simp [hlt, h, hg1, e1, Bat.sv, Bat.cells, e, q]
  · obtain rfl : i = l.length := by omega
    have hlt : ¬ ((l.length : Nat) : Int) < l.length := by omega
    rw [List.drop_length] at ha
    rw [ha]
    simp [hlt]
def lightQ (q : Req) : Bool := decide ((q.tp.size : Int) ≤ 400) && (decide ((q.gr.size : Int) ≤ 400) && (decide ((q.me.size : Int) ≤ 400) && lightB q.bt))
theorem lightReq (q : Req) : Pure Try.prog 29 [q.sv] (.sv (.bool (lightQ q))) := by
  have e := R90_64 q.bt
  have hR := R90_ok
  generalize R90 = R at hR e
  refine pure_go hR Try.func29 Try.ntmps29 comp29 cres29 (by decide) (by simp) ?_
  simp [ac29, ar29, Req.sv, Req.cells, e, lightQ, Bool.and_assoc]
end Go.Proofs.Ytflcdbfcipkhkaa

/- Wire: responses. -/

set_option linter.unusedSimpArgs false
set_option linter.unusedVariables false
set_option maxHeartbeats 8000000
namespace Go.Proofs.Ytflcdbfcipkhkaa
open Go.Av

/-- A response. -/
structure Rsp where
  kd : Int
  er : Int
  off : Int
  nx : Int
  db : Bool
  ge : Int
  bts : List Bat
  pas : List Int
  nms : List ByteArray
def Rsp.cells (a : Rsp) : List SV := [.int .u8 a.kd, .int .i64 a.er, .int .i64 a.off, .int .i64 a.nx, .bool a.db, .int .i64 a.ge, .sl 6 (BL a.bts), .sl 1 (IL a.pas), .sl 1 (TL a.nms)]
def Rsp.sv (a : Rsp) : SV := .agg a.cells
abbrev psv (a : Rsp) : SV := .agg [.int .u8 a.kd, .int .i64 a.er, .int .i64 a.off, .int .i64 a.nx, .bool a.db, .int .i64 a.ge, .sl 6 (BL a.bts), .sl 1 (IL a.pas), .sl 1 (TL a.nms)]
theorem Rsp.sv_inj (a b : Rsp) (h : a.sv = b.sv) : a = b := by
  obtain ⟨a1, a2, a3, a4, a5, a6, a7, a8, a9⟩ := a
  obtain ⟨b1, b2, b3, b4, b5, b6, b7, b8, b9⟩ := b
  simp only [Rsp.sv, Rsp.cells, SV.agg.injEq, List.cons.injEq, SV.int.injEq, SV.bool.injEq, SV.sl.injEq, true_and, and_true] at h
  obtain ⟨rfl, rfl, rfl, rfl, rfl, rfl, h1, h2, h3⟩ := h
  rw [BL_inj _ _ h1, IL_inj _ _ h2, TL_inj _ _ h3]
/-- Nil slices as empty ones. -/
def nrs (z : Nat) : SV → SV
  | .nils => .sl z []
  | c => c
def nrp : SV → SV
  | .agg [a, b, c, d, e, f, x, y, z] => .agg [a, b, c, d, e, f, nrs 6 x, nrs 1 y, nrs 1 z]
  | v => v
theorem WkC_nrs (z : Nat) (x : SV) : WkC x (nrs z x) := by
  cases x <;> first | exact WkC_refl _ | rfl
theorem WkCs_rep {mu : Mem} : ∀ {l m : List SV}, WkCs l m → ∀ {v : Value}, Rep mu (.agg l) v → Rep mu (.agg m) v := by
  intro l m h v hr
  exact WkA.rep (x := .agg l) (y := .agg m) h hr
theorem nrp_rep {mu : Mem} {x : SV} {v : Value} (h : Rep mu x v) : Rep mu (nrp x) v := by
  unfold nrp
  split
  · refine WkCs_rep ?_ h
    exact ⟨WkC_refl _, WkC_refl _, WkC_refl _, WkC_refl _, WkC_refl _, WkC_refl _, WkC_nrs _ _, WkC_nrs _ _, WkC_nrs _ _, trivial⟩
  · exact h
theorem pure_nrp {P : Program} {f : FuncId} {rv : LV} {l : List SV} (p : Pure P f (l.map nrp) rv) : Pure P f l rv := fun mu w vs hm hr =>
  p mu w vs hm ⟨by simpa using hr.1, fun j hj => by
    have hj' : j < l.length := by simpa using hj
    have e : (l.map nrp).getD j .undef = nrp (l.getD j .undef) := by simp [List.getD_eq_getElem?_getD, hj']
    rw [e]
    exact nrp_rep (hr.2 j hj')⟩
noncomputable def rowP {α : Type} (enc : α → List SV) (F : α → Prop × LV) (l : List SV) : Option (Prop × LV) := row enc F (l.map nrp)
theorem rowP_ok {P : Program} {α : Type} {enc : α → List SV} {F : α → Prop × LV} {f : FuncId} {l : List SV} {c : Prop} {rv : LV} (h : rowP enc F l = some (c, rv)) (hc : c) (hp : ∀ a, (F a).1 → Pure P f (enc a) (F a).2) : Pure P f l rv :=
  pure_nrp (row_ok h hc hp)
theorem rowP_eq {α : Type} {enc : α → List SV} (hinj : ∀ a b, enc a = enc b → a = b) (F : α → Prop × LV) (a : α) {l : List SV} (h : l.map nrp = enc a) : rowP enc F l = some (F a) := by
  unfold rowP
  rw [h]
  exact row_eq hinj F a

def hpS (a b : Rsp) : Bool := (a.kd == b.kd) && ((a.er == b.er) && ((a.off == b.off) && ((a.nx == b.nx) && ((a.db == b.db) && (a.ge == b.ge)))))
def rspS (a b : Rsp) : Bool := hpS a b && (decide (a.bts = b.bts) && (decide (a.pas = b.pas) && decide (a.nms = b.nms)))
theorem rspS_iff (a b : Rsp) : rspS a b = true ↔ a = b := by
  obtain ⟨a1, a2, a3, a4, a5, a6, a7, a8, a9⟩ := a
  obtain ⟨b1, b2, b3, b4, b5, b6, b7, b8, b9⟩ := b
  simp only [rspS, hpS, Bool.and_eq_true, beq_iff_eq, decide_eq_true_eq, Rsp.mk.injEq]
  constructor
  · rintro ⟨⟨h1, h2, h3, h4, h5, h6⟩, h7, h8, h9⟩; exact ⟨h1, h2, h3, h4, h5, h6, h7, h8, h9⟩
  · rintro ⟨h1, h2, h3, h4, h5, h6, h7, h8, h9⟩; exact ⟨⟨h1, h2, h3, h4, h5, h6⟩, h7, h8, h9⟩
def Rsp.small (a : Rsp) : Prop := a.bts.length < 4611686018427387904 ∧ smallB a.bts ∧ a.pas.length < 4611686018427387904 ∧ a.nms.length < 4611686018427387904
def eBf (p : List Bat × List Bat) : List SV := [.sl 6 (BL p.1), .sl 6 (BL p.2), .fn 69 [] []]
theorem eBf_inj (a b : List Bat × List Bat) (h : eBf a = eBf b) : a = b := by simp [eBf] at h; exact Prod.ext (BL_inj _ _ h.1) (BL_inj _ _ h.2)
def eBLL (p : List Bat × List Bat) : List SV := [.sl 6 (BL p.1), .sl 6 (BL p.2)]
theorem eBLL_inj (a b : List Bat × List Bat) (h : eBLL a = eBLL b) : a = b := by simp [eBLL] at h; exact Prod.ext (BL_inj _ _ h.1) (BL_inj _ _ h.2)
def eILL (p : List Int × List Int) : List SV := [.sl 1 (IL p.1), .sl 1 (IL p.2)]
theorem eILL_inj (a b : List Int × List Int) (h : eILL a = eILL b) : a = b := by simp [eILL] at h; exact Prod.ext (IL_inj _ _ h.1) (IL_inj _ _ h.2)
def eTLL (p : List ByteArray × List ByteArray) : List SV := [.sl 1 (TL p.1), .sl 1 (TL p.2)]
theorem eTLL_inj (a b : List ByteArray × List ByteArray) (h : eTLL a = eTLL b) : a = b := by simp [eTLL] at h; exact Prod.ext (TL_inj _ _ h.1) (TL_inj _ _ h.2)
def eBLI (p : List Bat × Int) : List SV := [.sl 6 (BL p.1), .int .i64 p.2]
theorem eBLI_inj (a b : List Bat × Int) (h : eBLI a = eBLI b) : a = b := by simp [eBLI] at h; exact Prod.ext (BL_inj _ _ h.1) h.2
noncomputable def R40p (f : FuncId) (l : List SV) : Option (Prop × LV) :=
  match f with
  | 94 => row eBf (fun p => (p.1.length < 4611686018427387904 ∧ smallB p.1, .sv (.bool (decide (p.1 = p.2))))) l
  | 49 => row eBLL (fun p => (p.1.length < 4611686018427387904 ∧ smallB p.1, .sv (.bool (decide (p.1 = p.2))))) l
  | 95 => row eILL (fun p => (p.1.length < 4611686018427387904, .sv (.bool (decide (p.1 = p.2))))) l
  | 96 => row eTLL (fun p => (p.1.length < 4611686018427387904, .sv (.bool (decide (p.1 = p.2))))) l
  | 90 => row eBLI (fun p => (p.2 < 4611686018427387904, .sv (.bool (lightA p.1 p.2)))) l
  | _ => none
noncomputable def R40 : Orc := { p := R40p }
theorem R40_ok : R40.ok Try.prog := by
  refine ⟨fun f l c rv h hc => ?_, fun _ _ _ _ _ _ h => (by cases h), fun _ _ _ _ h => (by cases h), fun _ h => (by cases h), fun _ _ _ _ _ _ h => (by cases h), fun _ _ _ _ _ _ _ h => (by cases h)⟩
  change R40p f l = _ at h
  unfold R40p at h
  split at h
  · exact row_ok h hc (fun p hp => eqBats p.1 p.2 hp.1 hp.2)
  · exact row_ok h hc (fun p hp => rsameAll p.1 p.2 hp.1 hp.2)
  · exact row_ok h hc (fun p hp => eqInts p.1 p.2 hp)
  · exact row_ok h hc (fun p hp => eqTexts p.1 p.2 hp)
  · exact row_ok h hc (fun p hp => lightAll p.1 p.2 hp)
  · cases h
theorem R40_94 (a b : List Bat) : R40.p 94 [.sl 6 (BL a), .sl 6 (BL b), .fn 69 [] []] = some (a.length < 4611686018427387904 ∧ smallB a, .sv (.bool (decide (a = b)))) := row_eq eBf_inj _ (a, b)
theorem R40_49 (a b : List Bat) : R40.p 49 [.sl 6 (BL a), .sl 6 (BL b)] = some (a.length < 4611686018427387904 ∧ smallB a, .sv (.bool (decide (a = b)))) := row_eq eBLL_inj _ (a, b)
theorem R40_95 (a b : List Int) : R40.p 95 [.sl 1 (IL a), .sl 1 (IL b)] = some (a.length < 4611686018427387904, .sv (.bool (decide (a = b)))) := row_eq eILL_inj _ (a, b)
theorem R40_96 (a b : List ByteArray) : R40.p 96 [.sl 1 (TL a), .sl 1 (TL b)] = some (a.length < 4611686018427387904, .sv (.bool (decide (a = b)))) := row_eq eTLL_inj _ (a, b)
theorem R40_90 (a : List Bat) (n : Int) : R40.p 90 [.sl 6 (BL a), .int .i64 n] = some (n < 4611686018427387904, .sv (.bool (lightA a n))) := row_eq eBLI_inj _ (a, n)
theorem same_rsp (a b : Rsp) (hs : a.small) : Pure Try.prog 40 [a.sv, b.sv] (.sv (.bool (rspS a b))) := by
  obtain ⟨s1, s2, s3, s4⟩ := hs
  have e1 := R40_94 a.bts b.bts
  have e2 := R40_95 a.pas b.pas
  have e3 := R40_96 a.nms b.nms
  have hR := R40_ok
  generalize R40 = R at hR e1 e2 e3
  refine pure_go hR Try.func40 Try.ntmps40 comp40 cres40 (by decide) (by simp) ?_
  unfold rspS
  generalize decide (a.bts = b.bts) = d1 at *
  generalize decide (a.pas = b.pas) = d2 at *
  generalize decide (a.nms = b.nms) = d3 at *
  cases hh : hpS a b with
  | true =>
    unfold hpS at hh
    simp (maxSteps := 600000) [ac40, ar40, Rsp.sv, Rsp.cells, e1, e2, e3, hh, s1, s2, s3, s4]
    simp only [Bool.and_eq_true, beq_iff_eq] at hh
    simp [hh, Bool.and_assoc]
  | false =>
    unfold hpS at hh
    simp (maxSteps := 600000) [ac40, ar40, Rsp.sv, Rsp.cells, e1, e2, e3, hh, s1, s2, s3, s4]
    try (intros; simp_all)
end Go.Proofs.Ytflcdbfcipkhkaa

/- Wire: the answer's SameResponse; light responses. -/

set_option linter.unusedSimpArgs false
set_option linter.unusedVariables false
set_option maxHeartbeats 8000000
namespace Go.Proofs.Ytflcdbfcipkhkaa
open Go.Av

abbrev prv (a : Rsp) : List RV := [.sv (.int .u8 a.kd), .sv (.int .i64 a.er), .sv (.int .i64 a.off), .sv (.int .i64 a.nx), .sv (.bool a.db), .sv (.int .i64 a.ge), .sv (.sl 6 (BL a.bts)), .sv (.sl 1 (IL a.pas)), .sv (.sl 1 (TL a.nms))]
theorem rsame_rsp (a b : Rsp) (hs : a.small) : Pure Try.prog 41 [a.sv, b.sv] (.sv (.bool (rspS a b))) := by
  obtain ⟨s1, s2, s3, s4⟩ := hs
  have e1 := R40_49 a.bts b.bts
  have hR := R40_ok
  generalize R40 = R at hR e1
  have tl : ∀ x y : ByteArray, x.toList = y.toList ↔ x = y := fun x y => ⟨fun h => by
    rw [ByteArray.toList_eq, ByteArray.toList_eq] at h
    cases x; cases y; simp at h; rw [h], fun h => by rw [h]⟩
  refine pure_go hR Try.func41 Try.ntmps41 comp41 cres41 (by decide) (by simp) ?_
  cases hh : hpS a b with
  | false =>
    have hr : rspS a b = false := by simp [rspS, hh]
    rw [hr]
    unfold hpS at hh
    simp (maxSteps := 600000) [ac41, ar41, Rsp.sv, Rsp.cells, hh]
    simp_all
  | true =>
  have h6 := hh
  unfold hpS at h6
  simp only [Bool.and_eq_true, beq_iff_eq] at h6
  obtain ⟨k1, k2, k3, k4, k5, k6⟩ := h6
  have j1 : (a.kd != b.kd) = false := by simp [k1]
  have j2 : (a.er != b.er) = false := by simp [k2]
  have j3 : (a.off != b.off) = false := by simp [k3]
  have j4 : (a.nx != b.nx) = false := by simp [k4]
  have j5 : (a.db != b.db) = false := by simp [k5]
  have j6 : (a.ge != b.ge) = false := by simp [k6]
  have j5' : (a.db == b.db) = true := by simp [k5]
  clear k1 k2 k3 k4 k5 k6
  by_cases l1 : a.pas.length = b.pas.length
  case neg =>
    have l1' : ((a.pas.length : Int) != b.pas.length) = true := by simp; omega
    have l1'' : ¬ (a.pas.length : Int) = b.pas.length := by omega
    have hr : rspS a b = false := by
      have : a.pas ≠ b.pas := fun e => l1 (by rw [e])
      simp [rspS, this]
    rw [hr]
    simp (maxSteps := 600000) [ac41, ar41, Rsp.sv, Rsp.cells, j1, j2, j3, j4, j5, j5', j6, l1', l1'']
  have l1' : ((a.pas.length : Int) != b.pas.length) = false := by simp; omega
  by_cases l2 : a.nms.length = b.nms.length
  case neg =>
    have l2' : ((a.nms.length : Int) != b.nms.length) = true := by simp; omega
    have l2'' : ¬ (a.nms.length : Int) = b.nms.length := by omega
    have hr : rspS a b = false := by
      have : a.nms ≠ b.nms := fun e => l2 (by rw [e])
      simp [rspS, this]
    rw [hr]
    simp (maxSteps := 600000) [ac41, ar41, Rsp.sv, Rsp.cells, j1, j2, j3, j4, j5, j5', j6, l1', l2', l2'']
  have l2' : ((a.nms.length : Int) != b.nms.length) = false := by simp; omega
  simp (maxSteps := 600000) [ac41, ar41, Rsp.sv, Rsp.cells, j1, j2, j3, j4, j5, j5', j6, l1', l2']
  refine awpR_loop (α := Nat) (fun i => i ≤ a.pas.length ∧ a.pas.take i = b.pas.take i) (fun i => { n := 106, sl := [(2, .lptr 2 0), (3, .lptr 3 0), (5, .sv (.int .i64 i))], bx := [(2, prv a), (3, prv b)], hp := fun _ => none })
    (fun i => a.pas.length - i) 0 ⟨by omega, by simp⟩ (by simp) ?_
  rintro i ⟨hi, ha⟩
  by_cases h : i < a.pas.length
  · have hlt : (i : Int) < a.pas.length := by omega
    have hb : i < b.pas.length := by omega
    have hlt2 : (i : Int) < b.pas.length := by omega
    have hw := wrap_succ h s3
    have hg1 := IL_get a.pas h
    have hg2 := IL_get b.pas hb
    have hn := take_eq 0 h hb ha
    have hz := @ne_of_get _ a.pas b.pas i 0
    have e1 : (IL a.pas)[i]'(by simpa using h) = .int .i64 (a.pas.getD i 0) := by rw [← hg1, List.getElem?_eq_getElem]; rfl
    have e2 : (IL b.pas)[i]'(by simpa using hb) = .int .i64 (b.pas.getD i 0) := by rw [← hg2, List.getElem?_eq_getElem]; rfl
    generalize a.pas.getD i 0 = x at *
    generalize b.pas.getD i 0 = y at *
    by_cases q : x = y
    · have q2 := hn q
      simp [hlt, hlt2, h, hb, hg1, hg2, e1, e2, q, hw]
      refine ⟨i + 1, ⟨by omega, q2⟩, by omega, by omega⟩
    · have q2 := hz q
      have hr : rspS a b = false := by simp [rspS, q2]
      rw [hr]
      simp [hlt, hlt2, h, hb, hg1, hg2, e1, e2, q, q2]
  · obtain rfl : i = a.pas.length := by omega
    have hlt : ¬ ((a.pas.length : Nat) : Int) < a.pas.length := by omega
    have hpe : a.pas = b.pas := by
      rw [List.take_length, l1, List.take_length] at ha
      exact ha
    simp [hlt]
    refine awpR_loop (α := Nat) (fun i => i ≤ a.nms.length ∧ a.nms.take i = b.nms.take i) (fun i => { n := 106, sl := [(2, .lptr 2 0), (3, .lptr 3 0), (6, .sv (.int .i64 i))], bx := [(2, prv a), (3, prv b)], hp := fun _ => none })
      (fun i => a.nms.length - i) 0 ⟨by omega, by simp⟩ (by simp) ?_
    rintro i ⟨hi, ha⟩
    by_cases h : i < a.nms.length
    · have hlt : (i : Int) < a.nms.length := by omega
      have hb : i < b.nms.length := by omega
      have hlt2 : (i : Int) < b.nms.length := by omega
      have hw := wrap_succ h s4
      have hg1 := TL_get a.nms h
      have hg2 := TL_get b.nms hb
      have hn := take_eq ⟨#[]⟩ h hb ha
      have hz := @ne_of_get _ a.nms b.nms i ⟨#[]⟩
      have e1 : (TL a.nms)[i]'(by simpa using h) = .str (a.nms.getD i ⟨#[]⟩) := by rw [← hg1, List.getElem?_eq_getElem]; rfl
      have e2 : (TL b.nms)[i]'(by simpa using hb) = .str (b.nms.getD i ⟨#[]⟩) := by rw [← hg2, List.getElem?_eq_getElem]; rfl
      generalize a.nms.getD i ⟨#[]⟩ = x at *
      generalize b.nms.getD i ⟨#[]⟩ = y at *
      by_cases q : x = y
      · have q2 := hn q
        simp [hlt, hlt2, h, hb, hg1, hg2, e1, e2, q, hw]
        refine ⟨i + 1, ⟨by omega, q2⟩, by omega, by omega⟩
      · have q2 := hz q
        have q3 : ¬ x.toList = y.toList := fun z => q ((tl x y).1 z)
        have hr : rspS a b = false := by simp [rspS, q2]
        rw [hr]
        simp [hlt, hlt2, h, hb, hg1, hg2, e1, e2, q3, q2]
    · obtain rfl : i = a.nms.length := by omega
      have hlt : ¬ ((a.nms.length : Nat) : Int) < a.nms.length := by omega
      have hne : a.nms = b.nms := by
        rw [List.take_length, l2, List.take_length] at ha
        exact ha
      have hr : rspS a b = decide (a.bts = b.bts) := by simp [rspS, hh, hpe, hne]
      rw [hr]
      simp [hlt, e1, s1, s2]
def lightP (a : Rsp) : Bool := decide ((a.pas.length : Int) ≤ 80) && (decide ((a.nms.length : Int) ≤ 80) && (lightA a.bts 70 && a.nms.all fun s => decide ((s.size : Int) ≤ 400)))
theorem all_dropT (p : ByteArray → Bool) (l : List ByteArray) {i : Nat} (h : i < l.length) : (l.drop i).all p = (p (l.getD i ⟨#[]⟩) && (l.drop (i + 1)).all p) := by
  rw [List.drop_eq_getElem_cons h, List.all_cons, List.getD_eq_getElem?_getD, List.getElem?_eq_getElem h]
  rfl
theorem lightRsp (a : Rsp) : Pure Try.prog 37 [a.sv] (.sv (.bool (lightP a))) := by
  have e := R40_90 a.bts 70
  have hR := R40_ok
  generalize R40 = R at hR e
  refine pure_go hR Try.func37 Try.ntmps37 comp37 cres37 (by decide) (by simp) ?_
  by_cases h1 : (a.pas.length : Int) ≤ 80
  case neg =>
    have h1' : (80 : Int) < a.pas.length := by omega
    have hr : lightP a = false := by simp only [lightP, h1, decide_false, Bool.false_and]
    rw [hr]
    simp [ac37, ar37, Rsp.sv, Rsp.cells, h1', e]
  have h1' : ¬ (80 : Int) < a.pas.length := by omega
  by_cases h2 : (a.nms.length : Int) ≤ 80
  case neg =>
    have h2' : (80 : Int) < a.nms.length := by omega
    have hr : lightP a = false := by simp only [lightP, h2, decide_false, Bool.false_and, Bool.and_false]
    rw [hr]
    simp [ac37, ar37, Rsp.sv, Rsp.cells, h1', h2', e]
  have h2' : ¬ (80 : Int) < a.nms.length := by omega
  cases h3 : lightA a.bts 70 with
  | false =>
    have hr : lightP a = false := by simp only [lightP, h3, Bool.false_and, Bool.and_false]
    rw [hr]
    rw [h3] at e
    simp [ac37, ar37, Rsp.sv, Rsp.cells, h1', h2', e]
  | true =>
  have hr : lightP a = a.nms.all fun s => decide ((s.size : Int) ≤ 400) := by simp only [lightP, h1, h2, h3, decide_true, Bool.true_and]
  rw [hr]
  rw [h3] at e
  have s4 : a.nms.length < 4611686018427387904 := by omega
  simp [ac37, ar37, Rsp.sv, Rsp.cells, h1', h2', e]
  refine awpR_loop (α := Nat) (fun i => i ≤ a.nms.length ∧ (a.nms.all fun s => decide ((s.size : Int) ≤ 400)) = ((a.nms.drop i).all fun s => decide ((s.size : Int) ≤ 400))) (fun i => { n := 34, sl := [(1, .lptr 1 0), (3, .sv (.int .i64 i))], bx := [(1, prv a)], hp := fun _ => none })
    (fun i => a.nms.length - i) 0 ⟨by omega, by simp⟩ (by simp) ?_
  rintro i ⟨hi, ha⟩
  by_cases h : i < a.nms.length
  · have hlt : (i : Int) < a.nms.length := by omega
    have hw := wrap_succ h s4
    have hg1 := TL_get a.nms h
    have e1 : (TL a.nms)[i]'(by simpa using h) = .str (a.nms.getD i ⟨#[]⟩) := by rw [← hg1, List.getElem?_eq_getElem]; rfl
    rw [all_dropT _ a.nms h] at ha
    generalize a.nms.getD i ⟨#[]⟩ = x at *
    by_cases q : (x.size : Int) ≤ 400
    · have q' : ¬ (400 : Int) < x.size := by omega
      simp only [q, decide_true, Bool.true_and] at ha
      simp [hlt, h, hg1, e1, q', hw]
      refine ⟨i + 1, ⟨by omega, ha⟩, by omega, by omega⟩
    · have q' : (400 : Int) < x.size := by omega
      simp only [q, decide_false, Bool.false_and] at ha
      rw [ha]
      simp [hlt, h, hg1, e1, q']
  · obtain rfl : i = a.nms.length := by omega
    have hlt : ¬ ((a.nms.length : Nat) : Int) < a.nms.length := by omega
    rw [List.drop_length] at ha
    rw [ha]
    simp [hlt]
end Go.Proofs.Ytflcdbfcipkhkaa

/- Wire: the answer's bytes of a request. -/

set_option linter.unusedSimpArgs false
set_option linter.unusedVariables false
set_option maxHeartbeats 8000000
namespace Go.Proofs.Ytflcdbfcipkhkaa
open Go.Av

theorem uses_98 {k : Int} (h : 98 ∈ usesN k) : k = 3 := by
  by_cases q : k = 3
  · exact q
  · exfalso
    unfold usesN at h
    rcases mem_ite h with h | h
    · simp at h
    rcases mem_ite h with h | h
    · simp at h
    rcases mem_ite h with h | h
    · simp at h
    rw [if_neg q] at h
    rcases mem_ite h with h | h
    · simp at h
    rcases mem_ite h with h | h
    · simp at h
    rcases mem_ite h with h | h
    · simp at h
    rcases mem_ite h with h | h
    · simp at h
    rcases mem_ite h with h | h
    · simp at h
    rcases mem_ite h with h | h
    · simp at h
    rcases mem_ite h with h | h
    · simp at h
    rcases mem_ite h with h | h
    · simp at h
    cases h
noncomputable def R32p (f : FuncId) (l : List SV) : Option (Prop × LV) :=
  match f with
  | 36 => row eInt (fun k => (0 ≤ k, .sv (.str (usesS k)))) l
  | 86 => row eQ (fun q => (0 ≤ q.kd, .sv (onlyQ q).sv)) l
  | 34 => row eQQ (fun p => (p.1.bt.rs.length < 4611686018427387904, .sv (.bool (reqS p.1 p.2)))) l
  | 87 => row eB (fun b => (b.ok, .tup [.own 1 (bs (putB b)), .sv (.int .i64 (batE b))])) l
  | _ => RwDp f l
noncomputable def R32 : Orc := { p := R32p }
theorem R32_ok : R32.ok Try.prog := by
  refine ⟨fun f l c rv h hc => ?_, fun _ _ _ _ _ _ h => (by cases h), fun _ _ _ _ h => (by cases h), fun _ h => (by cases h), fun _ _ _ _ _ _ h => (by cases h), fun _ _ _ _ _ _ _ h => (by cases h)⟩
  change R32p f l = _ at h
  unfold R32p at h
  split at h
  · exact row_ok h hc (fun k hk => ruses_pure k hk)
  · exact row_ok h hc (fun q hq => only_req q hq)
  · exact row_ok h hc (fun p hp => rsame_req p.1 p.2 hp)
  · exact row_ok h hc (fun b hb => rput_bat b hb)
  · exact RwD_ok.p _ _ _ _ h hc
theorem R32_36 (k : Int) : R32.p 36 [.int .u8 k] = some (0 ≤ k, .sv (.str (usesS k))) := row_eq eInt_inj _ k
theorem R32_86 (q : Req) : R32.p 86 [qsv q] = some (0 ≤ q.kd, .sv (qsv (onlyQ q))) := row_eq eQ_inj _ q
theorem R32_34 (a b : Req) : R32.p 34 [qsv a, qsv b] = some (a.bt.rs.length < 4611686018427387904, .sv (.bool (reqS a b))) := row_eq eQQ_inj _ (a, b)
theorem R32_87 (q : Req) : R32.p 87 [.agg [.int .i64 0, .int .i64 q.bt.ct, .int .i64 q.bt.pr, .int .i64 q.bt.ep, .int .i64 q.bt.sq, .sl 6 (RL q.bt.rs)]] = some ((bt0 q).ok, .tup [.own 1 (bs (putB (bt0 q))), .sv (.int .i64 (batE (bt0 q)))]) := row_eq eB_inj _ (bt0 q)
theorem R32_28 (s : ByteArray) : R32.p 28 [.str s] = some (s.size ≤ 140737488355000, .own 1 (bs (textN s))) := row_eq eSt_inj _ s
theorem R32_82 (n : Int) : R32.p 82 [.int .i64 n] = some (I64 n, .own 1 (bs (layN (zig n)))) := row_eq eN_inj _ n
theorem R32_88 (b : Bool) : R32.p 88 [.bool b] = some (True, .own 1 (bs (flagL b))) := row_eq eBo_inj _ b
theorem rput_req (q : Req) (ho : q.ok) (hl : q.bt.rs.length < 4611686018427387904) : Pure Try.prog 32 [q.sv] (.tup [.own 1 (bs (putQ q)), .sv (.int .i64 (reqE q))]) := by
  have e36 := R32_36 q.kd
  have e86 := R32_86 q
  have e34 := R32_34 q (onlyQ q)
  have e87 := R32_87 q
  have e28 := R32_28
  have e82 := R32_82
  have e88 := R32_88
  have hR := R32_ok
  have hnf : R32.nofz = false := rfl
  have hbo := bt0_ok ho.2.2.2.2.2.2.2.2
  generalize R32 = R at hR e36 e86 e34 e87 e28 e82 e88 hnf
  obtain ⟨o1, o2, o3, o4, o5, o6, o7, o8, o9⟩ := id ho
  have hao : q.kd ≤ 11 → reqS q (onlyQ q) = !alienB q := fun h => by rw [alien_only q o1 h]; simp
  generalize onlyQ q = O at *
  refine pure_go hR Try.func32 Try.ntmps32 comp32 cres32 (by decide) (by simp) ?_
  simp only [Req.sv, Req.cells]
  by_cases h1 : 11 < q.kd
  · have hE : reqE q = 22 := if_pos h1
    have hP : putQ q = [] := by rw [putQ, if_neg (by rw [hE]; decide)]
    simp [ac32, ar32, h1, hE, hP]
  rw [hao (by omega)] at e34
  cases h2 : alienB q with
  | true =>
    have hE : reqE q = 4 := by rw [reqE, if_neg h1, if_pos h2]
    have hP : putQ q = [] := by rw [putQ, if_neg (by rw [hE]; decide)]
    rw [h2] at e34
    simp [ac32, ar32, h1, hE, hP, e86, e34, o1, hl]
  | false =>
  rw [h2] at e34
  by_cases h3 : longQ q
  · have hE : reqE q = 5 := by rw [reqE, if_neg h1, if_neg (by rw [h2]; decide), if_pos h3]
    have hP : putQ q = [] := by rw [putQ, if_neg (by rw [hE]; decide)]
    rw [hE, hP]
    unfold longQ at h3
    by_cases m1 : 255 < (q.tp.size : Int)
    · simp [ac32, ar32, h1, e86, e34, o1, hl, m1]
    by_cases m2 : 255 < (q.gr.size : Int)
    · simp [ac32, ar32, h1, e86, e34, o1, hl, m1, m2]
    have m3 : 255 < (q.me.size : Int) := by omega
    simp [ac32, ar32, h1, e86, e34, o1, hl, m1, m2, m3]
  have hs : q.tp.size ≤ 255 ∧ q.gr.size ≤ 255 ∧ q.me.size ≤ 255 := by unfold longQ at h3; omega
  have m1 : ¬ 255 < (q.tp.size : Int) := by omega
  have m2 : ¬ 255 < (q.gr.size : Int) := by omega
  have m3 : ¬ 255 < (q.me.size : Int) := by omega
  have hE : reqE q = if q.kd = 3 then (if batE (bt0 q) ≠ 0 then batE (bt0 q) else if q.bt.ba ≠ 0 then 4 else 0) else 0 := by rw [reqE, if_neg h1, if_neg (by rw [h2]; decide), if_neg h3]
  have hll : ∀ c ∈ usesN q.kd, isLet c := fun c h => uses_let h
  have hlt := uses_lt q.kd
  have hlen := uses_len q.kd
  have h98 := @uses_98 q.kd
  have hbl := bodyQ_le q
  have hbb := bodyQ_bytes q
  have hk : [SV.int .u8 q.kd] = bs [q.kd.toNat] := by simp [bs]; omega
  have hcat : ∀ l : List Nat, (catF q (bodyQ q) l).length ≤ 8210 * l.length := catF_le ho h3 hbl
  unfold usesS at e36
  have hreq : reqL q = [q.kd.toNat] ++ catF q (bodyQ q) (usesN q.kd) := rfl
  have hfl := fun c => @fieldL_le q ho h3 (bodyQ q) hbl c
  have z1 : q.tp.size ≤ 140737488355000 := by omega
  have z2 : q.gr.size ≤ 140737488355000 := by omega
  have z3 : q.me.size ≤ 140737488355000 := by omega
  have z4 : (sOf (bodyQ q)).size ≤ 140737488355000 := by rw [sOf_size]; omega
  have ht := textN_sOf hbb
  have eb := e28 (sOf (bodyQ q))
  rw [ht] at eb
  have hbs := bs_byte (bodyQ q)
  have hbs2 := bs_str (bodyQ q)
  clear h3
  have htb : (textB (bodyQ q)).length ≤ 8210 := by
    have h1 := layN_le10 (u := zig (bodyQ q).length) (zig_lt (by omega) (by omega))
    simp only [textB, List.length_append]
    omega
  by_cases k3 : q.kd = 3
  · rw [if_pos k3] at hE
    have hbd : bodyQ q = putB (bt0 q) := if_pos k3
    have hk3 : (q.kd == 3) = true := by simp [k3]
    by_cases h4 : batE (bt0 q) = 0
    case neg =>
      have hP : putQ q = [] := by rw [putQ, if_neg (by rw [hE, if_pos h4]; exact h4)]
      rw [if_pos h4] at hE
      generalize batE (bt0 q) = E at h4 e87 hE
      rw [hE, hP]
      clear hE hP k3
      simp [ac32, ar32, hk3, e86, e34, e87, o1, hl, h1, m1, m2, m3, hbo, h4]
    rw [if_neg (by rw [h4]; decide)] at hE
    rw [h4] at e87
    by_cases h5 : q.bt.ba = 0
    case neg =>
      rw [if_pos h5] at hE
      have hP : putQ q = [] := by rw [putQ, if_neg (by rw [hE]; decide)]
      rw [hE, hP]
      clear hE hP k3
      simp [ac32, ar32, hk3, e86, e34, e87, o1, hl, h1, m1, m2, m3, hbo, h5]
    rw [if_neg (by rw [h5]; decide)] at hE
    have hP : putQ q = reqL q := by rw [putQ, if_pos hE]
    rw [hE]
    have h5' : (q.bt.ba != 0) = false := by simp [h5]
    clear hE k3 h5 h98
    generalize usesN q.kd = u at *
    rw [← hbd] at e87
    simp [ac32, ar32, hk3, e86, e34, e87, e36, eb, hbs2, z4, o1, hl, h1, m1, m2, m3, hbo, h5', hnf]
    refine ⟨hbs, ?_⟩
    refine awpR_loop (α := Nat) (fun i => i ≤ u.length) (fun i => { n := 157, sl := [(1, .lptr 1 0), (4, .sv (.sl 1 (bs (textB (bodyQ q))))), (8, .sv (.str (sOf u))), (9, .own 1 (bs ([q.kd.toNat] ++ catF q (bodyQ q) (u.take i)))), (10, .sv (.int .i64 i))], bx := [(1, qrv q)], hp := fun _ => none })
      (fun i => u.length - i) 0 (by omega) (by simp [catF, hk]) ?_
    intro i hi
    have hci := hcat (u.take i)
    rw [List.length_take] at hci
    have hsz := sOf_size u
    by_cases h : i < u.length
    · have hc := hll (u.getD i 0) (by rw [List.getD_eq_getElem?_getD, List.getElem?_eq_getElem h]; exact List.getElem_mem h)
      have hcm : u.getD i 0 ∈ u := by rw [List.getD_eq_getElem?_getD, List.getElem?_eq_getElem h]; exact List.getElem_mem h
      have hs1 : catF q (bodyQ q) (u.take (i + 1)) = catF q (bodyQ q) (u.take i) ++ fieldL q (bodyQ q) (u.getD i 0) := by
        rw [List.take_succ_eq_append_getElem h, catF_snoc, List.getD_eq_getElem?_getD, List.getElem?_eq_getElem h]; rfl
      have hf := hfl (u.getD i 0)
      have hB : (sOf u).data.toList.getD i 0 = UInt8.ofNat (u.getD i 0) := by simp [sOf, List.getD_eq_getElem?_getD, h]
      have hx := hlt _ hcm
      have hltI : (i : Int) < (sOf u).size := by omega
      have hw : IntKind.i64.wrap ((i : Int) + 1) = ((i + 1 : Nat) : Int) := by rw [IntKind.wrap_i64]; omega
      have hsz2 : i < (sOf u).data.size := by have := hsz; simp only [ByteArray.size] at this; omega
      generalize u.getD i 0 = c at hc hcm hs1 hf hB hx
      have hg : (sOf u).data[i]?.getD 0 = UInt8.ofNat c := by rw [← hB, List.getD_eq_getElem?_getD, Array.getElem?_toList]
      have hg2 : (sOf u)[i] = UInt8.ofNat c := by rw [← hg, Array.getElem?_eq_getElem hsz2]; rfl
      have key : ∀ X : List Nat, fieldL q (bodyQ q) c = X → (catF q (bodyQ q) (u.take i)).length + 1 + X.length ≤ 140737488355328 ∧
          bs (q.kd.toNat :: catF q (bodyQ q) (u.take (i + 1))) = bs (q.kd.toNat :: catF q (bodyQ q) (u.take i)) ++ bs X := fun X hX => by
        subst hX
        exact ⟨by omega, by rw [hs1]; simp [bs]⟩
      clear hf hs1 e87 e86 e34 eb hfl hcat
      rcases hc with rfl | rfl | rfl | rfl | rfl | rfl | rfl | rfl | rfl | rfl | rfl | rfl
      case inr.inr.inr.inr.inr.inr.inr.inr.inr.inr.inr =>
        obtain ⟨y1, y2⟩ := key _ rfl
        clear key
        simp [fieldL] at y1 y2
        simp [hltI, hg, hg2, hw]
        exact ⟨by omega, i + 1, by omega, by omega, y2.symm, by omega⟩
      all_goals
        obtain ⟨y1, y2⟩ := key _ rfl
        clear key
        simp [fieldL] at y1 y2
        simp [hltI, hg, hg2, e28, e82, e88, z1, z2, z3, o3, o4, o5, o6, o7, o8, hw]
        exact ⟨by omega, i + 1, by omega, by omega, y2.symm, by omega⟩
    · obtain rfl : i = u.length := by omega
      have hltI : ¬ ((u.length : Nat) : Int) < (sOf u).size := by omega
      rw [List.take_length] at *
      simp [hltI, hP, hreq, bs]
  · rw [if_neg k3] at hE
    have hbd : bodyQ q = [] := if_neg k3
    have hk3 : (q.kd == 3) = false := by simp [k3]
    have hP : putQ q = reqL q := by rw [putQ, if_pos hE]
    have hn98 : 98 ∉ usesN q.kd := fun z => k3 (h98 z)
    rw [hE]
    clear hE k3 h98
    generalize usesN q.kd = u at *
    simp [ac32, ar32, hk3, e86, e34, e87, e36, o1, hl, h1, m1, m2, m3, hbo, hnf]
    refine awpR_loop (α := Nat) (fun i => i ≤ u.length) (fun i => { n := 157, sl := [(1, .lptr 1 0), (4, .sv (.sl 1 (bs ([] : List Nat)))), (8, .sv (.str (sOf u))), (9, .own 1 (bs ([q.kd.toNat] ++ catF q (bodyQ q) (u.take i)))), (10, .sv (.int .i64 i))], bx := [(1, qrv q)], hp := fun _ => none })
      (fun i => u.length - i) 0 (by omega) (by simp [catF, hk]) ?_
    intro i hi
    have hci := hcat (u.take i)
    rw [List.length_take] at hci
    have hsz := sOf_size u
    by_cases h : i < u.length
    · have hc := hll (u.getD i 0) (by rw [List.getD_eq_getElem?_getD, List.getElem?_eq_getElem h]; exact List.getElem_mem h)
      have hcm : u.getD i 0 ∈ u := by rw [List.getD_eq_getElem?_getD, List.getElem?_eq_getElem h]; exact List.getElem_mem h
      have hs1 : catF q (bodyQ q) (u.take (i + 1)) = catF q (bodyQ q) (u.take i) ++ fieldL q (bodyQ q) (u.getD i 0) := by
        rw [List.take_succ_eq_append_getElem h, catF_snoc, List.getD_eq_getElem?_getD, List.getElem?_eq_getElem h]; rfl
      have hf := hfl (u.getD i 0)
      have hB : (sOf u).data.toList.getD i 0 = UInt8.ofNat (u.getD i 0) := by simp [sOf, List.getD_eq_getElem?_getD, h]
      have hx := hlt _ hcm
      have hltI : (i : Int) < (sOf u).size := by omega
      have hw : IntKind.i64.wrap ((i : Int) + 1) = ((i + 1 : Nat) : Int) := by rw [IntKind.wrap_i64]; omega
      have hsz2 : i < (sOf u).data.size := by have := hsz; simp only [ByteArray.size] at this; omega
      generalize u.getD i 0 = c at hc hcm hs1 hf hB hx
      have hg : (sOf u).data[i]?.getD 0 = UInt8.ofNat c := by rw [← hB, List.getD_eq_getElem?_getD, Array.getElem?_toList]
      have hg2 : (sOf u)[i] = UInt8.ofNat c := by rw [← hg, Array.getElem?_eq_getElem hsz2]; rfl
      have key : ∀ X : List Nat, fieldL q (bodyQ q) c = X → (catF q (bodyQ q) (u.take i)).length + 1 + X.length ≤ 140737488355328 ∧
          bs (q.kd.toNat :: catF q (bodyQ q) (u.take (i + 1))) = bs (q.kd.toNat :: catF q (bodyQ q) (u.take i)) ++ bs X := fun X hX => by
        subst hX
        exact ⟨by omega, by rw [hs1]; simp [bs]⟩
      clear hf hs1 e87 e86 e34 eb hfl hcat
      rcases hc with rfl | rfl | rfl | rfl | rfl | rfl | rfl | rfl | rfl | rfl | rfl | rfl
      case inr.inr.inr.inr.inr.inr.inr.inr.inr.inr.inr => exact absurd hcm hn98
      all_goals
        obtain ⟨y1, y2⟩ := key _ rfl
        clear key
        simp [fieldL] at y1 y2
        simp [hltI, hg, hg2, e28, e82, e88, z1, z2, z3, o3, o4, o5, o6, o7, o8, hw]
        exact ⟨by omega, i + 1, by omega, by omega, y2.symm, by omega⟩
    · obtain rfl : i = u.length := by omega
      have hltI : ¬ ((u.length : Nat) : Int) < (sOf u).size := by omega
      rw [List.take_length] at *
      simp [hltI, hP, hreq, bs]
end Go.Proofs.Ytflcdbfcipkhkaa
