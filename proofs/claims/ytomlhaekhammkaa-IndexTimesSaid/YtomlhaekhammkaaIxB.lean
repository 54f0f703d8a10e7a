import Derived.Test.YtomlhaekhammkaaIxT

set_option linter.unusedSimpArgs false
set_option linter.unusedVariables false
set_option maxHeartbeats 1000000
namespace Go.Proofs.Ytomlhaekhammkaa
open Go.Av

abbrev Ent := Int × Int × Int
def I64 (n : Int) : Prop := -9223372036854775808 ≤ n ∧ n < 9223372036854775808
def EL (l : List Ent) : List SV := l.map eV
@[simp] theorem EL_length (l : List Ent) : (EL l).length = l.length := by simp [EL]
theorem EL_get (l : List Ent) {i : Nat} (h : i < l.length) : (EL l)[i]?.getD .undef = eV (l.getD i (0, 0, 0)) := by simp [EL, List.getD_eq_getElem?_getD, h]
theorem EL_app (l m : List Ent) : EL l ++ EL m = EL (l ++ m) := by simp [EL]
theorem EL_get1 (l : List Ent) {i : Nat} (h : i < l.length) : EL [l.getD i (0, 0, 0)] = [eV (l.getD i (0, 0, 0))] := rfl
def unE : SV → Ent
  | .agg [.int _ a, .int _ b, .int _ c] => (a, b, c)
  | _ => (0, 0, 0)
def unEL (xs : List SV) : List Ent := xs.map unE
@[simp] theorem unEL_EL (l : List Ent) : unEL (EL l) = l := by simp [unEL, EL, Function.comp_def, unE, eV, iV]
theorem EL_take_succ (l : List Ent) {i : Nat} (h : i < l.length) : EL (l.take (i + 1)) = EL (l.take i) ++ [eV (l.getD i (0, 0, 0))] := by
  rw [List.take_succ_eq_append_getElem h]
  simp only [EL, List.map_append, List.map_cons, List.map_nil, List.getD_eq_getElem?_getD, List.getElem?_eq_getElem h, Option.getD_some]
abbrev Idx := Int × Int × List Ent
def ixV (x : Idx) : SV := xV x.1 x.2.1 (EL x.2.2)

def newX (e : Int) : Idx := (if e < 1 then 1 else e, 0, [])
theorem new_pure (e : Int) : Pure Try.prog 33 [iV e] (.sv (ixV (newX e))) := by
  refine pure_go R0_ok Try.func33 Try.ntmps33 comp33 cres33 (by decide) (by simp) ?_
  simp [ac33, ar33, R0, ixV, newX, xV, iV, EL]
theorem rnew_pure (e : Int) : Pure Try.prog 34 [iV e] (.sv (ixV (newX e))) := by
  refine pure_go R0_ok Try.func34 Try.ntmps34 comp34 cres34 (by decide) (by simp) ?_
  simp [ac34, ar34, R0, ixV, newX, xV, iV, EL]
  split <;> split <;> omega

theorem clone_pure (l : List Ent) (hl : l.length ≤ 1000000) : Pure Try.prog 56 [.sl 3 (EL l)] (.own 3 (EL l)) := by
  refine pure_go R0_ok Try.func56 Try.ntmps56 comp56 cres56 (by decide) (by simp) ?_
  cases l with
  | nil => simp [ac56, ar56, R0, EL]
  | cons a l =>
    have e : EL (a :: l) = eV a :: EL l := rfl
    rw [e]
    simp at hl
    simp [ac56, ar56, R0]
    omega

theorem own_pure (x : Idx) (hl : x.2.2.length ≤ 1000000) : Pure Try.prog 27 [ixV x] (.sv (ixV x)) := by
  obtain ⟨e, c, l⟩ := x
  refine pure_go R0_ok Try.func27 Try.ntmps27 comp27 cres27 (by decide) (by simp) ?_
  simp [ac27, ar27, ixV, xV, iV]
  simp at hl
  refine awpR_loop (α := Nat) (fun i => i ≤ l.length) (fun i => { n := 26, sl := [(1, .lptr 1 0), (2, .lptr 2 0), (3, .own 3 (EL (l.take i))), (4, .sv (.int .i64 i))], bx := [(1, [.sv (.int .i64 e), .sv (.int .i64 c), .sv (.sl 3 (EL l))]), (2, [.sv (.int .i64 0), .sv (.int .i64 0), .sv .nils])], hp := fun _ => none })
    (fun i => l.length - i) 0 (by omega) (by simp [EL]) ?_
  intro i hi
  by_cases h : i < l.length
  · have h1 : (i : Int) < l.length := by omega
    have hg := EL_get l h
    have e : EL (l.take (i + 1)) = EL (l.take i) ++ [eV (l.getD i (0, 0, 0))] := EL_take_succ l h
    generalize l.getD i (0, 0, 0) = s at hg e
    simp [h1, hg, eV, iV]
    refine ⟨by omega, i + 1, by omega, by omega, ?_, ?_⟩
    · rw [e]; simp [eV, iV]
    · rw [IntKind.wrap_i64]; omega
  · have h1 : ¬ (i : Int) < l.length := by omega
    obtain rfl : i = l.length := by omega
    simp [h1]
theorem as_pure' (x : Idx) (hl : x.2.2.length ≤ 1000000) : Pure Try.prog 30 [ixV x] (.sv (ixV x)) := by
  obtain ⟨e, c, l⟩ := x
  refine pure_go R0_ok Try.func30 Try.ntmps30 comp30 cres30 (by decide) (by simp) ?_
  simp [ac30, ar30, ixV, xV, iV]
  simp at hl
  refine awpR_loop (α := Nat) (fun i => i ≤ l.length) (fun i => { n := 26, sl := [(1, .lptr 1 0), (2, .lptr 2 0), (3, .own 3 (EL (l.take i))), (4, .sv (.int .i64 i))], bx := [(1, [.sv (.int .i64 e), .sv (.int .i64 c), .sv (.sl 3 (EL l))]), (2, [.sv (.int .i64 0), .sv (.int .i64 0), .sv .nils])], hp := fun _ => none })
    (fun i => l.length - i) 0 (by omega) (by simp [EL]) ?_
  intro i hi
  by_cases h : i < l.length
  · have h1 : (i : Int) < l.length := by omega
    have hg := EL_get l h
    have e : EL (l.take (i + 1)) = EL (l.take i) ++ [eV (l.getD i (0, 0, 0))] := EL_take_succ l h
    generalize l.getD i (0, 0, 0) = s at hg e
    simp [h1, hg, eV, iV]
    refine ⟨by omega, i + 1, by omega, by omega, ?_, ?_⟩
    · rw [e]; simp [eV, iV]
    · rw [IntKind.wrap_i64]; omega
  · have h1 : ¬ (i : Int) < l.length := by omega
    obtain rfl : i = l.length := by omega
    simp [h1]

theorem equal_pure (a b : List Ent) (ha : a.length ≤ 1000000) : Pure Try.prog 57 [.sl 3 (EL a), .sl 3 (EL b)] (.sv (.bool (decide (a = b)))) := by
  refine pure_go R0_ok Try.func57 Try.ntmps57 comp57 cres57 (by decide) (by simp) ?_
  by_cases hlen : a.length = b.length
  · have hlen' : (a.length : Int) = b.length := by omega
    simp [ac57, ar57, hlen']
    refine awpR_loop (α := Nat) (fun i => i ≤ b.length ∧ a.take i = b.take i) (fun i => { n := 26, sl := [(0, .sv (.sl 3 (EL a))), (1, .sv (.sl 3 (EL b))), (12, .sv (.int .i64 b.length)), (13, .sv (.int .i64 i))], bx := [], hp := fun _ => none })
      (fun i => b.length - i) 0 (by simp) (by simp) ?_
    rintro i ⟨hi, ht⟩
    by_cases h : i < b.length
    · have h1 : (i : Int) < b.length := by omega
      have h2 : i < a.length := by omega
      have h3 : (i : Int) < a.length := by omega
      have hg := EL_get b h
      have hg2 := EL_get a h2
      have hta : a.take (i + 1) = a.take i ++ [a.getD i (0, 0, 0)] := by rw [List.take_succ_eq_append_getElem h2]; simp [List.getD_eq_getElem?_getD, h2]
      have htb : b.take (i + 1) = b.take i ++ [b.getD i (0, 0, 0)] := by rw [List.take_succ_eq_append_getElem h]; simp [List.getD_eq_getElem?_getD, h]
      generalize a.getD i (0, 0, 0) = s at hg2 hta
      generalize b.getD i (0, 0, 0) = t at hg htb
      obtain ⟨s1, s2, s3⟩ := s
      obtain ⟨t1, t2, t3⟩ := t
      have hw : IntKind.i64.wrap ((i : Int) + 1) = ((i + 1 : Nat) : Int) := by rw [IntKind.wrap_i64]; omega
      simp [h1, h3, hg, hg2, eV, iV, hw]
      refine ⟨fun hne e => ?_, fun e1 e2 e3 => ⟨i + 1, ⟨by omega, ?_⟩, by omega, by omega⟩⟩
      · subst e
        have := List.append_cancel_left (hta.symm.trans htb)
        simp at this
        obtain ⟨q1, q2, q3⟩ := this
        rcases hne with q | q | q <;> contradiction
      · rw [hta, htb, ht, e1, e2, e3]
    · have h1 : ¬ (i : Int) < b.length := by omega
      obtain rfl : i = b.length := by omega
      have : a = b := by rw [List.take_of_length_le (by omega), List.take_of_length_le (by omega)] at ht; exact ht
      simp [h1, this]
  · have hlen' : ¬ (a.length : Int) = b.length := by omega
    have : a ≠ b := fun e => hlen (by rw [e])
    simp [ac57, ar57, hlen', this]

def addT (l : List Ent) (e : Ent) : Ent := if l.length = 0 then e else (e.1, if e.2.1 < (l.getD (l.length - 1) (0, 0, 0)).2.1 then (l.getD (l.length - 1) (0, 0, 0)).2.1 else e.2.1, e.2.2)
def takes (x : Idx) : Bool := decide (x.1 < 1) || decide (x.2.1.tmod x.1 = 0)
def addX (x : Idx) (e : Ent) : Idx := (x.1, x.2.1 + 1, if takes x then x.2.2 ++ [addT x.2.2 e] else x.2.2)

def R56 : Orc := { p := fun f l => match f, l with
  | 56, [.sl 3 xs] => some (xs = EL (unEL xs) ∧ xs.length ≤ 1000000, .own 3 xs)
  | _, _ => none }
theorem R56_ok : R56.ok Try.prog := by
  refine ⟨fun f l c rv h hc => ?_, fun _ _ _ _ _ _ h => (by cases h), fun _ _ _ _ h => (by cases h), fun _ h => (by cases h)⟩
  simp only [R56] at h
  split at h <;> cases h
  rename_i xs
  have := clone_pure (unEL xs) (by simpa [unEL] using hc.2)
  rw [← hc.1] at this
  exact this
theorem R56_56 (l : List Ent) : R56.p 56 [.sl 3 (EL l)] = some (EL l = EL l ∧ l.length ≤ 1000000, .own 3 (EL l)) := by
  show some (EL l = EL (unEL (EL l)) ∧ (EL l).length ≤ 1000000, LV.own 3 (EL l)) = _
  rw [unEL_EL, EL_length]

theorem add_pure (x : Idx) (e : Ent) (hl : x.2.2.length < 1000000) (hc : I64 (x.2.1 + 1)) : Pure Try.prog 28 [ixV x, eV e] (.sv (ixV (addX x e))) := by
  obtain ⟨ev, c, l⟩ := x
  obtain ⟨e1, e2, e3⟩ := e
  simp only at hl hc
  have hl2 : l.length ≤ 1000000 := by omega
  have hw : IntKind.i64.wrap (c + 1) = c + 1 := by obtain ⟨h1, h2⟩ := hc; rw [IntKind.wrap_i64]; omega
  refine pure_go R56_ok Try.func28 Try.ntmps28 comp28 cres28 (by decide) (by simp) ?_
  by_cases ht : ev < 1
  · have ht' : takes (ev, c, l) = true := by simp [takes, ht]
    by_cases h0 : l.length = 0
    · have hl0 : l = [] := List.length_eq_zero_iff.1 h0
      subst hl0
      simp [ac28, ar28, ixV, xV, iV, eV, ht, hw, addX, ht', addT, R56_56]
      simp [EL, eV, iV]
    · have hb : l.length - 1 < l.length := by omega
      have hg := EL_get l hb
      have hw2 : IntKind.i64.wrap ((l.length : Int) - 1) = ((l.length - 1 : Nat) : Int) := by rw [IntKind.wrap_i64]; omega
      have hpos : 0 < l.length := by omega
      have hb2 : ((l.length - 1 : Nat) : Int) < l.length := by omega
      simp only [addX, ht', addT, h0, if_false, if_true]
      generalize l.getD (l.length - 1) (0, 0, 0) = s at hg
      obtain ⟨s1, s2, s3⟩ := s
      simp [ac28, ar28, ixV, xV, iV, eV, ht, hw, hw2, h0, hpos, hg, hl2, hb2, R56_56]
      refine ⟨by omega, ?_⟩
      simp [EL, eV, iV]
  · have hne : ev ≠ 0 := by omega
    by_cases hm : c.tmod ev = 0
    · have ht' : takes (ev, c, l) = true := by simp [takes, hm]
      by_cases h0 : l.length = 0
      · have hl0 : l = [] := List.length_eq_zero_iff.1 h0
        subst hl0
        simp [ac28, ar28, ixV, xV, iV, eV, ht, hne, hm, hw, addX, ht', addT, R56_56]
        simp [EL, eV, iV]
      · have hb : l.length - 1 < l.length := by omega
        have hg := EL_get l hb
        have hw2 : IntKind.i64.wrap ((l.length : Int) - 1) = ((l.length - 1 : Nat) : Int) := by rw [IntKind.wrap_i64]; omega
        have hpos : 0 < l.length := by omega
        have hb2 : ((l.length - 1 : Nat) : Int) < l.length := by omega
        simp only [addX, ht', addT, h0, if_false, if_true]
        generalize l.getD (l.length - 1) (0, 0, 0) = s at hg
        obtain ⟨s1, s2, s3⟩ := s
        simp [ac28, ar28, ixV, xV, iV, eV, ht, hne, hm, hw, hw2, h0, hpos, hg, hl2, hb2, R56_56]
        refine ⟨by omega, ?_⟩
        simp [EL, eV, iV]
    · have ht' : takes (ev, c, l) = false := by simp [takes, ht, hm]
      simp [ac28, ar28, ixV, xV, iV, eV, ht, hne, hm, hw, addX, ht', hl2, R56_56]

theorem radd_pure (x : Idx) (e : Ent) (hl : x.2.2.length < 1000000) (hc : I64 (x.2.1 + 1)) : Pure Try.prog 31 [ixV x, eV e] (.sv (ixV (addX x e))) := by
  obtain ⟨ev, c, l⟩ := x
  obtain ⟨e1, e2, e3⟩ := e
  simp only at hl hc
  have hl2 : l.length ≤ 1000000 := by omega
  have hw : IntKind.i64.wrap (c + 1) = c + 1 := by obtain ⟨h1, h2⟩ := hc; rw [IntKind.wrap_i64]; omega
  refine pure_go R0_ok Try.func31 Try.ntmps31 comp31 cres31 (by decide) (by simp) ?_
  by_cases ht : ev < 1
  · have ht' : takes (ev, c, l) = true := by simp [takes, ht]
    by_cases h0 : l.length = 0
    · have hl0 : l = [] := List.length_eq_zero_iff.1 h0
      subst hl0
      simp [ac31, ar31, ixV, xV, iV, eV, ht, hw, addX, ht', addT]
      simp [EL, eV, iV]
    · have hb : l.length - 1 < l.length := by omega
      have hg := EL_get l hb
      have hw2 : IntKind.i64.wrap ((l.length : Int) - 1) = ((l.length - 1 : Nat) : Int) := by rw [IntKind.wrap_i64]; omega
      have hpos : 0 < l.length := by omega
      have hb2 : ((l.length - 1 : Nat) : Int) < l.length := by omega
      simp only [addX, ht', addT, h0, if_false, if_true]
      generalize l.getD (l.length - 1) (0, 0, 0) = s at hg
      obtain ⟨s1, s2, s3⟩ := s
      simp [ac31, ar31, ixV, xV, iV, eV, ht, hw, hw2, h0, hpos, hg, hl2, hb2]
      refine ⟨by omega, ?_⟩
      simp [EL, eV, iV]
  · have hne : ev ≠ 0 := by omega
    by_cases hm : c.tmod ev = 0
    · have ht' : takes (ev, c, l) = true := by simp [takes, hm]
      by_cases h0 : l.length = 0
      · have hl0 : l = [] := List.length_eq_zero_iff.1 h0
        subst hl0
        simp [ac31, ar31, ixV, xV, iV, eV, ht, hne, hm, hw, addX, ht', addT]
        simp [EL, eV, iV]
      · have hb : l.length - 1 < l.length := by omega
        have hg := EL_get l hb
        have hw2 : IntKind.i64.wrap ((l.length : Int) - 1) = ((l.length - 1 : Nat) : Int) := by rw [IntKind.wrap_i64]; omega
        have hpos : 0 < l.length := by omega
        have hb2 : ((l.length - 1 : Nat) : Int) < l.length := by omega
        simp only [addX, ht', addT, h0, if_false, if_true]
        generalize l.getD (l.length - 1) (0, 0, 0) = s at hg
        obtain ⟨s1, s2, s3⟩ := s
        simp [ac31, ar31, ixV, xV, iV, eV, ht, hne, hm, hw, hw2, h0, hpos, hg, hl2, hb2]
        refine ⟨by omega, ?_⟩
        simp [EL, eV, iV]
    · have ht' : takes (ev, c, l) = false := by simp [takes, ht, hm]
      simp [ac31, ar31, ixV, xV, iV, eV, ht, hne, hm, hw, addX, ht', hl2]

end Go.Proofs.Ytomlhaekhammkaa
