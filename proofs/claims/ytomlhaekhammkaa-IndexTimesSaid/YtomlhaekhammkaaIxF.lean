import Derived.Test.YtomlhaekhammkaaIxE

set_option linter.unusedSimpArgs false
set_option linter.unusedVariables false
set_option maxHeartbeats 4000000
namespace Go.Proofs.Ytomlhaekhammkaa
open Go.Av

theorem sameX_self (x : Idx) : sameX x x = true := (sameX_iff x x).2 rfl
theorem addX_len (x : Idx) (e : Ent) : (addX x e).2.2.length ≤ x.2.2.length + 1 := by simp only [addX]; split <;> simp
theorem addX_eta (x : Idx) (e : Ent) : ((addX x e).1, (addX x e).2.1, (addX x e).2.2) = addX x e := rfl

theorem adds_pure (x y : Idx) (e : Ent) : Pure Try.prog 7 [ixV x, ixV y, eV e] (.sv (.bool true)) := by
  obtain ⟨a, c, l⟩ := x
  obtain ⟨a', c', m⟩ := y
  obtain ⟨e1, e2, e3⟩ := e
  refine pure_go RI_ok Try.func7 Try.ntmps7 comp7 cres7 (by decide) (by simp) ?_
  by_cases h1 : 60 < (l.length : Int)
  · simp [ac7, ar7, ixV, xV, iV, eV, h1, RI_26]
  by_cases h2 : 60 < (m.length : Int)
  · simp [ac7, ar7, ixV, xV, iV, eV, h1, h2, RI_26]
  by_cases h3 : c < 0
  · simp [ac7, ar7, ixV, xV, iV, eV, h1, h2, h3, RI_26]
  by_cases h4 : 1099511627776 < c
  · simp [ac7, ar7, ixV, xV, iV, eV, h1, h2, h3, h4, RI_26]
  have ol : OkL (EL l) := (OkL_EL l).2 (by omega)
  have om : OkL (EL m) := (OkL_EL m).2 (by omega)
  have hI : I64 (c + 1) := by unfold I64; omega
  have oa : OkL (EL (addX (a, c, l) (e1, e2, e3)).2.2) := (OkL_EL _).2 (by have := addX_len (a, c, l) (e1, e2, e3); simp only at this; omega)
  have ob : OkL (EL (buildX a m).2.2) := (OkL_EL _).2 (by have := (buildX_count a m).2; omega)
  have k1 : (l.length : Int) ≤ 60 := by omega
  have k2 : (m.length : Int) ≤ 60 := by omega
  have k3 : 0 ≤ c := by omega
  have k4 : c ≤ 1099511627776 := by omega
  have s1 := sameX_self (addX (a, c, l) (e1, e2, e3))
  have s2 := sameX_self (buildX a m)
  generalize hA : addX (a, c, l) (e1, e2, e3) = A at oa s1
  generalize hB : buildX a m = B at ob s2
  obtain ⟨A1, A2, A3⟩ := A
  obtain ⟨B1, B2, B3⟩ := B
  simp only at oa ob
  simp [ac7, ar7, ixV, xV, iV, eV, h1, h2, h3, h4, k1, k2, k3, k4, RI_26, RI_27, RI_28, RI_29, RI_30, RI_31, RI_32, RI_33, RI_34, RI_35, RI_36, ol, om, hI, hA, hB, oa, ob, s1, s2, sameX_self]

theorem grows_pure (l : List Ent) (ev : Int) (e : Ent) : Pure Try.prog 11 [.sl 3 (EL l), iV ev, eV e] (.sv (.bool true)) := by
  obtain ⟨e1, e2, e3⟩ := e
  refine pure_go RI_ok Try.func11 Try.ntmps11 comp11 cres11 (by decide) (by simp) ?_
  by_cases h1 : 60 < (l.length : Int)
  · simp [ac11, ar11, iV, eV, h1, RI_26]
  have k1 : (l.length : Int) ≤ 60 := by omega
  simp [ac11, ar11, iV, eV, h1, k1]
  refine awpR_loop (α := Nat) (fun i => i ≤ l.length) (fun i => { n := 60, sl := [(0, .sv (.sl 3 (EL l))), (1, .sv (.int .i64 ev)), (5, .lptr 5 0), (7, .own 3 (EL (l.take i))), (8, .sv (.int .i64 i))], bx := [(5, [.sv (.int .i64 e1), .sv (.int .i64 e2), .sv (.int .i64 e3)])], hp := fun _ => none })
    (fun i => l.length - i) 0 (by omega) (by simp [EL]) ?_
  intro i hi
  by_cases h : i < l.length
  · have h1 : (i : Int) < l.length := by omega
    have hg := EL_get l h
    have e : EL (l.take (i + 1)) = EL (l.take i) ++ [eV (l.getD i (0, 0, 0))] := EL_take_succ l h
    have hw : IntKind.i64.wrap ((i : Int) + 1) = ((i + 1 : Nat) : Int) := by rw [IntKind.wrap_i64]; omega
    generalize l.getD i (0, 0, 0) = s at hg e
    simp [h1, hg, eV, iV, hw]
    refine ⟨by omega, i + 1, by omega, by omega, ?_, by omega⟩
    rw [e]; simp [eV, iV]
  · have h1 : ¬ (i : Int) < l.length := by omega
    obtain rfl : i = l.length := by omega
    have ol : OkL (EL l) := (OkL_EL l).2 (by omega)
    have ol2 : OkL (EL (l ++ [(e1, e2, e3)])) := (OkL_EL _).2 (by simp; omega)
    have happ : EL l ++ [.agg [.int .i64 e1, .int .i64 e2, .int .i64 e3]] = EL (l ++ [(e1, e2, e3)]) := by simp [EL, eV, iV]
    have hsn := buildX_snoc ev l (e1, e2, e3)
    obtain ⟨hc1, hc2⟩ := buildX_count ev l
    obtain ⟨hd1, hd2⟩ := buildX_count ev (l ++ [(e1, e2, e3)])
    have oA : OkL (EL (buildX ev l).2.2) := (OkL_EL _).2 (by omega)
    have oB : OkL (EL (buildX ev (l ++ [(e1, e2, e3)])).2.2) := (OkL_EL _).2 (by simp at hd2; omega)
    have hI : I64 ((buildX ev l).2.1 + 1) := by unfold I64; omega
    have s2 := sameX_self (buildX ev (l ++ [(e1, e2, e3)]))
    have hw : IntKind.i64.wrap ((l.length : Int) + 1) = (l.length : Int) + 1 := by rw [IntKind.wrap_i64]; omega
    generalize hA : buildX ev l = A at *
    generalize hB : buildX ev (l ++ [(e1, e2, e3)]) = B at *
    obtain ⟨A1, A2, A3⟩ := A
    obtain ⟨B1, B2, B3⟩ := B
    simp only at oA oB hI hc1 hd1
    have hd1' : B2 = (l.length : Int) + 1 := by rw [hd1]; simp
    simp [h1, RI_26, RI_28, RI_32, RI_35, ol, ol2, happ, hA, hB, ixV, xV, iV, oA, oB, hI, s2, hc1, hd1', hw]
    rw [hc1] at hsn hI
    rw [← hsn]
    refine ⟨by omega, ⟨hI, oB⟩, ?_⟩
    show sameX (B1, B2, B3) (B1, (l.length : Int) + 1, B3) = true
    rw [hd1']
    exact sameX_self _
end Go.Proofs.Ytomlhaekhammkaa
