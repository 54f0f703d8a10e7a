import Derived.Test.YtomlhaekhammkaaIxD

set_option linter.unusedSimpArgs false
set_option linter.unusedVariables false
set_option maxHeartbeats 2000000
namespace Go.Proofs.Ytomlhaekhammkaa
open Go.Av

/-- A list that is one of entries, not too long. -/
def OkL (xs : List SV) : Prop := xs = EL (unEL xs) ∧ xs.length ≤ 1000
theorem OkL_EL (l : List Ent) : OkL (EL l) ↔ l.length ≤ 1000 := by simp [OkL]

def RI : Orc := { p := fun f l => match f, l with
  | 26, [] => some (True, .sv (.bool true))
  | 27, [.agg [.int .i64 e, .int .i64 c, .sl 3 xs]] => some (OkL xs, .sv (ixV (e, c, unEL xs)))
  | 30, [.agg [.int .i64 e, .int .i64 c, .sl 3 xs]] => some (OkL xs, .sv (ixV (e, c, unEL xs)))
  | 28, [.agg [.int .i64 e, .int .i64 c, .sl 3 xs], .agg [.int .i64 a, .int .i64 b, .int .i64 d]] => some (OkL xs ∧ I64 (c + 1), .sv (ixV (addX (e, c, unEL xs) (a, b, d))))
  | 31, [.agg [.int .i64 e, .int .i64 c, .sl 3 xs], .agg [.int .i64 a, .int .i64 b, .int .i64 d]] => some (OkL xs ∧ I64 (c + 1), .sv (ixV (addX (e, c, unEL xs) (a, b, d))))
  | 29, [.agg [.int .i64 e, .int .i64 c, .sl 3 xs], .agg [.int .i64 e', .int .i64 c', .sl 3 ys]] => some (OkL xs ∧ OkL ys, .sv (.bool (sameX (e, c, unEL xs) (e', c', unEL ys))))
  | 32, [.agg [.int .i64 e, .int .i64 c, .sl 3 xs], .agg [.int .i64 e', .int .i64 c', .sl 3 ys]] => some (OkL xs ∧ OkL ys, .sv (.bool (sameX (e, c, unEL xs) (e', c', unEL ys))))
  | 33, [.int .i64 e] => some (True, .sv (ixV (newX e)))
  | 34, [.int .i64 e] => some (True, .sv (ixV (newX e)))
  | 35, [.int .i64 e, .sl 3 xs] => some (OkL xs, .sv (ixV (buildX e (unEL xs))))
  | 36, [.int .i64 e, .sl 3 xs] => some (OkL xs, .sv (ixV (buildX e (unEL xs))))
  | 37, [.agg [.int .i64 e, .int .i64 c, .sl 3 xs], .int .i64 t] => some (OkL xs, .tup [.sv (eV (byT t (unEL xs)).1), .sv (.bool (byT t (unEL xs)).2)])
  | 38, [.agg [.int .i64 e, .int .i64 c, .sl 3 xs], .int .i64 t] => some (OkL xs, .tup [.sv (eV (byT t (unEL xs)).1), .sv (.bool (byT t (unEL xs)).2)])
  | 39, [.agg [.int .i64 e, .int .i64 c, .sl 3 xs], .int .i64 t] => some (OkL xs, .tup [.sv (eV (findX (e, c, unEL xs) t).1), .sv (.bool (findX (e, c, unEL xs) t).2)])
  | 40, [.sl 3 xs] => some (OkL xs, .sv (.bool (rising (unEL xs))))
  | 41, [.agg [.int .i64 e, .int .i64 c, .sl 3 xs], .int .i64 t] => some (OkL xs, .tup [.sv (eV (lastP (fun e => decide (e.1 ≤ t)) (unEL xs)).1), .sv (.bool (lastP (fun e => decide (e.1 ≤ t)) (unEL xs)).2)])
  | _, _ => none }
def RI0 : Orc := { p := fun f l => if f = 26 then none else RI.p f l }
theorem unEL_len (xs : List SV) : (unEL xs).length = xs.length := by simp [unEL]
theorem RI0_ok : RI0.ok Try.prog := by
  refine ⟨fun f l c rv h hc => ?_, fun _ _ _ _ _ _ h => (by cases h), fun _ _ _ _ h => (by cases h), fun _ h => (by cases h)⟩
  simp only [RI0] at h
  split at h
  · cases h
  rename_i hf
  simp only [RI] at h
  split at h <;> cases h
  · exact absurd rfl hf
  · rename_i e c xs
    have := own_pure (e, c, unEL xs) (by have := hc.2; simp only [unEL_len]; omega)
    simp only [ixV, xV] at this
    rw [← hc.1] at this
    simp only [ixV, xV]
    rw [← hc.1]
    exact this
  · rename_i e c xs
    have := as_pure' (e, c, unEL xs) (by have := hc.2; simp only [unEL_len]; omega)
    simp only [ixV, xV] at this
    rw [← hc.1] at this
    simp only [ixV, xV]
    rw [← hc.1]
    exact this
  · rename_i e c xs a b d
    have := add_pure (e, c, unEL xs) (a, b, d) (by have := hc.1.2; simp only [unEL_len]; omega) hc.2
    have h2 : ixV (e, c, unEL xs) = .agg [.int .i64 e, .int .i64 c, .sl 3 xs] := by simp only [ixV, xV]; rw [← hc.1.1]; rfl
    rw [h2] at this
    exact this
  · rename_i e c xs a b d
    have := radd_pure (e, c, unEL xs) (a, b, d) (by have := hc.1.2; simp only [unEL_len]; omega) hc.2
    have h2 : ixV (e, c, unEL xs) = .agg [.int .i64 e, .int .i64 c, .sl 3 xs] := by simp only [ixV, xV]; rw [← hc.1.1]; rfl
    rw [h2] at this
    exact this
  · rename_i e c xs e' c' ys
    have := rsame_pure (e, c, unEL xs) (e', c', unEL ys) (by have := hc.1.2; simp only [unEL_len]; omega)
    have h2 : ixV (e, c, unEL xs) = .agg [.int .i64 e, .int .i64 c, .sl 3 xs] := by simp only [ixV, xV]; rw [← hc.1.1]; rfl
    have h3 : ixV (e', c', unEL ys) = .agg [.int .i64 e', .int .i64 c', .sl 3 ys] := by simp only [ixV, xV]; rw [← hc.2.1]; rfl
    rw [h2, h3] at this
    exact this
  · rename_i e c xs e' c' ys
    have := same_pure (e, c, unEL xs) (e', c', unEL ys) (by have := hc.1.2; simp only [unEL_len]; omega)
    have h2 : ixV (e, c, unEL xs) = .agg [.int .i64 e, .int .i64 c, .sl 3 xs] := by simp only [ixV, xV]; rw [← hc.1.1]; rfl
    have h3 : ixV (e', c', unEL ys) = .agg [.int .i64 e', .int .i64 c', .sl 3 ys] := by simp only [ixV, xV]; rw [← hc.2.1]; rfl
    rw [h2, h3] at this
    exact this
  · exact new_pure _
  · exact rnew_pure _
  · rename_i e xs
    have := build_pure e (unEL xs) (by have := hc.2; simp only [unEL_len]; omega)
    rw [← hc.1] at this
    exact this
  · rename_i e xs
    have := rbuild_pure e (unEL xs) (by have := hc.2; simp only [unEL_len]; omega)
    rw [← hc.1] at this
    exact this
  · rename_i e c xs t
    have := f37_pure e c t (unEL xs) (by have := hc.2; simp only [unEL_len]; omega)
    have h2 : xV e c ((unEL xs).map eV) = .agg [.int .i64 e, .int .i64 c, .sl 3 xs] := by
      have : (unEL xs).map eV = xs := hc.1.symm
      rw [this]; rfl
    rw [h2] at this
    exact this
  · rename_i e c xs t
    have := rbyT_pure (e, c, unEL xs) t (by have := hc.2; simp only [unEL_len]; omega)
    have h2 : ixV (e, c, unEL xs) = .agg [.int .i64 e, .int .i64 c, .sl 3 xs] := by simp only [ixV, xV]; rw [← hc.1]; rfl
    rw [h2] at this
    exact this
  · rename_i e c xs t
    have := find_pure (e, c, unEL xs) t (by have := hc.2; simp only [unEL_len]; omega)
    have h2 : ixV (e, c, unEL xs) = .agg [.int .i64 e, .int .i64 c, .sl 3 xs] := by simp only [ixV, xV]; rw [← hc.1]; rfl
    rw [h2] at this
    exact this
  · rename_i xs
    have := rising_pure (unEL xs) (by have := hc.2; simp only [unEL_len]; omega)
    rw [← hc.1] at this
    exact this
  · rename_i e c xs t
    have := rfind_pure (e, c, unEL xs) t (by have := hc.2; simp only [unEL_len]; omega)
    have h2 : ixV (e, c, unEL xs) = .agg [.int .i64 e, .int .i64 c, .sl 3 xs] := by simp only [ixV, xV]; rw [← hc.1]; rfl
    rw [h2] at this
    exact this

def awL : List Ent := [(0, 0, 0), (5, 9, 0), (9, 4, 0), (12, 0, 0)]
theorem aw_build : buildX 2 awL = (2, 4, [(0, 0, 0), (9, 4, 0)]) := by decide
theorem aw_f8 : findX (2, 4, [(0, 0, 0), (9, 4, 0)]) 8 = ((0, 0, 0), true) := by decide
theorem aw_f9 : findX (2, 4, [(0, 0, 0), (9, 4, 0)]) 9 = ((9, 4, 0), true) := by decide
theorem aw_fm : findX (2, 4, [(0, 0, 0), (9, 4, 0)]) (-1) = ((0, 0, 0), false) := by decide
theorem aw_t4 : byT 4 [(0, 0, 0), (9, 4, 0)] = ((0, 0, 0), true) := by decide
theorem awake_pure : Pure Try.prog 26 [] (.sv (.bool true)) := by
  refine pure_go RI0_ok Try.func26 Try.ntmps26 comp26 cres26 (by decide) (by simp) ?_
  have e0 : (EL awL) = [.agg [.int .i64 0, .int .i64 0, .int .i64 0], .agg [.int .i64 5, .int .i64 9, .int .i64 0], .agg [.int .i64 9, .int .i64 4, .int .i64 0], .agg [.int .i64 12, .int .i64 0, .int .i64 0]] := rfl
  have e1 : (EL [(0, 0, 0), (9, 4, 0)]) = [.agg [.int .i64 0, .int .i64 0, .int .i64 0], .agg [.int .i64 9, .int .i64 4, .int .i64 0]] := rfl
  have o0 : OkL (EL awL) := (OkL_EL _).2 (by decide)
  have o1 : OkL (EL [(0, 0, 0), (9, 4, 0)]) := (OkL_EL _).2 (by decide)
  have h35 : RI0.p 35 [.int .i64 2, .sl 3 (EL awL)] = some (OkL (EL awL), .sv (ixV (2, 4, [(0, 0, 0), (9, 4, 0)]))) := by
    show some (OkL (EL awL), LV.sv (ixV (buildX 2 (unEL (EL awL))))) = _
    rw [unEL_EL, aw_build]
  have h39 : ∀ t, RI0.p 39 [.agg [.int .i64 2, .int .i64 4, .sl 3 (EL [(0, 0, 0), (9, 4, 0)])], .int .i64 t] = some (OkL (EL [(0, 0, 0), (9, 4, 0)]), .tup [.sv (eV (findX (2, 4, [(0, 0, 0), (9, 4, 0)]) t).1), .sv (.bool (findX (2, 4, [(0, 0, 0), (9, 4, 0)]) t).2)]) := fun t => by
    show some (OkL (EL [(0, 0, 0), (9, 4, 0)]), LV.tup [.sv (eV (findX (2, 4, unEL (EL [(0, 0, 0), (9, 4, 0)])) t).1), .sv (.bool (findX (2, 4, unEL (EL [(0, 0, 0), (9, 4, 0)])) t).2)]) = _
    rw [unEL_EL]
  have h37 : RI0.p 37 [.agg [.int .i64 2, .int .i64 4, .sl 3 (EL [(0, 0, 0), (9, 4, 0)])], .int .i64 4] = some (OkL (EL [(0, 0, 0), (9, 4, 0)]), .tup [.sv (eV (0, 0, 0)), .sv (.bool true)]) := by
    show some (OkL (EL [(0, 0, 0), (9, 4, 0)]), LV.tup [.sv (eV (byT 4 (unEL (EL [(0, 0, 0), (9, 4, 0)]))).1), .sv (.bool (byT 4 (unEL (EL [(0, 0, 0), (9, 4, 0)]))).2)]) = _
    rw [unEL_EL, aw_t4]
  have h32 : ∀ e c (l : List Ent) e' c' (m : List Ent), RI0.p 32 [.agg [.int .i64 e, .int .i64 c, .sl 3 (EL l)], .agg [.int .i64 e', .int .i64 c', .sl 3 (EL m)]] = some (OkL (EL l) ∧ OkL (EL m), .sv (.bool (sameX (e, c, l) (e', c', m)))) := fun e c l e' c' m => by
    show some (OkL (EL l) ∧ OkL (EL m), LV.sv (.bool (sameX (e, c, unEL (EL l)) (e', c', unEL (EL m))))) = _
    rw [unEL_EL, unEL_EL]
  have h33 : ∀ e, RI0.p 33 [.int .i64 e] = some (True, .sv (ixV (newX e))) := fun e => rfl
  have q1 := h39 8
  have q2 := h39 9
  have q3 := h39 (-1)
  rw [aw_f8] at q1
  rw [aw_f9] at q2
  rw [aw_fm] at q3
  have s1 := h32 2 4 [(0, 0, 0), (9, 4, 0)] 2 4 [(0, 0, 0), (9, 4, 0)]
  have s2 := h32 2 4 [(0, 0, 0), (9, 4, 0)] 2 0 []
  have t1 : sameX (2, 4, [(0, 0, 0), (9, 4, 0)]) (2, 4, [(0, 0, 0), (9, 4, 0)]) = true := by decide
  have t2 : sameX (2, 4, [(0, 0, 0), (9, 4, 0)]) (2, 0, []) = false := by decide
  rw [t1] at s1
  rw [t2] at s2
  have o2 : OkL (EL []) := (OkL_EL _).2 (by decide)
  have hEl : (EL [(0, 0, 0), (9, 4, 0)]).length = 2 := rfl
  generalize hE : (EL [(0, 0, 0), (9, 4, 0)]) = E at *
  simp [ac26, ar26, ← e0, h35, q1, q2, q3, h37, s1, s2, h33, o0, o1, ixV, xV, iV, eV, newX, hE, o2, hEl]

theorem RI_ok : RI.ok Try.prog := by
  refine ⟨fun f l c rv h hc => ?_, fun _ _ _ _ _ _ h => (by cases h), fun _ _ _ _ h => (by cases h), fun _ h => (by cases h)⟩
  by_cases hf : f = 26
  · subst hf
    simp only [RI] at h
    split at h
    · cases h; exact awake_pure
    all_goals first | (rename_i q; exact absurd q (by decide)) | cases h
  · exact RI0_ok.p f l c rv (by simp only [RI0]; rw [if_neg hf]; exact h) hc

def ixP (e c : Int) (l : List Ent) : SV := .agg [.int .i64 e, .int .i64 c, .sl 3 (EL l)]
theorem RI_26 : RI.p 26 [] = some (True, .sv (.bool true)) := rfl
theorem RI_27 (e c : Int) (l : List Ent) : RI.p 27 [.agg [.int .i64 e, .int .i64 c, .sl 3 (EL l)]] = some (OkL (EL l), .sv (ixV (e, c, l))) := by
  show some (OkL (EL l), LV.sv (ixV (e, c, unEL (EL l)))) = _
  rw [unEL_EL]
theorem RI_30 (e c : Int) (l : List Ent) : RI.p 30 [.agg [.int .i64 e, .int .i64 c, .sl 3 (EL l)]] = some (OkL (EL l), .sv (ixV (e, c, l))) := by
  show some (OkL (EL l), LV.sv (ixV (e, c, unEL (EL l)))) = _
  rw [unEL_EL]
theorem RI_28 (e c : Int) (l : List Ent) (a b d : Int) : RI.p 28 [.agg [.int .i64 e, .int .i64 c, .sl 3 (EL l)], .agg [.int .i64 a, .int .i64 b, .int .i64 d]] = some (OkL (EL l) ∧ I64 (c + 1), .sv (ixV (addX (e, c, l) (a, b, d)))) := by
  show some (OkL (EL l) ∧ I64 (c + 1), LV.sv (ixV (addX (e, c, unEL (EL l)) (a, b, d)))) = _
  rw [unEL_EL]
theorem RI_31 (e c : Int) (l : List Ent) (a b d : Int) : RI.p 31 [.agg [.int .i64 e, .int .i64 c, .sl 3 (EL l)], .agg [.int .i64 a, .int .i64 b, .int .i64 d]] = some (OkL (EL l) ∧ I64 (c + 1), .sv (ixV (addX (e, c, l) (a, b, d)))) := by
  show some (OkL (EL l) ∧ I64 (c + 1), LV.sv (ixV (addX (e, c, unEL (EL l)) (a, b, d)))) = _
  rw [unEL_EL]
theorem RI_29 (e c : Int) (l : List Ent) (e' c' : Int) (m : List Ent) : RI.p 29 [.agg [.int .i64 e, .int .i64 c, .sl 3 (EL l)], .agg [.int .i64 e', .int .i64 c', .sl 3 (EL m)]] = some (OkL (EL l) ∧ OkL (EL m), .sv (.bool (sameX (e, c, l) (e', c', m)))) := by
  show some (OkL (EL l) ∧ OkL (EL m), LV.sv (.bool (sameX (e, c, unEL (EL l)) (e', c', unEL (EL m))))) = _
  rw [unEL_EL, unEL_EL]
theorem RI_32 (e c : Int) (l : List Ent) (e' c' : Int) (m : List Ent) : RI.p 32 [.agg [.int .i64 e, .int .i64 c, .sl 3 (EL l)], .agg [.int .i64 e', .int .i64 c', .sl 3 (EL m)]] = some (OkL (EL l) ∧ OkL (EL m), .sv (.bool (sameX (e, c, l) (e', c', m)))) := by
  show some (OkL (EL l) ∧ OkL (EL m), LV.sv (.bool (sameX (e, c, unEL (EL l)) (e', c', unEL (EL m))))) = _
  rw [unEL_EL, unEL_EL]
theorem RI_33 (e : Int) : RI.p 33 [.int .i64 e] = some (True, .sv (ixV (newX e))) := rfl
theorem RI_34 (e : Int) : RI.p 34 [.int .i64 e] = some (True, .sv (ixV (newX e))) := rfl
theorem RI_35 (e : Int) (l : List Ent) : RI.p 35 [.int .i64 e, .sl 3 (EL l)] = some (OkL (EL l), .sv (ixV (buildX e l))) := by
  show some (OkL (EL l), LV.sv (ixV (buildX e (unEL (EL l))))) = _
  rw [unEL_EL]
theorem RI_36 (e : Int) (l : List Ent) : RI.p 36 [.int .i64 e, .sl 3 (EL l)] = some (OkL (EL l), .sv (ixV (buildX e l))) := by
  show some (OkL (EL l), LV.sv (ixV (buildX e (unEL (EL l))))) = _
  rw [unEL_EL]
theorem RI_37 (e c : Int) (l : List Ent) (t : Int) : RI.p 37 [.agg [.int .i64 e, .int .i64 c, .sl 3 (EL l)], .int .i64 t] = some (OkL (EL l), .tup [.sv (eV (byT t l).1), .sv (.bool (byT t l).2)]) := by
  show some (OkL (EL l), LV.tup [.sv (eV (byT t (unEL (EL l))).1), .sv (.bool (byT t (unEL (EL l))).2)]) = _
  rw [unEL_EL]
theorem RI_38 (e c : Int) (l : List Ent) (t : Int) : RI.p 38 [.agg [.int .i64 e, .int .i64 c, .sl 3 (EL l)], .int .i64 t] = some (OkL (EL l), .tup [.sv (eV (byT t l).1), .sv (.bool (byT t l).2)]) := by
  show some (OkL (EL l), LV.tup [.sv (eV (byT t (unEL (EL l))).1), .sv (.bool (byT t (unEL (EL l))).2)]) = _
  rw [unEL_EL]
theorem RI_39 (e c : Int) (l : List Ent) (t : Int) : RI.p 39 [.agg [.int .i64 e, .int .i64 c, .sl 3 (EL l)], .int .i64 t] = some (OkL (EL l), .tup [.sv (eV (findX (e, c, l) t).1), .sv (.bool (findX (e, c, l) t).2)]) := by
  show some (OkL (EL l), LV.tup [.sv (eV (findX (e, c, unEL (EL l)) t).1), .sv (.bool (findX (e, c, unEL (EL l)) t).2)]) = _
  rw [unEL_EL]
theorem RI_40 (l : List Ent) : RI.p 40 [.sl 3 (EL l)] = some (OkL (EL l), .sv (.bool (rising l))) := by
  show some (OkL (EL l), LV.sv (.bool (rising (unEL (EL l))))) = _
  rw [unEL_EL]
theorem RI_41 (e c : Int) (l : List Ent) (t : Int) : RI.p 41 [.agg [.int .i64 e, .int .i64 c, .sl 3 (EL l)], .int .i64 t] = some (OkL (EL l), .tup [.sv (eV (lastP (fun e => decide (e.1 ≤ t)) l).1), .sv (.bool (lastP (fun e => decide (e.1 ≤ t)) l).2)]) := by
  show some (OkL (EL l), LV.tup [.sv (eV (lastP (fun e => decide (e.1 ≤ t)) (unEL (EL l))).1), .sv (.bool (lastP (fun e => decide (e.1 ≤ t)) (unEL (EL l))).2)]) = _
  rw [unEL_EL]
end Go.Proofs.Ytomlhaekhammkaa
