import Derived.Test.YtkiimlmlfhmkiaaCbH

set_option linter.unusedSimpArgs false
set_option linter.unusedVariables false
set_option maxHeartbeats 2000000
namespace Go.Proofs.Ytkiimlmlfhmkiaa
open Go.Av

def atW (b : Bat) (r : Rec) : Int := IntKind.i64.wrap (b.ba + r.dl)

theorem next_pure (b : Bat) : Pure Try.prog 41 [b.sv] (.sv (.int .i64 (IntKind.i64.wrap (b.ba + b.ct)))) := by
  refine pure_go R0_ok Try.func41 Try.ntmps41 comp41 cres41 (by decide) (by simp) ?_
  simp [ac41, ar41, R0, Bat.sv, Bat.cells]
theorem rnext_pure (b : Bat) : Pure Try.prog 42 [b.sv] (.sv (.int .i64 (IntKind.i64.wrap (b.ba + b.ct)))) := by
  refine pure_go R0_ok Try.func42 Try.ntmps42 comp42 cres42 (by decide) (by simp) ?_
  simp [ac42, ar42, R0, Bat.sv, Bat.cells]

/-- The greatest time. -/
def newL : Int → List Rec → Int
  | n, [] => n
  | n, r :: l => newL (if n < r.tm then r.tm else n) l
theorem newL_drop (n : Int) (l : List Rec) (i : Nat) (h : i < l.length) : newL n (l.drop i) = newL (if n < (l.getD i rec0).tm then (l.getD i rec0).tm else n) (l.drop (i + 1)) := by
  rw [List.drop_eq_getElem_cons h]
  simp [newL, List.getD_eq_getElem?_getD, h]
theorem newest_pure (b : Bat) (hl : b.rs.length < 4611686018427387904) : Pure Try.prog 43 [b.sv] (.sv (.int .i64 (newL (-1) b.rs))) := by
  refine pure_go R0_ok Try.func43 Try.ntmps43 comp43 cres43 (by decide) (by simp) ?_
  simp [ac43, ar43, R0, Bat.sv, Bat.cells]
  refine awpR_loop (α := Nat × Int) (fun x => x.1 ≤ b.rs.length ∧ newL (-1) b.rs = newL x.2 (b.rs.drop x.1)) (fun x => { n := 19, sl := [(3, .sv (.int .i64 x.2)), (7, .sv (.sl 6 (RL b.rs))), (8, .sv (.int .i64 b.rs.length)), (9, .sv (.int .i64 x.1))], bx := [], hp := fun _ => none })
    (fun x => b.rs.length - x.1) (0, -1) ⟨by omega, rfl⟩ (by simp) ?_
  rintro ⟨i, n⟩ ⟨hi, he⟩
  simp only at hi he
  by_cases h : i < b.rs.length
  · have h1 : (i : Int) < b.rs.length := by omega
    have hw : IntKind.i64.wrap ((i : Int) + 1) = ((i + 1 : Nat) : Int) := by rw [IntKind.wrap_i64]; omega
    have hg := RL_get b.rs h
    have hiA : i < (RL b.rs).length := by simpa using h
    have hg2 : (RL b.rs)[i] = (b.rs.getD i rec0).sv := by rw [← hg, List.getElem?_eq_getElem hiA]; rfl
    rw [newL_drop _ _ _ h] at he
    generalize b.rs.getD i rec0 = r at hg hg2 he
    simp [h1, hg, hg2, h, Rec.sv, Rec.cells, hw]
    exact ⟨i + 1, _, ⟨by omega, he⟩, by omega, rfl, by omega⟩
  · have h1 : ¬ (i : Int) < b.rs.length := by omega
    obtain rfl : i = b.rs.length := by omega
    rw [List.drop_length] at he
    simp [h1, he, newL]
theorem rnewest_pure (b : Bat) (hl : b.rs.length < 4611686018427387904) : Pure Try.prog 44 [b.sv] (.sv (.int .i64 (newL (-1) b.rs))) := by
  refine pure_go R0_ok Try.func44 Try.ntmps44 comp44 cres44 (by decide) (by simp) ?_
  simp [ac44, ar44, R0, Bat.sv, Bat.cells]
  refine awpR_loop (α := Nat × Int) (fun x => x.1 ≤ b.rs.length ∧ newL (-1) b.rs = newL x.2 (b.rs.drop x.1)) (fun x => { n := 21, sl := [(1, .lptr 1 0), (3, .sv (.int .i64 x.2)), (4, .sv (.int .i64 x.1))], bx := [(1, b.cells.map .sv)], hp := fun _ => none })
    (fun x => b.rs.length - x.1) (0, -1) ⟨by omega, rfl⟩ (by simp [Bat.cells]) ?_
  rintro ⟨i, n⟩ ⟨hi, he⟩
  simp only at hi he
  by_cases h : i < b.rs.length
  · have h1 : (i : Int) < b.rs.length := by omega
    have hw : IntKind.i64.wrap ((i : Int) + 1) = ((i + 1 : Nat) : Int) := by rw [IntKind.wrap_i64]; omega
    have hg := RL_get b.rs h
    have hiA : i < (RL b.rs).length := by simpa using h
    have hg2 : (RL b.rs)[i] = (b.rs.getD i rec0).sv := by rw [← hg, List.getElem?_eq_getElem hiA]; rfl
    rw [newL_drop _ _ _ h] at he
    generalize b.rs.getD i rec0 = r at hg hg2 he
    simp [h1, hg, hg2, h, Bat.cells, Rec.sv, Rec.cells, hw, WkRs_refl]
    exact ⟨i + 1, _, ⟨by omega, he⟩, by omega, rfl, by omega⟩
  · have h1 : ¬ (i : Int) < b.rs.length := by omega
    obtain rfl : i = b.rs.length := by omega
    rw [List.drop_length] at he
    simp [h1, he, newL, Bat.cells]

/-! ### the first record that is so -/
def idxP (p : Rec → Bool) : List Rec → Nat → Int
  | [], _ => -1
  | r :: l, i => if p r then i else idxP p l (i + 1)
theorem idxP_drop (p : Rec → Bool) (l : List Rec) (i : Nat) (h : i < l.length) : idxP p (l.drop i) i = if p (l.getD i rec0) then (i : Int) else idxP p (l.drop (i + 1)) (i + 1) := by
  rw [List.drop_eq_getElem_cons h]
  simp [idxP, List.getD_eq_getElem?_getD, h]
open Classical in
noncomputable def RPd (pf : FuncId) (caps : List SV) (p : Rec → Bool) : Orc := {
  p := fun f l => match l with
    | .agg [.int .i64 dl, .int .i64 tm, .bool kd, .str key, .bool dd, .str val] :: cs => if f = pf ∧ cs = caps then some (True, .sv (.bool (p ⟨dl, tm, kd, key, dd, val⟩))) else none
    | _ => none
  fv := fun f => f == pf }
theorem RPd_ok {pf : FuncId} {caps : List SV} {p : Rec → Bool} (hf : okFn Try.prog pf) (hp : ∀ r : Rec, Pure Try.prog pf (r.sv :: caps) (.sv (.bool (p r)))) : (RPd pf caps p).ok Try.prog := by
  refine ⟨fun f l c rv h hc => ?_, fun _ _ _ _ _ _ h => (by cases h), fun _ _ _ _ h => (by cases h), fun f h => ?_, fun _ _ _ _ _ _ h => (by cases h), fun _ _ _ _ _ _ _ h => (by cases h)⟩
  · simp only [RPd] at h
    split at h
    · split at h
      · rename_i q
        obtain ⟨rfl, rfl⟩ := q
        cases h
        exact hp ⟨_, _, _, _, _, _⟩
      · cases h
    · cases h
  · have : f = pf := by simpa [RPd] using h
    rw [this]; exact hf
theorem RPd_p (pf : FuncId) (caps : List SV) (p : Rec → Bool) (r : Rec) : (RPd pf caps p).p pf (.agg [.int .i64 r.dl, .int .i64 r.tm, .bool r.kd, .str r.key, .bool r.dd, .str r.val] :: caps) = some (True, .sv (.bool (p r))) := by
  simp [RPd]
theorem RPd_fv (pf : FuncId) (caps : List SV) (p : Rec → Bool) : (RPd pf caps p).fv pf = true := by simp [RPd]

theorem idx_pure (pf : FuncId) (caps : List SV) (p : Rec → Bool) (hf : okFn Try.prog pf) (hp : ∀ r : Rec, Pure Try.prog pf (r.sv :: caps) (.sv (.bool (p r)))) (l : List Rec) (hl : l.length < 4611686018427387904) :
    Pure Try.prog 101 [.sl 6 (RL l), .fn pf [] caps] (.sv (.int .i64 (idxP p l 0))) := by
  refine pure_go (RPd_ok hf hp) Try.func101 Try.ntmps101 comp101 cres101 (by decide) (by simp) ?_
  simp [ac101, ar101]
  refine awpR_loop (α := Nat) (fun i => i ≤ l.length ∧ idxP p l 0 = idxP p (l.drop i) i) (fun i => { n := 19, sl := [(0, .sv (.sl 6 (RL l))), (1, .sv (.fn pf [] caps)), (7, .sv (.int .i64 l.length)), (8, .sv (.int .i64 i))], bx := [], hp := fun _ => none })
    (fun i => l.length - i) 0 ⟨by omega, rfl⟩ (by simp) ?_
  rintro i ⟨hi, he⟩
  by_cases h : i < l.length
  · have h1 : (i : Int) < l.length := by omega
    have hw : IntKind.i64.wrap ((i : Int) + 1) = ((i + 1 : Nat) : Int) := by rw [IntKind.wrap_i64]; omega
    have hg := RL_get l h
    have hiA : i < (RL l).length := by simpa using h
    have hg2 : (RL l)[i] = (l.getD i rec0).sv := by rw [← hg, List.getElem?_eq_getElem hiA]; rfl
    rw [idxP_drop _ _ _ h] at he
    generalize l.getD i rec0 = r at hg hg2 he
    have hpr := RPd_p pf caps p r
    have hfv := RPd_fv pf caps p
    generalize RPd pf caps p = R at hpr hfv ⊢
    cases hq : p r with
    | true =>
      rw [hq, if_pos rfl] at he
      rw [hq] at hpr
      simp [h1, hg, hg2, h, Rec.sv, Rec.cells, hw, hpr, hfv, he]
    | false =>
      rw [hq, if_neg (by simp)] at he
      rw [hq] at hpr
      simp [h1, hg, hg2, h, Rec.sv, Rec.cells, hw, hpr, hfv]
      exact ⟨i + 1, ⟨by omega, he⟩, by omega, by omega⟩
  · have h1 : ¬ (i : Int) < l.length := by omega
    obtain rfl : i = l.length := by omega
    rw [List.drop_length] at he
    simp [h1, he, idxP]

/-! ### what stands at an offset -/
def fn82 (off : Int) : SV := .fn 82 [] [.eptr (.agg [.int .i64 off]) 0]
theorem f82_pure (a off : Int) : Pure Try.prog 82 [.int .i64 a, .eptr (.agg [.int .i64 off]) 0] (.sv (.bool (a == off))) := by
  refine pure_go R0_ok Try.func82 Try.ntmps82 comp82 cres82 (by decide) (by simp) ?_
  simp [ac82, ar82]
def R82 : Orc := {
  p := fun f l => match f, l with
  | 82, [.int .i64 a, .eptr (.agg [.int .i64 off]) 0] => some (True, .sv (.bool (a == off)))
  | _, _ => none
  fv := fun f => f == 82 }
theorem R82_ok : R82.ok Try.prog := by
  refine ⟨fun f l c rv h hc => ?_, fun _ _ _ _ _ _ h => (by cases h), fun _ _ _ _ h => (by cases h), fun f h => ?_, fun _ _ _ _ _ _ h => (by cases h), fun _ _ _ _ _ _ _ h => (by cases h)⟩
  · simp only [R82] at h
    split at h <;> cases h
    exact f82_pure _ _
  · have : f = 82 := by simpa [R82] using h
    subst this
    exact ⟨_, Try.func82, rfl, rfl⟩
theorem f102_pure (b : Bat) (off : Int) (r : Rec) : Pure Try.prog 102 [r.sv, .eptr (.agg [fn82 off]) 0, .eptr b.sv 0] (.sv (.bool (atW b r == off))) := by
  refine pure_go R82_ok Try.func102 Try.ntmps102 comp102 cres102 (by decide) (by simp [fn82, Rec.sv, Rec.cells, Bat.sv, Bat.cells]) ?_
  simp [ac102, ar102, fn82, Rec.sv, Rec.cells, Bat.sv, Bat.cells, R82, atW]
end Go.Proofs.Ytkiimlmlfhmkiaa
