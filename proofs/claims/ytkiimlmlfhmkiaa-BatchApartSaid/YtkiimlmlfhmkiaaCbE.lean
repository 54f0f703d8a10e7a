import Derived.Test.YtkiimlmlfhmkiaaCbD

set_option linter.unusedSimpArgs false
set_option linter.unusedVariables false
set_option maxHeartbeats 2000000
namespace Go.Proofs.Ytkiimlmlfhmkiaa
open Go.Av

def recsS : List Rec → List Rec → Bool
  | [], [] => true
  | r :: a, s :: b => recS r s && recsS a b
  | _, _ => false
theorem recsS_iff : ∀ a b : List Rec, recsS a b = true ↔ a = b
  | [], [] => by simp [recsS]
  | r :: a, s :: b => by simp [recsS, recS_iff, recsS_iff a b]
  | [], _ :: _ => by simp [recsS]
  | _ :: _, [] => by simp [recsS]
theorem recsS_len {a b : List Rec} (h : a.length ≠ b.length) : recsS a b = false := by
  cases q : recsS a b with
  | false => rfl
  | true => exact absurd (congrArg List.length ((recsS_iff a b).1 q)) h
theorem recsS_drop (a b : List Rec) (i : Nat) (h : i < a.length) (h2 : i < b.length) : recsS (a.drop i) (b.drop i) = (recS (a.getD i rec0) (b.getD i rec0) && recsS (a.drop (i + 1)) (b.drop (i + 1))) := by
  rw [List.drop_eq_getElem_cons h, List.drop_eq_getElem_cons h2]
  simp [recsS, List.getD_eq_getElem?_getD, h, h2]

theorem eqR_pure (a b : List Rec) (hl : a.length < 4611686018427387904) : Pure Try.prog 76 [.sl 6 (RL a), .sl 6 (RL b)] (.sv (.bool (recsS a b))) := by
  refine pure_go R0_ok Try.func76 Try.ntmps76 comp76 cres76 (by decide) (by simp) ?_
  by_cases hab : a.length = b.length
  case neg =>
    have hab' : ¬ (a.length : Int) = b.length := by omega
    simp [ac76, ar76, hab, hab', recsS_len hab]
  simp [ac76, ar76, hab]
  refine awpR_loop (α := Nat) (fun i => i ≤ b.length ∧ recsS a b = recsS (a.drop i) (b.drop i)) (fun i => { n := 26, sl := [(0, .sv (.sl 6 (RL a))), (1, .sv (.sl 6 (RL b))), (12, .sv (.int .i64 b.length)), (13, .sv (.int .i64 i))], bx := [], hp := fun _ => none })
    (fun i => b.length - i) 0 ⟨by omega, rfl⟩ (by simp) ?_
  rintro i ⟨hi, he⟩
  by_cases h : i < b.length
  · have h1 : (i : Int) < b.length := by omega
    have hw : IntKind.i64.wrap ((i : Int) + 1) = ((i + 1 : Nat) : Int) := by rw [IntKind.wrap_i64]; omega
    have hg := RL_get b h
    have hia : i < a.length := by omega
    have hga := RL_get a hia
    have hA : i < (RL a).length := by simpa using hia
    have hB : i < (RL b).length := by simpa using h
    have hg2 : (RL b)[i] = (b.getD i rec0).sv := by rw [← hg, List.getElem?_eq_getElem hB]; rfl
    have hga2 : (RL a)[i] = (a.getD i rec0).sv := by rw [← hga, List.getElem?_eq_getElem hA]; rfl
    rw [recsS_drop a b i hia h] at he
    generalize a.getD i rec0 = r at hga hga2 he
    generalize b.getD i rec0 = s at hg hg2 he
    by_cases hrs : recS r s
    · rw [hrs, Bool.true_and] at he
      have hrs' := (recS_iff r s).1 hrs
      subst hrs'
      simp [h1, hg, hg2, hga, hga2, h, hia, Rec.sv, Rec.cells, hw]
      exact ⟨i + 1, ⟨by omega, he⟩, by omega, by omega⟩
    · have hrs2 : recS r s = false := by simpa using hrs
      rw [hrs2, Bool.false_and] at he
      simp only [recS] at hrs2
      simp [h1, hg, hg2, hga, hga2, h, hia, Rec.sv, Rec.cells, hw]
      exact ⟨fun _ => he, fun a1 a2 a3 a4 a5 a6 => by simp [a1, a2, a3, a4, a5, a6] at hrs2⟩
  · have h1 : ¬ (i : Int) < b.length := by omega
    obtain rfl : i = b.length := by omega
    rw [List.drop_length, ← hab, List.drop_length] at he
    simp [h1, he, recsS]

theorem sameAll_pure (a b : List Rec) (hl : a.length < 4611686018427387904) : Pure Try.prog 46 [.sl 6 (RL a), .sl 6 (RL b)] (.sv (.bool (recsS a b))) := by
  let R45 : Orc := { p := fun f l => match f, l with
    | 45, [.agg [.int .i64 dl, .int .i64 tm, .bool kd, .str key, .bool dd, .str val], .agg [.int .i64 dl', .int .i64 tm', .bool kd', .str key', .bool dd', .str val']] => some (True, .sv (.bool (recS ⟨dl, tm, kd, key, dd, val⟩ ⟨dl', tm', kd', key', dd', val'⟩)))
    | _, _ => none }
  have hR : R45.ok Try.prog := by
    refine ⟨fun f l c rv h hc => ?_, fun _ _ _ _ _ _ h => (by cases h), fun _ _ _ _ h => (by cases h), fun _ h => (by cases h), fun _ _ _ _ _ _ h => (by cases h)⟩
    simp only [R45] at h
    split at h <;> cases h
    exact rsame_pure ⟨_, _, _, _, _, _⟩ ⟨_, _, _, _, _, _⟩
  have hq : ∀ r s : Rec, R45.p 45 [.agg [.int .i64 r.dl, .int .i64 r.tm, .bool r.kd, .str r.key, .bool r.dd, .str r.val], .agg [.int .i64 s.dl, .int .i64 s.tm, .bool s.kd, .str s.key, .bool s.dd, .str s.val]] = some (True, .sv (.bool (recS r s))) := fun _ _ => rfl
  generalize R45 = R at hR hq
  refine pure_go hR Try.func46 Try.ntmps46 comp46 cres46 (by decide) (by simp) ?_
  by_cases hab : a.length = b.length
  case neg =>
    have hab' : ¬ (a.length : Int) = b.length := by omega
    simp [ac46, ar46, hab, hab', recsS_len hab]
  simp [ac46, ar46, hab]
  refine awpR_loop (α := Nat) (fun i => i ≤ b.length ∧ recsS a b = recsS (a.drop i) (b.drop i)) (fun i => { n := 27, sl := [(0, .sv (.sl 6 (RL a))), (1, .sv (.sl 6 (RL b))), (5, .sv (.int .i64 i))], bx := [], hp := fun _ => none })
    (fun i => b.length - i) 0 ⟨by omega, rfl⟩ (by simp) ?_
  rintro i ⟨hi, he⟩
  by_cases h : i < b.length
  · have h1 : (i : Int) < b.length := by omega
    have h1' : (i : Int) < a.length := by omega
    have hw : IntKind.i64.wrap ((i : Int) + 1) = ((i + 1 : Nat) : Int) := by rw [IntKind.wrap_i64]; omega
    have hg := RL_get b h
    have hia : i < a.length := by omega
    have hga := RL_get a hia
    have hA : i < (RL a).length := by simpa using hia
    have hB : i < (RL b).length := by simpa using h
    have hg2 : (RL b)[i] = (b.getD i rec0).sv := by rw [← hg, List.getElem?_eq_getElem hB]; rfl
    have hga2 : (RL a)[i] = (a.getD i rec0).sv := by rw [← hga, List.getElem?_eq_getElem hA]; rfl
    rw [recsS_drop a b i hia h] at he
    generalize a.getD i rec0 = r at hga hga2 he
    generalize b.getD i rec0 = s at hg hg2 he
    by_cases hrs : recS r s
    · rw [hrs, Bool.true_and] at he
      simp [h1, h1', hg, hg2, hga, hga2, h, hia, Rec.sv, Rec.cells, hw, hq, hrs]
      exact ⟨i + 1, ⟨by omega, he⟩, by omega, by omega⟩
    · have hrs2 : recS r s = false := by simpa using hrs
      rw [hrs2, Bool.false_and] at he
      simp [h1, h1', hg, hg2, hga, hga2, h, hia, Rec.sv, Rec.cells, hw, hq, hrs2, he]
  · have h1 : ¬ (i : Int) < b.length := by omega
    have h1' : ¬ (i : Int) < a.length := by omega
    obtain rfl : i = b.length := by omega
    rw [List.drop_length, ← hab, List.drop_length] at he
    simp [h1, h1', he, recsS]

theorem eqB_pure (a b : List Nat) (hl : a.length < 4611686018427387904) : Pure Try.prog 78 [.sl 1 (bs a), .sl 1 (bs b)] (.sv (.bool (decide (a = b)))) := by
  refine pure_go R0_ok Try.func78 Try.ntmps78 comp78 cres78 (by decide) (by simp) ?_
  by_cases hab : a.length = b.length
  case neg =>
    have hab' : ¬ (a.length : Int) = b.length := by omega
    have : a ≠ b := fun q => hab (by rw [q])
    simp [ac78, ar78, hab, hab', this]
  simp [ac78, ar78, hab]
  refine awpR_loop (α := Nat) (fun i => i ≤ b.length ∧ (a = b ↔ (a.drop i) = (b.drop i))) (fun i => { n := 26, sl := [(0, .sv (.sl 1 (bs a))), (1, .sv (.sl 1 (bs b))), (12, .sv (.int .i64 b.length)), (13, .sv (.int .i64 i))], bx := [], hp := fun _ => none })
    (fun i => b.length - i) 0 ⟨by omega, by simp⟩ (by simp) ?_
  rintro i ⟨hi, he⟩
  by_cases h : i < b.length
  · have h1 : (i : Int) < b.length := by omega
    have hw : IntKind.i64.wrap ((i : Int) + 1) = ((i + 1 : Nat) : Int) := by rw [IntKind.wrap_i64]; omega
    have hia : i < a.length := by omega
    have hA : i < (bs a).length := by simpa using hia
    have hB : i < (bs b).length := by simpa using h
    have hg2 : (bs b)[i] = .int .u8 b[i] := by simp [bs]
    have hga2 : (bs a)[i] = .int .u8 a[i] := by simp [bs]
    rw [List.drop_eq_getElem_cons h, List.drop_eq_getElem_cons hia, List.cons.injEq] at he
    generalize a[i] = r at hga2 he
    generalize b[i] = s at hg2 he
    by_cases hrs : r = s
    · subst hrs
      simp [h1, hg2, hga2, h, hia, hw]
      exact ⟨i + 1, ⟨by omega, by rw [he]; simp⟩, by omega, by omega⟩
    · have : a ≠ b := fun q => hrs (he.1 q).1
      have hrs' : ¬ (r : Int) = s := by omega
      simp [h1, hg2, hga2, h, hia, hw, hrs, hrs', this]
  · have h1 : ¬ (i : Int) < b.length := by omega
    obtain rfl : i = b.length := by omega
    rw [List.drop_length, ← hab, List.drop_length] at he
    simp [h1, he.2 rfl]
end Go.Proofs.Ytkiimlmlfhmkiaa
