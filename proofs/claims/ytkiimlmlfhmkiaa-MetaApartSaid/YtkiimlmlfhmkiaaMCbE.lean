import Derived.Test.YtkiimlmlfhmkiaaCbD

set_option linter.unusedVariables false
set_option linter.unusedSimpArgs false

set_option linter.unusedSimpArgs false
set_option linter.unusedVariables false
set_option maxHeartbeats 2000000
namespace Go.Proofs.Ytkiimlmlfhmkiaa
open Go.Av

def recsS : List Rec → List Rec → Bool
  | [], [] => true
  | r :: a, s :: b => recS r s && recsS a b
  | _, _ => false
theorem recsS_iff : ∀ a b : List Rec, recsS a b = true ↔ a = b
  | [], [] => by simp [recsS]
  | r :: a, s :: b => by simp [recsS, recS_iff, recsS_iff a b]
  | [], _ :: _ => by simp [recsS]
  | _ :: _, [] => by simp [recsS]
theorem recsS_len {a b : List Rec} (h : a.length ≠ b.length) : recsS a b = false := by
  cases q : recsS a b with
  | false => rfl
  | true => exact absurd (congrArg List.length ((recsS_iff a b).1 q)) h
theorem recsS_drop (a b : List Rec) (i : Nat) (h : i < a.length) (h2 : i < b.length) : recsS (a.drop i) (b.drop i) = (recS (a.getD i rec0) (b.getD i rec0) && recsS (a.drop (i + 1)) (b.drop (i + 1))) := by
  rw [List.drop_eq_getElem_cons h, List.drop_eq_getElem_cons h2]
  simp [recsS, List.getD_eq_getElem?_getD, h, h2]

theorem eqR_pure (a b : List Rec) (hl : a.length < 4611686018427387904) : Pure Try.prog 76 [.sl 6 (RL a), .sl 6 (RL b)] (.sv (.bool (recsS a b))) := by
  refine pure_go R0_ok Try.func76 Try.ntmps76 comp76 cres76 (by decide) (by simp) ?_
  by_cases hab : a.length = b.length
  case neg =>
    have hab' : ¬ (a.length : Int) = b.length := by omega
    simp [ac76, ar76, hab, hab', recsS_len hab]
  simp [ac76, ar76, hab]
  refine awpR_loop (α := Nat) (fun i => i ≤ b.length ∧ recsS a b = recsS (a.drop i) (b.drop i)) (fun i => { n := 26, sl := [(0, .sv (.sl 6 (RL a))), (1, .sv (.sl 6 (RL b))), (12, .sv (.int .i64 b.length)), (13, .sv (.int .i64 i))], bx := [], hp := fun _ => none })
    (fun i => b.length - i) 0 ⟨by omega, rfl⟩ (by simp) ?_
  rintro i ⟨hi, he⟩
  by_cases h : i < b.length
  · have h1 : (i : Int) < b.length := by omega
    have hw : IntKind.i64.wrap ((i : Int) + 1) = ((i + 1 : Nat) : Int) := by rw [IntKind.wrap_i64]; omega
    have hg := RL_get b h
    have hia : i < a.length := by omega
    have hga := RL_get a hia
    have hA : i < (RL a).length := by simpa using hia
    have hB : i < (RL b).length := by simpa using h
    have hg2 : (RL b)[i] = (b.getD i rec0).sv := by rw [← hg, List.getElem?_eq_getElem hB]; rfl
    have hga2 : (RL a)[i] = (a.getD i rec0).sv := by rw [← hga, List.getElem?_eq_getElem hA]; rfl
    rw [recsS_drop a b i hia h] at he
    generalize a.getD i rec0 = r at hga hga2 he
    generalize b.getD i rec0 = s at hg hg2 he
    by_cases hrs : recS r s
    · rw [hrs, Bool.true_and] at he
      have hrs' := (recS_iff r s).1 hrs
      subst hrs'
      simp [h1, hg, hg2, hga, hga2, h, hia, Rec.sv, Rec.cells, hw]
      exact ⟨i + 1, ⟨by omega, he⟩, by omega, by omega⟩
    · have hrs2 : recS r s = false := by simpa using hrs
      rw [hrs2, Bool.false_and] at he
      simp only [recS] at hrs2
      simp [h1, hg, hg2, hga, hga2, h, hia, Rec.sv, Rec.cells, hw]
      exact ⟨fun _ => he, fun a1 a2 a3 a4 a5 a6 => by simp [a1, a2, a3, a4, a5, a6] at hrs2⟩
  · have h1 : ¬ (i : Int) < b.length := by omega
    obtain rfl : i = b.length := by omega
    rw [List.drop_length, ← hab, List.drop_length] at he
    simp [h1, he, recsS]

theorem sameAll_pure (a b : List Rec) (hl : a.length < 4611686018427387904) : Pure Try.prog 46 [.sl 6 (RL a), .sl 6 (RL b)] (.sv (.bool (recsS a b))) := by
  let R45 : Orc := { p := fun f l => match f, l with
    | 45, [.agg [.int .i64 dl, .int .i64 tm, .bool kd, .str key, .bool dd, .str val], .agg [.int .i64 dl', .int .i64 tm', .bool kd', .str key', .bool dd', .str val']] => some (True, .sv (.bool (recS ⟨dl, tm, kd, key, dd, val⟩ ⟨dl', tm', kd', key', dd', val'⟩)))
    | _, _ => none }
  have hR : R45.ok Try.prog := by
    refine ⟨fun f l c rv h hc => ?_, fun _ _ _ _ _ _ h => (by cases h), fun _ _ _ _ h => (by cases h), fun _ h => (by cases h), fun _ _ _ _ _ _ h => (by cases h), fun _ _ _ _ _ _ _ h => (by cases h)⟩
    simp only [R45] at h
    split at h <;> cases h
    exact rsame_pure ⟨_, _, _, _, _, _⟩ ⟨_, _, _, _, _, _⟩
  have hq : ∀ r s : Rec, R45.p 45 [.agg [.int .i64 r.dl, .int .i64 r.tm, .bool r.kd, .str r.key, .bool r.dd, .str r.val], .agg [.int .i64 s.dl, .int .i64 s.tm, .bool s.kd, .str s.key, .bool s.dd, .str s.val]] = some (True, .sv (.bool (recS r s))) := fun _ _ => rfl
  generalize R45 = R at hR hq
  refine pure_go hR Try.func46 Try.ntmps46 comp46 cres46 (by decide) (by simp) ?_
  by_cases hab : a.length = b.length
  case neg =>
    have hab' : ¬ (a.length : Int) = b.length := by omega
    simp [ac46, ar46, hab, hab', recsS_len hab]
  simp [ac46, ar46, hab]
  refine awpR_loop (α := Nat) (fun i => i ≤ b.length ∧ recsS a b = recsS (a.drop i) (b.drop i)) (fun i => { n := 27, sl := [(0, .sv (.sl 6 (RL a))), (1, .sv (.sl 6 (RL b))), (5, .sv (.int .i64 i))], bx := [], hp := fun _ => none })
    (fun i => b.length - i) 0 ⟨by omega, rfl⟩ (by simp) ?_
  rintro i ⟨hi, he⟩
  by_cases h : i < b.length
  · have h1 : (i : Int) < b.length := by omega
    have h1' : (i : Int) < a.length := by omega
    have hw : IntKind.i64.wrap ((i : Int) + 1) = ((i + 1 : Nat) : Int) := by rw [IntKind.wrap_i64]; omega
    have hg := RL_get b h
    have hia : i < a.length := by omega
    have hga := RL_get a hia
    have hA : i < (RL a).length := by simpa using hia
    have hB : i < (RL b).length := by simpa using h
    have hg2 : (RL b)[i] = (b.getD i rec0).sv := by rw [← hg, List.getElem?_eq_getElem hB]; rfl
    have hga2 : (RL a)[i] = (a.getD i rec0).sv := by rw [← hga, List.getElem?_eq_getElem hA]; rfl
    rw [recsS_drop a b i hia h] at he
    generalize a.getD i rec0 = r at hga hga2 he
    generalize b.getD i rec0 = s at hg hg2 he
    by_cases hrs : recS r s
    · rw [hrs, Bool.true_and] at he
      simp [h1, h1', hg, hg2, hga, hga2, h, hia, Rec.sv, Rec.cells, hw, hq, hrs]
      exact ⟨i + 1, ⟨by omega, he⟩, by omega, by omega⟩
    · have hrs2 : recS r s = false := by simpa using hrs
      rw [hrs2, Bool.false_and] at he
      simp [h1, h1', hg, hg2, hga, hga2, h, hia, Rec.sv, Rec.cells, hw, hq, hrs2, he]
  · have h1 : ¬ (i : Int) < b.length := by omega
    have h1' : ¬ (i : Int) < a.length := by omega
    obtain rfl : i = b.length := by omega
    rw [List.drop_length, ← hab, List.drop_length] at he
    simp [h1, h1', he, recsS]

theorem eqB_pure (a b : List Nat) (hl : a.length < 4611686018427387904) : Pure Try.prog 78 [.sl 1 (bs a), .sl 1 (bs b)] (.sv (.bool (decide (a = b)))) := by
  refine pure_go R0_ok Try.func78 Try.ntmps78 comp78 cres78 (by decide) (by simp) ?_
  by_cases hab : a.length = b.length
  case neg =>
    have hab' : ¬ (a.length : Int) = b.length := by omega
    have : a ≠ b := fun q => hab (by rw [q])
    simp [ac78, ar78, hab, hab', this]
  simp [ac78, ar78, hab]
  refine awpR_loop (α := Nat) (fun i => i ≤ b.length ∧ (a = b ↔ (a.drop i) = (b.drop i))) (fun i => { n := 26, sl := [(0, .sv (.sl 1 (bs a))), (1, .sv (.sl 1 (bs b))), (12, .sv (.int .i64 b.length)), (13, .sv (.int .i64 i))], bx := [], hp := fun _ => none })
    (fun i => b.length - i) 0 ⟨by omega, by simp⟩ (by simp) ?_
  rintro i ⟨hi, he⟩
  by_cases h : i < b.length
  · have h1 : (i : Int) < b.length := by omega
    have hw : IntKind.i64.wrap ((i : Int) + 1) = ((i + 1 : Nat) : Int) := by rw [IntKind.wrap_i64]; omega
    have hia : i < a.length := by omega
    have hA : i < (bs a).length := by simpa using hia
    have hB : i < (bs b).length := by simpa using h
    have hg2 : (bs b)[i] = .int .u8 b[i] := by simp [bs]
    have hga2 : (bs a)[i] = .int .u8 a[i] := by simp [bs]
    rw [List.drop_eq_getElem_cons h, List.drop_eq_getElem_cons hia, List.cons.injEq] at he
    generalize a[i] = r at hga2 he
    generalize b[i] = s at hg2 he
    by_cases hrs : r = s
    · subst hrs
      simp [h1, hg2, hga2, h, hia, hw]
      exact ⟨i + 1, ⟨by omega, by rw [he]; simp⟩, by omega, by omega⟩
    · have : a ≠ b := fun q => hrs (he.1 q).1
      have hrs' : ¬ (r : Int) = s := by omega
      simp [h1, hg2, hga2, h, hia, hw, hrs, hrs', this]
  · have h1 : ¬ (i : Int) < b.length := by omega
    obtain rfl : i = b.length := by omega
    rw [List.drop_length, ← hab, List.drop_length] at he
    simp [h1, he.2 rfl]
end Go.Proofs.Ytkiimlmlfhmkiaa

set_option linter.unusedSimpArgs false
set_option linter.unusedVariables false
set_option maxHeartbeats 2000000
namespace Go.Proofs.Ytkiimlmlfhmkiaa
open Go.Av

def RD : Orc := { p := fun f l => match f, l with
  | 33, [.agg [.int .i64 a, .int .i64 b, .int .i64 c, .int .i64 d, .int .i64 e, .sl 6 xs]] => some (xs = RL (unRL xs) ∧ Bat.ok ⟨a, b, c, d, e, unRL xs⟩, .sv (.int .i64 (batE ⟨a, b, c, d, e, unRL xs⟩)))
  | 38, [.agg [.int .i64 a, .int .i64 b, .int .i64 c, .int .i64 d, .int .i64 e, .sl 6 xs]] => some (xs = RL (unRL xs) ∧ Bat.ok ⟨a, b, c, d, e, unRL xs⟩, .sv (.int .i64 (batE ⟨a, b, c, d, e, unRL xs⟩)))
  | f, l => RC.p f l }
theorem RD_ok : RD.ok Try.prog := by
  refine ⟨fun f l c rv h hc => ?_, fun _ _ _ _ _ _ h => (by cases h), fun _ _ _ _ h => (by cases h), fun _ h => (by cases h), fun _ _ _ _ _ _ h => (by cases h), fun _ _ _ _ _ _ _ h => (by cases h)⟩
  simp only [RD] at h
  split at h
  · cases h
    rename_i a b c d e xs
    obtain ⟨h1, h2⟩ := hc
    have := check_bat ⟨a, b, c, d, e, unRL xs⟩ h2
    simp only [Bat.sv, Bat.cells, ← h1] at this
    exact this
  · cases h
    rename_i a b c d e xs
    obtain ⟨h1, h2⟩ := hc
    have := rcheck_bat ⟨a, b, c, d, e, unRL xs⟩ h2
    simp only [Bat.sv, Bat.cells, ← h1] at this
    exact this
  · exact RC_ok.p _ _ _ _ h hc
theorem RD_71 (b : Bat) : RD.p 71 [.agg [.int .i64 b.ba, .int .i64 b.ct, .int .i64 b.pr, .int .i64 b.ep, .int .i64 b.sq, .sl 6 (RL b.rs)]] = some (RL b.rs = RL b.rs ∧ b.ok ∧ (RL b.rs).length ≤ 1000, .own 1 (bs (layB b))) := RC_71 b
theorem RD_72 (b : Bat) : RD.p 72 [.agg [.int .i64 b.ba, .int .i64 b.ct, .int .i64 b.pr, .int .i64 b.ep, .int .i64 b.sq, .sl 6 (RL b.rs)]] = some (RL b.rs = RL b.rs ∧ b.ok ∧ (RL b.rs).length ≤ 1000, .own 1 (bs (layB b))) := RC_72 b
theorem RD_33 (b : Bat) : RD.p 33 [.agg [.int .i64 b.ba, .int .i64 b.ct, .int .i64 b.pr, .int .i64 b.ep, .int .i64 b.sq, .sl 6 (RL b.rs)]] = some (RL b.rs = RL b.rs ∧ b.ok, .sv (.int .i64 (batE b))) := by
  show some (RL b.rs = RL (unRL (RL b.rs)) ∧ Bat.ok ⟨b.ba, b.ct, b.pr, b.ep, b.sq, unRL (RL b.rs)⟩, LV.sv (.int .i64 (batE ⟨b.ba, b.ct, b.pr, b.ep, b.sq, unRL (RL b.rs)⟩))) = _
  rw [unRL_RL]
theorem RD_38 (b : Bat) : RD.p 38 [.agg [.int .i64 b.ba, .int .i64 b.ct, .int .i64 b.pr, .int .i64 b.ep, .int .i64 b.sq, .sl 6 (RL b.rs)]] = some (RL b.rs = RL b.rs ∧ b.ok, .sv (.int .i64 (batE b))) := by
  show some (RL b.rs = RL (unRL (RL b.rs)) ∧ Bat.ok ⟨b.ba, b.ct, b.pr, b.ep, b.sq, unRL (RL b.rs)⟩, LV.sv (.int .i64 (batE ⟨b.ba, b.ct, b.pr, b.ep, b.sq, unRL (RL b.rs)⟩))) = _
  rw [unRL_RL]
theorem batE_len {b : Bat} (h : batE b = 0) : b.rs.length ≤ 32 := by
  have : batN b = 0 := Classical.byContradiction fun q => by rw [batE, if_pos q] at h; exact q h
  have := batN_len this
  omega
theorem batE_lay {b : Bat} (h : batE b = 0) : (layB b).length ≤ 8192 := by
  unfold batE at h
  split at h
  · contradiction
  split at h
  · contradiction
  split at h
  · cases h
  omega
def putB (b : Bat) : List Nat := if batE b = 0 then layB b else []
theorem put_bat (b : Bat) (hI : b.ok) : Pure Try.prog 31 [b.sv] (.tup [.own 1 (bs (putB b)), .sv (.int .i64 (batE b))]) := by
  refine pure_go RD_ok Try.func31 Try.ntmps31 comp31 cres31 (by decide) (by simp) ?_
  by_cases hE : batE b = 0
  · have hl : b.rs.length ≤ 1000 := by have := batE_len hE; omega
    have hly := batE_lay hE
    simp [ac31, ar31, Bat.sv, Bat.cells, RD_33, RD_71, hI, hE, putB, hl]
  · simp [ac31, ar31, Bat.sv, Bat.cells, RD_33, hI, hE, putB, bs]
theorem rput_bat (b : Bat) (hI : b.ok) : Pure Try.prog 32 [b.sv] (.tup [.own 1 (bs (putB b)), .sv (.int .i64 (batE b))]) := by
  refine pure_go RD_ok Try.func32 Try.ntmps32 comp32 cres32 (by decide) (by simp) ?_
  by_cases hE : batE b = 0
  · have hl : b.rs.length ≤ 1000 := by have := batE_len hE; omega
    have hly := batE_lay hE
    simp [ac32, ar32, Bat.sv, Bat.cells, RD_38, RD_72, hI, hE, putB, hl]
  · simp [ac32, ar32, Bat.sv, Bat.cells, RD_38, hI, hE, putB, bs]

/-! ### reading -/
theorem i64_0 : I64 0 := ⟨by decide, by decide⟩
theorem rNum_in (l : List Nat) (e : Int) : I64 (rNum l e).1 := by
  unfold rNum
  split
  · unfold getN
    simp only
    split
    · split
      · exact zag_ge (Nat.mod_lt _ (Nat.succ_pos _))
      · exact i64_0
    · split
      · exact i64_0
      · exact i64_0
  · exact i64_0
theorem recG5_rest (f : Nat) (dl tm : Int) (l : List Nat) (e : Int) : (Bytes l → Bytes (recG5 f dl tm l e).2.2.1) ∧ (recG5 f dl tm l e).2.2.1.length ≤ l.length := by
  have k : ∀ c : Bool, (Bytes l → Bytes (if c = true then rText l e 64 else ([], l, e)).2.1) ∧ (if c = true then rText l e 64 else ([], l, e)).2.1.length ≤ l.length := by
    intro c
    cases c
    · exact ⟨fun h => h, Nat.le_refl _⟩
    · exact ⟨fun h => rText_bytes h _ _, rText_le _ _ _⟩
  unfold recG5
  have k1 := k (decide (f % 2 = 1))
  simp only [decide_eq_true_eq] at k1
  generalize (if f % 2 = 1 then rText l e 64 else ([], l, e)) = x at k1
  obtain ⟨k1, k2⟩ := k1
  have v : ∀ c : Bool, (Bytes x.2.1 → Bytes (if c = true then ([], x.2) else rText x.2.1 x.2.2 512).2.1) ∧ (if c = true then ([], x.2) else rText x.2.1 x.2.2 512).2.1.length ≤ x.2.1.length := by
    intro c
    cases c
    · exact ⟨fun h => rText_bytes h _ _, rText_le _ _ _⟩
    · exact ⟨fun h => h, Nat.le_refl _⟩
  have v1 := v (decide (f / 2 % 2 = 1))
  simp only [decide_eq_true_eq] at v1
  simp only
  generalize (if f / 2 % 2 = 1 then ([], x.2) else rText x.2.1 x.2.2 512) = y at v1
  obtain ⟨v1, v2⟩ := v1
  split
  · split <;> exact ⟨fun h => v1 (k1 h), Nat.le_trans v2 k2⟩
  · exact ⟨fun h => v1 (k1 h), Nat.le_trans v2 k2⟩
theorem recG_bytes {l : List Nat} (hl : Bytes l) (e : Int) : Bytes (recG l e).2.2.1 :=
  (recG5_rest _ _ _ _ _).1 (rNum_bytes (rNum_bytes (rFixed_bytes hl e 1) _) _)
theorem recG_le (l : List Nat) (e : Int) : (recG l e).2.2.1.length ≤ l.length :=
  Nat.le_trans (recG5_rest _ _ _ _ _).2 (Nat.le_trans (rNum_le _ _) (Nat.le_trans (rNum_le _ _) (rFixed_le l e 1)))
end Go.Proofs.Ytkiimlmlfhmkiaa
