import Derived.Test.YtkiimlmlfhmkiaaCmN

set_option linter.unusedVariables false
set_option linter.unusedSimpArgs false

/- Meta: the answer's PutAll, SameAll, Light. -/

set_option linter.unusedSimpArgs false
set_option linter.unusedVariables false
set_option maxHeartbeats 4000000
namespace Go.Proofs.Ytkiimlmlfhmkiaa
open Go.Av

theorem rputAll_pure (gen : Int) (l : List Met) (hg : I64 gen) (ho : ∀ m ∈ l, m.ok) (hl : l.length ≤ 100000) : Pure Try.prog 28 [.int .i64 gen, .sl 9 (ML l)] (.tup [.own 1 (bs (allB gen l)), .sv (.int .i64 (allE gen l))]) := by
  have e16 := R27m_17
  have e50 := R27m_55
  have e52 := R27m_56
  have hR := R27m_ok
  generalize R27m = R at hR e16 e50 e52
  refine pure_go hR Try.func28 Try.ntmps28 comp28 cres28 (by decide) (by simp) ?_
  by_cases h1 : gen < 0 ∨ 1099511627776 < gen
  · have hE : allE gen l = 11 := if_pos h1
    have hB : bs (allB gen l) = [] := by rw [allB, hE]; rfl
    rw [hE]
    by_cases q : gen < 0
    · simp [ac28, ar28, q, hB]
    · have q2 : 1099511627776 < gen := by omega
      simp [ac28, ar28, q, q2, hB]
  have q1 : ¬ gen < 0 := fun q => h1 (.inl q)
  have q2 : ¬ 1099511627776 < gen := fun q => h1 (.inr q)
  have hlI : I64 (l.length : Int) := ⟨by omega, by omega⟩
  have g1 := layN_le10 (zig_lt hg.1 hg.2)
  have g2 := layN_le10 (zig_lt hlI.1 hlI.2)
  simp [ac28, ar28, q1, q2, e50, hg, hlI]
  refine ⟨by omega, ?_⟩
  refine awpR_loop (α := Nat) (fun i => i ≤ l.length ∧ metsE l = metsE (l.drop i) ∧ ∀ m ∈ l.take i, metE m = 0) (fun i => { n := 48, sl := [(1, .sv (.sl 9 (ML l))), (6, .own 1 (bs (layN (zig gen) ++ (layN (zig l.length) ++ catM (l.take i))))), (7, .sv (.int .i64 i))], bx := [], hp := fun _ => none })
    (fun i => l.length - i) 0 ⟨by omega, rfl, fun m hm => by simp at hm⟩ (by simp [catM, bs]) ?_
  rintro i ⟨hi, he, hz⟩
  by_cases h : i < l.length
  · have hlt : (i : Int) < l.length := by omega
    have hw : IntKind.i64.wrap ((i : Int) + 1) = ((i + 1 : Nat) : Int) := by rw [IntKind.wrap_i64]; omega
    have hg' := ML_get l h
    have hiA : i < (ML l).length := by simpa using h
    have hg2 : (ML l)[i] = (l.getD i met0).sv := by rw [← hg', List.getElem?_eq_getElem hiA]; rfl
    have hmem : l.getD i met0 ∈ l := by
      rw [List.getD_eq_getElem?_getD, List.getElem?_eq_getElem h]; exact List.getElem_mem h
    have hok := ho _ hmem
    have e16' := e16 (l.getD i met0)
    have hst : l.take (i + 1) = l.take i ++ [l.getD i met0] := by
      rw [List.take_succ_eq_append_getElem h, List.getD_eq_getElem?_getD, List.getElem?_eq_getElem h]; rfl
    rw [metsE_drop l i h] at he
    have hcl := catM_le (l := l.take i) (fun m hm => ho m (List.mem_of_mem_take hm)) hz
    have htl : (l.take i).length ≤ 100000 := by simp; omega
    generalize l.getD i met0 = M at hg' hg2 hok e16' hst he
    by_cases hE : metE M = 0
    · rw [if_neg (fun q => q hE)] at he
      have hpm : putM M = metL M := if_pos hE
      have e52' := e52 (sOf (metL M))
      rw [textN_sOf (metL_bytes hok hE), sOf_size] at e52'
      have hml := metL_le hok hE
      have htx := txL_le hok hE
      rw [hE, hpm] at e16'
      simp [hlt, h, hg', hg2, hiA, Met.sv, Met.cells, e16', hok, bs_str, e52', hw]
      refine ⟨⟨⟨bs_byte _, by omega⟩, by omega⟩, i + 1, ⟨by omega, he, fun m hm => ?_⟩, by omega, by rw [hst, catM_snoc]; simp [bs], by omega⟩
      rw [hst] at hm
      rcases List.mem_append.1 hm with hm | hm
      · exact hz m hm
      · simp at hm; subst hm; exact hE
    · rw [if_pos hE] at he
      have hAE : allE gen l = metE M := by
        unfold allE
        rw [if_neg h1, he, if_pos hE]
      have hB : bs (allB gen l) = [] := by rw [allB, hAE, if_neg hE]; rfl
      rw [hAE]
      generalize metE M = E at e16' hE
      simp [hlt, h, hg', hg2, hiA, Met.sv, Met.cells, e16', hok, hE, hB]
  · have hlt : ¬ (i : Int) < l.length := by omega
    obtain rfl : i = l.length := by omega
    have hz0 : metsE l = 0 := by rw [he, List.drop_length]; rfl
    rw [List.take_length] at *
    have hAE : allE gen l = if 8192 < (allL gen l).length then 5 else 0 := by
      unfold allE
      rw [if_neg h1, if_neg (fun q => q hz0)]
    have hlen : ((allL gen l).length : Int) = ((layN (zig gen)).length : Int) + (((layN (zig l.length)).length : Int) + ((catM l).length : Int)) := by
      simp only [allL, List.length_append]; omega
    simp [hlt]
    rw [← hlen]
    refine ⟨fun q => ?_, fun q => ?_⟩
    · have hAE5 : allE gen l = 5 := by rw [hAE, if_pos (by omega)]
      exact ⟨by rw [allB, hAE5]; rfl, hAE5.symm⟩
    · have hAE0 : allE gen l = 0 := by rw [hAE, if_neg (by omega)]
      exact ⟨by rw [allB, if_pos hAE0]; rfl, hAE0.symm⟩
def metsS : List Met → List Met → Bool
  | [], [] => true
  | a :: l, b :: m => metS a b && metsS l m
  | _, _ => false
theorem metS_iff (a b : Met) : metS a b = true ↔ a = b := by
  have ba : ∀ a b : ByteArray, (a.toList == b.toList) = true ↔ a = b := fun a b => by
    constructor
    · intro h
      have h1 := eq_of_beq h
      rw [ByteArray.toList_eq, ByteArray.toList_eq] at h1
      cases a; cases b
      simp at h1; rw [h1]
    · rintro rfl; simp
  obtain ⟨a1, a2, a3, a4, a5, a6, a7, a8, a9⟩ := a
  obtain ⟨b1, b2, b3, b4, b5, b6, b7, b8, b9⟩ := b
  simp only [metS, Bool.and_eq_true, ba, beq_iff_eq, Met.mk.injEq]
theorem metsS_iff : ∀ a b : List Met, metsS a b = true ↔ a = b
  | [], [] => by simp [metsS]
  | [], b :: l => by simp [metsS]
  | a :: l, [] => by simp [metsS]
  | a :: l, b :: m => by simp [metsS, metS_iff, metsS_iff l m]
theorem metsS_len {a b : List Met} (h : a.length ≠ b.length) : metsS a b = false := by
  cases q : metsS a b with
  | false => rfl
  | true => exact absurd (congrArg List.length ((metsS_iff a b).1 q)) h
theorem metsS_drop (a b : List Met) (i : Nat) (h : i < a.length) (h2 : i < b.length) : metsS (a.drop i) (b.drop i) = (metS (a.getD i met0) (b.getD i met0) && metsS (a.drop (i + 1)) (b.drop (i + 1))) := by
  rw [List.drop_eq_getElem_cons h, List.drop_eq_getElem_cons h2, List.getD_eq_getElem?_getD, List.getElem?_eq_getElem h, List.getD_eq_getElem?_getD, List.getElem?_eq_getElem h2]
  rfl
theorem msameAll (a b : List Met) (hl : a.length < 4611686018427387904) : Pure Try.prog 26 [.sl 9 (ML a), .sl 9 (ML b)] (.sv (.bool (metsS a b))) := by
  refine pure_go R0_ok Try.func26 Try.ntmps26 comp26 cres26 (by decide) (by simp) ?_
  by_cases hn : a.length = b.length
  case neg =>
    have h1 : ¬ ((a.length : Int) = b.length) := by omega
    simp [ac26, ar26, h1, metsS_len hn]
  have h1 : (a.length : Int) = b.length := by omega
  simp [ac26, ar26, h1]
  refine awpR_loop (α := Nat) (fun i => i ≤ a.length ∧ metsS a b = metsS (a.drop i) (b.drop i)) (fun i => { n := 26, sl := [(0, .sv (.sl 9 (ML a))), (1, .sv (.sl 9 (ML b))), (5, .sv (.int .i64 i))], bx := [], hp := fun _ => none })
    (fun i => a.length - i) 0 ⟨by omega, rfl⟩ (by simp) ?_
  rintro i ⟨hi, he⟩
  by_cases h : i < a.length
  · have hb : i < b.length := by omega
    have hlt : (i : Int) < b.length := by omega
    have hw : IntKind.i64.wrap ((i : Int) + 1) = ((i + 1 : Nat) : Int) := by rw [IntKind.wrap_i64]; omega
    have hg := ML_get a h
    have hiA : i < (ML a).length := by simpa using h
    have hg2 : (ML a)[i] = (a.getD i met0).sv := by rw [← hg, List.getElem?_eq_getElem hiA]; rfl
    have hgb := ML_get b hb
    have hiB : i < (ML b).length := by simpa using hb
    have hgb2 : (ML b)[i] = (b.getD i met0).sv := by rw [← hgb, List.getElem?_eq_getElem hiB]; rfl
    rw [metsS_drop a b i h hb] at he
    generalize a.getD i met0 = x at hg hg2 he
    generalize b.getD i met0 = y at hgb hgb2 he
    cases hq : metS x y with
    | true =>
      rw [hq, Bool.true_and] at he
      have hq2 := (metS_iff x y).1 hq
      subst hq2
      simp [hn, hlt, h, hb, hg, hg2, hgb, hgb2, Met.sv, Met.cells, hw]
      exact ⟨i + 1, ⟨by omega, he⟩, by omega, by omega⟩
    | false =>
      rw [hq, Bool.false_and] at he
      unfold metS at hq
      simp [hn, hlt, h, hb, hg, hg2, hgb, hgb2, Met.sv, Met.cells, hw, hq, he]
  · have hlt : ¬ (i : Int) < b.length := by omega
    obtain rfl : i = a.length := by omega
    rw [List.drop_length, hn, List.drop_length] at he
    simp [hn, h1, he, metsS]
def lightM (l : List Met) (most : Int) : Bool := decide ((l.length : Int) ≤ most) && l.all fun m => decide ((m.nm.size : Int) ≤ 100)
theorem lightM_len {l : List Met} {most : Int} (h : lightM l most = true) : (l.length : Int) ≤ most := by
  simp [lightM] at h
  exact h.1
theorem mlight (l : List Met) (most : Int) (hl : l.length < 4611686018427387904 ∨ most < 4611686018427387904) : Pure Try.prog 14 [.sl 9 (ML l), .int .i64 most] (.sv (.bool (lightM l most))) := by
  refine pure_go R0_ok Try.func14 Try.ntmps14 comp14 cres14 (by decide) (by simp) ?_
  unfold lightM
  by_cases h0 : (l.length : Int) ≤ most
  case neg =>
    have h0' : most < l.length := by omega
    simp [ac14, ar14, h0, h0']
  have h0' : ¬ most < l.length := by omega
  simp [ac14, ar14, h0, h0']
  have hall : ∀ i, i < l.length → (l.drop i).all (fun m => decide ((m.nm.size : Int) ≤ 100)) = (decide (((l.getD i met0).nm.size : Int) ≤ 100) && (l.drop (i + 1)).all fun m => decide ((m.nm.size : Int) ≤ 100)) := fun i h => by
    conv => lhs; rw [List.drop_eq_getElem_cons h]
    rw [List.all_cons, List.getD_eq_getElem?_getD, List.getElem?_eq_getElem h]
    rfl
  refine awpR_loop (α := Nat) (fun i => i ≤ l.length ∧ (l.all fun m => decide ((m.nm.size : Int) ≤ 100)) = (l.drop i).all fun m => decide ((m.nm.size : Int) ≤ 100)) (fun i => { n := 23, sl := [(0, .sv (.sl 9 (ML l))), (5, .sv (.int .i64 i))], bx := [], hp := fun _ => none })
    (fun i => l.length - i) 0 ⟨by omega, rfl⟩ (by simp) ?_
  rintro i ⟨hi, he⟩
  by_cases h : i < l.length
  · have hlt : (i : Int) < l.length := by omega
    have hw : IntKind.i64.wrap ((i : Int) + 1) = ((i + 1 : Nat) : Int) := by rw [IntKind.wrap_i64]; omega
    have hg := ML_get l h
    have hiA : i < (ML l).length := by simpa using h
    have hg2 : (ML l)[i] = (l.getD i met0).sv := by rw [← hg, List.getElem?_eq_getElem hiA]; rfl
    rw [hall i h] at he
    generalize l.getD i met0 = M at hg hg2 he
    by_cases q : (M.nm.size : Int) ≤ 100
    · have q' : ¬ (100 : Int) < M.nm.size := by omega
      rw [decide_eq_true q, Bool.true_and] at he
      simp [hlt, h, hg, hg2, Met.sv, Met.cells, hw, q']
      exact ⟨i + 1, ⟨by omega, he⟩, by omega, by omega⟩
    · have q' : (100 : Int) < M.nm.size := by omega
      rw [decide_eq_false q, Bool.false_and] at he
      simp [hlt, h, hg, hg2, Met.sv, Met.cells, hw, q', he]
  · have hlt : ¬ (i : Int) < l.length := by omega
    obtain rfl : i = l.length := by omega
    rw [List.drop_length] at he
    simp [hlt, he]
end Go.Proofs.Ytkiimlmlfhmkiaa

/- Meta: GetAll, by both. -/

set_option linter.unusedSimpArgs false
set_option linter.unusedVariables false
set_option maxHeartbeats 4000000
set_option maxRecDepth 10000
namespace Go.Proofs.Ytkiimlmlfhmkiaa
open Go.Av

/-- Reading metas one by one, until there are n. -/
def goM (n : Int) : Nat → List Nat → Int → List Met → Option (List Met)
  | 0, _, _, acc => if (acc.length : Int) < n then none else some acc
  | f + 1, l, e, acc => if (acc.length : Int) < n then
      (if (rText l e 8192).2.2 ≠ 0 ∨ (metG (rText l e 8192).1).2 ≠ 0 then none else goM n f (rText l e 8192).2.1 (rText l e 8192).2.2 (acc ++ [(metG (rText l e 8192).1).1]))
    else some acc
def gA1 (l : List Nat) : Int × List Nat × Int := rNum l 0
def gA2 (l : List Nat) : Int × List Nat × Int := rNum (gA1 l).2.1 (gA1 l).2.2
def finA (l : List Nat) (gen : Int) (ms : List Met) : Int × List Met × Int := if allE gen ms = 0 ∧ allB gen ms = l then (gen, ms, 0) else (0, [], 4)
def getA (l : List Nat) : Int × List Met × Int :=
  match goM (gA2 l).1 (l.length + 1) (gA2 l).2.1 (gA2 l).2.2 [] with
  | none => (0, [], 4)
  | some ms => finA l (gA1 l).1 ms
noncomputable def R24p (f : FuncId) (l : List SV) : Option (Prop × LV) :=
  match f with
  | 22 => row (fun l : List Nat => [.sl 1 (bs l)]) (fun l => (Bytes l ∧ l.length < 140737488355328, .tup [.sv (metG l).1.sv, .sv (.int .i64 (metG l).2)])) l
  | 23 => row (fun l : List Nat => [.sl 1 (bs l)]) (fun l => (Bytes l ∧ l.length < 140737488355328, .tup [.sv (metG l).1.sv, .sv (.int .i64 (metG l).2)])) l
  | 27 => row (fun p : Int × List Met => [.int .i64 p.1, .sl 9 (ML p.2)]) (fun p => (I64 p.1 ∧ (∀ m ∈ p.2, m.ok) ∧ p.2.length ≤ 100000, .tup [.own 1 (bs (allB p.1 p.2)), .sv (.int .i64 (allE p.1 p.2))])) l
  | 28 => row (fun p : Int × List Met => [.int .i64 p.1, .sl 9 (ML p.2)]) (fun p => (I64 p.1 ∧ (∀ m ∈ p.2, m.ok) ∧ p.2.length ≤ 100000, .tup [.own 1 (bs (allB p.1 p.2)), .sv (.int .i64 (allE p.1 p.2))])) l
  | 65 => row (fun p : List Nat × List Nat => [.sl 1 (bs p.1), .sl 1 (bs p.2)]) (fun p => (Bytes p.1 ∧ Bytes p.2, .sv (.bool (decide (p.1 = p.2))))) l
  | f => R66p f l
noncomputable def R24e (f : FuncId) (cells l : List SV) : Option (Prop × LV × List SV) :=
  match f, cells, l with
  | 62, [.sl 1 xs, .int .i64 e], [] => some (IsBs xs ∧ xs.length < 4611686018427387904, .sv (.int .i64 (rNum (nsOf xs) e).1), [.sl 1 (bs (rNum (nsOf xs) e).2.1), .int .i64 (rNum (nsOf xs) e).2.2])
  | 67, [.sl 1 xs, .int .i64 e], [] => some (True, .sv (.int .i64 e), [.sl 1 xs, .int .i64 e])
  | f, c, l => R22e f c l
noncomputable def R24 : Orc := { p := R24p, e := R24e, n := R22n }
theorem R24_ok : R24.ok Try.prog := by
  refine ⟨fun f l c rv h hc => ?_, fun f cells l c rv cells' h hc => ?_, R22_ok.n, fun _ h => (by cases h), fun _ _ _ _ _ _ h => (by cases h), fun _ _ _ _ _ _ _ h => (by cases h)⟩
  · change R24p f l = _ at h
    unfold R24p at h
    split at h
    · exact row_ok h hc (fun l hl => get_met l hl.1 hl.2)
    · exact row_ok h hc (fun l hl => rget_met l hl.1 hl.2)
    · exact row_ok h hc (fun p hp => putAll_pure p.1 p.2 hp.1 hp.2.1 hp.2.2)
    · exact row_ok h hc (fun p hp => rputAll_pure p.1 p.2 hp.1 hp.2.1 hp.2.2)
    · exact row_ok h hc (fun p hp => equal_pure p.1 p.2 hp.1 hp.2)
    · exact R66_ok.p _ _ _ _ h hc
  · change R24e f cells l = _ at h
    unfold R24e at h
    split at h
    · cases h
      rename_i xs e
      obtain ⟨⟨e1, h1⟩, h2⟩ := hc
      have := num_eff (nsOf xs) e h1 (by rw [e1] at h2; simpa using h2)
      rwa [← e1] at this
    · cases h
      exact err_eff _ _
    · exact R22_ok.e _ _ _ _ _ _ h hc
theorem R24_22 (l : List Nat) : R24.p 22 [.sl 1 (bs l)] = some (Bytes l ∧ l.length < 140737488355328, .tup [.sv (msv (metG l).1), .sv (.int .i64 (metG l).2)]) := row_eq (enc := fun l : List Nat => [.sl 1 (bs l)]) (fun a b h => by simp at h; exact bs_inj' h) _ l
theorem R24_23 (l : List Nat) : R24.p 23 [.sl 1 (bs l)] = some (Bytes l ∧ l.length < 140737488355328, .tup [.sv (msv (metG l).1), .sv (.int .i64 (metG l).2)]) := row_eq (enc := fun l : List Nat => [.sl 1 (bs l)]) (fun a b h => by simp at h; exact bs_inj' h) _ l
theorem R24_27 (g : Int) (l : List Met) : R24.p 27 [.int .i64 g, .sl 9 (ML l)] = some (I64 g ∧ (∀ m ∈ l, m.ok) ∧ l.length ≤ 100000, .tup [.own 1 (bs (allB g l)), .sv (.int .i64 (allE g l))]) := row_eq (enc := fun p : Int × List Met => [.int .i64 p.1, .sl 9 (ML p.2)]) (fun a b h => by simp at h; exact Prod.ext h.1 (ML_inj _ _ h.2)) _ (g, l)
theorem R24_28 (g : Int) (l : List Met) : R24.p 28 [.int .i64 g, .sl 9 (ML l)] = some (I64 g ∧ (∀ m ∈ l, m.ok) ∧ l.length ≤ 100000, .tup [.own 1 (bs (allB g l)), .sv (.int .i64 (allE g l))]) := row_eq (enc := fun p : Int × List Met => [.int .i64 p.1, .sl 9 (ML p.2)]) (fun a b h => by simp at h; exact Prod.ext h.1 (ML_inj _ _ h.2)) _ (g, l)
theorem R24_65 (a b : List Nat) : R24.p 65 [.sl 1 (bs a), .sl 1 (bs b)] = some (Bytes a ∧ Bytes b, .sv (.bool (decide (a = b)))) :=
  row_eq (enc := fun p : List Nat × List Nat => [.sl 1 (bs p.1), .sl 1 (bs p.2)]) (fun p q h => by simp at h; exact Prod.ext (bs_inj' h.1) (bs_inj' h.2)) _ (a, b)
theorem metG_ok {l : List Nat} (hb : Bytes l) : (metG l).1.ok := by
  rcases metG_cases hb with h | ⟨m, h1, _, _, h2⟩
  · rw [h]; simp [Met.ok, met0, I64]
  · rw [h2]; exact h1
theorem s2b_sOf (X : List Nat) (h : Bytes X) : bytesV (sOf X).data.toList = bs X := by
  rw [bytesV_eq]
  congr 1
  simp only [sOf, List.map_map]
  conv => rhs; rw [← List.map_id X]
  apply List.map_congr_left
  intro c hc
  have := h c hc
  simp [Nat.mod_eq_of_lt this]
end Go.Proofs.Ytkiimlmlfhmkiaa
