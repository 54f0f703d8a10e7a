/- Meta: many metas. -/
import Derived.Test.YtkiimlmlfhmkiaaCmM

set_option linter.unusedSimpArgs false
set_option linter.unusedVariables false
set_option maxHeartbeats 4000000
namespace Go.Proofs.Ytkiimlmlfhmkiaa
open Go.Av

def ML (l : List Met) : List SV := l.map Met.sv
@[simp] theorem ML_length (l : List Met) : (ML l).length = l.length := by simp [ML]
theorem ML_get (l : List Met) {i : Nat} (h : i < l.length) : (ML l)[i]?.getD .undef = (l.getD i met0).sv := by simp [ML, List.getD_eq_getElem?_getD, h]
theorem ML_inj (a b : List Met) (h : ML a = ML b) : a = b := map_inj Met.sv_inj _ _ h
def txL (X : List Nat) : List Nat := layN (zig X.length) ++ X
/-- The first error. -/
def metsE : List Met → Int
  | [] => 0
  | m :: l => if metE m ≠ 0 then metE m else metsE l
def catM (l : List Met) : List Nat := (l.map fun m => txL (metL m)).flatten
def allL (gen : Int) (l : List Met) : List Nat := layN (zig gen) ++ (layN (zig l.length) ++ catM l)
def allE (gen : Int) (l : List Met) : Int :=
  if gen < 0 ∨ 1099511627776 < gen then 11 else if metsE l ≠ 0 then metsE l else if 8192 < (allL gen l).length then 5 else 0
def allB (gen : Int) (l : List Met) : List Nat := if allE gen l = 0 then allL gen l else []
theorem catM_snoc (l : List Met) (m : Met) : catM (l ++ [m]) = catM l ++ txL (metL m) := by simp [catM]
theorem metsE_drop (l : List Met) (i : Nat) (h : i < l.length) : metsE (l.drop i) = if metE (l.getD i met0) ≠ 0 then metE (l.getD i met0) else metsE (l.drop (i + 1)) := by
  rw [List.drop_eq_getElem_cons h, List.getD_eq_getElem?_getD, List.getElem?_eq_getElem h]
  rfl
theorem metsE_all : ∀ {l : List Met}, metsE l = 0 → ∀ m ∈ l, metE m = 0
  | x :: l, h, m, hm => by
    simp only [metsE] at h
    by_cases q : metE x = 0
    · rw [if_neg (fun z => z q)] at h
      rcases List.mem_cons.1 hm with rfl | hm
      · exact q
      · exact metsE_all h m hm
    · rw [if_pos q] at h; exact absurd h q
theorem txL_le {m : Met} (ho : m.ok) (h : metE m = 0) : (txL (metL m)).length ≤ 123 := by
  have h1 := metL_le ho h
  have h2 := layN_le10 (u := zig (metL m).length) (zig_lt (by omega) (by omega))
  simp only [txL, List.length_append]; omega
theorem catM_le : ∀ {l : List Met}, (∀ m ∈ l, m.ok) → (∀ m ∈ l, metE m = 0) → (catM l).length ≤ 123 * l.length
  | [], _, _ => by simp [catM]
  | m :: l, h1, h2 => by
    have k1 := txL_le (h1 m (by simp)) (h2 m (by simp))
    have k2 := catM_le (l := l) (fun x hx => h1 x (by simp [hx])) (fun x hx => h2 x (by simp [hx]))
    simp only [catM, List.map_cons, List.flatten_cons, List.length_append, List.length_cons] at k2 ⊢
    omega
theorem textN_sOf {X : List Nat} (h : Bytes X) : textN (sOf X) = txL X := by
  have h1 : bytesNat (sOf X) = X := by
    simp only [bytesNat, sOf, List.map_map]
    conv => rhs; rw [← List.map_id X]
    apply List.map_congr_left
    intro c hc
    have := h c hc
    simp [Nat.mod_eq_of_lt this]
  have h2 : (sOf X).size = X.length := by simp [sOf, ByteArray.size]
  rw [textN, h1, h2]; rfl
theorem sOf_size (X : List Nat) : (sOf X).size = X.length := by simp [sOf, ByteArray.size]
noncomputable def R27mp (f : FuncId) (l : List SV) : Option (Prop × LV) :=
  match f with
  | 16 => row eM (fun m => (m.ok, .tup [.sv (.sl 1 (bs (putM m))), .sv (.int .i64 (metE m))])) l
  | 17 => row eM (fun m => (m.ok, .tup [.own 1 (bs (putM m)), .sv (.int .i64 (metE m))])) l
  | 50 => row (fun n : Int => [.int .i64 n]) (fun n => (I64 n, .own 1 (bs (layN (zig n))))) l
  | 55 => row (fun n : Int => [.int .i64 n]) (fun n => (I64 n, .own 1 (bs (layN (zig n))))) l
  | 52 => row (fun s : ByteArray => [.str s]) (fun s => (s.size ≤ 140737488355000, .own 1 (bs (textN s)))) l
  | 56 => row (fun s : ByteArray => [.str s]) (fun s => (s.size ≤ 140737488355000, .own 1 (bs (textN s)))) l
  | 58 => RmA.p 58 l
  | _ => none
noncomputable def R27m : Orc := { p := R27mp }
theorem R27m_ok : R27m.ok Try.prog := by
  refine ⟨fun f l c rv h hc => ?_, fun _ _ _ _ _ _ h => (by cases h), fun _ _ _ _ h => (by cases h), fun _ h => (by cases h), fun _ _ _ _ _ _ h => (by cases h), fun _ _ _ _ _ _ _ h => (by cases h)⟩
  change R27mp f l = _ at h
  unfold R27mp at h
  split at h
  · exact row_ok h hc (fun m hm => put_met m hm)
  · exact row_ok h hc (fun m hm => rput_met m hm)
  · exact row_ok h hc (fun n hn => put_pure n hn)
  · exact row_ok h hc (fun n hn => rput_pure n hn)
  · exact row_ok h hc (fun s hs => text_pure s hs)
  · exact row_ok h hc (fun s hs => rtext_pure s hs)
  · exact RmA_ok.p _ _ _ _ h hc
  · cases h
theorem R27m_16 (m : Met) : R27m.p 16 [msv m] = some (m.ok, .tup [.sv (.sl 1 (bs (putM m))), .sv (.int .i64 (metE m))]) := row_eq eM_inj _ m
theorem R27m_17 (m : Met) : R27m.p 17 [msv m] = some (m.ok, .tup [.own 1 (bs (putM m)), .sv (.int .i64 (metE m))]) := row_eq eM_inj _ m
theorem R27m_50 (n : Int) : R27m.p 50 [.int .i64 n] = some (I64 n, .own 1 (bs (layN (zig n)))) := row_eq (enc := fun n : Int => [.int .i64 n]) (fun a b h => by simpa using h) _ n
theorem R27m_55 (n : Int) : R27m.p 55 [.int .i64 n] = some (I64 n, .own 1 (bs (layN (zig n)))) := row_eq (enc := fun n : Int => [.int .i64 n]) (fun a b h => by simpa using h) _ n
theorem R27m_52 (s : ByteArray) : R27m.p 52 [.str s] = some (s.size ≤ 140737488355000, .own 1 (bs (textN s))) := row_eq (enc := fun s : ByteArray => [.str s]) (fun a b h => by simpa using h) _ s
theorem R27m_56 (s : ByteArray) : R27m.p 56 [.str s] = some (s.size ≤ 140737488355000, .own 1 (bs (textN s))) := row_eq (enc := fun s : ByteArray => [.str s]) (fun a b h => by simpa using h) _ s
theorem R27m_58 (n m : Int) : R27m.p 58 [.int .i64 n, .int .i64 m] = some (True, .sv (.bool (decide (0 ≤ n) && decide (n ≤ m)))) := rfl
theorem putAll_pure (gen : Int) (l : List Met) (hg : I64 gen) (ho : ∀ m ∈ l, m.ok) (hl : l.length ≤ 100000) : Pure Try.prog 27 [.int .i64 gen, .sl 9 (ML l)] (.tup [.own 1 (bs (allB gen l)), .sv (.int .i64 (allE gen l))]) := by
  have e16 := R27m_16
  have e50 := R27m_50
  have e52 := R27m_52
  have e58 := R27m_58
  have hR := R27m_ok
  generalize R27m = R at hR e16 e50 e52 e58
  refine pure_go hR Try.func27 Try.ntmps27 comp27 cres27 (by decide) (by simp) ?_
  by_cases h1 : gen < 0 ∨ 1099511627776 < gen
  · have hE : allE gen l = 11 := if_pos h1
    have hB : bs (allB gen l) = [] := by rw [allB, hE]; rfl
    have hd : (decide (0 ≤ gen) && decide (gen ≤ 1099511627776)) = false := by
      rcases h1 with h1 | h1
      · have : ¬ 0 ≤ gen := by omega
        simp [this]
      · have : ¬ gen ≤ 1099511627776 := by omega
        simp [this]
    rw [hE]
    have e58' := e58 gen 1099511627776
    rw [hd] at e58'
    simp [ac27, ar27, e58', hB]
  have hd : (decide (0 ≤ gen) && decide (gen ≤ 1099511627776)) = true := by simp; omega
  have e58' := e58 gen 1099511627776
  rw [hd] at e58'
  have hlI : I64 (l.length : Int) := ⟨by omega, by omega⟩
  have g1 := layN_le10 (zig_lt hg.1 hg.2)
  have g2 := layN_le10 (zig_lt hlI.1 hlI.2)
  simp [ac27, ar27, e58', e50, hg, hlI]
  refine ⟨by omega, ?_⟩
  refine awpR_loop (α := Nat) (fun i => i ≤ l.length ∧ metsE l = metsE (l.drop i) ∧ ∀ m ∈ l.take i, metE m = 0) (fun i => { n := 44, sl := [(6, .own 1 (bs (layN (zig gen) ++ (layN (zig l.length) ++ catM (l.take i))))), (20, .sv (.sl 9 (ML l))), (21, .sv (.int .i64 l.length)), (22, .sv (.int .i64 i))], bx := [], hp := fun _ => none })
    (fun i => l.length - i) 0 ⟨by omega, rfl, fun m hm => by simp at hm⟩ (by simp [catM, bs]) ?_
  rintro i ⟨hi, he, hz⟩
  by_cases h : i < l.length
  · have hlt : (i : Int) < l.length := by omega
    have hw : IntKind.i64.wrap ((i : Int) + 1) = ((i + 1 : Nat) : Int) := by rw [IntKind.wrap_i64]; omega
    have hg' := ML_get l h
    have hiA : i < (ML l).length := by simpa using h
    have hg2 : (ML l)[i] = (l.getD i met0).sv := by rw [← hg', List.getElem?_eq_getElem hiA]; rfl
    have hmem : l.getD i met0 ∈ l := by
      rw [List.getD_eq_getElem?_getD, List.getElem?_eq_getElem h]; exact List.getElem_mem h
    have hok := ho _ hmem
    have e16' := e16 (l.getD i met0)
    have hst : l.take (i + 1) = l.take i ++ [l.getD i met0] := by
      rw [List.take_succ_eq_append_getElem h, List.getD_eq_getElem?_getD, List.getElem?_eq_getElem h]; rfl
    rw [metsE_drop l i h] at he
    have hcl := catM_le (l := l.take i) (fun m hm => ho m (List.mem_of_mem_take hm)) hz
    have htl : (l.take i).length ≤ 100000 := by simp; omega
    generalize l.getD i met0 = M at hg' hg2 hok e16' hst he
    by_cases hE : metE M = 0
    · rw [if_neg (fun q => q hE)] at he
      have hpm : putM M = metL M := if_pos hE
      have e52' := e52 (sOf (metL M))
      rw [textN_sOf (metL_bytes hok hE), sOf_size] at e52'
      have hml := metL_le hok hE
      have htx := txL_le hok hE
      rw [hE, hpm] at e16'
      simp [hlt, h, hg', hg2, hiA, Met.sv, Met.cells, e16', hok, bs_str, e52', hw]
      refine ⟨⟨⟨bs_byte _, by omega⟩, by omega⟩, i + 1, ⟨by omega, he, fun m hm => ?_⟩, by omega, by rw [hst, catM_snoc]; simp [bs], by omega⟩
      rw [hst] at hm
      rcases List.mem_append.1 hm with hm | hm
      · exact hz m hm
      · simp at hm; subst hm; exact hE
    · rw [if_pos hE] at he
      have hAE : allE gen l = metE M := by
        unfold allE
        rw [if_neg h1, he, if_pos hE]
      have hB : bs (allB gen l) = [] := by rw [allB, hAE, if_neg hE]; rfl
      rw [hAE]
      generalize metE M = E at e16' hE
      simp [hlt, h, hg', hg2, hiA, Met.sv, Met.cells, e16', hok, hE, hB]
  · have hlt : ¬ (i : Int) < l.length := by omega
    obtain rfl : i = l.length := by omega
    have hz0 : metsE l = 0 := by rw [he, List.drop_length]; rfl
    rw [List.take_length] at *
    have hAE : allE gen l = if 8192 < (allL gen l).length then 5 else 0 := by
      unfold allE
      rw [if_neg h1, if_neg (fun q => q hz0)]
    have hlen : ((allL gen l).length : Int) = ((layN (zig gen)).length : Int) + (((layN (zig l.length)).length : Int) + ((catM l).length : Int)) := by
      simp only [allL, List.length_append]; omega
    simp [hlt]
    rw [← hlen]
    refine ⟨fun q => ?_, fun q => ?_⟩
    · have hAE5 : allE gen l = 5 := by rw [hAE, if_pos (by omega)]
      exact ⟨by rw [allB, hAE5]; rfl, hAE5.symm⟩
    · have hAE0 : allE gen l = 0 := by rw [hAE, if_neg (by omega)]
      exact ⟨by rw [allB, if_pos hAE0]; rfl, hAE0.symm⟩
end Go.Proofs.Ytkiimlmlfhmkiaa
