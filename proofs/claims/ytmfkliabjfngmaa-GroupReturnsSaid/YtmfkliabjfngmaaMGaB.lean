import Derived.Test.YtmfkliabjfngmaaGaS
import Derived.Test.YtmfkliabjfngmaaGaA
import Derived.Test.YtmfkliabjfngmaaAvAA
import Derived.Test.YtmfkliabjfngmaaAvAD
import Derived.Test.YtmfkliabjfngmaaAvL3
import Derived.Sort.Walk0
import Derived.Lib.SlicesCompact
import Derived.WalkKit
import Derived.Shelf.SlGeneric
import Derived.Shelf.SortM.Plain
import Derived.Shelf.SortM.SortNone
import Derived.Shelf.SlicesG.Clone
import Derived.Shelf.SlicesG.CompactS
import Derived.Ground.SlgnProg
import Derived.Ground.SlgmProg
import Derived.Sort.OwnSorted
import Derived.Sort.Grow
import Derived.Lib.OwnBridge

set_option linter.unusedVariables false
set_option linter.unusedSimpArgs false

/- Assign: lists of texts; small functions; the document's Sorted. -/




set_option linter.unusedSimpArgs false
set_option linter.unusedVariables false
set_option maxHeartbeats 4000000
namespace Go.Proofs.Ytmfkliabjfngmaa

open Go.Av

def TL (l : List ByteArray) : List SV := l.map SV.str
@[simp] theorem TL_length (l : List ByteArray) : (TL l).length = l.length := by simp [TL]
theorem TL_inj (a b : List ByteArray) (h : TL a = TL b) : a = b := map_inj (fun x y e => by simpa using e) _ _ h
theorem TL_get (l : List ByteArray) {i : Nat} (h : i < l.length) : (TL l)[i]?.getD .undef = .str (l.getD i ⟨#[]⟩) := by simp [TL, List.getD_eq_getElem?_getD, h]
theorem TL_take (l : List ByteArray) (n : Nat) : (TL l).take n = TL (l.take n) := by simp [TL]
theorem TL_drop (l : List ByteArray) (n : Nat) : (TL l).drop n = TL (l.drop n) := by simp [TL]
theorem TL_app (l m : List ByteArray) : TL (l ++ m) = TL l ++ TL m := by simp [TL]
theorem TL_cons (k : ByteArray) (l : List ByteArray) : TL (k :: l) = .str k :: TL l := rfl
def IL (l : List Int) : List SV := l.map (SV.int .i64)
@[simp] theorem IL_length (l : List Int) : (IL l).length = l.length := by simp [IL]
theorem IL_inj (a b : List Int) (h : IL a = IL b) : a = b := map_inj (fun x y e => by simpa using e) _ _ h
theorem IL_get (l : List Int) {i : Nat} (h : i < l.length) : (IL l)[i]?.getD .undef = .int .i64 (l.getD i 0) := by simp [IL, List.getD_eq_getElem?_getD, h]
theorem IL_app (l m : List Int) : IL (l ++ m) = IL l ++ IL m := by simp [IL]
def LL (l : List (List Int)) : List SV := l.map fun r => .sl 1 (IL r)
@[simp] theorem LL_length (l : List (List Int)) : (LL l).length = l.length := by simp [LL]
theorem LL_inj (a b : List (List Int)) (h : LL a = LL b) : a = b := map_inj (fun x y e => by simp at e; exact IL_inj _ _ e) _ _ h
theorem LL_get (l : List (List Int)) {i : Nat} (h : i < l.length) : (LL l)[i]?.getD .undef = .sl 1 (IL (l.getD i [])) := by simp [LL, List.getD_eq_getElem?_getD, h]
theorem LL_app (l m : List (List Int)) : LL (l ++ m) = LL l ++ LL m := by simp [LL]
theorem wrap_succ {i n : Nat} (h : i < n) (hn : n < 4611686018427387904) : IntKind.i64.wrap ((i : Int) + 1) = ((i + 1 : Nat) : Int) := by rw [IntKind.wrap_i64]; omega
theorem take_eq {α : Type} {a b : List α} {i : Nat} (d : α) (ha : i < a.length) (hb : i < b.length) (h : a.take i = b.take i) (e : a.getD i d = b.getD i d) : a.take (i + 1) = b.take (i + 1) := by
  rw [List.take_succ_eq_append_getElem ha, List.take_succ_eq_append_getElem hb, h]
  simp only [List.getD_eq_getElem?_getD, List.getElem?_eq_getElem ha, List.getElem?_eq_getElem hb, Option.getD_some] at e
  rw [e]
theorem ne_of_get {α : Type} {a b : List α} {i : Nat} (d : α) (e : a.getD i d ≠ b.getD i d) : a ≠ b := fun h => e (by rw [h])
theorem getD_mem {α : Type} {l : List α} {i : Nat} (d : α) (h : i < l.length) : l.getD i d ∈ l := by
  rw [List.getD_eq_getElem?_getD, List.getElem?_eq_getElem h]
  exact List.getElem_mem h

/-! ### light, same -/
def lightT (l : List ByteArray) : Bool := decide (l.length ≤ 40) && l.all fun s => decide (s.size ≤ 60)
theorem all_drop {α : Type} (p : α → Bool) (l : List α) (d : α) {i : Nat} (h : i < l.length) : (l.drop i).all p = (p (l.getD i d) && (l.drop (i + 1)).all p) := by
  rw [List.drop_eq_getElem_cons h, List.all_cons, List.getD_eq_getElem?_getD, List.getElem?_eq_getElem h]
  rfl
theorem light_txts (l : List ByteArray) : Pure Try.prog 10 [.sl 1 (TL l)] (.sv (.bool (lightT l))) := by
  refine pure_go R0_ok Try.func10 Try.ntmps10 comp10 cres10 (by decide) (by simp) ?_
  unfold lightT
  by_cases h40 : l.length ≤ 40
  case neg =>
    have h1 : (40 : Int) < l.length := by omega
    simp [ac10, ar10, R0, h40, h1]
  have h1 : ¬ (40 : Int) < l.length := by omega
  simp [ac10, ar10, R0, h40, h1]
  refine awpR_loop (α := Nat) (fun i => i ≤ l.length ∧ l.all (fun s => decide (s.size ≤ 60)) = (l.drop i).all (fun s => decide (s.size ≤ 60))) (fun i => { n := 19, sl := [(0, .sv (.sl 1 (TL l))), (3, .sv (.int .i64 i))], bx := [], hp := fun _ => none })
    (fun i => l.length - i) 0 ⟨by omega, by simp⟩ (by simp) ?_
  rintro i ⟨hi, ha⟩
  by_cases h : i < l.length
  · have hlt : (i : Int) < l.length := by omega
    have hw := wrap_succ h (show l.length < 4611686018427387904 by omega)
    have hg := TL_get l h
    have hge : (TL l)[i]'(by simpa using h) = .str (l.getD i ⟨#[]⟩) := by rw [← hg, List.getElem?_eq_getElem]; rfl
    rw [all_drop _ l ⟨#[]⟩ h] at ha
    generalize l.getD i ⟨#[]⟩ = x at *
    by_cases q : x.size ≤ 60
    · have q2 : ¬ (60 : Int) < x.size := by omega
      rw [show decide (x.size ≤ 60) = true by simpa using q, Bool.true_and] at ha
      simp [hlt, h, hg, hge, hw, q2]
      exact ⟨i + 1, ⟨by omega, by simpa using ha⟩, by omega, by omega⟩
    · have q2 : (60 : Int) < x.size := by omega
      rw [show decide (x.size ≤ 60) = false by simpa using q, Bool.false_and] at ha
      simp [hlt, h, hg, hge, hw, q2]
      simpa using ha
  · obtain rfl : i = l.length := by omega
    have hlt : ¬ ((l.length : Nat) : Int) < l.length := by omega
    rw [List.drop_length] at ha
    simp [hlt]
    simpa using ha
theorem sameOne (a b : List Int) (hl : a.length < 4611686018427387904) : Pure Try.prog 19 [.sl 1 (IL a), .sl 1 (IL b)] (.sv (.bool (decide (a = b)))) := by
  refine pure_go R0_ok Try.func19 Try.ntmps19 comp19 cres19 (by decide) (by simp) ?_
  by_cases h0 : a.length = b.length
  case neg =>
    have h0' : ((a.length : Int) != b.length) = true := by simp; omega
    have hne : a ≠ b := fun e => h0 (by rw [e])
    simp [ac19, ar19, R0, h0', hne]
  have h0' : ((a.length : Int) != b.length) = false := by simp; omega
  simp [ac19, ar19, R0, h0]
  refine awpR_loop (α := Nat) (fun i => i ≤ a.length ∧ a.take i = b.take i) (fun i => { n := 26, sl := [(0, .sv (.sl 1 (IL a))), (1, .sv (.sl 1 (IL b))), (5, .sv (.int .i64 i))], bx := [], hp := fun _ => none })
    (fun i => a.length - i) 0 ⟨by omega, by simp⟩ (by simp) ?_
  rintro i ⟨hi, ha⟩
  by_cases h : i < a.length
  · have hlt : (i : Int) < a.length := by omega
    have hlt2 : (i : Int) < b.length := by omega
    have hb : i < b.length := by omega
    have hw := wrap_succ h hl
    have hg := IL_get a h
    have hg' := IL_get b hb
    have hge : (IL a)[i]'(by simpa using h) = .int .i64 (a.getD i 0) := by rw [← hg, List.getElem?_eq_getElem]; rfl
    have hge' : (IL b)[i]'(by simpa using hb) = .int .i64 (b.getD i 0) := by rw [← hg', List.getElem?_eq_getElem]; rfl
    by_cases q : a.getD i 0 = b.getD i 0
    · have ht := take_eq 0 h hb ha q
      rw [q] at hg hge
      generalize b.getD i 0 = y at *
      simp [hlt, hlt2, h, hb, hg, hge, hg', hge', hw]
      exact ⟨i + 1, ⟨by omega, ht⟩, by omega, by omega⟩
    · have hne := ne_of_get 0 q
      have q2 : (a.getD i 0 != b.getD i 0) = true := by simpa using q
      generalize a.getD i 0 = x at *
      generalize b.getD i 0 = y at *
      simp [hlt, hlt2, h, hb, hg, hge, hg', hge', hw, q2, hne]
  · obtain rfl : i = a.length := by omega
    have hlt : ¬ ((a.length : Nat) : Int) < a.length := by omega
    have : a = b := by
      rw [List.take_of_length_le (Nat.le_refl _), List.take_of_length_le (by omega)] at ha
      exact ha
    simp [hlt, this]
def eIL2 (p : List Int × List Int) : List SV := [.sl 1 (IL p.1), .sl 1 (IL p.2)]
theorem eIL2_inj (a b : List Int × List Int) (h : eIL2 a = eIL2 b) : a = b := by simp [eIL2] at h; exact Prod.ext (IL_inj _ _ h.1) (IL_inj _ _ h.2)
noncomputable def RsA : Orc := { p := fun f l => match f with
    | 19 => row eIL2 (fun p => (p.1.length < 4611686018427387904, .sv (.bool (decide (p.1 = p.2))))) l
    | _ => none }
theorem RsA_ok : RsA.ok Try.prog := by
  refine ⟨fun f l c rv h hc => ?_, fun _ _ _ _ _ _ h => (by cases h), fun _ _ _ _ h => (by cases h), fun _ h => (by cases h), fun _ _ _ _ _ _ h => (by cases h), fun _ _ _ _ _ _ _ h => (by cases h)⟩
  simp only [RsA] at h
  split at h
  · exact row_ok h hc (fun p hp => sameOne p.1 p.2 hp)
  · cases h
theorem RsA_19 (a b : List Int) : RsA.p 19 [.sl 1 (IL a), .sl 1 (IL b)] = some (a.length < 4611686018427387904, .sv (.bool (decide (a = b)))) := row_eq eIL2_inj _ (a, b)
def smallL (l : List (List Int)) : Prop := ∀ r ∈ l, r.length < 4611686018427387904
theorem same_rows (a b : List (List Int)) (hl : a.length < 4611686018427387904) (hs : smallL a) : Pure Try.prog 14 [.sl 1 (LL a), .sl 1 (LL b)] (.sv (.bool (decide (a = b)))) := by
  have e1 := RsA_19
  have hR := RsA_ok
  generalize RsA = R at hR e1
  refine pure_go hR Try.func14 Try.ntmps14 comp14 cres14 (by decide) (by simp) ?_
  by_cases h0 : a.length = b.length
  case neg =>
    have h0' : ((a.length : Int) != b.length) = true := by simp; omega
    have hne : a ≠ b := fun e => h0 (by rw [e])
    simp [ac14, ar14, h0', hne]
  have h0' : ((a.length : Int) != b.length) = false := by simp; omega
  simp [ac14, ar14, h0']
  refine awpR_loop (α := Nat) (fun i => i ≤ a.length ∧ a.take i = b.take i) (fun i => { n := 27, sl := [(0, .sv (.sl 1 (LL a))), (1, .sv (.sl 1 (LL b))), (5, .sv (.int .i64 i))], bx := [], hp := fun _ => none })
    (fun i => a.length - i) 0 ⟨by omega, by simp⟩ (by simp) ?_
  rintro i ⟨hi, ha⟩
  by_cases h : i < a.length
  · have hlt : (i : Int) < a.length := by omega
    have hlt2 : (i : Int) < b.length := by omega
    have hb : i < b.length := by omega
    have hw := wrap_succ h hl
    have hg := LL_get a h
    have hg' := LL_get b hb
    have hge : (LL a)[i]'(by simpa using h) = .sl 1 (IL (a.getD i [])) := by rw [← hg, List.getElem?_eq_getElem]; rfl
    have hge' : (LL b)[i]'(by simpa using hb) = .sl 1 (IL (b.getD i [])) := by rw [← hg', List.getElem?_eq_getElem]; rfl
    have hsm := hs _ (getD_mem [] h)
    have e1 := e1 (a.getD i []) (b.getD i [])
    by_cases q : a.getD i [] = b.getD i []
    · have ht := take_eq [] h hb ha q
      rw [q] at hg hge e1 hsm
      rw [show decide (b.getD i [] = b.getD i []) = true by simp] at e1
      generalize b.getD i [] = y at *
      simp [hlt, hlt2, h, hb, hg, hge, hg', hge', hw, e1, hsm]
      exact ⟨i + 1, ⟨by omega, ht⟩, by omega, by omega⟩
    · have hne := ne_of_get [] q
      rw [show decide (a.getD i [] = b.getD i []) = false by simpa using q] at e1
      generalize a.getD i [] = x at *
      generalize b.getD i [] = y at *
      simp [hlt, hlt2, h, hb, hg, hge, hg', hge', hw, e1, hsm, hne]
  · obtain rfl : i = a.length := by omega
    have hlt : ¬ ((a.length : Nat) : Int) < a.length := by omega
    have : a = b := by
      rw [List.take_of_length_le (Nat.le_refl _), List.take_of_length_le (by omega)] at ha
      exact ha
    simp [hlt, this]

/-! ### many, cmp -/
def manyP (p : Int) : Int := max 0 (min p 1000)
theorem manyP_le (p : Int) : 0 ≤ manyP p ∧ manyP p ≤ 1000 := by unfold manyP; omega
theorem many_pure (p : Int) : Pure Try.prog 40 [.int .i64 p] (.sv (.int .i64 (manyP p))) := by
  refine pure_go R0_ok Try.func40 Try.ntmps40 comp40 cres40 (by decide) (by simp) ?_
  simp [ac40, ar40, R0]
  unfold manyP
  split <;> split <;> omega
def lts (a b : ByteArray) : Bool := Op.bytesLess a.toList b.toList
theorem nan94 (a : ByteArray) : Pure Try.prog 94 [.str a] (.sv (.bool false)) := by
  refine pure_go R0_ok Try.func94 Try.ntmps94 comp94 cres94 (by decide) (by simp) ?_
  simp [ac94, ar94, R0]
theorem nan69 (a : ByteArray) : Pure Try.prog 69 [.str a] (.sv (.bool false)) := by
  refine pure_go R0_ok Try.func69 Try.ntmps69 comp69 cres69 (by decide) (by simp) ?_
  simp [ac69, ar69, R0]
def eStr (a : ByteArray) : List SV := [.str a]
theorem eStr_inj (a b : ByteArray) (h : eStr a = eStr b) : a = b := by simpa [eStr] using h
def eStr2 (p : ByteArray × ByteArray) : List SV := [.str p.1, .str p.2]
theorem eStr2_inj (a b : ByteArray × ByteArray) (h : eStr2 a = eStr2 b) : a = b := by simp [eStr2] at h; exact Prod.ext h.1 h.2
noncomputable def RsB : Orc := { p := fun f l => match f with
    | 94 => row eStr (fun p => (True, .sv (.bool false))) l
    | _ => none }
theorem RsB_ok : RsB.ok Try.prog := by
  refine ⟨fun f l c rv h hc => ?_, fun _ _ _ _ _ _ h => (by cases h), fun _ _ _ _ h => (by cases h), fun _ h => (by cases h), fun _ _ _ _ _ _ h => (by cases h), fun _ _ _ _ _ _ _ h => (by cases h)⟩
  simp only [RsB] at h
  split at h
  · exact row_ok h hc (fun p hp => nan94 p)
  · cases h
theorem RsB_94 (a : ByteArray) : RsB.p 94 [.str a] = some (True, .sv (.bool false)) := row_eq eStr_inj _ a
theorem less_pure (a b : ByteArray) : Pure Try.prog 68 [.str a, .str b] (.sv (.bool (lts a b))) := by
  have e1 := RsB_94
  have hR := RsB_ok
  generalize RsB = R at hR e1
  refine pure_go hR Try.func68 Try.ntmps68 comp68 cres68 (by decide) (by simp) ?_
  simp [ac68, ar68, e1, lts]
end Go.Proofs.Ytmfkliabjfngmaa

/- Assign: the document's Sorted; from; the search. -/

set_option linter.unusedSimpArgs false
set_option linter.unusedVariables false
set_option maxHeartbeats 8000000
namespace Go.Proofs.Ytmfkliabjfngmaa

open Go.Av

/-- How many stand below. -/
def posK (k : ByteArray) : List ByteArray → Nat
  | [] => 0
  | x :: l => if lts x k = true then posK k l + 1 else 0
def atK (k : ByteArray) (out : List ByteArray) (n : Nat) : Bool := decide (n < out.length) && ((out.getD n ⟨#[]⟩).toList == k.toList)
def insK (k : ByteArray) (out : List ByteArray) : List ByteArray := if atK k out (posK k out) = true then out else out.take (posK k out) ++ ([k] ++ out.drop (posK k out))
def srtL : List ByteArray → List ByteArray → List ByteArray
  | [], out => out
  | k :: l, out => srtL l (insK k out)
theorem srtL_drop (l : List ByteArray) (a : List ByteArray) {i : Nat} (h : i < l.length) : srtL (l.drop i) a = srtL (l.drop (i + 1)) (insK (l.getD i ⟨#[]⟩) a) := by
  rw [List.drop_eq_getElem_cons h, srtL, List.getD_eq_getElem?_getD, List.getElem?_eq_getElem h]
  rfl
theorem posK_drop (k : ByteArray) (l : List ByteArray) {i : Nat} (h : i < l.length) : posK k (l.drop i) = if lts (l.getD i ⟨#[]⟩) k = true then posK k (l.drop (i + 1)) + 1 else 0 := by
  rw [List.drop_eq_getElem_cons h, posK, List.getD_eq_getElem?_getD, List.getElem?_eq_getElem h]
  rfl
theorem insK_len (k : ByteArray) (out : List ByteArray) : (insK k out).length ≤ out.length + 1 := by
  unfold insK
  split
  · omega
  · simp; omega
theorem rsorted (l : List ByteArray) (hl : l.length ≤ 1000) : Pure Try.prog 13 [.sl 1 (TL l)] (.own 1 (TL (srtL l []))) := by
  refine pure_go R0_ok Try.func13 Try.ntmps13 comp13 cres13 (by decide) (by simp) ?_
  simp [ac13, ar13, R0]
  refine awpR_loop (α := Nat × List ByteArray) (fun p => p.1 ≤ l.length ∧ p.2.length ≤ p.1 ∧ srtL l [] = srtL (l.drop p.1) p.2) (fun p => { n := 61, sl := [(0, .sv (.sl 1 (TL l))), (3, .own 1 (TL p.2)), (4, .sv (.int .i64 p.1))], bx := [], hp := fun _ => none })
    (fun p => l.length - p.1) (0, []) ⟨by simp, by simp, by simp⟩ (by simp [TL]) ?_
  rintro ⟨i, a⟩ ⟨hi, hal, ha⟩
  simp only at hi hal ha ⊢
  by_cases h : i < l.length
  · have hlt : (i : Int) < l.length := by omega
    have hw := wrap_succ h (show l.length < 4611686018427387904 by omega)
    have hg := TL_get l h
    have hge : (TL l)[i]'(by simpa using h) = .str (l.getD i ⟨#[]⟩) := by rw [← hg, List.getElem?_eq_getElem]; rfl
    rw [srtL_drop l _ h] at ha
    generalize l.getD i ⟨#[]⟩ = k at *
    have hrl := insK_len k a
    simp [hlt, h, hg, hge, hw]
    refine awpR_loop (α := Nat) (fun n => n ≤ a.length ∧ posK k a = n + posK k (a.drop n)) (fun n => { n := 61, sl := [(0, .sv (.sl 1 (TL l))), (3, .own 1 (TL a)), (4, .sv (.int .i64 i)), (5, .sv (.int .i64 n))], bx := [], hp := fun _ => none })
      (fun n => a.length - n) 0 ⟨by simp, by simp⟩ (by simp) ?_
    rintro n ⟨hn, hp⟩
    by_cases h3 : n < a.length
    · have hlt3 : (n : Int) < a.length := by omega
      have hw3 := wrap_succ h3 (show a.length < 4611686018427387904 by omega)
      have hg3 := TL_get a h3
      have hge3 : (TL a)[n]'(by simpa using h3) = .str (a.getD n ⟨#[]⟩) := by rw [← hg3, List.getElem?_eq_getElem]; rfl
      rw [posK_drop k a h3] at hp
      by_cases q : lts (a.getD n ⟨#[]⟩) k = true
      · rw [if_pos q] at hp
        have q' : Op.bytesLess (a.getD n ⟨#[]⟩).toList k.toList = true := q
        generalize a.getD n ⟨#[]⟩ = z at *
        simp [hlt3, h3, hg3, hge3, q', hw3, hlt, h, hg, hge]
        exact ⟨n + 1, ⟨by omega, by omega⟩, by omega, by omega⟩
      · rw [if_neg q] at hp
        have q' : Op.bytesLess (a.getD n ⟨#[]⟩).toList k.toList = false := by simpa [lts] using q
        have hp' : posK k a = n := by omega
        have hat : atK k a n = ((a.getD n ⟨#[]⟩).toList == k.toList) := by unfold atK; simp [h3]
        unfold insK at ha hrl
        rw [hp', hat] at ha hrl
        generalize a.getD n ⟨#[]⟩ = z at *
        by_cases eq : z.toList = k.toList
        · simp only [eq, beq_self_eq_true, if_true] at ha
          have q2 : Op.bytesLess k.toList k.toList = false := by rw [eq] at q'; exact q'
          simp [hlt3, h3, hg3, hge3, q', q2, hw3, eq, hw, hlt, h, hg, hge]
          exact ⟨i + 1, a, ⟨by omega, by omega, ha⟩, by omega, rfl, by omega⟩
        · have eq' : (z.toList == k.toList) = false := by simpa using eq
          simp only [eq', if_true, Bool.false_eq_true, if_false] at ha hrl
          simp [hlt3, h3, hg3, hge3, q', hw3, eq, hw, TL_take, TL_drop, hlt, h, hg, hge]
          refine ⟨by omega, i + 1, _, ⟨by omega, by omega, ha⟩, by omega, ?_, by omega⟩
          simp [TL_app, TL_cons]
          rw [List.take_of_length_le (by simp)]
    · obtain rfl : n = a.length := by omega
      have hlt3 : ¬ ((a.length : Nat) : Int) < a.length := by omega
      rw [List.drop_length, posK] at hp
      have hp' : posK k a = a.length := by omega
      have hat : atK k a a.length = false := by unfold atK; simp
      unfold insK at ha hrl
      rw [hp', hat] at ha hrl
      simp only [Bool.false_eq_true, if_false] at ha hrl
      simp [hlt3, hw, TL_take, TL_drop, hlt, h, hg, hge]
      refine ⟨by omega, i + 1, _, ⟨by omega, by omega, ha⟩, by omega, ?_, by omega⟩
      simp [TL_app, TL_cons, show TL [] = [] from rfl]
  · obtain rfl : i = l.length := by omega
    have hlt : ¬ ((l.length : Nat) : Int) < l.length := by omega
    rw [List.drop_length, srtL] at ha
    rw [ha]
    simp [hlt]

/-! ### from -/
def fromL (step e : Int) : Nat → Int → List Int
  | 0, _ => []
  | m + 1, n => if n < e then n :: fromL step e m (n + step) else []
theorem fromL_len (step e : Int) : ∀ (m : Nat) (n : Int), (fromL step e m n).length ≤ m
  | 0, _ => by simp [fromL]
  | m + 1, n => by
    rw [fromL]
    split
    · have := fromL_len step e m (n + step)
      simp; omega
    · simp
theorem from_pure (n step e : Int) (m : Nat) (hn : 0 ≤ n) (hn2 : n ≤ 100000) (hs0 : 0 ≤ step) (hs : step ≤ 1000) (he : e ≤ 100000) (hm : m ≤ 100000) : Pure Try.prog 41 [.int .i64 n, .int .i64 step, .int .i64 e, .int .i64 m] (.own 1 (IL (fromL step e m n))) := by
  refine pure_go R0_ok Try.func41 Try.ntmps41 comp41 cres41 (by decide) (by simp) ?_
  simp [ac41, ar41, R0]
  refine awpR_loop (α := Int × List Int) (fun p => 0 ≤ p.1 ∧ p.1 ≤ 101000 ∧ p.2.length ≤ m ∧ fromL step e m n = p.2 ++ fromL step e (m - p.2.length) p.1) (fun p => { n := 27, sl := [(0, .sv (.int .i64 p.1)), (1, .sv (.int .i64 step)), (2, .sv (.int .i64 e)), (3, .sv (.int .i64 m)), (9, .own 1 (IL p.2))], bx := [], hp := fun _ => none })
    (fun p => m - p.2.length) (n, []) ⟨hn, by simp; omega, by simp, by simp⟩ (by simp [IL]) ?_
  rintro ⟨x, a⟩ ⟨hx0, hx1, hal, ha⟩
  simp only at hx0 hx1 hal ha ⊢
  by_cases h : a.length < m
  · have hlt : (a.length : Int) < m := by omega
    have hsub : m - a.length = (m - (a.length + 1)) + 1 := by omega
    rw [hsub, fromL] at ha
    by_cases q : x < e
    · rw [if_pos q] at ha
      have hw : IntKind.i64.wrap (x + step) = x + step := by rw [IntKind.wrap_i64]; omega
      simp [hlt, h, q, hw]
      refine ⟨by omega, x + step, a ++ [x], ⟨by omega, by omega, by simp; omega, by simpa using ha⟩, by simp; omega, rfl, ?_⟩
      simp [IL_app, IL]
    · rw [if_neg q] at ha
      have ha' : fromL step e m n = a := by simpa using ha
      simp [hlt, h, q, ha']
  · have hlt : ¬ (a.length : Int) < m := by omega
    have hz : m - a.length = 0 := by omega
    rw [hz, fromL] at ha
    have ha' : fromL step e m n = a := by simpa using ha
    simp [hlt, h, ha']

/-! ### the search -/
noncomputable def RsC : Orc := { p := fun f l => match f with
    | 68 => row eStr2 (fun p => (True, .sv (.bool (lts p.1 p.2)))) l
    | 69 => row eStr (fun p => (True, .sv (.bool false))) l
    | _ => none }
theorem RsC_ok : RsC.ok Try.prog := by
  refine ⟨fun f l c rv h hc => ?_, fun _ _ _ _ _ _ h => (by cases h), fun _ _ _ _ h => (by cases h), fun _ h => (by cases h), fun _ _ _ _ _ _ h => (by cases h), fun _ _ _ _ _ _ _ h => (by cases h)⟩
  simp only [RsC] at h
  split at h
  · exact row_ok h hc (fun p hp => less_pure p.1 p.2)
  · exact row_ok h hc (fun p hp => nan69 p)
  · cases h
theorem RsC_68 (a b : ByteArray) : RsC.p 68 [.str a, .str b] = some (True, .sv (.bool (lts a b))) := row_eq eStr2_inj _ (a, b)
theorem RsC_69 (a : ByteArray) : RsC.p 69 [.str a] = some (True, .sv (.bool false)) := row_eq eStr_inj _ a
theorem RsC_69u : RsC.p 69 [.undef] = none := by
  show row eStr _ _ = none
  unfold row inv
  rw [dif_neg (fun ⟨a, h⟩ => by simp [eStr] at h)]
  rfl
theorem posK_le (k : ByteArray) : ∀ l : List ByteArray, posK k l ≤ l.length
  | [] => by simp [posK]
  | x :: l => by
    rw [posK]
    have := posK_le k l
    split <;> simp <;> omega
/-- What stands below stands ahead. -/
def Mono (k : ByteArray) (l : List ByteArray) : Prop := ∀ i j, i < j → j < l.length → lts (l.getD j ⟨#[]⟩) k = true → lts (l.getD i ⟨#[]⟩) k = true
theorem posK_iff (k : ByteArray) : ∀ (l : List ByteArray), Mono k l → ∀ i, i < l.length → (lts (l.getD i ⟨#[]⟩) k = true ↔ i < posK k l)
  | [], _, i, hi => by simp at hi
  | x :: l, hm, i, hi => by
    rw [posK]
    by_cases q : lts x k = true
    · rw [if_pos q]
      cases i with
      | zero => simp [q]
      | succ i =>
        have hm' : Mono k l := fun a b hab hb h => by
          have := hm (a + 1) (b + 1) (by omega) (by simp; omega) (by simpa using h)
          simpa using this
        have := posK_iff k l hm' i (by simpa using hi)
        simp only [List.getD_cons_succ]
        rw [this]; omega
    · rw [if_neg q]
      cases i with
      | zero => simp [q]
      | succ i =>
        simp only [Nat.not_lt_zero, iff_false]
        intro h
        exact q (by simpa using hm 0 (i + 1) (by omega) hi h)
theorem search_pure (l : List ByteArray) (k : ByteArray) (hl : l.length ≤ 1000) (hm : Mono k l) : Pure Try.prog 42 [.sl 1 (TL l), .str k] (.tup [.sv (.int .i64 (posK k l)), .sv (.bool (atK k l (posK k l)))]) := by
  have e1 := RsC_68
  have e2 := RsC_69
  have e2u := RsC_69u
  have hR := RsC_ok
  generalize RsC = R at hR e1 e2 e2u
  refine pure_go hR Try.func42 Try.ntmps42 comp42 cres42 (by decide) (by simp) ?_
  have hpi := posK_iff k l hm
  have hple := posK_le k l
  simp [ac42, ar42]
  refine awpR_loop (α := Nat × Nat) (fun p => p.1 ≤ posK k l ∧ posK k l ≤ p.2 ∧ p.2 ≤ l.length) (fun p => { n := 54, sl := [(0, .sv (.sl 1 (TL l))), (1, .sv (.str k)), (6, .sv (.int .i64 l.length)), (7, .sv (.int .i64 p.1)), (8, .sv (.int .i64 p.2))], bx := [], hp := fun _ => none })
    (fun p => p.2 - p.1) (0, l.length) ⟨by simp, by simpa using hple, by simp⟩ (by simp) ?_
  rintro ⟨i, j⟩ ⟨hi, hj, hjl⟩
  simp only at hi hj hjl ⊢
  by_cases h : i < j
  · have hlt : (i : Int) < j := by omega
    obtain ⟨c, hc⟩ : ∃ c : Nat, c = (i + j) / 2 := ⟨_, rfl⟩
    have hw1 : IntKind.i64.wrap ((i : Int) + j) = ((i + j : Nat) : Int) := by rw [IntKind.wrap_i64]; omega
    have hw2 : IntKind.u64.wrap ((i + j : Nat) : Int) = ((i + j : Nat) : Int) := by simp [IntKind.wrap, IntKind.bits, IntKind.signed]; omega
    have hw3 : ((i + j : Nat) : Int).fdiv 2 = (c : Int) := by rw [Int.fdiv_eq_ediv_of_nonneg _ (by omega)]; omega
    have hw4 : IntKind.i64.wrap (c : Int) = (c : Int) := by rw [IntKind.wrap_i64]; omega
    have hcl : c < l.length := by omega
    have hcl2 : (c : Int) < l.length := by omega
    have hw5 := wrap_succ hcl (show l.length < 4611686018427387904 by omega)
    have hg := TL_get l hcl
    have hge : (TL l)[c]'(by simpa using hcl) = .str (l.getD c ⟨#[]⟩) := by rw [← hg, List.getElem?_eq_getElem]; rfl
    have hp := hpi c hcl
    generalize l.getD c ⟨#[]⟩ = z at *
    have e1 := e1 z k
    have hw1' : IntKind.i64.wrap ((i : Int) + j) = (i : Int) + j := by rw [IntKind.wrap_i64]; omega
    have hw2' : IntKind.u64.wrap ((i : Int) + j) = (i : Int) + j := by have := hw2; simpa using this
    have hw3' : ((i : Int) + j).fdiv (2 ^ min 1 IntKind.u64.bits) = (c : Int) := by
      have h1 : (2 : Int) ^ min 1 IntKind.u64.bits = 2 := by decide
      rw [h1]; simpa using hw3
    cases q : lts z k with
    | true =>
      rw [q] at e1 hp
      have := hp.1 rfl
      simp [hlt, h, hw1', hw2', hw3', hw4, hcl, hcl2, hg, hge, e1, hw5]
      exact ⟨c + 1, j, ⟨by omega, hj, hjl⟩, by omega, by omega, rfl⟩
    | false =>
      rw [q] at e1 hp
      have hnp : ¬ c < posK k l := fun z => by have := hp.2 z; cases this
      simp [hlt, h, hw1', hw2', hw3', hw4, hcl, hcl2, hg, hge, e1, hw5]
      exact ⟨i, c, ⟨hi, by omega, by omega⟩, by omega, rfl, rfl⟩
  · obtain rfl : i = j := by omega
    have hpe : posK k l = i := by omega
    have hlt : ¬ (i : Int) < i := by omega
    rw [hpe]
    unfold atK
    by_cases h2 : i < l.length
    · have hlt2 : (i : Int) < l.length := by omega
      have hg := TL_get l h2
      have hge : (TL l)[i]'(by simpa using h2) = .str (l.getD i ⟨#[]⟩) := by rw [← hg, List.getElem?_eq_getElem]; rfl
      generalize l.getD i ⟨#[]⟩ = z at *
      have e2a := e2 z
      have e2b := e2 k
      simp [hlt, h2, hlt2, hg, hge, e2a, e2b]
    · have hlt2 : ¬ (i : Int) < l.length := by omega
      have e2b := e2 k
      simp [hlt, h2, hlt2, e2b, e2u]
end Go.Proofs.Ytmfkliabjfngmaa

/- Assign: sorted lists. -/



set_option linter.unusedSimpArgs false
set_option linter.unusedVariables false
set_option maxHeartbeats 4000000
namespace Go.Proofs.Ytmfkliabjfngmaa

open Go.Av Go.Sort

def bk (s : ByteArray) : List UInt8 := s.data.toList
theorem bk_inj {a b : ByteArray} (h : bk a = bk b) : a = b := by
  obtain ⟨⟨l⟩⟩ := a; obtain ⟨⟨m⟩⟩ := b
  simp [bk] at h
  subst h; rfl
theorem lts_iff (a b : ByteArray) : lts a b = true ↔ bk a < bk b := by
  unfold lts bk
  rw [bytesLess_eq, ByteArray.toList_eq, ByteArray.toList_eq]
  simp
/-- Put into its place. -/
def insR (k : List UInt8) : List (List UInt8) → List (List UInt8)
  | [] => [k]
  | x :: l => if x < k then x :: insR k l else if x = k then x :: l else k :: x :: l
theorem insK_bk (k : ByteArray) : ∀ l : List ByteArray, (insK k l).map bk = insR (bk k) (l.map bk)
  | [] => by simp [insK, posK, atK, insR]
  | x :: l => by
    have ih := insK_bk k l
    by_cases q : lts x k = true
    · have q2 : bk x < bk k := (lts_iff x k).1 q
      have h : insK k (x :: l) = x :: insK k l := by
        unfold insK
        rw [posK, if_pos q]
        have : atK k (x :: l) (posK k l + 1) = atK k l (posK k l) := by simp [atK]
        rw [this]
        split <;> simp
      rw [h, List.map_cons, List.map_cons, insR, if_pos q2, ih]
    · have q2 : ¬ bk x < bk k := fun z => q ((lts_iff x k).2 z)
      rw [List.map_cons, insR, if_neg q2]
      have hat : atK k (x :: l) 0 = (x.toList == k.toList) := by simp [atK]
      unfold insK
      rw [posK, if_neg q, hat]
      by_cases q3 : bk x = bk k
      · have : (x.toList == k.toList) = true := by rw [ByteArray.toList_eq, ByteArray.toList_eq]; simpa [bk] using q3
        rw [this, if_pos rfl, if_pos q3, List.map_cons]
      · have : (x.toList == k.toList) = false := by rw [ByteArray.toList_eq, ByteArray.toList_eq]; simpa [bk] using q3
        rw [this, if_neg (by simp), if_neg q3]
        simp
theorem insR_mem (k : List UInt8) : ∀ (l : List (List UInt8)) (x : List UInt8), x ∈ insR k l ↔ x = k ∨ x ∈ l
  | [], x => by simp [insR]
  | y :: l, x => by
    rw [insR]
    split
    · rw [List.mem_cons, insR_mem k l x, List.mem_cons]
      constructor
      · rintro (h | h | h)
        · exact .inr (.inl h)
        · exact .inl h
        · exact .inr (.inr h)
      · rintro (h | h | h)
        · exact .inr (.inl h)
        · exact .inl h
        · exact .inr (.inr h)
    · split
      · rename_i h
        subst h
        simp
      · simp
theorem insR_sorted (k : List UInt8) : ∀ (l : List (List UInt8)), l.Pairwise (· < ·) → (insR k l).Pairwise (· < ·)
  | [], _ => by simp [insR]
  | y :: l, h => by
    rw [List.pairwise_cons] at h
    rw [insR]
    split
    · rename_i q
      rw [List.pairwise_cons]
      refine ⟨fun z hz => ?_, insR_sorted k l h.2⟩
      rcases (insR_mem k l z).1 hz with rfl | hz
      · exact q
      · exact h.1 z hz
    · split
      · exact List.pairwise_cons.2 h
      · rename_i q1 q2
        have hlt : k < y := by
          rcases Std.lt_trichotomy k y with h | h | h
          · exact h
          · exact absurd h.symm q2
          · exact absurd h q1
        rw [List.pairwise_cons]
        refine ⟨fun z hz => ?_, List.pairwise_cons.2 h⟩
        rcases List.mem_cons.1 hz with rfl | hz
        · exact hlt
        · exact List.lt_trans hlt (h.1 z hz)
def SOk (out : List ByteArray) (L : List (List UInt8)) : Prop := (out.map bk).Pairwise (· < ·) ∧ ∀ x, x ∈ out.map bk ↔ x ∈ L
theorem srtL_ok : ∀ (l out : List ByteArray) (L : List (List UInt8)), SOk out L → SOk (srtL l out) (L ++ l.map bk)
  | [], out, L, h => by simpa [srtL] using h
  | k :: l, out, L, h => by
    rw [srtL]
    have e : L ++ (k :: l).map bk = (L ++ [bk k]) ++ l.map bk := by simp
    rw [e]
    refine srtL_ok l _ _ ?_
    refine ⟨by rw [insK_bk]; exact insR_sorted _ _ h.1, fun x => ?_⟩
    rw [insK_bk, insR_mem, h.2 x]
    simp [or_comm]
def srt (l : List ByteArray) : List ByteArray := srtL l []
theorem srt_ok (l : List ByteArray) : SOk (srt l) (l.map bk) := by
  have := srtL_ok l [] [] ⟨by simp, by simp⟩
  simpa [srt] using this
theorem sorted_ext : ∀ {l m : List (List UInt8)}, l.Pairwise (· < ·) → m.Pairwise (· < ·) → (∀ x, x ∈ l ↔ x ∈ m) → l = m
  | [], [], _, _, _ => rfl
  | [], y :: m, _, _, h => by have := (h y).2 (by simp); simp at this
  | x :: l, [], _, _, h => by have := (h x).1 (by simp); simp at this
  | x :: l, y :: m, hl, hm, h => by
    rw [List.pairwise_cons] at hl hm
    have hxy : x = y := by
      have h1 := (h x).1 (by simp)
      have h2 := (h y).2 (by simp)
      rcases List.mem_cons.1 h1 with h1 | h1
      · exact h1
      rcases List.mem_cons.1 h2 with h2 | h2
      · exact h2.symm
      exact absurd (List.lt_trans (hl.1 y h2) (hm.1 x h1)) (List.lt_irrefl x)
    subst hxy
    rw [sorted_ext hl.2 hm.2]
    intro z
    constructor
    · intro hz
      rcases List.mem_cons.1 ((h z).1 (by simp [hz])) with rfl | h3
      · exact absurd (hl.1 z hz) (List.lt_irrefl z)
      · exact h3
    · intro hz
      rcases List.mem_cons.1 ((h z).2 (by simp [hz])) with rfl | h3
      · exact absurd (hm.1 z hz) (List.lt_irrefl z)
      · exact h3
theorem map_bk_inj {l m : List ByteArray} (h : l.map bk = m.map bk) : l = m := by
  induction l generalizing m with
  | nil => cases m <;> simp at h ⊢
  | cons a l ih =>
    cases m with
    | nil => simp at h
    | cons b m =>
      simp only [List.map_cons, List.cons.injEq] at h
      rw [bk_inj h.1, ih h.2]
theorem srt_ext {l m : List ByteArray} (h : ∀ x, x ∈ l.map bk ↔ x ∈ m.map bk) : srt l = srt m := by
  obtain ⟨h1, h2⟩ := srt_ok l
  obtain ⟨h3, h4⟩ := srt_ok m
  exact map_bk_inj (sorted_ext h1 h3 (fun x => by rw [h2, h4]; exact h x))
theorem srtL_len : ∀ (l out : List ByteArray), (srtL l out).length ≤ out.length + l.length
  | [], out => by simp [srtL]
  | k :: l, out => by
    have h1 := srtL_len l (insK k out)
    have h2 := insK_len k out
    rw [srtL]
    simp only [List.length_cons]
    omega
theorem srt_len (l : List ByteArray) : (srt l).length ≤ l.length := by
  have := srtL_len l []
  simpa [srt] using this
theorem srt_mono (l : List ByteArray) (k : ByteArray) : Mono k (srt l) := by
  obtain ⟨h1, _⟩ := srt_ok l
  intro i j hij hj h
  rw [lts_iff] at h ⊢
  refine List.lt_trans ?_ h
  rw [List.pairwise_iff_getElem] at h1
  have := h1 i j (by simp; omega) (by simpa using hj) hij
  simp only [List.getElem_map] at this
  simpa [List.getD_eq_getElem?_getD, List.getElem?_eq_getElem hj, List.getElem?_eq_getElem (show i < (srt l).length by omega)] using this
/-- Compacting a sorted list leaves the strictly rising one. -/
theorem compact_step (zs : List (List UInt8)) (h : ∀ i j, i < j → j < zs.length → zs.toArray[i]! ≤ zs.toArray[j]!) : ∀ m, m ≤ zs.length →
    (Lib.compactUpTo zs.toArray m).Pairwise (· < ·) ∧ ∀ x, x ∈ Lib.compactUpTo zs.toArray m ↔ ∃ j, j < m ∧ zs.toArray[j]! = x
  | 0, _ => by simp [Lib.compactUpTo]
  | m + 1, hm => by
    obtain ⟨h1, h2⟩ := compact_step zs h m (by omega)
    rw [Lib.compactUpTo_succ]
    by_cases q : Lib.keeps zs.toArray m = true
    · rw [if_pos q]
      refine ⟨?_, fun x => ?_⟩
      · rw [List.pairwise_append]
        refine ⟨h1, by simp, fun a ha b hb => ?_⟩
        simp only [List.mem_singleton] at hb
        subst hb
        obtain ⟨j, hj, rfl⟩ := (h2 a).1 ha
        have hm0 : m ≠ 0 := by omega
        have hne : zs.toArray[m]! ≠ zs.toArray[m - 1]! := by
          unfold Lib.keeps at q
          simp only [decide_eq_true_eq] at q
          rcases q with q | q
          · exact absurd q hm0
          · exact q
        have e1 : zs.toArray[m - 1]! < zs.toArray[m]! := Std.lt_of_le_of_ne (h (m - 1) m (by omega) (by omega)) (fun z => hne z.symm)
        by_cases hj2 : j = m - 1
        · rw [hj2]; exact e1
        · exact List.lt_of_le_of_lt (h j (m - 1) (by omega) (by omega)) e1
      · rw [List.mem_append, h2]
        simp only [List.mem_singleton]
        constructor
        · rintro (⟨j, hj, e⟩ | e)
          · exact ⟨j, by omega, e⟩
          · exact ⟨m, by omega, e.symm⟩
        · rintro ⟨j, hj, e⟩
          by_cases hjm : j = m
          · subst hjm; exact .inr e.symm
          · exact .inl ⟨j, by omega, e⟩
    · rw [if_neg q, List.append_nil]
      refine ⟨h1, fun x => ?_⟩
      rw [h2]
      have hq : ¬ (m = 0 ∨ zs.toArray[m]! ≠ zs.toArray[m - 1]!) := by
        intro z
        apply q
        unfold Lib.keeps
        simpa using z
      constructor
      · rintro ⟨j, hj, e⟩; exact ⟨j, by omega, e⟩
      · rintro ⟨j, hj, e⟩
        by_cases hjm : j = m
        · subst hjm
          have e2 : zs.toArray[j]! = zs.toArray[j - 1]! := Classical.byContradiction fun z => hq (.inr z)
          exact ⟨j - 1, by omega, by rw [← e2]; exact e⟩
        · exact ⟨j, by omega, e⟩
theorem compact_sorted (l : List ByteArray) : Lib.compact ((l.map bk).mergeSort fun x y => decide (x ≤ y)) = (srt l).map bk := by
  obtain ⟨h1, h2⟩ := srt_ok l
  have hp := List.pairwise_mergeSort (le := fun (x y : List UInt8) => decide (x ≤ y)) (fun a b c hab hbc => by simp only [decide_eq_true_eq] at *; exact List.le_trans hab hbc) (fun a b => by simp only [Bool.or_eq_true, decide_eq_true_eq]; exact List.le_total a b) (l.map bk)
  have hmem : ∀ x, x ∈ (l.map bk).mergeSort (fun x y => decide (x ≤ y)) ↔ x ∈ l.map bk := fun x => List.mem_mergeSort
  generalize (l.map bk).mergeSort (fun x y => decide (x ≤ y)) = zs at *
  have hget : ∀ j, j < zs.length → zs.toArray[j]! = zs.getD j [] := fun j hj => by simp [List.getD_eq_getElem?_getD, hj]
  rw [List.pairwise_iff_getElem] at hp
  obtain ⟨g1, g2⟩ := compact_step zs (fun i j hij hj => by
    have := hp i j (by omega) hj hij
    simp only [decide_eq_true_eq] at this
    rw [hget i (by omega), hget j hj]
    simpa [List.getD_eq_getElem?_getD, hj, show i < zs.length by omega] using this) zs.length (Nat.le_refl _)
  refine sorted_ext g1 h1 (fun x => ?_)
  rw [show Lib.compact zs = Lib.compactUpTo zs.toArray zs.length from rfl, g2, h2, ← hmem, List.mem_iff_getElem]
  constructor
  · rintro ⟨j, hj, e⟩
    refine ⟨j, hj, ?_⟩
    rw [hget j hj] at e
    simpa [List.getD_eq_getElem?_getD, hj] using e
  · rintro ⟨j, hj, e⟩
    refine ⟨j, hj, ?_⟩
    rw [hget j hj]
    simpa [List.getD_eq_getElem?_getD, hj] using e
end Go.Proofs.Ytmfkliabjfngmaa

/- assign.Sorted: Clone, Sort and Compact by the shelf's contracts. -/












set_option linter.unusedSimpArgs false
set_option linter.unusedVariables false
set_option maxHeartbeats 4000000
namespace Go.Proofs.Ytmfkliabjfngmaa

open Go.RowKit Go.Maps Go.Sort Go.Shelf

/-- What the walk leaves. -/
def Left (ty : TypeId) (w : World) (ss : List (List UInt8)) (e : Ending) (w' : World) : Prop :=
  ∃ g cap, e = .returned (.slice (some ⟨g, 0, none⟩) (Lib.compact (ss.mergeSort fun x y => decide (x ≤ y))).length cap) ∧
    w'.ownsRow w.heap.size ty 1 (.slice (some ⟨g, 0, none⟩) (Lib.compact (ss.mergeSort fun x y => decide (x ≤ y))).length cap) (Lib.compact (ss.mergeSort fun x y => decide (x ≤ y))).length ((Lib.compact (ss.mergeSort fun x y => decide (x ≤ y))).map encStr) ∧ Below w.heap.size w w'
theorem left_of {ty : TypeId} {w w1 : World} {g cap n nn q : Nat} {os : Array Obj} {ss : List (List UInt8)} (hown : w1.ownsRow w.heap.size ty 1 (.slice (some ⟨g, 0, none⟩) n cap) n (ss.map encStr)) (hbel : Below w.heap.size w w1) (hbg : w.heap.size ≤ g) (hlen : ss.length = n) :
    Left ty w ss (.returned (.slice (some ⟨g, 0, none⟩) (Lib.compact (ss.mergeSort fun x y => decide (x ≤ y))).length cap))
      (putRow encStr (Sort.ahead (grow (putRow encStr (Sort.ahead w1 nn) g 0 (ss.mergeSort fun x y => decide (x ≤ y)).toArray) os) q) g 0 (Lib.compact (ss.mergeSort fun x y => decide (x ≤ y)) ++ List.replicate (n - (Lib.compact (ss.mergeSort fun x y => decide (x ≤ y))).length) []).toArray) := by
  have hl2 : (ss.mergeSort fun x y => decide (x ≤ y)).length = ss.length := List.length_mergeSort ss
  have hle := Lib.compact_length_le (ss.mergeSort fun x y => decide (x ≤ y))
  subst hlen
  rcases hown.2 with ⟨h0, _⟩ | ⟨g', cap', cur, hv, hbase, hb, h1, h2, h3, h4⟩
  · cases h0
  cases hv
  have hs := ownsRow_sorted (n := nn) (os := os) (ts := ss.mergeSort fun x y => decide (x ≤ y)) hl2 hbase hb h1 h2 h3
  have hc := Lib.ownsRow_putRow (q := q) (k := (Lib.compact (ss.mergeSort fun x y => decide (x ≤ y))).length) (ys := Lib.compact (ss.mergeSort fun x y => decide (x ≤ y)) ++ List.replicate (ss.length - (Lib.compact (ss.mergeSort fun x y => decide (x ≤ y))).length) []) hs (by simp; omega) (by omega)
  rw [List.take_left] at hc
  exact ⟨g, cap, rfl, hc, Lib.below_putRow (hbel.grown (grownBy_sorted _) hbel.size (fun j hj => by cases hj; exact hbase)) hbg⟩

set_option maxRecDepth 100000 in
theorem sorted_tail (n : Nat) (arg : Value) (ss : List (List UInt8)) (w : World) (hn : n ≤ 4611686018427387903)
    (hclone : Calls Try.prog 37 #[arg] w fun e w' => ∃ v', e = .returned v' ∧ w'.ownsRow w.heap.size (Try.clone37_ren.t 26) 1 v' n (ss.map encStr) ∧ v' ≠ .slice none 0 0 ∧ Below w.heap.size w w') :
    Calls Try.prog 12 #[arg] w (Left (Try.clone37_ren.t 26) w ss) := by
  go_enter Try.func12, Try.ntmps12
  go_wp2_with (first
    | (go_at_call 37; refine hclone.mono ?_; rintro e w1 ⟨v1, rfl, hown, hnn, hbel⟩
       obtain ⟨g, cap, rfl, hbg, hgl, hncap, hcm, hlen, hH⟩ := Lib.holds_of_ownsRow hown hnn
       have hsort := (AnyM.slices_Sort_string Try.sort38 g 0 cap ss w1 hH hgl (by omega))
       rw [hlen] at hsort
       have X : Aside (w1.ownsRow w.heap.size (Try.clone37_ren.t 26) 1 (.slice (some ⟨g, 0, none⟩) n cap) n (ss.map encStr) ∧ Below w.heap.size w w1 ∧ w.heap.size ≤ g ∧ g < w1.heap.size ∧ n ≤ cap ∧ cap ≤ maxLen ∧ ss.length = n ∧ Holds encStr w1 g 0 ss.toArray) := ⟨hown, hbel, hbg, hgl, hncap, hcm, hlen, hH⟩
       clear hown hbel hH hnn)
    | (go_at_call 38; refine hsort.mono ?_; rintro e w2 ⟨rfl, nn, os, rfl⟩
       have hl2 : (ss.mergeSort fun x y => decide (x ≤ y)).length = n := by rw [List.length_mergeSort]; exact X.out.2.2.2.2.2.2.1
       have hH2 : Holds encStr (grow (putRow encStr (Sort.ahead w1 nn) g 0 (ss.mergeSort fun x y => decide (x ≤ y)).toArray) os) g 0 (ss.mergeSort fun x y => decide (x ≤ y)).toArray :=
         holds_grow encStr _ os g 0 _ (by simpa [putRow, mapBlock, Sort.ahead] using X.out.2.2.2.1) (holds_putRow encStr _ g 0 _ _ (holds_ahead encStr w1 nn g 0 _ X.out.2.2.2.2.2.2.2) (by simp))
       have hcomp := (AnyG.slices_Compact_string Try.compact39 g 0 cap (ss.mergeSort fun x y => decide (x ≤ y)) _ hH2 (by omega) (by have := X.out.2.2.2.2.1; omega))
       rw [hl2] at hcomp
       clear hH2 hsort)
    | (go_at_call 39; refine hcomp.mono ?_; rintro e w3 ⟨rfl, q, rfl⟩))
  go_ret
  exact left_of X.out.1 X.out.2.1 X.out.2.2.1 X.out.2.2.2.2.2.2.1
theorem sorted_any (b off n c : Nat) (zs : List ByteArray) (w : World) (hz : n ≤ zs.length) (hbig : n * 16 ≤ 140737488355328) (hc : ∀ j, j < zs.length → w.cell? ⟨b, off + j, none⟩ = some (.string (zs.getD j ByteArray.empty))) :
    Calls Try.prog 12 #[.slice (some ⟨b, off, none⟩) n c] w (Left (Try.clone37_ren.t 26) w ((zs.take n).map (·.data.toList))) :=
  sorted_tail n _ _ w (by omega) ((AnyG.slices_Clone_string Try.clone37 b off n c zs w hz hbig hc).mono fun e w' ⟨v', he, hown, hnn, hbel⟩ => ⟨v', he, by rw [Lib.map_encStr]; exact hown, hnn, hbel⟩)
theorem sorted_zero (a : Addr) (c : Nat) (w : World) : Calls Try.prog 12 #[.slice (some a) 0 c] w (Left (Try.clone37_ren.t 26) w []) :=
  sorted_tail 0 _ [] w (by omega) (AnyG.slices_Clone_string_zero Try.clone37 a c w)
set_option maxRecDepth 100000 in
theorem sorted_nil (n c : Nat) (w : World) : Calls Try.prog 12 #[.slice none n c] w fun e w' => e = .returned (.slice none 0 0) ∧ w' = w := by
  go_enter Try.func12, Try.ntmps12
  go_wp2_with (first
    | (go_at_call 37; refine (AnyG.slices_Clone_string_nil Try.clone37 n c _).mono ?_; rintro e w' ⟨rfl, rfl⟩)
    | (go_at_call 38; refine (AnyM.slices_Sort_string_none Try.sort38 none 0 _).mono ?_; rintro e w' ⟨rfl, rfl⟩)
    | (go_at_call 39; refine (AnyG.slices_Compact_string_empty Try.compact39 none 0 _).mono ?_; rintro e w' ⟨rfl, rfl⟩))
  go_ret
  exact ⟨rfl, rfl⟩
end Go.Proofs.Ytmfkliabjfngmaa

/- assign.Sorted as a contract. -/

set_option linter.unusedSimpArgs false
set_option linter.unusedVariables false
set_option maxHeartbeats 4000000
namespace Go.Proofs.Ytmfkliabjfngmaa

open Go.Av Go.Sort Go.Maps Go.Shelf Go.RowKit

theorem txts_of_rep {mu : Mem} {w : World} (hm : MemOK mu w) {l : List ByteArray} {v : Value} (h : Rep mu (.sl 1 (TL l)) v) : (l = [] ∧ ∃ a cap, v = .slice a 0 cap) ∨ ∃ b off cap, v = .slice (some ⟨b, off, none⟩) l.length cap ∧ ∀ i, i < l.length → w.cell? ⟨b, off + i, none⟩ = some (.string (l.getD i ⟨#[]⟩)) := by
  rcases h.inv_sl with ⟨⟨p, cap, rfl, _⟩, hx⟩ | ⟨b, off, cap, vals, rfl, h1, h2, h3, h4⟩
  · exact .inl ⟨by simpa [TL] using hx, p, cap, rfl⟩
  · refine .inr ⟨b, off, cap, by rw [TL_length], fun i hi => ?_⟩
    have hi' : i < (TL l).length := by simpa using hi
    have hgd : (TL l).getD i .undef = .str (l.getD i ⟨#[]⟩) := by rw [List.getD_eq_getElem?_getD]; exact TL_get l hi
    have h5 := h4 i 0 hi' (by omega)
    rw [hgd] at h5
    have h6 := (hm _ _ _ (h3 i 0 hi' (by omega))).1
    rw [Rep.inv_str (h5 : Rep mu (.str _) _)] at h6
    simpa using h6
theorem ret_nil {mu : Mem} {w w' : World} (hm : MemOK mu w) (hb : Below w.heap.size w w') : ∃ val mu', Ending.returned (.slice none 0 0) = .returned val ∧ Ext (fun _ => False) w w' ∧ mu.le mu' ∧ MemOK mu' w' ∧ (∀ b j, b < w.heap.size → mu' b j = mu b j) ∧ RetRep w.heap.size mu' w' (.sv (.sl 1 [])) val := by
  have hext : Ext (fun _ => False) w w' := ⟨hb.os, hb.tape, hb.output, hb.size, fun k hk _ => hb.block k hk⟩
  refine ⟨_, mu, rfl, hext, Mem.le_refl _, ?_, fun _ _ _ => rfl, fun _ => none, .slnil 1, fun _ _ q => by cases q⟩
  intro b j v hv
  have hlt := hm.lt hv
  exact ⟨(hb.cell (p := ⟨b, j, none⟩) hlt).trans (hm b j v hv).1, (hm b j v hv).2⟩
/-- A new row of texts, as a result that is shared. -/
theorem ret_row {mu : Mem} {w w' : World} {ty : TypeId} {v : Value} {X : List ByteArray} (hm : MemOK mu w) (hb : Below w.heap.size w w') (hrow : w'.ownsRow w.heap.size ty 1 v X.length ((X.map bk).map encStr)) :
    ∃ val mu', Ending.returned v = .returned val ∧ Ext (fun _ => False) w w' ∧ mu.le mu' ∧ MemOK mu' w' ∧ (∀ b j, b < w.heap.size → mu' b j = mu b j) ∧ RetRep w.heap.size mu' w' (.sv (.sl 1 (TL X))) val := by
  have hext : Ext (fun _ => False) w w' := ⟨hb.os, hb.tape, hb.output, hb.size, fun k hk _ => hb.block k hk⟩
  obtain ⟨q1, q2⟩ := hrow
  rcases q2 with ⟨rfl, hn⟩ | ⟨g, cap2, cur, rfl, hg, hcur, hcap, _, hsz, htake⟩
  · have : X = [] := List.length_eq_zero_iff.1 hn
    subst this
    exact ret_nil hm hb
  · simp only [Nat.mul_one] at htake q1 hsz
    have hcell : ∀ i, i < X.length → cur[i]? = some (.string (X.getD i ⟨#[]⟩)) := by
      intro i hi
      have h1 : cur.toList[i]? = ((X.map bk).map encStr)[i]? := by
        rw [← htake, List.getElem?_take, if_pos hi]
      rw [← Array.getElem?_toList, h1]
      simp [hi, bk, List.getD_eq_getElem?_getD]
    have hmuN : ∀ b j v, mu b j = some v → b ≠ g := fun b j v hv q => by have := hm.lt hv; omega
    refine ⟨_, fun b j => if b = g ∧ j < X.length then cur[j]? else mu b j, rfl, hext, ?_, ?_, ?_, fun _ => none, ?_, fun _ _ q => by cases q⟩
    · intro b j v hv
      simp only
      rw [if_neg (fun q => hmuN b j v hv q.1)]
      exact hv
    · intro b j v hv
      simp only at hv
      split at hv
      · rename_i q
        obtain ⟨rfl, q2⟩ := q
        refine ⟨by rw [cell_of_block hcur]; exact hv, ?_⟩
        rw [hcell j q2] at hv
        cases hv
        rfl
      · have hlt := hm.lt hv
        exact ⟨(hb.cell (p := ⟨b, j, none⟩) hlt).trans (hm b j v hv).1, (hm b j v hv).2⟩
    · intro b j hbl
      simp only
      rw [if_neg (fun q => by omega)]
    · have hT : (TL X).length = X.length := by simp
      have := Rep.sl (mu := fun b j => if b = g ∧ j < X.length then cur[j]? else mu b j) 1 (TL X) g 0 cap2 (fun i _ => .string (X.getD i ⟨#[]⟩)) (by omega) (fun x hx => by
          simp only [TL, List.mem_map] at hx
          obtain ⟨r, _, rfl⟩ := hx
          rfl) (fun i j hi hj => by
          have hi2 : i < X.length := by omega
          obtain rfl : j = 0 := by omega
          simp only [Nat.zero_add, Nat.mul_one, Nat.add_zero]
          rw [if_pos ⟨trivial, hi2⟩]
          exact hcell i hi2) (fun i j hi hj => by
          have hi2 : i < X.length := by omega
          obtain rfl : j = 0 := by omega
          have e1 : (TL X).getD i .undef = .str (X.getD i ⟨#[]⟩) := by rw [List.getD_eq_getElem?_getD]; exact TL_get X hi2
          rw [e1]
          exact .str _)
      rw [hT] at this
      exact this
theorem sorted_pure (l : List ByteArray) (hl : l.length ≤ 1000) : Pure Try.prog 12 [.sl 1 (TL l)] (.sv (.sl 1 (TL (srt l)))) := by
  intro mu w vs hm hra
  obtain ⟨v0, rfl⟩ : ∃ v0, vs = [v0] := by
    match vs, hra.1 with
    | [a], _ => exact ⟨a, rfl⟩
  have e0 : srt [] = [] := rfl
  rcases txts_of_rep hm (hra.2 0 (by simp) : Rep mu (.sl 1 (TL l)) v0) with ⟨rfl, a, cap, rfl⟩ | ⟨b, off, cap, rfl, hc⟩
  · cases a with
    | none =>
      refine (sorted_nil 0 cap w).mono ?_
      rintro e w' ⟨rfl, rfl⟩
      exact ret_nil hm (Below.refl _ _)
    | some a =>
      refine (sorted_zero a cap w).mono ?_
      rintro e w' ⟨g, cap, rfl, hrow, hb⟩
      have hs := compact_sorted []
      simp only [List.map_nil] at hs
      rw [hs] at hrow ⊢
      simp only [List.length_map] at hrow ⊢
      exact ret_row hm hb hrow
  · refine (sorted_any b off l.length cap l w (Nat.le_refl _) (by omega) hc).mono ?_
    rintro e w' ⟨g, cap, rfl, hrow, hb⟩
    have hs := compact_sorted l
    rw [List.take_length] at hrow
    rw [List.take_length]
    have hbk : l.map (·.data.toList) = l.map bk := rfl
    rw [hbk, hs] at hrow
    rw [hbk, hs]
    simp only [List.length_map] at hrow ⊢
    exact ret_row hm hb hrow
end Go.Proofs.Ytmfkliabjfngmaa
