import Derived.Test.YtflcdbfcipkhkaaMDbL
import Derived.Shelf.SlIter.Nil
import Derived.Shelf.SortM.Plain
import Derived.Shelf.SortM.SortNone
import Derived.Ground.GgzProg
import Derived.Ground.SlgmProg
import Derived.Test.YtflcdbfcipkhkaaDkS
import Derived.Test.YtflcdbfcipkhkaaProg
import Derived.Maps.Own
import Derived.Maps.Views
import Derived.Maps.OwnSet
import Derived.WalkKit
import Derived.Deep.LoopGhost

set_option linter.unusedVariables false
set_option linter.unusedSimpArgs false

/- Segment: blocks of a batch; what is light; Next, Newest, Need, Blocks, Same. -/

set_option linter.unusedSimpArgs false
set_option linter.unusedVariables false
set_option maxHeartbeats 8000000
namespace Go.Proofs.Ytflcdbfcipkhkaa
open Go.Av

def eInt64 (n : Int) : List SV := [.int .i64 n]
theorem eInt64_inj (a b : Int) (h : eInt64 a = eInt64 b) : a = b := by simpa [eInt64] using h
def blkN (n : Int) : Int := if n ≤ 0 then 1 else (n - 1) / 61 + 1
theorem blk_pure (n : Int) (h : n ≤ 1000000) : Pure Try.prog 147 [.int .i64 n] (.sv (.int .i64 (blkN n))) := by
  refine pure_go R0_ok Try.func147 Try.ntmps147 comp147 cres147 (by decide) (by simp) ?_
  by_cases q : n ≤ 0
  · simp [ac147, ar147, R0, blkN, q]
  · have e1 : IntKind.i64.wrap (n - 1) = n - 1 := by rw [IntKind.wrap_i64]; omega
    have e2 : (n - 1).tdiv 61 = (n - 1) / 61 := Int.tdiv_eq_ediv_of_nonneg (by omega)
    have e3 : IntKind.i64.wrap ((n - 1) / 61) = (n - 1) / 61 := by rw [IntKind.wrap_i64]; omega
    have e4 : IntKind.i64.wrap ((n - 1) / 61 + 1) = (n - 1) / 61 + 1 := by rw [IntKind.wrap_i64]; omega
    simp [ac147, ar147, R0, blkN, q, e1, e2, e3, e4]
theorem rblk_pure (n : Int) (h0 : 0 ≤ n) (h : n ≤ 1000000) : Pure Try.prog 148 [.int .i64 n] (.sv (.int .i64 (blkN n))) := by
  refine pure_go R0_ok Try.func148 Try.ntmps148 comp148 cres148 (by decide) (by simp) ?_
  simp [ac148, ar148, R0]
  refine awpR_loop (α := Nat) (fun k => 61 * (k : Int) ≤ n ∧ (k = 0 ∨ 61 * (k : Int) < n)) (fun k => { n := 15, sl := [(0, .sv (.int .i64 (n - 61 * k))), (3, .sv (.int .i64 (1 + k)))], bx := [], hp := fun _ => none })
    (fun k => (n - 61 * k).toNat) 0 ⟨by omega, .inl rfl⟩ (by simp) ?_
  rintro k ⟨hk, hk2⟩
  have e1 : IntKind.i64.wrap (n - 61 * (k : Int) - 61) = n - 61 * ((k + 1 : Nat) : Int) := by rw [IntKind.wrap_i64]; omega
  have e2 : IntKind.i64.wrap (1 + (k : Int) + 1) = 1 + ((k + 1 : Nat) : Int) := by rw [IntKind.wrap_i64]; omega
  by_cases q : 61 < n - 61 * (k : Int)
  · have q2 : 1 + (k : Int) < 4294967296 := by omega
    simp [q, q2, e1, e2, -Int.natCast_add]
    refine ⟨k + 1, ⟨by omega, by omega⟩, by omega, ?_⟩
    simp
  · have : blkN n = 1 + (k : Int) := by unfold blkN; split <;> omega
    simp [q, this]
noncomputable def RsC : Orc := { p := fun f l => match f with
    | 147 => row eInt64 (fun n => (n ≤ 1000000, .sv (.int .i64 (blkN n)))) l
    | 148 => row eInt64 (fun n => (0 ≤ n ∧ n ≤ 1000000, .sv (.int .i64 (blkN n)))) l
    | _ => none }
theorem RsC_ok : RsC.ok Try.prog := by
  refine ⟨fun f l c rv h hc => ?_, fun _ _ _ _ _ _ h => (by cases h), fun _ _ _ _ h => (by cases h), fun _ h => (by cases h), fun _ _ _ _ _ _ h => (by cases h), fun _ _ _ _ _ _ _ h => (by cases h)⟩
  simp only [RsC] at h
  split at h
  · exact row_ok h hc (fun n hn => blk_pure n hn)
  · exact row_ok h hc (fun n hn => rblk_pure n hn.1 hn.2)
  · cases h
theorem RsC_147 (n : Int) : RsC.p 147 [.int .i64 n] = some (n ≤ 1000000, .sv (.int .i64 (blkN n))) := row_eq eInt64_inj _ n
theorem RsC_148 (n : Int) : RsC.p 148 [.int .i64 n] = some (0 ≤ n ∧ n ≤ 1000000, .sv (.int .i64 (blkN n))) := row_eq eInt64_inj _ n
theorem frm_pure (n : Int) (h0 : 0 ≤ n) (h : n ≤ 100000) : Pure Try.prog 117 [.int .i64 n] (.sv (.int .i64 (blkN (n + 12)))) := by
  have e := RsC_147 (n + 12)
  have hR := RsC_ok
  generalize RsC = R at hR e
  refine pure_go hR Try.func117 Try.ntmps117 comp117 cres117 (by decide) (by simp) ?_
  have e1 : ¬ 1099511627776 < n := by omega
  have e2 : IntKind.i64.wrap (n + 12) = n + 12 := by rw [IntKind.wrap_i64]; omega
  have e3 : (if 0 < n then n else 0) = n := by split <;> omega
  simp [ac117, ar117, e1, e2, e3, e]
  omega
theorem rfrm_pure (n : Int) (h0 : 0 ≤ n) (h : n ≤ 100000) : Pure Try.prog 118 [.int .i64 n] (.sv (.int .i64 (blkN (n + 12)))) := by
  have e := RsC_148 (n + 12)
  have hR := RsC_ok
  generalize RsC = R at hR e
  refine pure_go hR Try.func118 Try.ntmps118 comp118 cres118 (by decide) (by simp) ?_
  have e1 : ¬ 1099511627776 < n := by omega
  have e2 : IntKind.i64.wrap (n + 12) = n + 12 := by rw [IntKind.wrap_i64]; omega
  have e3 : (if 0 < n then n else 0) = n := by split <;> omega
  simp [ac118, ar118, e1, e2, e3, e]
  omega
/-- How many blocks a batch needs. -/
def needB (b : Bat) : Int := if batE b = 0 then blkN ((putB b).length + 12) else 0
theorem needB_le (b : Bat) : 0 ≤ needB b ∧ needB b ≤ 200 := by
  have := putB_le b
  unfold needB blkN
  repeat' split
  all_goals omega
noncomputable def RsD : Orc := { p := fun f l => match f with
    | 117 => row eInt64 (fun n => (0 ≤ n ∧ n ≤ 100000, .sv (.int .i64 (blkN (n + 12))))) l
    | 118 => row eInt64 (fun n => (0 ≤ n ∧ n ≤ 100000, .sv (.int .i64 (blkN (n + 12))))) l
    | f => RsB.p f l }
theorem RsD_ok : RsD.ok Try.prog := by
  refine ⟨fun f l c rv h hc => ?_, fun _ _ _ _ _ _ h => (by cases h), fun _ _ _ _ h => (by cases h), fun _ h => (by cases h), fun _ _ _ _ _ _ h => (by cases h), fun _ _ _ _ _ _ _ h => (by cases h)⟩
  simp only [RsD] at h
  split at h
  · exact row_ok h hc (fun n hn => frm_pure n hn.1 hn.2)
  · exact row_ok h hc (fun n hn => rfrm_pure n hn.1 hn.2)
  · exact RsB_ok.p _ _ _ _ h hc
theorem RsD_117 (n : Int) : RsD.p 117 [.int .i64 n] = some (0 ≤ n ∧ n ≤ 100000, .sv (.int .i64 (blkN (n + 12)))) := row_eq eInt64_inj _ n
theorem RsD_118 (n : Int) : RsD.p 118 [.int .i64 n] = some (0 ≤ n ∧ n ≤ 100000, .sv (.int .i64 (blkN (n + 12)))) := row_eq eInt64_inj _ n
theorem RsD_84 (b : Bat) : RsD.p 84 [bsv b] = some (b.ok, .tup [.own 1 (bs (putB b)), .sv (.int .i64 (batE b))]) := RsB_84 b
theorem RsD_87 (b : Bat) : RsD.p 87 [bsv b] = some (b.ok, .tup [.own 1 (bs (putB b)), .sv (.int .i64 (batE b))]) := RsB_87 b
theorem need_pure (b : Bat) (hb : b.ok) : Pure Try.prog 60 [b.sv] (.sv (.int .i64 (needB b))) := by
  have e1 := RsD_84 b
  have e2 := RsD_117 (putB b).length
  have hR := RsD_ok
  have hle := putB_le b
  generalize RsD = R at hR e1 e2
  refine pure_go hR Try.func60 Try.ntmps60 comp60 cres60 (by decide) (by simp) ?_
  unfold needB
  by_cases q : batE b = 0
  · rw [q] at e1
    simp [ac60, ar60, Bat.sv, Bat.cells, e1, e2, hb, q]
    omega
  · simp [ac60, ar60, Bat.sv, Bat.cells, e1, e2, hb, q]
theorem rneed_pure (b : Bat) (hb : b.ok) : Pure Try.prog 61 [b.sv] (.sv (.int .i64 (needB b))) := by
  have e1 := RsD_87 b
  have e2 := RsD_118 (putB b).length
  have hR := RsD_ok
  have hle := putB_le b
  generalize RsD = R at hR e1 e2
  refine pure_go hR Try.func61 Try.ntmps61 comp61 cres61 (by decide) (by simp) ?_
  unfold needB
  by_cases q : batE b = 0
  · rw [q] at e1
    simp [ac61, ar61, Bat.sv, Bat.cells, e1, e2, hb, q]
    omega
  · simp [ac61, ar61, Bat.sv, Bat.cells, e1, e2, hb, q]
end Go.Proofs.Ytflcdbfcipkhkaa

/- Segment: what is light; Next, Newest, Blocks, Check, Same. -/

set_option linter.unusedSimpArgs false
set_option linter.unusedVariables false
set_option maxHeartbeats 8000000
namespace Go.Proofs.Ytflcdbfcipkhkaa
open Go.Av

/-- The offset behind a segment. -/
def segN (s : Seg) : Int := match s.ls.getLast? with
  | none => s.ba
  | some b => nxB b
theorem segN_get (s : Seg) (h : s.ls.length ≠ 0) : segN s = nxB (s.ls.getD (s.ls.length - 1) bat0) := by
  obtain ⟨ba, l⟩ := s
  unfold segN
  simp only at h ⊢
  rw [List.getLast?_eq_getElem?, List.getD_eq_getElem?_getD, List.getElem?_eq_getElem (by omega)]
  rfl
theorem next_seg (s : Seg) (hs : s.ls.length ≤ 1000) : Pure Try.prog 68 [s.sv] (.sv (.int .i64 (segN s))) := by
  have e1 := RsB_70
  have hR := RsB_ok
  generalize RsB = R at hR e1
  refine pure_go hR Try.func68 Try.ntmps68 comp68 cres68 (by decide) (by simp) ?_
  obtain ⟨ba, l⟩ := s
  simp only at hs
  by_cases h0 : l.length = 0
  · have : l = [] := List.length_eq_zero_iff.1 h0
    subst this
    simp [ac68, ar68, Seg.sv, Seg.cells, segN, BL]
  · have hn := segN_get ⟨ba, l⟩ h0
    simp only at hn
    have h0' : ¬ (l.length : Int) = 0 := by omega
    have h1 : l.length - 1 < l.length := by omega
    have hw : IntKind.i64.wrap ((l.length : Int) - 1) = ((l.length - 1 : Nat) : Int) := by rw [IntKind.wrap_i64]; omega
    have hg := BL_get l h1
    have hge : (BL l)[l.length - 1]'(by simpa using h1) = (l.getD (l.length - 1) bat0).sv := by rw [← hg, List.getElem?_eq_getElem]; rfl
    have h2 : ((l.length - 1 : Nat) : Int) < l.length := by omega
    rw [hn]
    generalize l.getD (l.length - 1) bat0 = x at *
    have e1 := e1 x
    have h00 : l ≠ [] := fun z => by rw [z] at h0; simp at h0
    simp [ac68, ar68, Seg.sv, Seg.cells, h0, h00, hw, hg, hge, h1, h2, Bat.sv, Bat.cells, e1]
theorem rnext_seg (s : Seg) (hs : s.ls.length ≤ 1000) : Pure Try.prog 108 [s.sv] (.sv (.int .i64 (segN s))) := by
  have e1 := RsB_111
  have hR := RsB_ok
  generalize RsB = R at hR e1
  refine pure_go hR Try.func108 Try.ntmps108 comp108 cres108 (by decide) (by simp) ?_
  obtain ⟨ba, l⟩ := s
  simp only at hs
  by_cases h0 : l.length = 0
  · have : l = [] := List.length_eq_zero_iff.1 h0
    subst this
    simp [ac108, ar108, Seg.sv, Seg.cells, segN, BL]
  · have hn := segN_get ⟨ba, l⟩ h0
    simp only at hn
    have h0' : ¬ (l.length : Int) = 0 := by omega
    have h1 : l.length - 1 < l.length := by omega
    have hw : IntKind.i64.wrap ((l.length : Int) - 1) = ((l.length - 1 : Nat) : Int) := by rw [IntKind.wrap_i64]; omega
    have hg := BL_get l h1
    have hge : (BL l)[l.length - 1]'(by simpa using h1) = (l.getD (l.length - 1) bat0).sv := by rw [← hg, List.getElem?_eq_getElem]; rfl
    have h2 : ((l.length - 1 : Nat) : Int) < l.length := by omega
    rw [hn]
    generalize l.getD (l.length - 1) bat0 = x at *
    have e1 := e1 x
    have h00 : l ≠ [] := fun z => by rw [z] at h0; simp at h0
    simp [ac108, ar108, Seg.sv, Seg.cells, h0, h00, hw, hg, hge, h1, h2, Bat.sv, Bat.cells, e1]
/-- The greatest time. -/
def nwL : Int → List Bat → Int
  | n, [] => n
  | n, b :: l => nwL (if n < nwB b then nwB b else n) l
theorem nwL_drop (n : Int) (l : List Bat) {i : Nat} (h : i < l.length) : nwL n (l.drop i) = nwL (if n < nwB (l.getD i bat0) then nwB (l.getD i bat0) else n) (l.drop (i + 1)) := by
  rw [List.drop_eq_getElem_cons h, nwL, List.getD_eq_getElem?_getD, List.getElem?_eq_getElem h]
  rfl
theorem newest_seg (s : Seg) (hs : okB s.ls) : Pure Try.prog 56 [s.sv] (.sv (.int .i64 (nwL (-1) s.ls))) := by
  have e1 := RsB_115
  have hR := RsB_ok
  generalize RsB = R at hR e1
  refine pure_go hR Try.func56 Try.ntmps56 comp56 cres56 (by decide) (by simp) ?_
  obtain ⟨ba, l⟩ := s
  simp only at hs
  have hl : l.length ≤ 1000 := hs.1
  simp [ac56, ar56, Seg.sv, Seg.cells]
  refine awpR_loop (α := Nat × Int) (fun p => p.1 ≤ l.length ∧ nwL (-1) l = nwL p.2 (l.drop p.1)) (fun p => { n := 19, sl := [(3, .sv (.int .i64 p.2)), (7, .sv (.sl 6 (BL l))), (8, .sv (.int .i64 l.length)), (9, .sv (.int .i64 p.1))], bx := [], hp := fun _ => none })
    (fun p => l.length - p.1) (0, -1) ⟨by simp, by simp⟩ (by simp) ?_
  rintro ⟨i, n⟩ ⟨hi, ha⟩
  simp only at hi ha ⊢
  by_cases h : i < l.length
  · have hlt : (i : Int) < l.length := by omega
    have hw := wrap_succ h (show l.length < 4611686018427387904 by omega)
    have hg := BL_get l h
    have hge : (BL l)[i]'(by simpa using h) = (l.getD i bat0).sv := by rw [← hg, List.getElem?_eq_getElem]; rfl
    obtain ⟨ho, hr⟩ := okB_get hs h
    rw [nwL_drop n l h] at ha
    generalize l.getD i bat0 = x at *
    have e1 := e1 x
    simp [hlt, h, hg, hge, Bat.sv, Bat.cells, hw, e1, hr]
    refine ⟨i + 1, _, ⟨by omega, ha⟩, by omega, rfl, by omega⟩
  · obtain rfl : i = l.length := by omega
    have hlt : ¬ ((l.length : Nat) : Int) < l.length := by omega
    rw [List.drop_length, nwL] at ha
    rw [ha]
    simp [hlt]
theorem rnewest_seg (s : Seg) (hs : okB s.ls) : Pure Try.prog 57 [s.sv] (.sv (.int .i64 (nwL (-1) s.ls))) := by
  have e1 := RsB_116
  have hR := RsB_ok
  generalize RsB = R at hR e1
  refine pure_go hR Try.func57 Try.ntmps57 comp57 cres57 (by decide) (by simp) ?_
  obtain ⟨ba, l⟩ := s
  simp only at hs
  have hl : l.length ≤ 1000 := hs.1
  simp [ac57, ar57, Seg.sv, Seg.cells]
  refine awpR_loop (α := Nat × Int) (fun p => p.1 ≤ l.length ∧ nwL (-1) l = nwL p.2 (l.drop p.1)) (fun p => { n := 21, sl := [(1, .lptr 1 0), (3, .sv (.int .i64 p.2)), (4, .sv (.int .i64 p.1))], bx := [(1, [.sv (.int .i64 ba), .sv (.sl 6 (BL l))])], hp := fun _ => none })
    (fun p => l.length - p.1) (0, -1) ⟨by simp, by simp⟩ (by simp) ?_
  rintro ⟨i, n⟩ ⟨hi, ha⟩
  simp only at hi ha ⊢
  by_cases h : i < l.length
  · have hlt : (i : Int) < l.length := by omega
    have hw := wrap_succ h (show l.length < 4611686018427387904 by omega)
    have hg := BL_get l h
    have hge : (BL l)[i]'(by simpa using h) = (l.getD i bat0).sv := by rw [← hg, List.getElem?_eq_getElem]; rfl
    obtain ⟨ho, hr⟩ := okB_get hs h
    rw [nwL_drop n l h] at ha
    generalize l.getD i bat0 = x at *
    have e1 := e1 x
    simp [hlt, h, hg, hge, Bat.sv, Bat.cells, hw, e1, hr]
    refine ⟨i + 1, _, ⟨by omega, ha⟩, by omega, rfl, by omega⟩
  · obtain rfl : i = l.length := by omega
    have hlt : ¬ ((l.length : Nat) : Int) < l.length := by omega
    rw [List.drop_length, nwL] at ha
    rw [ha]
    simp [hlt]
noncomputable def RsE : Orc := { p := fun f l => match f with
    | 60 => row eB (fun b => (b.ok, .sv (.int .i64 (needB b)))) l
    | 61 => row eB (fun b => (b.ok, .sv (.int .i64 (needB b)))) l
    | _ => none }
theorem RsE_ok : RsE.ok Try.prog := by
  refine ⟨fun f l c rv h hc => ?_, fun _ _ _ _ _ _ h => (by cases h), fun _ _ _ _ h => (by cases h), fun _ h => (by cases h), fun _ _ _ _ _ _ h => (by cases h), fun _ _ _ _ _ _ _ h => (by cases h)⟩
  simp only [RsE] at h
  split at h
  · exact row_ok h hc (fun n hn => need_pure n hn)
  · exact row_ok h hc (fun n hn => rneed_pure n hn)
  · cases h
theorem RsE_60 (b : Bat) : RsE.p 60 [bsv b] = some (b.ok, .sv (.int .i64 (needB b))) := row_eq eB_inj _ b
theorem RsE_61 (b : Bat) : RsE.p 61 [bsv b] = some (b.ok, .sv (.int .i64 (needB b))) := row_eq eB_inj _ b
def blkS : List Bat → Int
  | [] => 0
  | b :: l => needB b + blkS l
theorem blkS_take (l : List Bat) {i : Nat} (h : i < l.length) : blkS (l.take (i + 1)) = blkS (l.take i) + needB (l.getD i bat0) := by
  induction l generalizing i with
  | nil => simp at h
  | cons b l ih =>
    cases i with
    | zero => simp [blkS]
    | succ i =>
      have := ih (i := i) (by simpa using h)
      simp only [List.take_succ_cons, blkS, List.getD_cons_succ]
      rw [this]; omega
theorem blkS_le (l : List Bat) : 0 ≤ blkS l ∧ blkS l ≤ 200 * l.length := by
  induction l with
  | nil => simp [blkS]
  | cons b l ih =>
    have := needB_le b
    simp only [blkS, List.length_cons]
    omega
theorem blocks_seg (s : Seg) (hs : okB s.ls) : Pure Try.prog 58 [s.sv] (.sv (.int .i64 (blkS s.ls))) := by
  have e1 := RsE_60
  have hR := RsE_ok
  generalize RsE = R at hR e1
  refine pure_go hR Try.func58 Try.ntmps58 comp58 cres58 (by decide) (by simp) ?_
  obtain ⟨ba, l⟩ := s
  simp only at hs
  have hl : l.length ≤ 1000 := hs.1
  simp [ac58, ar58, Seg.sv, Seg.cells]
  refine awpR_loop (α := Nat) (fun i => i ≤ l.length) (fun i => { n := 19, sl := [(3, .sv (.int .i64 (blkS (l.take i)))), (7, .sv (.sl 6 (BL l))), (8, .sv (.int .i64 l.length)), (9, .sv (.int .i64 i))], bx := [], hp := fun _ => none })
    (fun i => l.length - i) 0 (by simp) (by simp [blkS]) ?_
  intro i hi
  by_cases h : i < l.length
  · have hlt : (i : Int) < l.length := by omega
    have hw := wrap_succ h (show l.length < 4611686018427387904 by omega)
    have hg := BL_get l h
    have hge : (BL l)[i]'(by simpa using h) = (l.getD i bat0).sv := by rw [← hg, List.getElem?_eq_getElem]; rfl
    obtain ⟨ho, hr⟩ := okB_get hs h
    have ha := blkS_take l h
    have hb := blkS_le (l.take (i + 1))
    have hb' : (l.take (i + 1)).length ≤ 1000 := by simp; omega
    have hw2 : IntKind.i64.wrap (blkS (l.take i) + needB (l.getD i bat0)) = blkS (l.take (i + 1)) := by rw [← ha, IntKind.wrap_i64]; omega
    generalize l.getD i bat0 = x at *
    have e1 := e1 x
    simp [hlt, h, hg, hge, Bat.sv, Bat.cells, hw, e1, ho, hw2]
    refine ⟨i + 1, by omega, by omega, rfl, by omega⟩
  · obtain rfl : i = l.length := by omega
    have hlt : ¬ ((l.length : Nat) : Int) < l.length := by omega
    simp [hlt]
theorem rblocks_seg (s : Seg) (hs : okB s.ls) : Pure Try.prog 59 [s.sv] (.sv (.int .i64 (blkS s.ls))) := by
  have e1 := RsE_61
  have hR := RsE_ok
  generalize RsE = R at hR e1
  refine pure_go hR Try.func59 Try.ntmps59 comp59 cres59 (by decide) (by simp) ?_
  obtain ⟨ba, l⟩ := s
  simp only at hs
  have hl : l.length ≤ 1000 := hs.1
  simp [ac59, ar59, Seg.sv, Seg.cells]
  refine awpR_loop (α := Nat) (fun i => i ≤ l.length) (fun i => { n := 21, sl := [(1, .lptr 1 0), (3, .sv (.int .i64 (blkS (l.take i)))), (4, .sv (.int .i64 i))], bx := [(1, [.sv (.int .i64 ba), .sv (.sl 6 (BL l))])], hp := fun _ => none })
    (fun i => l.length - i) 0 (by simp) (by simp [blkS]) ?_
  intro i hi
  by_cases h : i < l.length
  · have hlt : (i : Int) < l.length := by omega
    have hw := wrap_succ h (show l.length < 4611686018427387904 by omega)
    have hg := BL_get l h
    have hge : (BL l)[i]'(by simpa using h) = (l.getD i bat0).sv := by rw [← hg, List.getElem?_eq_getElem]; rfl
    obtain ⟨ho, hr⟩ := okB_get hs h
    have ha := blkS_take l h
    have hb := blkS_le (l.take (i + 1))
    have hb' : (l.take (i + 1)).length ≤ 1000 := by simp; omega
    have hw2 : IntKind.i64.wrap (blkS (l.take i) + needB (l.getD i bat0)) = blkS (l.take (i + 1)) := by rw [← ha, IntKind.wrap_i64]; omega
    generalize l.getD i bat0 = x at *
    have e1 := e1 x
    simp [hlt, h, hg, hge, Bat.sv, Bat.cells, hw, e1, ho, hw2]
    refine ⟨i + 1, by omega, by omega, rfl, by omega⟩
  · obtain rfl : i = l.length := by omega
    have hlt : ¬ ((l.length : Nat) : Int) < l.length := by omega
    simp [hlt]
end Go.Proofs.Ytflcdbfcipkhkaa

/- Segment: Check, Same, light. -/

set_option linter.unusedSimpArgs false
set_option linter.unusedVariables false
set_option maxHeartbeats 8000000
namespace Go.Proofs.Ytflcdbfcipkhkaa
open Go.Av

def chkS : Int → List Bat → Int
  | _, [] => 0
  | n, b :: l => if batE b = 0 then (if b.ba < n then 16 else chkS (nxB b) l) else batE b
theorem chkS_drop (n : Int) (l : List Bat) {i : Nat} (h : i < l.length) : chkS n (l.drop i) = if batE (l.getD i bat0) = 0 then (if (l.getD i bat0).ba < n then 16 else chkS (nxB (l.getD i bat0)) (l.drop (i + 1))) else batE (l.getD i bat0) := by
  rw [List.drop_eq_getElem_cons h, chkS, List.getD_eq_getElem?_getD, List.getElem?_eq_getElem h]
  rfl
def segE (s : Seg) : Int := if s.ba < 0 then 11 else if 4611686018427387903 < s.ba then 11 else chkS s.ba s.ls
theorem check_seg (s : Seg) (hs : okB s.ls) : Pure Try.prog 65 [s.sv] (.sv (.int .i64 (segE s))) := by
  have e1 := RsB_67
  have e2 := RsB_70
  have hR := RsB_ok
  generalize RsB = R at hR e1 e2
  refine pure_go hR Try.func65 Try.ntmps65 comp65 cres65 (by decide) (by simp) ?_
  obtain ⟨ba, l⟩ := s
  simp only at hs
  have hl : l.length ≤ 1000 := hs.1
  unfold segE
  simp only
  by_cases b1 : ba < 0
  · simp [ac65, ar65, Seg.sv, Seg.cells, b1]
  by_cases b2 : 4611686018427387903 < ba
  · simp [ac65, ar65, Seg.sv, Seg.cells, b1, b2]
  simp [ac65, ar65, Seg.sv, Seg.cells, b1, b2]
  refine awpR_loop (α := Nat × Int) (fun p => p.1 ≤ l.length ∧ chkS ba l = chkS p.2 (l.drop p.1)) (fun p => { n := 36, sl := [(3, .sv (.int .i64 p.2)), (18, .sv (.sl 6 (BL l))), (19, .sv (.int .i64 l.length)), (20, .sv (.int .i64 p.1))], bx := [], hp := fun _ => none })
    (fun p => l.length - p.1) (0, ba) ⟨by simp, by simp⟩ (by simp) ?_
  rintro ⟨i, n⟩ ⟨hi, ha⟩
  simp only at hi ha ⊢
  by_cases h : i < l.length
  · have hlt : (i : Int) < l.length := by omega
    have hw := wrap_succ h (show l.length < 4611686018427387904 by omega)
    have hg := BL_get l h
    have hge : (BL l)[i]'(by simpa using h) = (l.getD i bat0).sv := by rw [← hg, List.getElem?_eq_getElem]; rfl
    obtain ⟨ho, hr⟩ := okB_get hs h
    rw [chkS_drop n l h] at ha
    generalize l.getD i bat0 = x at *
    have e1 := e1 x
    have e2 := e2 x
    by_cases q : batE x = 0
    · rw [if_pos q] at ha
      rw [q] at e1
      by_cases q2 : x.ba < n
      · rw [if_pos q2] at ha
        rw [ha]
        simp [hlt, h, hg, hge, Bat.sv, Bat.cells, hw, e1, ho, q2]
      · rw [if_neg q2] at ha
        simp [hlt, h, hg, hge, Bat.sv, Bat.cells, hw, e1, e2, ho, q2]
        refine ⟨i + 1, _, ⟨by omega, ha⟩, by omega, rfl, by omega⟩
    · rw [if_neg q] at ha
      rw [ha]
      simp [hlt, h, hg, hge, Bat.sv, Bat.cells, hw, e1, ho, q]
  · obtain rfl : i = l.length := by omega
    have hlt : ¬ ((l.length : Nat) : Int) < l.length := by omega
    rw [List.drop_length, chkS] at ha
    rw [ha]
    simp [hlt]
theorem batE_nx {b : Bat} (h : batE b = 0) : nxB b = b.ba + b.ct ∧ 1 ≤ b.ct ∧ 0 ≤ b.ba ∧ b.ba + b.ct ≤ 4611686018427387903 := by
  obtain ⟨h1, h2, h3, h4, _⟩ := batE_num h
  refine ⟨?_, h1, h3, h4⟩
  unfold nxB
  rw [IntKind.wrap_i64]; omega
def eBN (p : List Bat × Int) : List SV := [.sl 6 (BL p.1), .int .i64 p.2]
theorem eBN_inj (a b : List Bat × Int) (h : eBN a = eBN b) : a = b := by simp [eBN] at h; exact Prod.ext (BL_inj _ _ h.1) h.2
def eBBf (p : List Bat × List Bat) : List SV := [.sl 6 (BL p.1), .sl 6 (BL p.2), .fn 69 [] []]
theorem eBBf_inj (a b : List Bat × List Bat) (h : eBBf a = eBBf b) : a = b := by simp [eBBf] at h; exact Prod.ext (BL_inj _ _ h.1) (BL_inj _ _ h.2)
def eS (s : Seg) : List SV := [s.sv]
theorem eS_inj (a b : Seg) (h : eS a = eS b) : a = b := by simp [eS] at h; exact Seg.sv_inj _ _ h
noncomputable def RsF : Orc := { p := fun f l => match f with
    | 108 => row eS (fun s => (s.ls.length ≤ 1000, .sv (.int .i64 (segN s)))) l
    | 68 => row eS (fun s => (s.ls.length ≤ 1000, .sv (.int .i64 (segN s)))) l
    | 90 => row eBN (fun p => (p.2 < 4611686018427387904, .sv (.bool (lightA p.1 p.2)))) l
    | f => RsB.p f l }
theorem RsF_ok : RsF.ok Try.prog := by
  refine ⟨fun f l c rv h hc => ?_, fun _ _ _ _ _ _ h => (by cases h), fun _ _ _ _ h => (by cases h), fun _ h => (by cases h), fun _ _ _ _ _ _ h => (by cases h), fun _ _ _ _ _ _ _ h => (by cases h)⟩
  simp only [RsF] at h
  split at h
  · exact row_ok h hc (fun n hn => rnext_seg n hn)
  · exact row_ok h hc (fun n hn => next_seg n hn)
  · exact row_ok h hc (fun n hn => lightAll n.1 n.2 hn)
  · exact RsB_ok.p _ _ _ _ h hc
theorem RsF_108 (s : Seg) : RsF.p 108 [.agg [.int .i64 s.ba, .sl 6 (BL s.ls)]] = some (s.ls.length ≤ 1000, .sv (.int .i64 (segN s))) := row_eq eS_inj _ s
theorem RsF_68 (s : Seg) : RsF.p 68 [.agg [.int .i64 s.ba, .sl 6 (BL s.ls)]] = some (s.ls.length ≤ 1000, .sv (.int .i64 (segN s))) := row_eq eS_inj _ s
theorem RsF_90 (l : List Bat) (n : Int) : RsF.p 90 [.sl 6 (BL l), .int .i64 n] = some (n < 4611686018427387904, .sv (.bool (lightA l n))) := row_eq eBN_inj _ (l, n)
theorem RsF_107 (b : Bat) : RsF.p 107 [bsv b] = some (b.ok, .sv (.int .i64 (batE b))) := RsB_107 b
theorem BL_take (l : List Bat) (n : Nat) : (BL l).take n = BL (l.take n) := by simp [BL]
theorem rcheck_seg (s : Seg) (hs : okB s.ls) : Pure Try.prog 47 [s.sv] (.sv (.int .i64 (segE s))) := by
  have e1 := RsF_107
  have e2 := RsF_108
  have hR := RsF_ok
  generalize RsF = R at hR e1 e2
  refine pure_go hR Try.func47 Try.ntmps47 comp47 cres47 (by decide) (by simp) ?_
  obtain ⟨ba, l⟩ := s
  simp only at hs
  have hl : l.length ≤ 1000 := hs.1
  unfold segE
  simp only
  by_cases b1 : ba < 0
  · simp [ac47, ar47, Seg.sv, Seg.cells, b1]
  by_cases b2 : 4611686018427387903 < ba
  · simp [ac47, ar47, Seg.sv, Seg.cells, b1, b2]
  simp [ac47, ar47, Seg.sv, Seg.cells, b1, b2]
  refine awpR_loop (α := Nat) (fun i => i ≤ l.length ∧ ba ≤ segN ⟨ba, l.take i⟩ ∧ chkS ba l = chkS (segN ⟨ba, l.take i⟩) (l.drop i)) (fun i => { n := 57, sl := [(1, .lptr 1 0), (3, .sv (.int .i64 i))], bx := [(1, [.sv (.int .i64 ba), .sv (.sl 6 (BL l))])], hp := fun _ => none })
    (fun i => l.length - i) 0 ⟨by simp, by simp [segN], by simp [segN]⟩ (by simp) ?_
  rintro i ⟨hi, hn, ha⟩
  by_cases h : i < l.length
  · have hlt : (i : Int) < l.length := by omega
    have hw := wrap_succ h (show l.length < 4611686018427387904 by omega)
    have hg := BL_get l h
    have hge : (BL l)[i]'(by simpa using h) = (l.getD i bat0).sv := by rw [← hg, List.getElem?_eq_getElem]; rfl
    obtain ⟨ho, hr⟩ := okB_get hs h
    rw [chkS_drop _ l h] at ha
    have e2 := e2 ⟨ba, l.take i⟩
    have hnx : segN ⟨ba, l.take (i + 1)⟩ = nxB (l.getD i bat0) := by
      unfold segN
      simp only
      rw [List.take_succ_eq_append_getElem h, List.getLast?_concat, List.getD_eq_getElem?_getD, List.getElem?_eq_getElem h]
      rfl
    have ht : (l.take i).length ≤ 1000 := by simp; omega
    have ht2 := BL_take l i
    simp only at e2
    generalize segN ⟨ba, l.take i⟩ = n at *
    generalize l.getD i bat0 = x at *
    generalize l.take i = lt at *
    have e1 := e1 x
    have hi0 : (0 : Int) ≤ i := by omega
    have hile : (i : Int) ≤ l.length := by omega
    by_cases q : batE x = 0
    · rw [if_pos q] at ha
      rw [q] at e1
      obtain ⟨k1, k2, k3, k4⟩ := batE_nx q
      by_cases q0 : x.ba < ba
      · have q2 : x.ba < n := by omega
        rw [if_pos q2] at ha
        rw [ha]
        simp [hlt, h, hg, hge, Bat.sv, Bat.cells, hw, e1, ho, q0, ht2, e2, ht, q2, hile]
      by_cases q2 : x.ba < n
      · rw [if_pos q2] at ha
        rw [ha]
        simp [hlt, h, hg, hge, Bat.sv, Bat.cells, hw, e1, ho, q0, ht2, e2, ht, q2, hile]
      · rw [if_neg q2] at ha
        simp [hlt, h, hg, hge, Bat.sv, Bat.cells, hw, e1, e2, ho, q0, q2, ht2, ht, hile]
        refine ⟨i + 1, ⟨by omega, ?_, ?_⟩, by omega, by omega⟩
        · rw [hnx]; omega
        · rw [hnx]; exact ha
    · rw [if_neg q] at ha
      rw [ha]
      simp [hlt, h, hg, hge, Bat.sv, Bat.cells, hw, e1, ho, q]
  · obtain rfl : i = l.length := by omega
    have hlt : ¬ ((l.length : Nat) : Int) < l.length := by omega
    rw [List.drop_length, chkS] at ha
    rw [ha]
    simp [hlt]
theorem light_seg (s : Seg) : Pure Try.prog 46 [s.sv] (.sv (.bool (lightA s.ls 20))) := by
  have e1 := RsF_90 s.ls 20
  have hR := RsF_ok
  generalize RsF = R at hR e1
  refine pure_go hR Try.func46 Try.ntmps46 comp46 cres46 (by decide) (by simp) ?_
  simp [ac46, ar46, Seg.sv, Seg.cells, e1]
noncomputable def RsG : Orc := { p := fun f l => match f with
    | 94 => row eBBf (fun p => (p.1.length < 4611686018427387904 ∧ smallB p.1, .sv (.bool (decide (p.1 = p.2))))) l
    | _ => none }
theorem RsG_ok : RsG.ok Try.prog := by
  refine ⟨fun f l c rv h hc => ?_, fun _ _ _ _ _ _ h => (by cases h), fun _ _ _ _ h => (by cases h), fun _ h => (by cases h), fun _ _ _ _ _ _ h => (by cases h), fun _ _ _ _ _ _ _ h => (by cases h)⟩
  simp only [RsG] at h
  split at h
  · exact row_ok h hc (fun n hn => eqBats n.1 n.2 hn.1 hn.2)
  · cases h
theorem RsG_94 (a b : List Bat) : RsG.p 94 [.sl 6 (BL a), .sl 6 (BL b), .fn 69 [] []] = some (a.length < 4611686018427387904 ∧ smallB a, .sv (.bool (decide (a = b)))) := row_eq eBBf_inj _ (a, b)
theorem same_seg (a b : Seg) (hl : a.ls.length < 4611686018427387904) (hs : smallB a.ls) : Pure Try.prog 109 [a.sv, b.sv] (.sv (.bool (decide (a.ba = b.ba) && decide (a.ls = b.ls)))) := by
  have e1 := RsG_94 a.ls b.ls
  have hR := RsG_ok
  generalize RsG = R at hR e1
  refine pure_go hR Try.func109 Try.ntmps109 comp109 cres109 (by decide) (by simp) ?_
  by_cases q : a.ba = b.ba
  · simp [ac109, ar109, Seg.sv, Seg.cells, e1, hl, hs, q]
  · simp [ac109, ar109, Seg.sv, Seg.cells, e1, hl, hs, q]
end Go.Proofs.Ytflcdbfcipkhkaa

/- Segment: the keys, by the document. -/

set_option linter.unusedSimpArgs false
set_option linter.unusedVariables false
set_option maxHeartbeats 8000000
namespace Go.Proofs.Ytflcdbfcipkhkaa
open Go.Av

def lts (a b : ByteArray) : Bool := Op.bytesLess a.toList b.toList
/-- How many stand below. -/
def posK (k : ByteArray) : List ByteArray → Nat
  | [] => 0
  | x :: l => if lts x k = true then posK k l + 1 else 0
def atK (k : ByteArray) (out : List ByteArray) (n : Nat) : Bool := decide (n < out.length) && ((out.getD n ⟨#[]⟩).toList == k.toList)
def insK (k : ByteArray) (out : List ByteArray) : List ByteArray := if atK k out (posK k out) = true then out else out.take (posK k out) ++ ([k] ++ out.drop (posK k out))
def keyR (r : Rec) (out : List ByteArray) : List ByteArray := if r.kd = true then insK r.key out else out
def keyB : List Rec → List ByteArray → List ByteArray
  | [], out => out
  | r :: l, out => keyB l (keyR r out)
def keyS : List Bat → List ByteArray → List ByteArray
  | [], out => out
  | b :: l, out => keyS l (keyB b.rs out)
theorem keyB_drop (l : List Rec) (a : List ByteArray) {i : Nat} (h : i < l.length) : keyB (l.drop i) a = keyB (l.drop (i + 1)) (keyR (l.getD i rec0) a) := by
  rw [List.drop_eq_getElem_cons h, keyB, List.getD_eq_getElem?_getD, List.getElem?_eq_getElem h]
  rfl
theorem keyS_drop (l : List Bat) (a : List ByteArray) {i : Nat} (h : i < l.length) : keyS (l.drop i) a = keyS (l.drop (i + 1)) (keyB (l.getD i bat0).rs a) := by
  rw [List.drop_eq_getElem_cons h, keyS, List.getD_eq_getElem?_getD, List.getElem?_eq_getElem h]
  rfl
theorem posK_drop (k : ByteArray) (l : List ByteArray) {i : Nat} (h : i < l.length) : posK k (l.drop i) = if lts (l.getD i ⟨#[]⟩) k = true then posK k (l.drop (i + 1)) + 1 else 0 := by
  rw [List.drop_eq_getElem_cons h, posK, List.getD_eq_getElem?_getD, List.getElem?_eq_getElem h]
  rfl
theorem insK_len (k : ByteArray) (out : List ByteArray) : (insK k out).length ≤ out.length + 1 := by
  unfold insK
  split
  · omega
  · simp; omega
theorem keyR_len (r : Rec) (out : List ByteArray) : (keyR r out).length ≤ out.length + 1 := by
  unfold keyR
  split
  · exact insK_len _ _
  · omega
theorem TL_take (l : List ByteArray) (n : Nat) : (TL l).take n = TL (l.take n) := by simp [TL]
theorem TL_drop (l : List ByteArray) (n : Nat) : (TL l).drop n = TL (l.drop n) := by simp [TL]
theorem TL_app (l m : List ByteArray) : TL (l ++ m) = TL l ++ TL m := by simp [TL]
theorem TL_cons (k : ByteArray) (l : List ByteArray) : TL (k :: l) = .str k :: TL l := rfl
theorem rkeys_seg (s : Seg) (hs : okB s.ls) : Pure Try.prog 55 [s.sv] (.own 1 (TL (keyS s.ls []))) := by
  have hR := RsB_ok
  generalize RsB = R at hR
  refine pure_go hR Try.func55 Try.ntmps55 comp55 cres55 (by decide) (by simp) ?_
  obtain ⟨ba, l⟩ := s
  simp only at hs
  have hl : l.length ≤ 1000 := hs.1
  simp [ac55, ar55, Seg.sv, Seg.cells]
  refine awpR_loop (α := Nat × List ByteArray) (fun p => p.1 ≤ l.length ∧ p.2.length ≤ 1000 * p.1 ∧ keyS l [] = keyS (l.drop p.1) p.2) (fun p => { n := 83, sl := [(1, .lptr 1 0), (3, .own 1 (TL p.2)), (4, .sv (.int .i64 p.1))], bx := [(1, [.sv (.int .i64 ba), .sv (.sl 6 (BL l))])], hp := fun _ => none })
    (fun p => l.length - p.1) (0, []) ⟨by simp, by simp, by simp⟩ (by simp [TL]) ?_
  rintro ⟨i, a⟩ ⟨hi, hal, ha⟩
  simp only at hi hal ha ⊢
  by_cases h : i < l.length
  · have hlt : (i : Int) < l.length := by omega
    have hw := wrap_succ h (show l.length < 4611686018427387904 by omega)
    have hg := BL_get l h
    have hge : (BL l)[i]'(by simpa using h) = (l.getD i bat0).sv := by rw [← hg, List.getElem?_eq_getElem]; rfl
    obtain ⟨ho, hr⟩ := okB_get hs h
    rw [keyS_drop l _ h] at ha
    generalize l.getD i bat0 = x at *
    obtain ⟨xa, x1, x2, x3, x4, m⟩ := x
    simp only at ha hr
    simp [hlt, h, hg, hge, Bat.sv, Bat.cells, hw]
    refine awpR_loop (α := Nat × List ByteArray) (fun p => p.1 ≤ m.length ∧ p.2.length ≤ 1000 * i + p.1 ∧ keyB m a = keyB (m.drop p.1) p.2) (fun p => { n := 83, sl := [(1, .lptr 1 0), (3, .own 1 (TL p.2)), (4, .sv (.int .i64 i)), (5, .sv (.int .i64 p.1))], bx := [(1, [.sv (.int .i64 ba), .sv (.sl 6 (BL l))])], hp := fun _ => none })
      (fun p => m.length - p.1) (0, a) ⟨by simp, by simpa using hal, by simp⟩ (by simp) ?_
    rintro ⟨k, a'⟩ ⟨hk, hal', hb⟩
    simp only at hk hal' hb ⊢
    by_cases h2 : k < m.length
    · have hlt2 : (k : Int) < m.length := by omega
      have hw2 := wrap_succ h2 (show m.length < 4611686018427387904 by omega)
      have hg2 := RL_get m h2
      have hge2 : (RL m)[k]'(by simpa using h2) = (m.getD k rec0).sv := by rw [← hg2, List.getElem?_eq_getElem]; rfl
      rw [keyB_drop m _ h2] at hb
      generalize m.getD k rec0 = r at *
      have hrl := keyR_len r a'
      simp [hlt, h, hg, hge, Bat.sv, Bat.cells, hlt2, h2, hg2, hge2, Rec.sv, Rec.cells, hw2]
      refine awpR_loop (α := Nat) (fun n => n ≤ a'.length ∧ posK r.key a' = n + posK r.key (a'.drop n)) (fun n => { n := 83, sl := [(1, .lptr 1 0), (3, .own 1 (TL a')), (4, .sv (.int .i64 i)), (5, .sv (.int .i64 k)), (6, .lptr 6 0), (7, .sv (.int .i64 n))], bx := [(6, [.sv (.int .i64 r.dl), .sv (.int .i64 r.tm), .sv (.bool r.kd), .sv (.str r.key), .sv (.bool r.dd), .sv (.str r.val)]), (1, [.sv (.int .i64 ba), .sv (.sl 6 (BL l))])], hp := fun _ => none })
        (fun n => a'.length - n) 0 ⟨by simp, by simp⟩ (by simp) ?_
      rintro n ⟨hn, hp⟩
      by_cases h3 : n < a'.length
      · have hlt3 : (n : Int) < a'.length := by omega
        have hw3 := wrap_succ h3 (show a'.length < 4611686018427387904 by omega)
        have hg3 := TL_get a' h3
        have hge3 : (TL a')[n]'(by simpa using h3) = .str (a'.getD n ⟨#[]⟩) := by rw [← hg3, List.getElem?_eq_getElem]; rfl
        rw [posK_drop r.key a' h3] at hp
        by_cases q : lts (a'.getD n ⟨#[]⟩) r.key = true
        · rw [if_pos q] at hp
          have q' : Op.bytesLess (a'.getD n ⟨#[]⟩).toList r.key.toList = true := q
          generalize a'.getD n ⟨#[]⟩ = z at *
          simp [hlt3, h3, hg3, hge3, q', hw3]
          exact ⟨n + 1, ⟨by omega, by omega⟩, by omega, by omega⟩
        · rw [if_neg q] at hp
          have q' : Op.bytesLess (a'.getD n ⟨#[]⟩).toList r.key.toList = false := by simpa [lts] using q
          have hp' : posK r.key a' = n := by omega
          have hat : atK r.key a' n = ((a'.getD n ⟨#[]⟩).toList == r.key.toList) := by unfold atK; simp [h3]
          unfold keyR insK at hb hrl
          rw [hp', hat] at hb hrl
          generalize a'.getD n ⟨#[]⟩ = z at *
          by_cases kd : r.kd = true
          · by_cases eq : z.toList = r.key.toList
            · simp only [kd, eq, beq_self_eq_true, if_true] at hb
              have q2 : Op.bytesLess r.key.toList r.key.toList = false := by rw [eq] at q'; exact q'
              simp [hlt3, h3, hg3, hge3, q', q2, hw3, kd, eq, hw2]
              exact ⟨k + 1, a', ⟨by omega, by omega, hb⟩, by omega, rfl, by omega⟩
            · have eq' : (z.toList == r.key.toList) = false := by simpa using eq
              simp only [kd, eq', if_true, Bool.false_eq_true, if_false] at hb hrl
              simp [hlt3, h3, hg3, hge3, q', hw3, kd, eq, hw2, TL_take, TL_drop]
              refine ⟨by omega, k + 1, _, ⟨by omega, by omega, hb⟩, by omega, ?_, by omega⟩
              simp [TL_app, TL_cons]
              rw [List.take_of_length_le (by simp)]
          · simp only [kd, Bool.false_eq_true, if_false] at hb
            simp [hlt3, h3, hg3, hge3, q', hw3, kd, hw2]
            exact ⟨k + 1, a', ⟨by omega, by omega, hb⟩, by omega, rfl, by omega⟩
      · obtain rfl : n = a'.length := by omega
        have hlt3 : ¬ ((a'.length : Nat) : Int) < a'.length := by omega
        rw [List.drop_length, posK] at hp
        have hp' : posK r.key a' = a'.length := by omega
        have hat : atK r.key a' a'.length = false := by unfold atK; simp
        unfold keyR insK at hb hrl
        rw [hp', hat] at hb hrl
        by_cases kd : r.kd = true
        · simp only [kd, if_true, Bool.false_eq_true, if_false] at hb hrl
          simp [hlt3, kd, hw2, TL_take, TL_drop]
          refine ⟨by omega, k + 1, _, ⟨by omega, by omega, hb⟩, by omega, ?_, by omega⟩
          simp [TL_app, TL_cons, show TL [] = [] from rfl]
        · simp only [kd, Bool.false_eq_true, if_false] at hb
          simp [hlt3, kd, hw2]
          exact ⟨k + 1, a', ⟨by omega, by omega, hb⟩, by omega, rfl, by omega⟩
    · obtain rfl : k = m.length := by omega
      have hlt2 : ¬ ((m.length : Nat) : Int) < m.length := by omega
      rw [List.drop_length, keyB] at hb
      rw [hb] at ha
      simp [hlt, h, hg, hge, Bat.sv, Bat.cells, hlt2, hw]
      exact ⟨i + 1, a', ⟨by omega, by omega, ha⟩, by omega, rfl, by omega⟩
  · obtain rfl : i = l.length := by omega
    have hlt : ¬ ((l.length : Nat) : Int) < l.length := by omega
    rw [List.drop_length, keyS] at ha
    rw [ha]
    simp [hlt]
end Go.Proofs.Ytflcdbfcipkhkaa

/-
  DERIVED. MADE BY PROGRAM (lay-iter.mjs) off ytflcdbfcipkhkaa.cut.gsa: THE SHELF's CONTRACTS ON 'slices.Sorted(maps.Keys(m))' LAID AT THIS DUMP: 1 map type. NO WALK OF THE LIBRARY's TEXT: each is one application of a contract over any P and ρ (Derived/Shelf/SlIter/, Derived/Shelf/SortM/).
-/






namespace Go.Proofs.Ytflcdbfcipkhkaa
open Go.RowKit Go.Maps Go.Sort Go.Shelf

-- maps.Keys[map[string]bool,string,bool] (function 114; its iterator 146) · slices.Sorted[string] (113) · slices.Sort[[]string,string] (145) · the map's type 155, the keys' 9

/-- slices.Sort's two contracts at this dump, at the fence that asks nothing. -/
theorem Try.sorts113 (m : Nat) : AnyZ.SortsIn Try.prog Try.sorted113_ren Fence.wide m :=
  ⟨fun blk off cap ss W hH hblk hsz => callsIn_wide.2 (AnyM.slices_Sort_string Try.sort145 blk off cap ss W hH hblk hsz),
   fun p cap W => callsIn_wide.2 (AnyM.slices_Sort_string_none Try.sort145 p cap W)⟩

/-- **maps.Keys[map[string]bool,string,bool], at whatever map, the nil one too:** a function value over ONE NEW BLOCK, which holds the map. -/
theorem Try.maps_Keys_114 (mb : Option Nat) (W : World) : CallsIn Fence.wide 5 Try.prog 114 #[.map mb] W fun e w' => e = .returned (.func (.func 146) #[] #[.pointer (some ⟨W.heap.size, 0, none⟩)]) ∧ w' = W.alloc (.cells #[.map mb] 155) :=
  AnyZ.keys_in Try.keys114 Fence.wide 5 trivial rfl mb W

set_option maxHeartbeats 1000000 in
/-- **slices.Sorted[string] AT WHAT maps.Keys[map[string]bool,string,bool] HANDED BACK FOR A MAP THAT IS NOT nil** ('w': the world AHEAD of maps.Keys' call): A NEW SLICE THAT HOLDS THE MAP's KEYS, SORTED; nil just where it has none; nothing that lay before has turned. -/
theorem Try.slices_Sorted_keys_113_114 {H : Type} (b nn : Nat) (D0 : DataW H) (R : Value → Option (DataW H × List MemPlace)) (w : World) (hown : w.ownsMap Try.prog 9 R b nn D0) (hmax : Maps.size D0 ≤ maxLen) (hbytes : Maps.size D0 * 16 ≤ 140737488355328) :
    CallsIn Fence.wide 5 Try.prog 113 #[.func (.func 146) #[] #[.pointer (some ⟨w.heap.size, 0, none⟩)]] (w.alloc (.cells #[.map (some b)] 155)) fun e w' => ∃ (v : Value) (ss : List (List UInt8)), e = .returned v ∧ ss.Perm (strKeys D0) ∧
      w'.ownsRow (w.alloc (.cells #[.map (some b)] 155)).heap.size 9 1 v ss.length ((ss.mergeSort (fun x y => decide (x ≤ y))).map encStr) ∧ (v = .slice none 0 0 ↔ ss = []) ∧ Below (w.alloc (.cells #[.map (some b)] 155)).heap.size (w.alloc (.cells #[.map (some b)] 155)) w' := by
  have hbl := hown.lt
  have hseq : SeqGives Fence.wide 2 Try.prog 146 #[.pointer (some ⟨w.heap.size, 0, none⟩)] encStr (fun ss => ss.Perm (strKeys D0)) (Maps.size D0) (w.alloc (.cells #[.map (some b)] 155)) :=
    AnyZ.keys_gives (ρ := Try.keys114_ren) { Try.keys114 with } Fence.wide _ trivial rfl (by omega) w.heap.size b nn D0 _ (by simp) (by simp) (by
      obtain ⟨es, clock, hb, Ft, hs, hD⟩ := hown
      exact ⟨es, clock, (Below.heap_alloc _ _ b hbl).trans hb, Ft, hs, hD⟩)
  exact AnyZ.sorted_in Try.sorted113 Fence.wide 5 trivial trivial trivial trivial rfl (by omega) (Try.sorts113 _) (enters_of Try.func145 (by kernel_rfl) rfl) 146 #[.pointer (some ⟨w.heap.size, 0, none⟩)] trivial (enters_of Try.func146 (by kernel_rfl) rfl) _ _ hmax hbytes _ hseq

set_option maxHeartbeats 1000000 in
/-- **.. AND FOR THE nil MAP: nil.** -/
theorem Try.slices_Sorted_keys_nil_113_114 (w : World) :
    CallsIn Fence.wide 5 Try.prog 113 #[.func (.func 146) #[] #[.pointer (some ⟨w.heap.size, 0, none⟩)]] (w.alloc (.cells #[.map none] 155)) fun e w' => ∃ (v : Value) (ss : List (List UInt8)), e = .returned v ∧ ss = [] ∧
      w'.ownsRow (w.alloc (.cells #[.map none] 155)).heap.size 9 1 v ss.length ((ss.mergeSort (fun x y => decide (x ≤ y))).map encStr) ∧ (v = .slice none 0 0 ↔ ss = []) ∧ Below (w.alloc (.cells #[.map none] 155)).heap.size (w.alloc (.cells #[.map none] 155)) w' := by
  have hseq : SeqGives Fence.wide 2 Try.prog 146 #[.pointer (some ⟨w.heap.size, 0, none⟩)] encStr (fun ss : List (List UInt8) => ss = []) 0 (w.alloc (.cells #[.map none] 155)) :=
    AnyZ.keys_gives_nil (ρ := Try.keys114_ren) { Try.keys114 with } Fence.wide _ trivial rfl w.heap.size _ (by simp) (by simp)
  exact AnyZ.sorted_in Try.sorted113 Fence.wide 5 trivial trivial trivial trivial rfl (by omega) (Try.sorts113 _) (enters_of Try.func145 (by kernel_rfl) rfl) 146 #[.pointer (some ⟨w.heap.size, 0, none⟩)] trivial (enters_of Try.func146 (by kernel_rfl) rfl) _ 0 (Nat.zero_le _) (by omega) _ hseq

-- THE CALLER's WALK over 'slices.Sorted(maps.Keys(m))' (inside '(callsIn_wide (n := 6)).1'; 'have hfK : Fence.wide.fn 114 := trivial', 'have hfS : Fence.wide.fn 113 := trivial' ahead): THE TWO ARMS TO PASTE:
--   gi_wp2_with (first
--     | (gi_at_call 114; refine (Try.maps_Keys_114 _ _).mono ?_; rintro e w' ⟨rfl, rfl⟩)
--     | (gi_at_call 113; refine (Try.slices_Sorted_keys_113_114 b nn D0 R w hown hmax hbytes).mono ?_; rintro e w' ⟨v, ss, rfl, hS, hrow, hnil, hb⟩))


end Go.Proofs.Ytflcdbfcipkhkaa

/- segment.Keys, walked raw. -/








set_option linter.unusedSimpArgs false
set_option linter.unusedVariables false
set_option maxHeartbeats 4000000
set_option maxRecDepth 100000
namespace Go.Proofs.Ytflcdbfcipkhkaa
open Go.Av Go.RowKit Go.Maps Go.Sort Go.Shelf Go.WideMaps

def KL (l : List Rec) : List (List UInt8) := (l.filter fun r => r.kd).map fun r => r.key.data.toList
def KLs (l : List Bat) : List (List UInt8) := l.flatMap fun b => KL b.rs
theorem u155 : Try.prog.underlying 155 = some (.map 9 4) := by kernel_rfl
theorem u9 : Try.prog.underlying 9 = some .string := by kernel_rfl
theorem u4 : Try.prog.underlying 4 = some .bool := by kernel_rfl
theorem law9 : Keyed Try.prog 9 := string_keyed u9
def HasL (D : DataW Unit) (L : List (List UInt8)) : Prop := IsMap D ∧ ∀ x, has D (.string x) = true ↔ x ∈ L
theorem HasL.nil : HasL (.map []) [] := ⟨⟨[], rfl⟩, fun x => by simp [has]⟩
theorem HasL.put {D : DataW Unit} {L : List (List UInt8)} (h : HasL D L) (s : List UInt8) (hk : WideAt.IsKeyLit (.string s)) (d : DataW Unit) : HasL (D.put (.string s) d) (L ++ [s]) := by
  refine ⟨h.1.put _ _, fun x => ?_⟩
  by_cases q : x = s
  · subst q
    simp [has_put_same h.1 hk]
  · rw [has_put_other (k' := .string x) (k := .string s) (by simpa using q), h.2 x]
    simp [q]
/-- The cells that the batches stand in. -/
def CF (w : World) (B : Nat) (a : Option Addr) (l : List Bat) : Prop := ∀ i, i < l.length → ∃ b off ar cr, a = some ⟨b, off, none⟩ ∧ b < B ∧
  w.cell? ⟨b, off + i * 6, none⟩ = some (.int .i64 (l.getD i bat0).ba) ∧ w.cell? ⟨b, off + i * 6 + 1, none⟩ = some (.int .i64 (l.getD i bat0).ct) ∧ w.cell? ⟨b, off + i * 6 + 2, none⟩ = some (.int .i64 (l.getD i bat0).pr) ∧
  w.cell? ⟨b, off + i * 6 + 3, none⟩ = some (.int .i64 (l.getD i bat0).ep) ∧ w.cell? ⟨b, off + i * 6 + 4, none⟩ = some (.int .i64 (l.getD i bat0).sq) ∧ w.cell? ⟨b, off + i * 6 + 5, none⟩ = some (.slice ar (l.getD i bat0).rs.length cr) ∧
  ∀ k, k < (l.getD i bat0).rs.length → ∃ b2 off2, ar = some ⟨b2, off2, none⟩ ∧ b2 < B ∧ ∀ q, q < 6 → w.cell? ⟨b2, off2 + k * 6 + q, none⟩ = some ((encL ((l.getD i bat0).rs.getD k rec0)).getD q Go.undef)

theorem ownsMap_alloc {w : World} {P : Program} {k b n : Nat} {R : Value → Option (DataW Unit × List MemPlace)} {D : DataW Unit} (h : w.ownsMap P k R b n D) (o : Obj) : (w.alloc o).ownsMap P k R b n D := by
  have hbl := h.lt
  obtain ⟨es, clock, hb, Ft, hs, hD⟩ := h
  exact ⟨es, clock, (Below.heap_alloc _ _ b hbl).trans hb, Ft, hs, hD⟩
theorem KL_snoc {l : List Rec} {k : Nat} (h : k < l.length) : KL (l.take (k + 1)) = KL (l.take k) ++ (if (l.getD k rec0).kd = true then [(l.getD k rec0).key.data.toList] else []) := by
  rw [List.take_succ_eq_append_getElem h, List.getD_eq_getElem?_getD, List.getElem?_eq_getElem h]
  simp only [KL, List.filter_append, List.map_append, Option.getD_some]
  congr 1
  cases q : l[k].kd <;> simp [q]
theorem KLs_snoc {l : List Bat} {i : Nat} (h : i < l.length) : KLs (l.take (i + 1)) = KLs (l.take i) ++ KL (l.getD i bat0).rs := by
  rw [List.take_succ_eq_append_getElem h, List.getD_eq_getElem?_getD, List.getElem?_eq_getElem h]
  simp only [KLs, List.flatMap_append, List.flatMap_cons, List.flatMap_nil, List.append_nil, Option.getD_some]

theorem keys_raw (ba : Int) (a : Option Addr) (cap : Nat) (l : List Bat) (w : World) (hl : okB l) (hk : ∀ b ∈ l, ∀ r ∈ b.rs, r.key.size ≤ 1000) (hcf : CF w w.heap.size a l) :
    Calls Try.prog 54 #[.agg #[.int .i64 ba, .slice a l.length cap]] w fun e w' => ∃ (v : Value) (ss : List (List UInt8)), e = .returned v ∧ (∀ K : List (List UInt8), K.Nodup → (∀ x, x ∈ K ↔ x ∈ KLs l) → ss.Perm K) ∧
      w'.ownsRow w.heap.size 9 1 v ss.length ((ss.mergeSort (fun x y => decide (x ≤ y))).map encStr) ∧ (v = .slice none 0 0 ↔ ss = []) ∧ Below w.heap.size w w' := by
  have hmm := @run_makeMap Try.prog
  have HCF : Aside (CF w w.heap.size a l) := hcf
  have HL : Aside (okB l) := hl
  have HKS : Aside (∀ b ∈ l, ∀ r ∈ b.rs, r.key.size ≤ 1000) := hk
  have hN : l.length ≤ 1000 := hl.1
  clear hcf hl hk
  go_enter Try.func54, Try.ntmps54
  go_wp2
  go_loopw [12] (fun s12 wr => ∃ (i : Nat) (D : DataW Unit), s12 = .int .i64 i ∧ i ≤ l.length ∧ Aside (wr.ownsMap Try.prog 9 (plainElem Try.prog 4) (w.heap.size + 1) (1000 * i) D) ∧ Aside (HasL D (KLs (l.take i))) ∧ Aside (Below w.heap.size w wr))
    (fun s12 _ => l.length - (intOf s12).toNat)
  case atStart =>
    refine ⟨0, .map [], rfl, Nat.zero_le _, ?_, (by show HasL _ _; simpa [KLs] using HasL.nil), ((Below.refl _ w).alloc (Nat.le_refl _) _).alloc (by simp) _⟩
    have := World.ownsMap_made (w.alloc (.cells #[.int .i64 ba, .slice a l.length cap] 82)) Try.prog 9 (plainElem (H := Unit) Try.prog 4)
    show World.ownsMap _ _ _ _ _ _ _
    simpa using this
  case round =>
    obtain ⟨i, D, rfl, hi, HO, HH, HB⟩ := hrel
    by_cases hlt : i < l.length
    · obtain ⟨b, off, ar, cr, rfl, hb, c0, c1, c2, c3, c4, c5, hrec⟩ := HCF.out i hlt
      have hltz : (i : Int) < (l.length : Int) := by omega
      obtain ⟨x, hx⟩ : ∃ x, x = l.getD i bat0 := ⟨_, rfl⟩
      rw [← hx] at c0 c1 c2 c3 c4 c5 hrec
      have e0 := (HB.out.cell (p := ⟨b, off + i * 6, none⟩) hb).trans c0
      have e1 := (HB.out.cell (p := ⟨b, off + i * 6 + 1, none⟩) hb).trans c1
      have e2 := (HB.out.cell (p := ⟨b, off + i * 6 + 2, none⟩) hb).trans c2
      have e3 := (HB.out.cell (p := ⟨b, off + i * 6 + 3, none⟩) hb).trans c3
      have e4 := (HB.out.cell (p := ⟨b, off + i * 6 + 4, none⟩) hb).trans c4
      have e5 := (HB.out.cell (p := ⟨b, off + i * 6 + 5, none⟩) hb).trans c5
      have HR : Aside (∀ k, k < x.rs.length → ∃ b2 off2, ar = some ⟨b2, off2, none⟩ ∧ b2 < w.heap.size ∧ ∀ q, q < 6 → w.cell? ⟨b2, off2 + k * 6 + q, none⟩ = some ((encL (x.rs.getD k rec0)).getD q Go.undef)) := hrec
      have HX : Aside (x = l.getD i bat0) := hx
      clear c0 c1 c2 c3 c4 c5 hrec hx
      go_wp2
      go_loopw [19] (fun s19 wq => ∃ (k : Nat) (D2 : DataW Unit), s19 = .int .i64 k ∧ k ≤ x.rs.length ∧ Aside (wq.ownsMap Try.prog 9 (plainElem Try.prog 4) (w.heap.size + 1) (1000 * i + k) D2) ∧ Aside (HasL D2 (KLs (l.take i) ++ KL (x.rs.take k))) ∧ Aside (Below w.heap.size w wq))
        (fun s19 _ => x.rs.length - (intOf s19).toNat)
      case atStart =>
        refine ⟨0, D, rfl, Nat.zero_le _, ownsMap_alloc HO.out _, (by show HasL _ _; simpa [KL] using HH.out), HB.out.alloc (by have := HB.out.size; omega) _⟩
      case round =>
        obtain ⟨k, D2, rfl, hk, HO2, HH2, HB2⟩ := hrel
        clear e0 e1 e2 e3 e4 e5
        by_cases hlt2 : k < x.rs.length
        · obtain ⟨b2, off2, rfl, hb2, hq⟩ := HR.out k hlt2
          have hlt2z : (k : Int) < (x.rs.length : Int) := by omega
          obtain ⟨r, hr⟩ : ∃ r, r = x.rs.getD k rec0 := ⟨_, rfl⟩
          rw [← hr] at hq
          have e0 := (HB2.out.cell (p := ⟨b2, off2 + k * 6, none⟩) hb2).trans (hq 0 (by omega))
          have e1 := (HB2.out.cell (p := ⟨b2, off2 + k * 6 + 1, none⟩) hb2).trans (hq 1 (by omega))
          have e2 := (HB2.out.cell (p := ⟨b2, off2 + k * 6 + 2, none⟩) hb2).trans (hq 2 (by omega))
          have e3 := (HB2.out.cell (p := ⟨b2, off2 + k * 6 + 3, none⟩) hb2).trans (hq 3 (by omega))
          have e4 := (HB2.out.cell (p := ⟨b2, off2 + k * 6 + 4, none⟩) hb2).trans (hq 4 (by omega))
          have e5 := (HB2.out.cell (p := ⟨b2, off2 + k * 6 + 5, none⟩) hb2).trans (hq 5 (by omega))
          simp only [encL, List.getD_cons_zero, List.getD_cons_succ] at e0 e1 e2 e3 e4 e5
          have hRx : Aside (r = x.rs.getD k rec0) := hr
          have hbig : r.key.size ≤ 1000 := by
            have hxm : x ∈ l := by rw [HX.out, List.getD_eq_getElem?_getD, List.getElem?_eq_getElem hlt]; exact List.getElem_mem hlt
            have hrm : r ∈ x.rs := by rw [hr, List.getD_eq_getElem?_getD, List.getElem?_eq_getElem hlt2]; exact List.getElem_mem hlt2
            exact HKS.out x hxm r hrm
          have hkey : keyOf Try.prog 9 (.string r.key) = some (.string r.key.data.toList) := keyOf_string_mk u9 (by unfold maxLen; omega)
          have hxr : x.rs.length ≤ 1000 := by rw [HX.out]; exact (okB_get HL.out hlt).2
          have hst := KL_snoc hlt2
          rw [← hr] at hst
          clear hq hr
          cases hkd : r.kd with
          | false =>
            rw [hkd] at e2
            rw [hkd] at hst
            go_wp2
            go_roundw
            case rel =>
              refine ⟨k + 1, D2, by go_num, by omega, ownsMap_alloc (HO2.out.mono (by omega)) _, ?_, HB2.out.alloc (by have := HB2.out.size; omega) _⟩
              show HasL _ _
              rw [hst]
              simpa using HH2.out
            case measure => simp [intOf]; omega
          | true =>
            rw [hkd] at e2
            rw [hkd] at hst
            have hown := ownsMap_alloc HO2.out (.cells #[.int .i64 r.dl, .int .i64 r.tm, .bool true, .string r.key, .bool r.dd, .string r.val] 111)
            go_wp2_with (first
              | (at_mapUpdate; refine wpList_mapUpdate_own _ rfl _ _ _ 155 rfl 9 4 law9 u155 _ (w.heap.size + 1) (1000 * i + k) _ rfl hown (by unfold maxLen; omega) _ _ _ rfl rfl hkey _ [] (plainElem_bool u4 true) ?_)
              | go_in)
            intro w1 hown1 hgrow1
            have R1 := HH2.out.put r.key.data.toList (by exact trivial) (DataW.lit (Lit.bool true))
            have R2 : Below w.heap.size w w1 := (HB2.out.alloc (by have := HB2.out.size; omega) _).grown hgrow1 (by have := HB2.out.size; simp; omega) (fun j hj => by cases hj; omega)
            have HO3 : Aside _ := hown1
            have HH3 : Aside _ := R1
            have HB3 : Aside _ := R2
            clear hown1 R1 R2 hgrow1 hown
            go_wp2
            go_roundw
            case rel =>
              refine ⟨k + 1, _, by go_num, by omega, HO3, ?_, HB3⟩
              show HasL _ _
              rw [hst, if_pos trivial, ← List.append_assoc]
              exact HH3.out
            case measure => simp [intOf]; omega
        · have hkn : k = x.rs.length := by omega
          subst hkn
          go_wp2
          go_roundw
          case rel =>
            refine ⟨i + 1, D2, by go_num, by omega, HO2.out.mono ?_, ?_, HB2⟩
            · have hxr : x.rs.length ≤ 1000 := by rw [HX.out]; exact (okB_get HL.out hlt).2
              omega
            · show HasL _ _
              rw [KLs_snoc hlt, ← HX.out]
              simpa using HH2.out
          case measure => simp [intOf]; omega
    · have hin : i = l.length := by omega
      subst hin
      have hown := HO.out
      go_wp2_with (first
        | (go_at_call 114; refine ((callsIn_wide (n := 5)).1 (Try.maps_Keys_114 _ _)).mono ?_; rintro e w' ⟨rfl, rfl⟩)
        | (go_at_call 113; refine ((callsIn_wide (n := 5)).1 (Try.slices_Sorted_keys_113_114 _ _ _ _ _ hown (Nat.le_trans hown.size_le (by unfold maxLen; omega)) (by have := hown.size_le; omega))).mono ?_; rintro e w' ⟨v, ss, rfl, hS, hrow, hnil, hb⟩))
      go_ret
      have hsz := HB.out.size
      have hKs : ∀ K : List (List UInt8), K.Nodup → (∀ x, x ∈ K ↔ x ∈ KLs l) → ss.Perm K := by
        intro K h1 h2
        have h3 := HH.out.2
        rw [List.take_length] at h3
        have hc : Collected D (fun _ => false) K := ⟨h1, fun x => by rw [h2 x, ← h3 x]; simp⟩
        exact hS.trans (hc.perm hown law9 u9 (fun _ => rfl)).symm
      refine ⟨v, ss, rfl, hKs, ownsRow_base_a hrow (by simp; omega), hnil, (HB.out.alloc hsz _).trans (hb.mono (by simp; omega))⟩
end Go.Proofs.Ytflcdbfcipkhkaa

/- The document's keys are the sorted ones. -/


set_option linter.unusedSimpArgs false
set_option linter.unusedVariables false
set_option maxHeartbeats 4000000
namespace Go.Proofs.Ytflcdbfcipkhkaa
open Go.Av Go.Sort Go.Maps Go.Shelf

def bk (s : ByteArray) : List UInt8 := s.data.toList
theorem lts_iff (a b : ByteArray) : lts a b = true ↔ bk a < bk b := by
  unfold lts bk
  rw [bytesLess_eq, ByteArray.toList_eq, ByteArray.toList_eq]
  simp
/-- Put into its place. -/
def insR (k : List UInt8) : List (List UInt8) → List (List UInt8)
  | [] => [k]
  | x :: l => if x < k then x :: insR k l else if x = k then x :: l else k :: x :: l
theorem insK_bk (k : ByteArray) : ∀ l : List ByteArray, (insK k l).map bk = insR (bk k) (l.map bk)
  | [] => by simp [insK, posK, atK, insR]
  | x :: l => by
    have ih := insK_bk k l
    by_cases q : lts x k = true
    · have q2 : bk x < bk k := (lts_iff x k).1 q
      have h : insK k (x :: l) = x :: insK k l := by
        unfold insK
        rw [posK, if_pos q]
        have : atK k (x :: l) (posK k l + 1) = atK k l (posK k l) := by simp [atK]
        rw [this]
        split <;> simp
      rw [h, List.map_cons, List.map_cons, insR, if_pos q2, ih]
    · have q2 : ¬ bk x < bk k := fun z => q ((lts_iff x k).2 z)
      rw [List.map_cons, insR, if_neg q2]
      have hat : atK k (x :: l) 0 = (x.toList == k.toList) := by simp [atK]
      unfold insK
      rw [posK, if_neg q, hat]
      by_cases q3 : bk x = bk k
      · have : (x.toList == k.toList) = true := by rw [ByteArray.toList_eq, ByteArray.toList_eq]; simpa [bk] using q3
        rw [this, if_pos rfl, if_pos q3, List.map_cons]
      · have : (x.toList == k.toList) = false := by rw [ByteArray.toList_eq, ByteArray.toList_eq]; simpa [bk] using q3
        rw [this, if_neg (by simp), if_neg q3]
        simp
theorem insR_mem (k : List UInt8) : ∀ (l : List (List UInt8)) (x : List UInt8), x ∈ insR k l ↔ x = k ∨ x ∈ l
  | [], x => by simp [insR]
  | y :: l, x => by
    rw [insR]
    split
    · rw [List.mem_cons, insR_mem k l x, List.mem_cons]
      constructor
      · rintro (h | h | h)
        · exact .inr (.inl h)
        · exact .inl h
        · exact .inr (.inr h)
      · rintro (h | h | h)
        · exact .inr (.inl h)
        · exact .inl h
        · exact .inr (.inr h)
    · split
      · rename_i h
        subst h
        simp
      · simp
theorem insR_sorted (k : List UInt8) : ∀ (l : List (List UInt8)), l.Pairwise (· < ·) → (insR k l).Pairwise (· < ·)
  | [], _ => by simp [insR]
  | y :: l, h => by
    rw [List.pairwise_cons] at h
    rw [insR]
    split
    · rename_i q
      rw [List.pairwise_cons]
      refine ⟨fun z hz => ?_, insR_sorted k l h.2⟩
      rcases (insR_mem k l z).1 hz with rfl | hz
      · exact q
      · exact h.1 z hz
    · split
      · exact List.pairwise_cons.2 h
      · rename_i q1 q2
        have hlt : k < y := by
          rcases Std.lt_trichotomy k y with h | h | h
          · exact h
          · exact absurd h.symm q2
          · exact absurd h q1
        rw [List.pairwise_cons]
        refine ⟨fun z hz => ?_, List.pairwise_cons.2 h⟩
        rcases List.mem_cons.1 hz with rfl | hz
        · exact hlt
        · exact List.lt_trans hlt (h.1 z hz)
def KOk (out : List ByteArray) (L : List (List UInt8)) : Prop := (out.map bk).Pairwise (· < ·) ∧ ∀ x, x ∈ out.map bk ↔ x ∈ L
theorem keyB_ok : ∀ (l : List Rec) (out : List ByteArray) (L : List (List UInt8)), KOk out L → KOk (keyB l out) (L ++ KL l)
  | [], out, L, h => by simpa [keyB, KL] using h
  | r :: l, out, L, h => by
    rw [keyB]
    by_cases q : r.kd = true
    · have e : L ++ KL (r :: l) = (L ++ [bk r.key]) ++ KL l := by simp [KL, q, bk]
      rw [e]
      refine keyB_ok l _ _ ?_
      unfold keyR
      rw [if_pos q]
      refine ⟨by rw [insK_bk]; exact insR_sorted _ _ h.1, fun x => ?_⟩
      rw [insK_bk, insR_mem, h.2 x]
      simp [or_comm]
    · have e : L ++ KL (r :: l) = L ++ KL l := by simp [KL, q]
      rw [e]
      refine keyB_ok l _ _ ?_
      unfold keyR
      rw [if_neg q]
      exact h
theorem keyS_ok : ∀ (l : List Bat) (out : List ByteArray) (L : List (List UInt8)), KOk out L → KOk (keyS l out) (L ++ KLs l)
  | [], out, L, h => by simpa [keyS, KLs] using h
  | b :: l, out, L, h => by
    rw [keyS]
    have := keyS_ok l _ _ (keyB_ok b.rs out L h)
    simpa [KLs] using this
theorem sort_keys (l : List Bat) {ss : List (List UInt8)} (h : ∀ K : List (List UInt8), K.Nodup → (∀ x, x ∈ K ↔ x ∈ KLs l) → ss.Perm K) : (ss.mergeSort fun x y => decide (x ≤ y)) = (keyS l []).map bk := by
  obtain ⟨h1, h2⟩ := keyS_ok l [] [] ⟨by simp, by simp⟩
  simp only [List.nil_append] at h2
  have hp := h ((keyS l []).map bk) (h1.imp (fun {a b} hab e => by subst e; exact List.lt_irrefl a hab)) h2
  rw [mergeSort_of_perm hp]
  refine List.mergeSort_of_pairwise ?_
  exact h1.imp (fun {a b} hab => by simp only [decide_eq_true_eq]; exact List.le_of_lt hab)
end Go.Proofs.Ytflcdbfcipkhkaa
