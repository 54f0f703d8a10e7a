import Derived.Test.YtkiimlmlfhmkiaaMCmU
import Derived.Test.YtkiimlmlfhmkiaaMCbE

set_option linter.unusedVariables false
set_option linter.unusedSimpArgs false

/- Meta: the law Back. -/

set_option linter.unusedSimpArgs false
set_option linter.unusedVariables false
set_option maxHeartbeats 8000000
set_option maxRecDepth 100000
namespace Go.Proofs.Ytkiimlmlfhmkiaa
open Go.Av

theorem law_mback (gen : Int) (l : List Met) (hg : I64 gen) (ho : ∀ m ∈ l, m.ok) : Pure Try.prog 6 [.int .i64 gen, .sl 9 (ML l)] (.sv (.bool true)) := by
  have e14 := RM_14 l 60
  have e15 := RM_15
  have e16 := RM_16
  have e22 := RM_22
  have e24 := RM_24
  have e26 := RM_26 l l
  rw [(metsS_iff l l).2 rfl] at e26
  have e27 := RM_27 gen l
  have hw := mawake
  have hR := RM_ok
  have hnf : RM.nofz = false := rfl
  generalize RM = R at hR e14 e15 e16 e22 e24 e26 e27 hnf
  refine pure_go hR Try.func6 Try.ntmps6 comp6 cres6 (by decide) (by simp) ?_
  cases h1 : lightM l 60
  · simp [ac6, ar6, e14, e15, h1, hw, hnf]
  have hl := lightM_len h1
  simp [ac6, ar6, e14, e15, h1, hw, hnf]
  refine awpR_loop (α := Nat) (fun i => i ≤ l.length) (fun i => { n := 155, sl := [(0, .sv (.int .i64 gen)), (1, .sv (.sl 9 (ML l))), (5, .sv (.int .i64 i))], bx := [], hp := fun _ => none })
    (fun i => l.length - i) 0 (by omega) (by simp) ?_
  intro i hi
  by_cases h : i < l.length
  · have h1 : (i : Int) < l.length := by omega
    have hw1 : IntKind.i64.wrap ((i : Int) + 1) = ((i + 1 : Nat) : Int) := by rw [IntKind.wrap_i64]; omega
    have hgt := ML_get l h
    have hiA : i < (ML l).length := by simpa [ML] using h
    have hg2 : (ML l)[i] = (l.getD i met0).sv := by rw [← hgt, List.getElem?_eq_getElem hiA]; rfl
    have hM : (l.getD i met0).ok := by
      rw [List.getD_eq_getElem?_getD, List.getElem?_eq_getElem h]
      exact ho _ (List.getElem_mem _)
    have hL : (ML l).length = l.length := by simp [ML]
    have fin : ∃ a', a' ≤ l.length ∧ l.length - a' < l.length - i ∧ ((i : Int) + 1) = (a' : Int) := ⟨i + 1, by omega, by omega, by omega⟩
    generalize l.getD i met0 = M at hgt hg2 hM
    by_cases hE : metE M = 0
    · have e16' := e16 M
      rw [hE, putM, if_pos hE] at e16'
      have e22a := e22 (metL M)
      rw [metG_lay hM hE] at e22a
      have e22m := e22 (metL M ++ [0])
      rw [metG_more hM hE 0 (by decide)] at e22m
      have e22l := e22 (metL M).dropLast
      rw [metG_less hM hE] at e22l
      have hby := metL_bytes hM hE
      have hpos := metL_pos M
      have hle := metL_le hM hE
      generalize metL M = X at e16' e22a e22m e22l hby hpos hle
      have hw3 : IntKind.i64.wrap ((X.length : Int) - 1) = ((X.length - 1 : Nat) : Int) := by rw [wrap_i64_in (by omega) (by omega)]; omega
      have hne : ¬ ((X.length : Int) = 0) := by omega
      have hne2 : ¬ (X = []) := fun q => by rw [q] at hpos; simp at hpos
      have hxa : bs X ++ [.int .u8 0] = bs (X ++ [0]) := by simp [bs]
      have hxd : (bs X).take (X.length - 1) = bs X.dropLast := by
        rw [List.dropLast_eq_take]; simp [bs]
      have hb0 : Bytes (X ++ [0]) := fun c hc => by
        rcases List.mem_append.1 hc with hc | hc
        · exact hby c hc
        · simp at hc; omega
      have hb1 : Bytes X.dropLast := fun c hc => hby c (List.dropLast_subset X hc)
      have hS : M.kd = M.kd := rfl
      simp only [msv, met0] at e16' e22a e22m e22l
      clear e16 e22 e24 e26 e27 e14 e15
      simp (maxSteps := 400000) [h1, hgt, hg2, hL, h, Met.sv, Met.cells, e16', e22a, e22m, e22l, hM, hnf, hw3, hne, hne2, hxa, hxd, hby, hb0, hb1, hw1]
      exact ⟨by omega, ⟨⟨by omega, by omega⟩, by omega⟩, by omega, fin⟩
    · have e16' := e16 M
      have hp : putM M = [] := if_neg hE
      generalize putM M = X at e16' hp
      have e22a := e22 X
      have e22m := e22 (X ++ [0])
      have e22l := e22 X.dropLast
      generalize metG X = G1 at e22a
      generalize metG (X ++ [0]) = G2 at e22m
      generalize metG X.dropLast = G3 at e22l
      generalize metE M = E at e16' hE
      simp only [msv, met0] at e16' e22a e22m e22l
      clear e16 e22 e24 e26 e27 e14 e15
      have hxa : bs X ++ [.int .u8 0] = bs (X ++ [0]) := by simp [bs]
      simp (maxSteps := 600000) [h1, hgt, hg2, hL, h, Met.sv, Met.cells, e16', e22a, e22m, e22l, hM, hnf, hw1, hE, hxa]
      exact fin
  · have h1 : ¬ (i : Int) < l.length := by omega
    have hlen : l.length ≤ 100000 := by omega
    have hlm : l.length < 4611686018427387904 := by omega
    by_cases hA : allE gen l = 0
    · have hok : okAll gen l := ⟨hg, ho, hA⟩
      have hal := hok.facts.2.2.2
      have hle := hok.facts.2.1
      rw [hal, hA] at e27
      have e24a := e24 (allL gen l)
      rw [getA_lay hok] at e24a
      have e24m := e24 (allL gen l ++ [0])
      rw [getA_more hok 0 (by decide)] at e24m
      have e24l := e24 (allL gen l).dropLast
      rw [getA_less hok] at e24l
      have hby := allL_bytes hok
      have hpos := allL_pos gen l
      clear hal
      generalize allL gen l = X at e27 e24a e24m e24l hby hpos hle
      have hw3 : IntKind.i64.wrap ((X.length : Int) - 1) = ((X.length - 1 : Nat) : Int) := by rw [wrap_i64_in (by omega) (by omega)]; omega
      have hne : ¬ ((X.length : Int) = 0) := by omega
      have hne2 : ¬ (X = []) := fun q => by rw [q] at hpos; simp at hpos
      have hxa : bs X ++ [.int .u8 0] = bs (X ++ [0]) := by simp [bs]
      have hxd : (bs X).take (X.length - 1) = bs X.dropLast := by
        rw [List.dropLast_eq_take]; simp [bs]
      have hb0 : Bytes (X ++ [0]) := fun c hc => by
        rcases List.mem_append.1 hc with hc | hc
        · exact hby c hc
        · simp at hc; omega
      have hb1 : Bytes X.dropLast := fun c hc => hby c (List.dropLast_subset X hc)
      simp (maxSteps := 400000) [h1, e15, e27, e24a, e24m, e24l, e26, hg, hlen, hlm, hnf, hw, hw3, hne, hne2, hxa, hxd, hby, hb0, hb1]
      exact ⟨ho, by omega, ⟨⟨by omega, by omega⟩, by omega⟩, by omega⟩
    · have hal : allB gen l = [] := if_neg hA
      have e27' := e27
      rw [hal] at e27'
      have e24a := e24 []
      have e24m := e24 [0]
      generalize getA [] = G1 at e24a
      generalize getA [0] = G2 at e24m
      generalize allE gen l = E at e27' hA
      clear e16 e22 e27
      simp (maxSteps := 600000) [h1, e15, e27', e24, e24a, e24m, e26, hg, hlen, hlm, hnf, hw, hA]
      exact ho
end Go.Proofs.Ytkiimlmlfhmkiaa

set_option linter.unusedSimpArgs false
set_option linter.unusedVariables false
set_option maxHeartbeats 4000000
namespace Go.Proofs.Ytkiimlmlfhmkiaa
open Go.Av

theorem RL_nil : RL [] = [] := rfl
def goR : Nat → List Nat → Int → List Rec → Option (List Rec)
  | 0, _, _, acc => some acc
  | k + 1, l, e, acc => if (recG l e).2.1 ≠ 0 then none else goR k (recG l e).2.2.1 (recG l e).2.2.2 (acc ++ [(recG l e).1])
def goQ : Nat → List Nat → Int → List Rec → List Rec
  | 0, _, _, acc => acc
  | k + 1, l, e, acc => if e = 0 then goQ k (recG l e).2.2.1 (recG l e).2.2.2 (acc ++ [(recG l e).1]) else acc
def p1 (l : List Nat) : Int × List Nat × Int := rNum l 0
def p2 (l : List Nat) : Int × List Nat × Int := rNum (p1 l).2.1 (p1 l).2.2
def p3 (l : List Nat) : Int × List Nat × Int := rNum (p2 l).2.1 (p2 l).2.2
def p4 (l : List Nat) : Int × List Nat × Int := rNum (p3 l).2.1 (p3 l).2.2
def p5 (l : List Nat) : Int × List Nat × Int := rNum (p4 l).2.1 (p4 l).2.2
def p6 (l : List Nat) : Int × List Nat × Int := rNum (p5 l).2.1 (p5 l).2.2
def cntG (n : Int) : Nat := if n < 0 then 0 else if 32 < n then 32 else n.toNat
def bat0 : Bat := ⟨0, 0, 0, 0, 0, []⟩
def finG (l : List Nat) (b : Bat) : Bat × Int := if batE b = 0 ∧ layB b = l then (b, 0) else (bat0, 4)
def batG (l : List Nat) : Bat × Int :=
  match goR (cntG (p6 l).1) (p6 l).2.1 (p6 l).2.2 [] with
  | none => (bat0, 4)
  | some rs => finG l ⟨(p1 l).1, (p2 l).1, (p3 l).1, (p4 l).1, (p5 l).1, rs⟩
def batQ (l : List Nat) : Bat × Int :=
  if 8192 < l.length then (bat0, 4) else finG l ⟨(p1 l).1, (p2 l).1, (p3 l).1, (p4 l).1, (p5 l).1, goQ (cntG (p6 l).1) (p6 l).2.1 (p6 l).2.2 []⟩

def RQ : Orc := { R3 with
  p := fun f l => match f, l with
    | 31, [.agg [.int .i64 a, .int .i64 b, .int .i64 c, .int .i64 d, .int .i64 e, .sl 6 xs]] => some (xs = RL (unRL xs) ∧ Bat.ok ⟨a, b, c, d, e, unRL xs⟩, .tup [.own 1 (bs (putB ⟨a, b, c, d, e, unRL xs⟩)), .sv (.int .i64 (batE ⟨a, b, c, d, e, unRL xs⟩))])
    | 78, [.sl 1 xs, .sl 1 ys] => some (IsBs xs ∧ IsBs ys ∧ xs.length < 4611686018427387904, .sv (.bool (decide (nsOf xs = nsOf ys))))
    | f, l => R3.p f l
  e := fun f cells l => match f, cells, l with
    | 77, [.sl 1 xs, .int .i64 e], [] => some (IsBs xs ∧ xs.length < 4611686018427387904, .tup [.sv (recG (nsOf xs) e).1.sv, .sv (.int .i64 (recG (nsOf xs) e).2.1)], [.sl 1 (bs (recG (nsOf xs) e).2.2.1), .int .i64 (recG (nsOf xs) e).2.2.2])
    | f, cells, l => RT.e f cells l
  n := RT.n }
theorem RQ_ok : RQ.ok Try.prog := by
  refine ⟨fun f l c rv h hc => ?_, fun f cells l c rv cells' h hc => ?_, RT_ok.n, fun _ h => (by cases h), fun _ _ _ _ _ _ h => (by cases h), fun _ _ _ _ _ _ _ h => (by cases h)⟩
  · simp only [RQ] at h
    split at h
    · cases h
      rename_i a b c d e xs
      obtain ⟨h1, h2⟩ := hc
      have := put_bat ⟨a, b, c, d, e, unRL xs⟩ h2
      simp only [Bat.sv, Bat.cells, ← h1] at this
      exact this
    · cases h
      rename_i xs ys
      obtain ⟨⟨e1, h1⟩, ⟨e2, h2⟩, h3⟩ := hc
      have := eqB_pure (nsOf xs) (nsOf ys) (by rw [e1] at h3; simpa using h3)
      rwa [← e1, ← e2] at this
    · exact R3_ok.p _ _ _ _ h hc
  · simp only [RQ] at h
    split at h
    · cases h
      rename_i xs e
      obtain ⟨⟨e1, h1⟩, h2⟩ := hc
      have := get_rec (nsOf xs) e h1 (by rw [e1] at h2; simpa using h2)
      rwa [← e1] at this
    · exact RT_ok.e _ _ _ _ _ _ h hc
theorem RQ_31 (b : Bat) : RQ.p 31 [.agg [.int .i64 b.ba, .int .i64 b.ct, .int .i64 b.pr, .int .i64 b.ep, .int .i64 b.sq, .sl 6 (RL b.rs)]] = some (RL b.rs = RL b.rs ∧ b.ok, .tup [.own 1 (bs (putB b)), .sv (.int .i64 (batE b))]) := by
  show some (RL b.rs = RL (unRL (RL b.rs)) ∧ Bat.ok ⟨b.ba, b.ct, b.pr, b.ep, b.sq, unRL (RL b.rs)⟩, LV.tup [.own 1 (bs (putB ⟨b.ba, b.ct, b.pr, b.ep, b.sq, unRL (RL b.rs)⟩)), .sv (.int .i64 (batE ⟨b.ba, b.ct, b.pr, b.ep, b.sq, unRL (RL b.rs)⟩))]) = _
  rw [unRL_RL]
theorem RQ_77 (l : List Nat) (e : Int) : RQ.e 77 [.sl 1 (bs l), .int .i64 e] [] = some (IsBs (bs l) ∧ (bs l).length < 4611686018427387904, .tup [.sv (recG l e).1.sv, .sv (.int .i64 (recG l e).2.1)], [.sl 1 (bs (recG l e).2.2.1), .int .i64 (recG l e).2.2.2]) := by
  show some (IsBs (bs l) ∧ (bs l).length < 4611686018427387904, LV.tup [.sv (recG (nsOf (bs l)) e).1.sv, .sv (.int .i64 (recG (nsOf (bs l)) e).2.1)], [SV.sl 1 (bs (recG (nsOf (bs l)) e).2.2.1), .int .i64 (recG (nsOf (bs l)) e).2.2.2]) = _
  rw [nsOf_bs]
theorem RQ_62 (l : List Nat) (e : Int) : RQ.e 62 [.sl 1 (bs l), .int .i64 e] [] = some (IsBs (bs l) ∧ (bs l).length < 4611686018427387904, .sv (.int .i64 (rNum l e).1), [.sl 1 (bs (rNum l e).2.1), .int .i64 (rNum l e).2.2]) := by
  show some (IsBs (bs l) ∧ (bs l).length < 4611686018427387904, LV.sv (.int .i64 (rNum (nsOf (bs l)) e).1), [SV.sl 1 (bs (rNum (nsOf (bs l)) e).2.1), .int .i64 (rNum (nsOf (bs l)) e).2.2]) = _
  rw [nsOf_bs]
theorem RQ_59 (xs : List SV) : RQ.n 59 [.sl 1 xs] = some (xs.length ≤ 140737488355328, [.sl 1 xs, .int .i64 0]) := rfl
theorem RQ_78 (a b : List Nat) : RQ.p 78 [.sl 1 (bs a), .sl 1 (bs b)] = some (IsBs (bs a) ∧ IsBs (bs b) ∧ (bs a).length < 4611686018427387904, .sv (.bool (decide (a = b)))) := by
  show some (IsBs (bs a) ∧ IsBs (bs b) ∧ (bs a).length < 4611686018427387904, LV.sv (.bool (decide (nsOf (bs a) = nsOf (bs b))))) = _
  rw [nsOf_bs, nsOf_bs]
theorem goR_drop (n i : Nat) (l : List Nat) (e : Int) (acc : List Rec) (h : i < n) : goR (n - i) l e acc = if (recG l e).2.1 ≠ 0 then none else goR (n - (i + 1)) (recG l e).2.2.1 (recG l e).2.2.2 (acc ++ [(recG l e).1]) := by
  rw [show n - i = (n - (i + 1)) + 1 by omega]; rfl

theorem layB_bytes (b : Bat) : Bytes (layB b) := by
  intro c hc
  simp only [layB, numsB, recsB, List.mem_append, List.mem_flatten, List.mem_map] at hc
  rcases hc with ⟨x, ⟨n, _, rfl⟩, hx⟩ | ⟨x, ⟨r, _, rfl⟩, hx⟩
  · exact layN_bytes _ c hx
  · unfold putR at hx
    split at hx
    · exact recP_bytes r c hx
    · simp at hx
theorem putB_bytes (b : Bat) : Bytes (putB b) := by
  unfold putB
  split
  · exact layB_bytes b
  · intro c hc; simp at hc
theorem putB_le (b : Bat) : (putB b).length ≤ 8192 := by
  unfold putB
  split
  · rename_i h; exact batE_lay h
  · simp
theorem get_bat (l : List Nat) (hb : Bytes l) (hl : l.length < 140737488355328) : Pure Try.prog 36 [.sl 1 (bs l)] (.tup [.sv (batG l).1.sv, .sv (.int .i64 (batG l).2)]) := by
  refine pure_go RQ_ok Try.func36 Try.ntmps36 comp36 cres36 (by decide) (by simp) ?_
  have b1 := rNum_bytes hb 0
  have c1 := rNum_le l 0
  have b2 := rNum_bytes b1 (rNum l 0).2.2
  have c2 := rNum_le (rNum l 0).2.1 (rNum l 0).2.2
  unfold batG p6 p5 p4 p3 p2 p1
  have i1 := rNum_in l 0
  generalize h1 : rNum l 0 = q1 at i1 b1 c1 b2 c2 ⊢
  obtain ⟨n1, l1, e1⟩ := q1
  simp only at i1 b1 c1 b2 c2 ⊢
  have i2 := rNum_in l1 e1
  generalize h2 : rNum l1 e1 = q2 at i2 b2 c2 ⊢
  obtain ⟨n2, l2, e2⟩ := q2
  simp only at i2 b2 c2 ⊢
  have b3 := rNum_bytes b2 e2
  have c3 := rNum_le l2 e2
  have i3 := rNum_in l2 e2
  generalize h3 : rNum l2 e2 = q3 at i3 b3 c3 ⊢
  obtain ⟨n3, l3, e3⟩ := q3
  simp only at i3 b3 c3 ⊢
  have b4 := rNum_bytes b3 e3
  have c4 := rNum_le l3 e3
  have i4 := rNum_in l3 e3
  generalize h4 : rNum l3 e3 = q4 at i4 b4 c4 ⊢
  obtain ⟨n4, l4, e4⟩ := q4
  simp only at i4 b4 c4 ⊢
  have b5 := rNum_bytes b4 e4
  have c5 := rNum_le l4 e4
  have i5 := rNum_in l4 e4
  generalize h5 : rNum l4 e4 = q5 at i5 b5 c5 ⊢
  obtain ⟨n5, l5, e5⟩ := q5
  simp only at i5 b5 c5 ⊢
  have b6 := rNum_bytes b5 e5
  have c6 := rNum_le l5 e5
  generalize h6 : rNum l5 e5 = q6 at b6 c6 ⊢
  obtain ⟨n6, l6, e6⟩ := q6
  simp only at b6 c6 ⊢
  have d0 : l.length < 4611686018427387904 := by omega
  have d1 : l1.length < 4611686018427387904 := by omega
  have d2 : l2.length < 4611686018427387904 := by omega
  have d3 : l3.length < 4611686018427387904 := by omega
  have d4 : l4.length < 4611686018427387904 := by omega
  have d5 : l5.length < 4611686018427387904 := by omega
  have dl : l.length ≤ 140737488355328 := by omega
  have hcn : max 0 (min n6 32) = ((cntG n6 : Nat) : Int) := by
    unfold cntG
    split
    · omega
    · split <;> omega
  have hcl : cntG n6 ≤ 32 := by
    unfold cntG
    split
    · omega
    · split <;> omega
  simp [ac36, ar36, RQ_59, RQ_62, dl, isBs_bs, hb, b1, b2, b3, b4, b5, h1, h2, h3, h4, h5, h6, d0, d1, d2, d3, d4, d5]
  have hcn' : (if 0 < if 32 < n6 then 32 else n6 then if 32 < n6 then 32 else n6 else 0) = ((cntG n6 : Nat) : Int) := by
    unfold cntG
    by_cases a1 : n6 < 0
    · rw [if_pos a1, if_neg (by split <;> omega)]; rfl
    · by_cases a2 : 32 < n6
      · rw [if_neg a1, if_pos a2, if_pos a2]; rfl
      · rw [if_neg a1, if_neg a2, if_neg a2]
        split <;> omega
  rw [hcn']
  clear hcn' hcn
  generalize cntG n6 = cn at hcl ⊢
  refine awpR_loop (α := Nat × List Rec × List Nat × Int) (fun x => x.1 ≤ cn ∧ x.2.1.length = x.1 ∧ Bytes x.2.2.1 ∧ x.2.2.1.length ≤ l6.length ∧ goR cn l6 e6 [] = goR (cn - x.1) x.2.2.1 x.2.2.2 x.2.1)
    (fun x => { n := 59, sl := [(0, .sv (.sl 1 (bs l))), (2, .lptr 2 0), (4, .lptr 11 0), (5, .lptr 5 0), (26, .sv (.int .i64 cn)), (27, .sv (.int .i64 x.1))], bx := [(11, [.sv (.sl 1 (bs x.2.2.1)), .sv (.int .i64 x.2.2.2)]), (5, [.sv (.int .i64 n1), .sv (.int .i64 n2), .sv (.int .i64 n3), .sv (.int .i64 n4), .sv (.int .i64 n5), .own 6 (RL x.2.1)]), (2, bat0.cells.map .sv)], hp := fun _ => none })
    (fun x => cn - x.1) (0, [], l6, e6) ⟨by omega, rfl, b6, Nat.le_refl _, rfl⟩ (by simp [RL, bat0, Bat.cells]) ?_
  rintro ⟨i, acc, l', e'⟩ ⟨hi, ha, hb', hle', he⟩
  simp only at hi ha hb' hle' he
  by_cases h : i < cn
  · have k1 : (i : Int) < cn := by omega
    have hw : IntKind.i64.wrap ((i : Int) + 1) = ((i + 1 : Nat) : Int) := by rw [IntKind.wrap_i64]; omega
    have dl' : l'.length < 4611686018427387904 := by omega
    rw [goR_drop _ _ _ _ _ h] at he
    have r2 := recG_bytes hb' e'
    have r3 := recG_le l' e'
    generalize hrg : recG l' e' = rg at he r2 r3
    obtain ⟨r, er, lr, erd⟩ := rg
    simp only at he r2 r3
    by_cases k2 : er = 0
    · rw [if_neg (fun q => q k2)] at he
      simp [k1, RQ_77, isBs_bs, hb', dl', hrg, k2, Rec.sv, Rec.cells, hw, bat0, Bat.cells]
      exact ⟨by omega, i + 1, acc ++ [r], lr, erd, ⟨by omega, by simp [ha], r2, by omega, he⟩, by omega, by omega, ⟨rfl, rfl⟩, by simp [RL, Rec.sv, Rec.cells]⟩
    · rw [if_pos k2] at he
      simp [k1, RQ_77, isBs_bs, hb', dl', hrg, k2, Rec.sv, Rec.cells, hw, bat0, Bat.cells, he, Bat.sv, RL_nil]
  · have k1 : ¬ (i : Int) < cn := by omega
    obtain rfl : i = cn := by omega
    rw [Nat.sub_self] at he
    simp only [goR] at he
    simp only [he]
    have hR := RQ_31 ⟨n1, n2, n3, n4, n5, acc⟩
    have hok : Bat.ok ⟨n1, n2, n3, n4, n5, acc⟩ := ⟨i1, i2, i3, i4, i5⟩
    simp only at hR
    generalize hbb : (⟨n1, n2, n3, n4, n5, acc⟩ : Bat) = b at hR hok ⊢
    have h78 := RQ_78 (putB b) l
    have hpb := putB_bytes b
    have hpl : (putB b).length < 4611686018427387904 := by have := putB_le b; omega
    unfold finG
    by_cases k2 : batE b = 0
    · have hp : putB b = layB b := if_pos k2
      rw [hp] at h78 hpb hpl hR
      by_cases k3 : layB b = l
      · rw [if_pos ⟨k2, k3⟩]
        rw [k3] at h78 hpb hpl hR
        simp [k1, hR, hok, h78, isBs_bs, hpb, hpl, hb, k2, bat0, Bat.cells, Bat.sv]
        subst hbb
        exact ⟨rfl, rfl, rfl, rfl, rfl, rfl⟩
      · rw [if_neg (fun q => k3 q.2)]
        simp [k1, hR, hok, h78, isBs_bs, hpb, hpl, hb, k2, k3, bat0, Bat.cells, Bat.sv, RL_nil]
    · rw [if_neg (fun q => k2 q.1)]
      simp [k1, hR, hok, h78, isBs_bs, hpb, hpl, hb, k2, bat0, Bat.cells, Bat.sv, RL_nil]
end Go.Proofs.Ytkiimlmlfhmkiaa
