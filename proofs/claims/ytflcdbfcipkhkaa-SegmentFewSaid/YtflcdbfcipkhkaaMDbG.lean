import Derived.Test.YtflcdbfcipkhkaaMDgC
import Derived.Test.YtflcdbfcipkhkaaAvAD
import Derived.Test.YtflcdbfcipkhkaaAvL3

set_option linter.unusedVariables false
set_option linter.unusedSimpArgs false

set_option linter.unusedSimpArgs false
set_option linter.unusedVariables false
set_option maxHeartbeats 4000000
namespace Go.Proofs.Ytflcdbfcipkhkaa
open Go.Av

theorem RL_nil : RL [] = [] := rfl
def goR : Nat → List Nat → Int → List Rec → Option (List Rec)
  | 0, _, _, acc => some acc
  | k + 1, l, e, acc => if (recG l e).2.1 ≠ 0 then none else goR k (recG l e).2.2.1 (recG l e).2.2.2 (acc ++ [(recG l e).1])
def goQ : Nat → List Nat → Int → List Rec → List Rec
  | 0, _, _, acc => acc
  | k + 1, l, e, acc => if e = 0 then goQ k (recG l e).2.2.1 (recG l e).2.2.2 (acc ++ [(recG l e).1]) else acc
def p1 (l : List Nat) : Int × List Nat × Int := rNum l 0
def p2 (l : List Nat) : Int × List Nat × Int := rNum (p1 l).2.1 (p1 l).2.2
def p3 (l : List Nat) : Int × List Nat × Int := rNum (p2 l).2.1 (p2 l).2.2
def p4 (l : List Nat) : Int × List Nat × Int := rNum (p3 l).2.1 (p3 l).2.2
def p5 (l : List Nat) : Int × List Nat × Int := rNum (p4 l).2.1 (p4 l).2.2
def p6 (l : List Nat) : Int × List Nat × Int := rNum (p5 l).2.1 (p5 l).2.2
def cntG (n : Int) : Nat := if n < 0 then 0 else if 32 < n then 32 else n.toNat
def bat0 : Bat := ⟨0, 0, 0, 0, 0, []⟩
def finG (l : List Nat) (b : Bat) : Bat × Int := if batE b = 0 ∧ layB b = l then (b, 0) else (bat0, 4)
def batG (l : List Nat) : Bat × Int :=
  match goR (cntG (p6 l).1) (p6 l).2.1 (p6 l).2.2 [] with
  | none => (bat0, 4)
  | some rs => finG l ⟨(p1 l).1, (p2 l).1, (p3 l).1, (p4 l).1, (p5 l).1, rs⟩
def batQ (l : List Nat) : Bat × Int :=
  if 8192 < l.length then (bat0, 4) else finG l ⟨(p1 l).1, (p2 l).1, (p3 l).1, (p4 l).1, (p5 l).1, goQ (cntG (p6 l).1) (p6 l).2.1 (p6 l).2.2 []⟩

def RQ : Orc := { R3 with
  p := fun f l => match f, l with
    | 84, [.agg [.int .i64 a, .int .i64 b, .int .i64 c, .int .i64 d, .int .i64 e, .sl 6 xs]] => some (xs = RL (unRL xs) ∧ Bat.ok ⟨a, b, c, d, e, unRL xs⟩, .tup [.own 1 (bs (putB ⟨a, b, c, d, e, unRL xs⟩)), .sv (.int .i64 (batE ⟨a, b, c, d, e, unRL xs⟩))])
    | 138, [.sl 1 xs, .sl 1 ys] => some (IsBs xs ∧ IsBs ys ∧ xs.length < 4611686018427387904, .sv (.bool (decide (nsOf xs = nsOf ys))))
    | f, l => R3.p f l
  e := fun f cells l => match f, cells, l with
    | 137, [.sl 1 xs, .int .i64 e], [] => some (IsBs xs ∧ xs.length < 4611686018427387904, .tup [.sv (recG (nsOf xs) e).1.sv, .sv (.int .i64 (recG (nsOf xs) e).2.1)], [.sl 1 (bs (recG (nsOf xs) e).2.2.1), .int .i64 (recG (nsOf xs) e).2.2.2])
    | f, cells, l => RT.e f cells l
  n := RT.n }
theorem RQ_ok : RQ.ok Try.prog := by
  refine ⟨fun f l c rv h hc => ?_, fun f cells l c rv cells' h hc => ?_, RT_ok.n, fun _ h => (by cases h), fun _ _ _ _ _ _ h => (by cases h), fun _ _ _ _ _ _ _ h => (by cases h)⟩
  · simp only [RQ] at h
    split at h
    · cases h
      rename_i a b c d e xs
      obtain ⟨h1, h2⟩ := hc
      have := put_bat ⟨a, b, c, d, e, unRL xs⟩ h2
      simp only [Bat.sv, Bat.cells, ← h1] at this
      exact this
    · cases h
      rename_i xs ys
      obtain ⟨⟨e1, h1⟩, ⟨e2, h2⟩, h3⟩ := hc
      have := eqB_pure (nsOf xs) (nsOf ys) (by rw [e1] at h3; simpa using h3)
      rwa [← e1, ← e2] at this
    · exact R3_ok.p _ _ _ _ h hc
  · simp only [RQ] at h
    split at h
    · cases h
      rename_i xs e
      obtain ⟨⟨e1, h1⟩, h2⟩ := hc
      have := get_rec (nsOf xs) e h1 (by rw [e1] at h2; simpa using h2)
      rwa [← e1] at this
    · exact RT_ok.e _ _ _ _ _ _ h hc
theorem RQ_84 (b : Bat) : RQ.p 84 [.agg [.int .i64 b.ba, .int .i64 b.ct, .int .i64 b.pr, .int .i64 b.ep, .int .i64 b.sq, .sl 6 (RL b.rs)]] = some (RL b.rs = RL b.rs ∧ b.ok, .tup [.own 1 (bs (putB b)), .sv (.int .i64 (batE b))]) := by
  show some (RL b.rs = RL (unRL (RL b.rs)) ∧ Bat.ok ⟨b.ba, b.ct, b.pr, b.ep, b.sq, unRL (RL b.rs)⟩, LV.tup [.own 1 (bs (putB ⟨b.ba, b.ct, b.pr, b.ep, b.sq, unRL (RL b.rs)⟩)), .sv (.int .i64 (batE ⟨b.ba, b.ct, b.pr, b.ep, b.sq, unRL (RL b.rs)⟩))]) = _
  rw [unRL_RL]
theorem RQ_137 (l : List Nat) (e : Int) : RQ.e 137 [.sl 1 (bs l), .int .i64 e] [] = some (IsBs (bs l) ∧ (bs l).length < 4611686018427387904, .tup [.sv (recG l e).1.sv, .sv (.int .i64 (recG l e).2.1)], [.sl 1 (bs (recG l e).2.2.1), .int .i64 (recG l e).2.2.2]) := by
  show some (IsBs (bs l) ∧ (bs l).length < 4611686018427387904, LV.tup [.sv (recG (nsOf (bs l)) e).1.sv, .sv (.int .i64 (recG (nsOf (bs l)) e).2.1)], [SV.sl 1 (bs (recG (nsOf (bs l)) e).2.2.1), .int .i64 (recG (nsOf (bs l)) e).2.2.2]) = _
  rw [nsOf_bs]
theorem RQ_18 (l : List Nat) (e : Int) : RQ.e 18 [.sl 1 (bs l), .int .i64 e] [] = some (IsBs (bs l) ∧ (bs l).length < 4611686018427387904, .sv (.int .i64 (rNum l e).1), [.sl 1 (bs (rNum l e).2.1), .int .i64 (rNum l e).2.2]) := by
  show some (IsBs (bs l) ∧ (bs l).length < 4611686018427387904, LV.sv (.int .i64 (rNum (nsOf (bs l)) e).1), [SV.sl 1 (bs (rNum (nsOf (bs l)) e).2.1), .int .i64 (rNum (nsOf (bs l)) e).2.2]) = _
  rw [nsOf_bs]
theorem RQ_16 (xs : List SV) : RQ.n 16 [.sl 1 xs] = some (xs.length ≤ 140737488355328, [.sl 1 xs, .int .i64 0]) := rfl
theorem RQ_138 (a b : List Nat) : RQ.p 138 [.sl 1 (bs a), .sl 1 (bs b)] = some (IsBs (bs a) ∧ IsBs (bs b) ∧ (bs a).length < 4611686018427387904, .sv (.bool (decide (a = b)))) := by
  show some (IsBs (bs a) ∧ IsBs (bs b) ∧ (bs a).length < 4611686018427387904, LV.sv (.bool (decide (nsOf (bs a) = nsOf (bs b))))) = _
  rw [nsOf_bs, nsOf_bs]
theorem goR_drop (n i : Nat) (l : List Nat) (e : Int) (acc : List Rec) (h : i < n) : goR (n - i) l e acc = if (recG l e).2.1 ≠ 0 then none else goR (n - (i + 1)) (recG l e).2.2.1 (recG l e).2.2.2 (acc ++ [(recG l e).1]) := by
  rw [show n - i = (n - (i + 1)) + 1 by omega]; rfl

theorem layB_bytes (b : Bat) : Bytes (layB b) := by
  intro c hc
  simp only [layB, numsB, recsB, List.mem_append, List.mem_flatten, List.mem_map] at hc
  rcases hc with ⟨x, ⟨n, _, rfl⟩, hx⟩ | ⟨x, ⟨r, _, rfl⟩, hx⟩
  · exact layN_bytes _ c hx
  · unfold putR at hx
    split at hx
    · exact recP_bytes r c hx
    · simp at hx
theorem putB_bytes (b : Bat) : Bytes (putB b) := by
  unfold putB
  split
  · exact layB_bytes b
  · intro c hc; simp at hc
theorem putB_le (b : Bat) : (putB b).length ≤ 8192 := by
  unfold putB
  split
  · rename_i h; exact batE_lay h
  · simp
theorem get_bat (l : List Nat) (hb : Bytes l) (hl : l.length < 140737488355328) : Pure Try.prog 102 [.sl 1 (bs l)] (.tup [.sv (batG l).1.sv, .sv (.int .i64 (batG l).2)]) := by
  refine pure_go RQ_ok Try.func102 Try.ntmps102 comp102 cres102 (by decide) (by simp) ?_
  have b1 := rNum_bytes hb 0
  have c1 := rNum_le l 0
  have b2 := rNum_bytes b1 (rNum l 0).2.2
  have c2 := rNum_le (rNum l 0).2.1 (rNum l 0).2.2
  unfold batG p6 p5 p4 p3 p2 p1
  have i1 := rNum_in l 0
  generalize h1 : rNum l 0 = q1 at i1 b1 c1 b2 c2 ⊢
  obtain ⟨n1, l1, e1⟩ := q1
  simp only at i1 b1 c1 b2 c2 ⊢
  have i2 := rNum_in l1 e1
  generalize h2 : rNum l1 e1 = q2 at i2 b2 c2 ⊢
  obtain ⟨n2, l2, e2⟩ := q2
  simp only at i2 b2 c2 ⊢
  have b3 := rNum_bytes b2 e2
  have c3 := rNum_le l2 e2
  have i3 := rNum_in l2 e2
  generalize h3 : rNum l2 e2 = q3 at i3 b3 c3 ⊢
  obtain ⟨n3, l3, e3⟩ := q3
  simp only at i3 b3 c3 ⊢
  have b4 := rNum_bytes b3 e3
  have c4 := rNum_le l3 e3
  have i4 := rNum_in l3 e3
  generalize h4 : rNum l3 e3 = q4 at i4 b4 c4 ⊢
  obtain ⟨n4, l4, e4⟩ := q4
  simp only at i4 b4 c4 ⊢
  have b5 := rNum_bytes b4 e4
  have c5 := rNum_le l4 e4
  have i5 := rNum_in l4 e4
  generalize h5 : rNum l4 e4 = q5 at i5 b5 c5 ⊢
  obtain ⟨n5, l5, e5⟩ := q5
  simp only at i5 b5 c5 ⊢
  have b6 := rNum_bytes b5 e5
  have c6 := rNum_le l5 e5
  generalize h6 : rNum l5 e5 = q6 at b6 c6 ⊢
  obtain ⟨n6, l6, e6⟩ := q6
  simp only at b6 c6 ⊢
  have d0 : l.length < 4611686018427387904 := by omega
  have d1 : l1.length < 4611686018427387904 := by omega
  have d2 : l2.length < 4611686018427387904 := by omega
  have d3 : l3.length < 4611686018427387904 := by omega
  have d4 : l4.length < 4611686018427387904 := by omega
  have d5 : l5.length < 4611686018427387904 := by omega
  have dl : l.length ≤ 140737488355328 := by omega
  have hcn : max 0 (min n6 32) = ((cntG n6 : Nat) : Int) := by
    unfold cntG
    split
    · omega
    · split <;> omega
  have hcl : cntG n6 ≤ 32 := by
    unfold cntG
    split
    · omega
    · split <;> omega
  simp [ac102, ar102, RQ_16, RQ_18, dl, isBs_bs, hb, b1, b2, b3, b4, b5, h1, h2, h3, h4, h5, h6, d0, d1, d2, d3, d4, d5]
  have hcn' : (if 0 < if 32 < n6 then 32 else n6 then if 32 < n6 then 32 else n6 else 0) = ((cntG n6 : Nat) : Int) := by
    unfold cntG
    by_cases a1 : n6 < 0
    · rw [if_pos a1, if_neg (by split <;> omega)]; rfl
    · by_cases a2 : 32 < n6
      · rw [if_neg a1, if_pos a2, if_pos a2]; rfl
      · rw [if_neg a1, if_neg a2, if_neg a2]
        split <;> omega
  rw [hcn']
  clear hcn' hcn
  generalize cntG n6 = cn at hcl ⊢
  refine awpR_loop (α := Nat × List Rec × List Nat × Int) (fun x => x.1 ≤ cn ∧ x.2.1.length = x.1 ∧ Bytes x.2.2.1 ∧ x.2.2.1.length ≤ l6.length ∧ goR cn l6 e6 [] = goR (cn - x.1) x.2.2.1 x.2.2.2 x.2.1)
    (fun x => { n := 59, sl := [(0, .sv (.sl 1 (bs l))), (2, .lptr 2 0), (4, .lptr 11 0), (5, .lptr 5 0), (26, .sv (.int .i64 cn)), (27, .sv (.int .i64 x.1))], bx := [(11, [.sv (.sl 1 (bs x.2.2.1)), .sv (.int .i64 x.2.2.2)]), (5, [.sv (.int .i64 n1), .sv (.int .i64 n2), .sv (.int .i64 n3), .sv (.int .i64 n4), .sv (.int .i64 n5), .own 6 (RL x.2.1)]), (2, bat0.cells.map .sv)], hp := fun _ => none })
    (fun x => cn - x.1) (0, [], l6, e6) ⟨by omega, rfl, b6, Nat.le_refl _, rfl⟩ (by simp [RL, bat0, Bat.cells]) ?_
  rintro ⟨i, acc, l', e'⟩ ⟨hi, ha, hb', hle', he⟩
  simp only at hi ha hb' hle' he
  by_cases h : i < cn
  · have k1 : (i : Int) < cn := by omega
    have hw : IntKind.i64.wrap ((i : Int) + 1) = ((i + 1 : Nat) : Int) := by rw [IntKind.wrap_i64]; omega
    have dl' : l'.length < 4611686018427387904 := by omega
    rw [goR_drop _ _ _ _ _ h] at he
    have r2 := recG_bytes hb' e'
    have r3 := recG_le l' e'
    generalize hrg : recG l' e' = rg at he r2 r3
    obtain ⟨r, er, lr, erd⟩ := rg
    simp only at he r2 r3
    by_cases k2 : er = 0
    · rw [if_neg (fun q => q k2)] at he
      simp [k1, RQ_137, isBs_bs, hb', dl', hrg, k2, Rec.sv, Rec.cells, hw, bat0, Bat.cells]
      exact ⟨by omega, i + 1, acc ++ [r], lr, erd, ⟨by omega, by simp [ha], r2, by omega, he⟩, by omega, by omega, ⟨rfl, rfl⟩, by simp [RL, Rec.sv, Rec.cells]⟩
    · rw [if_pos k2] at he
      simp [k1, RQ_137, isBs_bs, hb', dl', hrg, k2, Rec.sv, Rec.cells, hw, bat0, Bat.cells, he, Bat.sv, RL_nil]
  · have k1 : ¬ (i : Int) < cn := by omega
    obtain rfl : i = cn := by omega
    rw [Nat.sub_self] at he
    simp only [goR] at he
    simp only [he]
    have hR := RQ_84 ⟨n1, n2, n3, n4, n5, acc⟩
    have hok : Bat.ok ⟨n1, n2, n3, n4, n5, acc⟩ := ⟨i1, i2, i3, i4, i5⟩
    simp only at hR
    generalize hbb : (⟨n1, n2, n3, n4, n5, acc⟩ : Bat) = b at hR hok ⊢
    have h78 := RQ_138 (putB b) l
    have hpb := putB_bytes b
    have hpl : (putB b).length < 4611686018427387904 := by have := putB_le b; omega
    unfold finG
    by_cases k2 : batE b = 0
    · have hp : putB b = layB b := if_pos k2
      rw [hp] at h78 hpb hpl hR
      by_cases k3 : layB b = l
      · rw [if_pos ⟨k2, k3⟩]
        rw [k3] at h78 hpb hpl hR
        simp [k1, hR, hok, h78, isBs_bs, hpb, hpl, hb, k2, bat0, Bat.cells, Bat.sv]
        subst hbb
        exact ⟨rfl, rfl, rfl, rfl, rfl, rfl⟩
      · rw [if_neg (fun q => k3 q.2)]
        simp [k1, hR, hok, h78, isBs_bs, hpb, hpl, hb, k2, k3, bat0, Bat.cells, Bat.sv, RL_nil]
    · rw [if_neg (fun q => k2 q.1)]
      simp [k1, hR, hok, h78, isBs_bs, hpb, hpl, hb, k2, bat0, Bat.cells, Bat.sv, RL_nil]
end Go.Proofs.Ytflcdbfcipkhkaa

set_option linter.unusedSimpArgs false
set_option linter.unusedVariables false
set_option maxHeartbeats 4000000
namespace Go.Proofs.Ytflcdbfcipkhkaa
open Go.Av

def RX : Orc := {
  p := fun f l => match f, l with
  | 17, [.agg [.sl 1 xs, .int .i64 e]] => some (IsBs xs ∧ xs.length < 4611686018427387904, .tup [.sv (rd' (rNum (nsOf xs) e).2.1 (rNum (nsOf xs) e).2.2), .sv (.int .i64 (rNum (nsOf xs) e).1)])
  | 139, [.agg [.sl 1 xs, .int .i64 e]] => some (IsBs xs ∧ xs.length < 4611686018427387904, .tup [.sv (rd' (recG (nsOf xs) e).2.2.1 (recG (nsOf xs) e).2.2.2), .sv (recG (nsOf xs) e).1.sv, .sv (.int .i64 (recG (nsOf xs) e).2.1)])
  | 87, [.agg [.int .i64 a, .int .i64 b, .int .i64 c, .int .i64 d, .int .i64 e, .sl 6 xs]] => some (xs = RL (unRL xs) ∧ Bat.ok ⟨a, b, c, d, e, unRL xs⟩, .tup [.own 1 (bs (putB ⟨a, b, c, d, e, unRL xs⟩)), .sv (.int .i64 (batE ⟨a, b, c, d, e, unRL xs⟩))])
  | _, _ => none }
theorem RX_ok : RX.ok Try.prog := by
  refine ⟨fun f l c rv h hc => ?_, fun _ _ _ _ _ _ h => (by cases h), fun _ _ _ _ h => (by cases h), fun _ h => (by cases h), fun _ _ _ _ _ _ h => (by cases h), fun _ _ _ _ _ _ _ h => (by cases h)⟩
  simp only [RX] at h
  split at h <;> cases h
  · rename_i xs e
    obtain ⟨⟨e1, h1⟩, h2⟩ := hc
    have := refnum (nsOf xs) e h1 (by rw [e1] at h2; simpa using h2)
    rw [rd', ← e1] at this
    exact this
  · rename_i xs e
    obtain ⟨⟨e1, h1⟩, h2⟩ := hc
    have := refget (nsOf xs) e h1 (by rw [e1] at h2; simpa using h2)
    rw [rd', ← e1] at this
    exact this
  · rename_i a b c d e xs
    obtain ⟨h1, h2⟩ := hc
    have := rput_bat ⟨a, b, c, d, e, unRL xs⟩ h2
    simp only [Bat.sv, Bat.cells, ← h1] at this
    exact this
theorem RX_87 (b : Bat) : RX.p 87 [.agg [.int .i64 b.ba, .int .i64 b.ct, .int .i64 b.pr, .int .i64 b.ep, .int .i64 b.sq, .sl 6 (RL b.rs)]] = some (RL b.rs = RL b.rs ∧ b.ok, .tup [.own 1 (bs (putB b)), .sv (.int .i64 (batE b))]) := by
  show some (RL b.rs = RL (unRL (RL b.rs)) ∧ Bat.ok ⟨b.ba, b.ct, b.pr, b.ep, b.sq, unRL (RL b.rs)⟩, LV.tup [.own 1 (bs (putB ⟨b.ba, b.ct, b.pr, b.ep, b.sq, unRL (RL b.rs)⟩)), .sv (.int .i64 (batE ⟨b.ba, b.ct, b.pr, b.ep, b.sq, unRL (RL b.rs)⟩))]) = _
  rw [unRL_RL]
theorem RX_17 (l : List Nat) (e : Int) : RX.p 17 [.agg [.sl 1 (bs l), .int .i64 e]] = some (IsBs (bs l) ∧ (bs l).length < 4611686018427387904, .tup [.sv (.agg [.sl 1 (bs (rNum l e).2.1), .int .i64 (rNum l e).2.2]), .sv (.int .i64 (rNum l e).1)]) := by
  show some (IsBs (bs l) ∧ (bs l).length < 4611686018427387904, LV.tup [.sv (rd' (rNum (nsOf (bs l)) e).2.1 (rNum (nsOf (bs l)) e).2.2), .sv (.int .i64 (rNum (nsOf (bs l)) e).1)]) = _
  rw [nsOf_bs]; rfl
theorem RX_139 (l : List Nat) (e : Int) : RX.p 139 [.agg [.sl 1 (bs l), .int .i64 e]] = some (IsBs (bs l) ∧ (bs l).length < 4611686018427387904, .tup [.sv (.agg [.sl 1 (bs (recG l e).2.2.1), .int .i64 (recG l e).2.2.2]), .sv (recG l e).1.sv, .sv (.int .i64 (recG l e).2.1)]) := by
  show some (IsBs (bs l) ∧ (bs l).length < 4611686018427387904, LV.tup [.sv (rd' (recG (nsOf (bs l)) e).2.2.1 (recG (nsOf (bs l)) e).2.2.2), .sv (recG (nsOf (bs l)) e).1.sv, .sv (.int .i64 (recG (nsOf (bs l)) e).2.1)]) = _
  rw [nsOf_bs]; rfl
theorem goQ_drop (n i : Nat) (l : List Nat) (e : Int) (acc : List Rec) (h : i < n) : goQ (n - i) l e acc = if e = 0 then goQ (n - (i + 1)) (recG l e).2.2.1 (recG l e).2.2.2 (acc ++ [(recG l e).1]) else acc := by
  rw [show n - i = (n - (i + 1)) + 1 by omega]; rfl
theorem goQ_stop (k : Nat) (l : List Nat) (e : Int) (acc : List Rec) (h : e ≠ 0) : goQ k l e acc = acc := by
  cases k with
  | zero => rfl
  | succ k => simp [goQ, h]

theorem rget_bat (l : List Nat) (hb : Bytes l) (hl : l.length < 140737488355328) : Pure Try.prog 106 [.sl 1 (bs l)] (.tup [.sv (batQ l).1.sv, .sv (.int .i64 (batQ l).2)]) := by
  refine pure_go RX_ok Try.func106 Try.ntmps106 comp106 cres106 (by decide) (by simp) ?_
  unfold batQ
  by_cases h8 : 8192 < l.length
  · have h8' : (8192 : Int) < l.length := by omega
    simp [ac106, ar106, h8, h8', bat0, Bat.sv, Bat.cells, RL_nil]
  have h8' : ¬ (8192 : Int) < l.length := by omega
  rw [if_neg h8]
  have b1 := rNum_bytes hb 0
  have c1 := rNum_le l 0
  have b2 := rNum_bytes b1 (rNum l 0).2.2
  have c2 := rNum_le (rNum l 0).2.1 (rNum l 0).2.2
  unfold p6 p5 p4 p3 p2 p1
  have i1 := rNum_in l 0
  generalize h1 : rNum l 0 = q1 at i1 b1 c1 b2 c2 ⊢
  obtain ⟨n1, l1, e1⟩ := q1
  simp only at i1 b1 c1 b2 c2 ⊢
  have i2 := rNum_in l1 e1
  generalize h2 : rNum l1 e1 = q2 at i2 b2 c2 ⊢
  obtain ⟨n2, l2, e2⟩ := q2
  simp only at i2 b2 c2 ⊢
  have b3 := rNum_bytes b2 e2
  have c3 := rNum_le l2 e2
  have i3 := rNum_in l2 e2
  generalize h3 : rNum l2 e2 = q3 at i3 b3 c3 ⊢
  obtain ⟨n3, l3, e3⟩ := q3
  simp only at i3 b3 c3 ⊢
  have b4 := rNum_bytes b3 e3
  have c4 := rNum_le l3 e3
  have i4 := rNum_in l3 e3
  generalize h4 : rNum l3 e3 = q4 at i4 b4 c4 ⊢
  obtain ⟨n4, l4, e4⟩ := q4
  simp only at i4 b4 c4 ⊢
  have b5 := rNum_bytes b4 e4
  have c5 := rNum_le l4 e4
  have i5 := rNum_in l4 e4
  generalize h5 : rNum l4 e4 = q5 at i5 b5 c5 ⊢
  obtain ⟨n5, l5, e5⟩ := q5
  simp only at i5 b5 c5 ⊢
  have b6 := rNum_bytes b5 e5
  have c6 := rNum_le l5 e5
  generalize h6 : rNum l5 e5 = q6 at b6 c6 ⊢
  obtain ⟨n6, l6, e6⟩ := q6
  simp only at b6 c6 ⊢
  have d0 : l.length < 4611686018427387904 := by omega
  have d1 : l1.length < 4611686018427387904 := by omega
  have d2 : l2.length < 4611686018427387904 := by omega
  have d3 : l3.length < 4611686018427387904 := by omega
  have d4 : l4.length < 4611686018427387904 := by omega
  have d5 : l5.length < 4611686018427387904 := by omega
  have hcl : cntG n6 ≤ 32 := by
    unfold cntG
    split
    · omega
    · split <;> omega
  have hci : ∀ i : Nat, i < cntG n6 ↔ (i : Int) < n6 ∧ (i : Int) < 32 := by
    intro i
    unfold cntG
    by_cases a1 : n6 < 0
    · rw [if_pos a1]; omega
    · by_cases a2 : 32 < n6
      · rw [if_neg a1, if_pos a2]; omega
      · rw [if_neg a1, if_neg a2]; omega
  simp [ac106, ar106, RX_17, isBs_bs, hb, b1, b2, b3, b4, b5, h1, h2, h3, h4, h5, h6, d0, d1, d2, d3, d4, d5, h8']
  generalize cntG n6 = cn at hcl hci ⊢
  refine awpR_loop (α := Nat × List Rec × List Nat × Int) (fun x => x.1 ≤ cn ∧ x.2.1.length = x.1 ∧ Bytes x.2.2.1 ∧ x.2.2.1.length ≤ l6.length ∧ goQ cn l6 e6 [] = goQ (cn - x.1) x.2.2.1 x.2.2.2 x.2.1)
    (fun x => { n := 97, sl := [(0, .sv (.sl 1 (bs l))), (2, .lptr 2 0), (4, .lptr 4 0), (6, .lptr 6 0), (5, .sv (.int .i64 n6)), (7, .sv (.int .i64 x.1))], bx := [(6, [.sv (.sl 1 (bs x.2.2.1)), .sv (.int .i64 x.2.2.2)]), (4, [.sv (.int .i64 n1), .sv (.int .i64 n2), .sv (.int .i64 n3), .sv (.int .i64 n4), .sv (.int .i64 n5), .own 6 (RL x.2.1)]), (2, bat0.cells.map .sv)], hp := fun _ => none })
    (fun x => cn - x.1) (0, [], l6, e6) ⟨by omega, rfl, b6, Nat.le_refl _, rfl⟩ (by simp [RL, bat0, Bat.cells]) ?_
  rintro ⟨i, acc, l', e'⟩ ⟨hi, ha, hb', hle', he⟩
  simp only at hi ha hb' hle' he
  have hstop : ∀ k : Nat, k = 0 → goQ k l' e' acc = acc := fun k q => by subst q; rfl
  by_cases m1 : (i : Int) < n6
  · by_cases m2 : (i : Int) < 32
    · have h : i < cn := (hci i).2 ⟨m1, m2⟩
      rw [goQ_drop _ _ _ _ _ h] at he
      by_cases m3 : e' = 0
      · rw [if_pos m3] at he
        have hw : IntKind.i64.wrap ((i : Int) + 1) = ((i + 1 : Nat) : Int) := by rw [IntKind.wrap_i64]; omega
        have dl' : l'.length < 4611686018427387904 := by omega
        have r2 := recG_bytes hb' e'
        have r3 := recG_le l' e'
        subst m3
        generalize hrg : recG l' 0 = rg at he r2 r3
        obtain ⟨r, er, lr, erd⟩ := rg
        simp only at he r2 r3
        simp [m1, m2, RX_139, isBs_bs, hb', dl', hrg, Rec.sv, Rec.cells, hw, bat0, Bat.cells]
        exact ⟨by omega, i + 1, acc ++ [r], lr, erd, ⟨by omega, by simp [ha], r2, by omega, he⟩, by omega, by omega, ⟨rfl, rfl⟩, by simp [RL, Rec.sv, Rec.cells]⟩
      · rw [if_neg m3] at he
        simp only [he]
        have hR := RX_87 ⟨n1, n2, n3, n4, n5, acc⟩
        have hok : Bat.ok ⟨n1, n2, n3, n4, n5, acc⟩ := ⟨i1, i2, i3, i4, i5⟩
        simp only at hR
        generalize hbb : (⟨n1, n2, n3, n4, n5, acc⟩ : Bat) = b at hR hok ⊢
        have hpb := putB_bytes b
        have hse := sOf_eq hpb hb
        unfold finG
        by_cases k2 : batE b = 0
        · have hp : putB b = layB b := if_pos k2
          rw [hp] at hpb hR hse
          by_cases k3 : layB b = l
          · rw [if_pos ⟨k2, k3⟩]
            rw [k3] at hpb hR hse
            simp [m1, m2, m3, hR, hok, isBs_bs, hpb, hb, k2, bat0, Bat.cells, Bat.sv]
            subst hbb
            exact ⟨fun x hx => bs_byte _ x hx, rfl, rfl, rfl, rfl, rfl, rfl⟩
          · rw [if_neg (fun q => k3 q.2)]
            have hne : ¬ (sOf (layB b)).toList = (sOf l).toList := fun q => by simp [q, k3] at hse
            simp [m1, m2, m3, hR, hok, isBs_bs, hpb, hb, k2, k3, hne, bs_str, bat0, Bat.cells, Bat.sv, RL_nil]
            exact ⟨fun x hx => bs_byte _ x hx, fun x hx => bs_byte _ x hx⟩
        · rw [if_neg (fun q => k2 q.1)]
          simp [m1, m2, m3, hR, hok, isBs_bs, hpb, hb, k2, bat0, Bat.cells, Bat.sv, RL_nil]
    · have h : cn - i = 0 := by have := (hci i).1; omega
      rw [hstop _ h] at he
      simp only [he]
      have hR := RX_87 ⟨n1, n2, n3, n4, n5, acc⟩
      have hok : Bat.ok ⟨n1, n2, n3, n4, n5, acc⟩ := ⟨i1, i2, i3, i4, i5⟩
      simp only at hR
      generalize hbb : (⟨n1, n2, n3, n4, n5, acc⟩ : Bat) = b at hR hok ⊢
      have hpb := putB_bytes b
      have hse := sOf_eq hpb hb
      unfold finG
      by_cases k2 : batE b = 0
      · have hp : putB b = layB b := if_pos k2
        rw [hp] at hpb hR hse
        by_cases k3 : layB b = l
        · rw [if_pos ⟨k2, k3⟩]
          rw [k3] at hpb hR hse
          simp [m1, m2, hR, hok, isBs_bs, hpb, hb, k2, bat0, Bat.cells, Bat.sv]
          subst hbb
          exact ⟨fun x hx => bs_byte _ x hx, rfl, rfl, rfl, rfl, rfl, rfl⟩
        · rw [if_neg (fun q => k3 q.2)]
          have hne : ¬ (sOf (layB b)).toList = (sOf l).toList := fun q => by simp [q, k3] at hse
          simp [m1, m2, hR, hok, isBs_bs, hpb, hb, k2, k3, hne, bs_str, bat0, Bat.cells, Bat.sv, RL_nil]
          exact ⟨fun x hx => bs_byte _ x hx, fun x hx => bs_byte _ x hx⟩
      · rw [if_neg (fun q => k2 q.1)]
        simp [m1, m2, hR, hok, isBs_bs, hpb, hb, k2, bat0, Bat.cells, Bat.sv, RL_nil]
  · have h : cn - i = 0 := by have := (hci i).1; omega
    rw [hstop _ h] at he
    simp only [he]
    have hR := RX_87 ⟨n1, n2, n3, n4, n5, acc⟩
    have hok : Bat.ok ⟨n1, n2, n3, n4, n5, acc⟩ := ⟨i1, i2, i3, i4, i5⟩
    simp only at hR
    generalize hbb : (⟨n1, n2, n3, n4, n5, acc⟩ : Bat) = b at hR hok ⊢
    have hpb := putB_bytes b
    have hse := sOf_eq hpb hb
    unfold finG
    by_cases k2 : batE b = 0
    · have hp : putB b = layB b := if_pos k2
      rw [hp] at hpb hR hse
      by_cases k3 : layB b = l
      · rw [if_pos ⟨k2, k3⟩]
        rw [k3] at hpb hR hse
        simp [m1, hR, hok, isBs_bs, hpb, hb, k2, bat0, Bat.cells, Bat.sv]
        subst hbb
        exact ⟨fun x hx => bs_byte _ x hx, rfl, rfl, rfl, rfl, rfl, rfl⟩
      · rw [if_neg (fun q => k3 q.2)]
        have hne : ¬ (sOf (layB b)).toList = (sOf l).toList := fun q => by simp [q, k3] at hse
        simp [m1, hR, hok, isBs_bs, hpb, hb, k2, k3, hne, bs_str, bat0, Bat.cells, Bat.sv, RL_nil]
        exact ⟨fun x hx => bs_byte _ x hx, fun x hx => bs_byte _ x hx⟩
    · rw [if_neg (fun q => k2 q.1)]
      simp [m1, hR, hok, isBs_bs, hpb, hb, k2, bat0, Bat.cells, Bat.sv, RL_nil]
end Go.Proofs.Ytflcdbfcipkhkaa

set_option linter.unusedSimpArgs false
set_option linter.unusedVariables false
set_option maxHeartbeats 2000000
namespace Go.Proofs.Ytflcdbfcipkhkaa
open Go.Av

def atW (b : Bat) (r : Rec) : Int := IntKind.i64.wrap (b.ba + r.dl)

theorem next_pure (b : Bat) : Pure Try.prog 70 [b.sv] (.sv (.int .i64 (IntKind.i64.wrap (b.ba + b.ct)))) := by
  refine pure_go R0_ok Try.func70 Try.ntmps70 comp70 cres70 (by decide) (by simp) ?_
  simp [ac70, ar70, R0, Bat.sv, Bat.cells]
theorem rnext_pure (b : Bat) : Pure Try.prog 111 [b.sv] (.sv (.int .i64 (IntKind.i64.wrap (b.ba + b.ct)))) := by
  refine pure_go R0_ok Try.func111 Try.ntmps111 comp111 cres111 (by decide) (by simp) ?_
  simp [ac111, ar111, R0, Bat.sv, Bat.cells]

/-- The greatest time. -/
def newL : Int → List Rec → Int
  | n, [] => n
  | n, r :: l => newL (if n < r.tm then r.tm else n) l
theorem newL_drop (n : Int) (l : List Rec) (i : Nat) (h : i < l.length) : newL n (l.drop i) = newL (if n < (l.getD i rec0).tm then (l.getD i rec0).tm else n) (l.drop (i + 1)) := by
  rw [List.drop_eq_getElem_cons h]
  simp [newL, List.getD_eq_getElem?_getD, h]
theorem newest_pure (b : Bat) (hl : b.rs.length < 4611686018427387904) : Pure Try.prog 115 [b.sv] (.sv (.int .i64 (newL (-1) b.rs))) := by
  refine pure_go R0_ok Try.func115 Try.ntmps115 comp115 cres115 (by decide) (by simp) ?_
  simp [ac115, ar115, R0, Bat.sv, Bat.cells]
  refine awpR_loop (α := Nat × Int) (fun x => x.1 ≤ b.rs.length ∧ newL (-1) b.rs = newL x.2 (b.rs.drop x.1)) (fun x => { n := 19, sl := [(3, .sv (.int .i64 x.2)), (7, .sv (.sl 6 (RL b.rs))), (8, .sv (.int .i64 b.rs.length)), (9, .sv (.int .i64 x.1))], bx := [], hp := fun _ => none })
    (fun x => b.rs.length - x.1) (0, -1) ⟨by omega, rfl⟩ (by simp) ?_
  rintro ⟨i, n⟩ ⟨hi, he⟩
  simp only at hi he
  by_cases h : i < b.rs.length
  · have h1 : (i : Int) < b.rs.length := by omega
    have hw : IntKind.i64.wrap ((i : Int) + 1) = ((i + 1 : Nat) : Int) := by rw [IntKind.wrap_i64]; omega
    have hg := RL_get b.rs h
    have hiA : i < (RL b.rs).length := by simpa using h
    have hg2 : (RL b.rs)[i] = (b.rs.getD i rec0).sv := by rw [← hg, List.getElem?_eq_getElem hiA]; rfl
    rw [newL_drop _ _ _ h] at he
    generalize b.rs.getD i rec0 = r at hg hg2 he
    simp [h1, hg, hg2, h, Rec.sv, Rec.cells, hw]
    exact ⟨i + 1, _, ⟨by omega, he⟩, by omega, rfl, by omega⟩
  · have h1 : ¬ (i : Int) < b.rs.length := by omega
    obtain rfl : i = b.rs.length := by omega
    rw [List.drop_length] at he
    simp [h1, he, newL]
theorem rnewest_pure (b : Bat) (hl : b.rs.length < 4611686018427387904) : Pure Try.prog 116 [b.sv] (.sv (.int .i64 (newL (-1) b.rs))) := by
  refine pure_go R0_ok Try.func116 Try.ntmps116 comp116 cres116 (by decide) (by simp) ?_
  simp [ac116, ar116, R0, Bat.sv, Bat.cells]
  refine awpR_loop (α := Nat × Int) (fun x => x.1 ≤ b.rs.length ∧ newL (-1) b.rs = newL x.2 (b.rs.drop x.1)) (fun x => { n := 21, sl := [(1, .lptr 1 0), (3, .sv (.int .i64 x.2)), (4, .sv (.int .i64 x.1))], bx := [(1, b.cells.map .sv)], hp := fun _ => none })
    (fun x => b.rs.length - x.1) (0, -1) ⟨by omega, rfl⟩ (by simp [Bat.cells]) ?_
  rintro ⟨i, n⟩ ⟨hi, he⟩
  simp only at hi he
  by_cases h : i < b.rs.length
  · have h1 : (i : Int) < b.rs.length := by omega
    have hw : IntKind.i64.wrap ((i : Int) + 1) = ((i + 1 : Nat) : Int) := by rw [IntKind.wrap_i64]; omega
    have hg := RL_get b.rs h
    have hiA : i < (RL b.rs).length := by simpa using h
    have hg2 : (RL b.rs)[i] = (b.rs.getD i rec0).sv := by rw [← hg, List.getElem?_eq_getElem hiA]; rfl
    rw [newL_drop _ _ _ h] at he
    generalize b.rs.getD i rec0 = r at hg hg2 he
    simp [h1, hg, hg2, h, Bat.cells, Rec.sv, Rec.cells, hw, WkRs_refl]
    exact ⟨i + 1, _, ⟨by omega, he⟩, by omega, rfl, by omega⟩
  · have h1 : ¬ (i : Int) < b.rs.length := by omega
    obtain rfl : i = b.rs.length := by omega
    rw [List.drop_length] at he
    simp [h1, he, newL, Bat.cells]

/-! ### the first record that is so -/
def idxP (p : Rec → Bool) : List Rec → Nat → Int
  | [], _ => -1
  | r :: l, i => if p r then i else idxP p l (i + 1)
theorem idxP_drop (p : Rec → Bool) (l : List Rec) (i : Nat) (h : i < l.length) : idxP p (l.drop i) i = if p (l.getD i rec0) then (i : Int) else idxP p (l.drop (i + 1)) (i + 1) := by
  rw [List.drop_eq_getElem_cons h]
  simp [idxP, List.getD_eq_getElem?_getD, h]
open Classical in
noncomputable def RPd (pf : FuncId) (caps : List SV) (p : Rec → Bool) : Orc := {
  p := fun f l => match l with
    | .agg [.int .i64 dl, .int .i64 tm, .bool kd, .str key, .bool dd, .str val] :: cs => if f = pf ∧ cs = caps then some (True, .sv (.bool (p ⟨dl, tm, kd, key, dd, val⟩))) else none
    | _ => none
  fv := fun f => f == pf }
theorem RPd_ok {pf : FuncId} {caps : List SV} {p : Rec → Bool} (hf : okFn Try.prog pf) (hp : ∀ r : Rec, Pure Try.prog pf (r.sv :: caps) (.sv (.bool (p r)))) : (RPd pf caps p).ok Try.prog := by
  refine ⟨fun f l c rv h hc => ?_, fun _ _ _ _ _ _ h => (by cases h), fun _ _ _ _ h => (by cases h), fun f h => ?_, fun _ _ _ _ _ _ h => (by cases h), fun _ _ _ _ _ _ _ h => (by cases h)⟩
  · simp only [RPd] at h
    split at h
    · split at h
      · rename_i q
        obtain ⟨rfl, rfl⟩ := q
        cases h
        exact hp ⟨_, _, _, _, _, _⟩
      · cases h
    · cases h
  · have : f = pf := by simpa [RPd] using h
    rw [this]; exact hf
theorem RPd_p (pf : FuncId) (caps : List SV) (p : Rec → Bool) (r : Rec) : (RPd pf caps p).p pf (.agg [.int .i64 r.dl, .int .i64 r.tm, .bool r.kd, .str r.key, .bool r.dd, .str r.val] :: caps) = some (True, .sv (.bool (p r))) := by
  simp [RPd]
theorem RPd_fv (pf : FuncId) (caps : List SV) (p : Rec → Bool) : (RPd pf caps p).fv pf = true := by simp [RPd]

theorem idx_pure (pf : FuncId) (caps : List SV) (p : Rec → Bool) (hf : okFn Try.prog pf) (hp : ∀ r : Rec, Pure Try.prog pf (r.sv :: caps) (.sv (.bool (p r)))) (l : List Rec) (hl : l.length < 4611686018427387904) :
    Pure Try.prog 157 [.sl 6 (RL l), .fn pf [] caps] (.sv (.int .i64 (idxP p l 0))) := by
  refine pure_go (RPd_ok hf hp) Try.func157 Try.ntmps157 comp157 cres157 (by decide) (by simp) ?_
  simp [ac157, ar157]
  refine awpR_loop (α := Nat) (fun i => i ≤ l.length ∧ idxP p l 0 = idxP p (l.drop i) i) (fun i => { n := 19, sl := [(0, .sv (.sl 6 (RL l))), (1, .sv (.fn pf [] caps)), (7, .sv (.int .i64 l.length)), (8, .sv (.int .i64 i))], bx := [], hp := fun _ => none })
    (fun i => l.length - i) 0 ⟨by omega, rfl⟩ (by simp) ?_
  rintro i ⟨hi, he⟩
  by_cases h : i < l.length
  · have h1 : (i : Int) < l.length := by omega
    have hw : IntKind.i64.wrap ((i : Int) + 1) = ((i + 1 : Nat) : Int) := by rw [IntKind.wrap_i64]; omega
    have hg := RL_get l h
    have hiA : i < (RL l).length := by simpa using h
    have hg2 : (RL l)[i] = (l.getD i rec0).sv := by rw [← hg, List.getElem?_eq_getElem hiA]; rfl
    rw [idxP_drop _ _ _ h] at he
    generalize l.getD i rec0 = r at hg hg2 he
    have hpr := RPd_p pf caps p r
    have hfv := RPd_fv pf caps p
    generalize RPd pf caps p = R at hpr hfv ⊢
    cases hq : p r with
    | true =>
      rw [hq, if_pos rfl] at he
      rw [hq] at hpr
      simp [h1, hg, hg2, h, Rec.sv, Rec.cells, hw, hpr, hfv, he]
    | false =>
      rw [hq, if_neg (by simp)] at he
      rw [hq] at hpr
      simp [h1, hg, hg2, h, Rec.sv, Rec.cells, hw, hpr, hfv]
      exact ⟨i + 1, ⟨by omega, he⟩, by omega, by omega⟩
  · have h1 : ¬ (i : Int) < l.length := by omega
    obtain rfl : i = l.length := by omega
    rw [List.drop_length] at he
    simp [h1, he, idxP]

end Go.Proofs.Ytflcdbfcipkhkaa

set_option linter.unusedSimpArgs false
set_option linter.unusedVariables false
set_option maxHeartbeats 4000000
namespace Go.Proofs.Ytflcdbfcipkhkaa
open Go.Av


theorem idxP_spec (p : Rec → Bool) : ∀ (l : List Rec) (i : Nat), idxP p l i = -1 ∧ (∀ r ∈ l, p r = false) ∨ ∃ k, k < l.length ∧ idxP p l i = ((i + k : Nat) : Int) ∧ p (l.getD k rec0) = true ∧ ∀ j, j < k → p (l.getD j rec0) = false
  | [], i => .inl ⟨rfl, fun r h => by cases h⟩
  | r :: l, i => by
    cases hq : p r with
    | true => exact .inr ⟨0, by simp, by simp [idxP, hq], by simpa using hq, fun j hj => absurd hj (Nat.not_lt_zero _)⟩
    | false =>
      rcases idxP_spec p l (i + 1) with ⟨h1, h2⟩ | ⟨k, h1, h2, h3, h4⟩
      · exact .inl ⟨by simp [idxP, hq, h1], fun x hx => by rcases List.mem_cons.1 hx with rfl | hx; exact hq; exact h2 x hx⟩
      · refine .inr ⟨k + 1, by simpa using h1, by simp [idxP, hq, h2]; omega, by simpa using h3, fun j hj => ?_⟩
        cases j with
        | zero => simpa using hq
        | succ j => simpa using h4 j (by omega)
/-- The record of an offset, and whether there is one. -/
def atR (b : Bat) (off : Int) : Rec × Bool := if idxP (fun r => atW b r == off) b.rs 0 < 0 then (rec0, false) else (b.rs.getD (idxP (fun r => atW b r == off) b.rs 0).toNat rec0, true)
def fromR (b : Bat) (off : Int) : List Rec := b.rs.filter fun r => decide (off ≤ atW b r)
theorem rfrom_pure (b : Bat) (off : Int) (hl : b.rs.length ≤ 1000) : Pure Try.prog 112 [b.sv, .int .i64 off] (.own 6 (RL (fromR b off))) := by
  refine pure_go R0_ok Try.func112 Try.ntmps112 comp112 cres112 (by decide) (by simp) ?_
  simp [ac112, ar112, Bat.sv, Bat.cells]
  refine awpR_loop (α := Nat) (fun i => i ≤ b.rs.length) (fun i => { n := 34, sl := [(1, .sv (.int .i64 off)), (2, .lptr 2 0), (5, .own 6 (RL ((b.rs.take i).filter fun r => decide (off ≤ atW b r)))), (6, .sv (.int .i64 i))], bx := [(2, b.cells.map .sv)], hp := fun _ => none })
    (fun i => b.rs.length - i) 0 (by omega) (by simp [Bat.cells, RL]) ?_
  intro i hi
  have htl : ((b.rs.take i).filter fun r => decide (off ≤ atW b r)).length ≤ 1000 := by
    refine Nat.le_trans (List.length_filter_le _ _) ?_
    simp; omega
  by_cases h : i < b.rs.length
  · have h1 : (i : Int) < b.rs.length := by omega
    have hw : IntKind.i64.wrap ((i : Int) + 1) = ((i + 1 : Nat) : Int) := by rw [IntKind.wrap_i64]; omega
    have hg := RL_get b.rs h
    have hiA : i < (RL b.rs).length := by simpa using h
    have hg2 : (RL b.rs)[i] = (b.rs.getD i rec0).sv := by rw [← hg, List.getElem?_eq_getElem hiA]; rfl
    have hsn : (b.rs.take (i + 1)).filter (fun r => decide (off ≤ atW b r)) = (b.rs.take i).filter (fun r => decide (off ≤ atW b r)) ++ (if off ≤ atW b (b.rs.getD i rec0) then [b.rs.getD i rec0] else []) := by
      rw [List.take_succ_eq_append_getElem h, List.filter_append]
      congr 1
      simp only [List.getD_eq_getElem?_getD, List.getElem?_eq_getElem h, Option.getD_some, List.filter_cons, List.filter_nil]
      split <;> simp_all
    generalize b.rs.getD i rec0 = r at hg hg2 hsn
    generalize hF : (b.rs.take i).filter (fun r => decide (off ≤ atW b r)) = F at htl hsn
    by_cases q : off ≤ atW b r
    · have q' : off ≤ IntKind.i64.wrap (b.ba + r.dl) := q
      rw [if_pos q] at hsn
      simp [Bat.cells, h1, hg, hg2, h, Rec.sv, Rec.cells, hw, q', WkRs_refl]
      refine ⟨by omega, i + 1, by omega, by omega, ?_⟩
      rw [hsn]
      exact ⟨by simp [RL, Rec.sv, Rec.cells], by omega⟩
    · have q' : ¬ off ≤ IntKind.i64.wrap (b.ba + r.dl) := q
      rw [if_neg q, List.append_nil] at hsn
      simp [Bat.cells, h1, hg, hg2, h, Rec.sv, Rec.cells, hw, q', WkRs_refl]
      refine ⟨i + 1, by omega, by omega, ?_⟩
      rw [hsn]
      exact ⟨rfl, by omega⟩
  · have h1 : ¬ (i : Int) < b.rs.length := by omega
    obtain rfl : i = b.rs.length := by omega
    simp [h1, Bat.cells, fromR]
end Go.Proofs.Ytflcdbfcipkhkaa

set_option linter.unusedSimpArgs false
set_option linter.unusedVariables false
set_option maxHeartbeats 4000000
namespace Go.Proofs.Ytflcdbfcipkhkaa
open Go.Av

def batS (a b : Bat) : Bool := (a.ba == b.ba) && ((a.ct == b.ct) && ((a.pr == b.pr) && ((a.ep == b.ep) && ((a.sq == b.sq) && recsS a.rs b.rs))))
theorem batS_iff (a b : Bat) : batS a b = true ↔ a = b := by
  obtain ⟨a1, a2, a3, a4, a5, a6⟩ := a
  obtain ⟨b1, b2, b3, b4, b5, b6⟩ := b
  simp [batS, recsS_iff]
def RZ : Orc := { p := fun f l => match f, l with
  | 126, [.agg [.int .i64 a, .int .i64 b, .int .i64 c, .int .i64 d, .int .i64 e, .sl 6 xs]] => some (xs = RL (unRL xs), .sv (.agg [.int .i64 a, .int .i64 b, .int .i64 c, .int .i64 d, .int .i64 e, .int .i64 xs.length]))
  | 127, [.sl 6 xs, .sl 6 ys] => some (xs = RL (unRL xs) ∧ ys = RL (unRL ys) ∧ xs.length < 4611686018427387904, .sv (.bool (recsS (unRL xs) (unRL ys))))
  | 135, [.sl 6 xs, .sl 6 ys] => some (xs = RL (unRL xs) ∧ ys = RL (unRL ys) ∧ xs.length < 4611686018427387904, .sv (.bool (recsS (unRL xs) (unRL ys))))
  | 121, [.agg [.int .i64 dl, .int .i64 tm, .bool kd, .str key, .bool dd, .str val]] => some (True, .sv (.bool (decide ((key.size : Int) ≤ 200) && decide ((val.size : Int) ≤ 700))))
  | _, _ => none }
theorem RZ_ok : RZ.ok Try.prog := by
  refine ⟨fun f l c rv h hc => ?_, fun _ _ _ _ _ _ h => (by cases h), fun _ _ _ _ h => (by cases h), fun _ h => (by cases h), fun _ _ _ _ _ _ h => (by cases h), fun _ _ _ _ _ _ _ h => (by cases h)⟩
  simp only [RZ] at h
  split at h <;> cases h
  · rename_i a b c d e xs
    exact RB_ok.p 126 _ _ _ rfl hc
  · rename_i xs ys
    obtain ⟨h1, h2, h3⟩ := hc
    have := eqR_pure (unRL xs) (unRL ys) (by rw [h1] at h3; simpa using h3)
    rwa [← h1, ← h2] at this
  · rename_i xs ys
    obtain ⟨h1, h2, h3⟩ := hc
    have := sameAll_pure (unRL xs) (unRL ys) (by rw [h1] at h3; simpa using h3)
    rwa [← h1, ← h2] at this
  · exact light_pure ⟨_, _, _, _, _, _⟩
theorem RZ_126 (b : Bat) : RZ.p 126 [.agg [.int .i64 b.ba, .int .i64 b.ct, .int .i64 b.pr, .int .i64 b.ep, .int .i64 b.sq, .sl 6 (RL b.rs)]] = some (RL b.rs = RL b.rs, .sv (.agg [.int .i64 b.ba, .int .i64 b.ct, .int .i64 b.pr, .int .i64 b.ep, .int .i64 b.sq, .int .i64 b.rs.length])) := by
  show some (RL b.rs = RL (unRL (RL b.rs)), LV.sv (.agg [.int .i64 b.ba, .int .i64 b.ct, .int .i64 b.pr, .int .i64 b.ep, .int .i64 b.sq, .int .i64 (RL b.rs).length])) = _
  rw [unRL_RL, RL_length]
theorem RZ_127 (a b : List Rec) : RZ.p 127 [.sl 6 (RL a), .sl 6 (RL b)] = some (RL a = RL a ∧ RL b = RL b ∧ (RL a).length < 4611686018427387904, .sv (.bool (recsS a b))) := by
  show some (RL a = RL (unRL (RL a)) ∧ RL b = RL (unRL (RL b)) ∧ (RL a).length < 4611686018427387904, LV.sv (.bool (recsS (unRL (RL a)) (unRL (RL b))))) = _
  rw [unRL_RL, unRL_RL]
theorem RZ_135 (a b : List Rec) : RZ.p 135 [.sl 6 (RL a), .sl 6 (RL b)] = some (RL a = RL a ∧ RL b = RL b ∧ (RL a).length < 4611686018427387904, .sv (.bool (recsS a b))) := by
  show some (RL a = RL (unRL (RL a)) ∧ RL b = RL (unRL (RL b)) ∧ (RL a).length < 4611686018427387904, LV.sv (.bool (recsS (unRL (RL a)) (unRL (RL b))))) = _
  rw [unRL_RL, unRL_RL]
theorem RZ_121 (r : Rec) : RZ.p 121 [.agg [.int .i64 r.dl, .int .i64 r.tm, .bool r.kd, .str r.key, .bool r.dd, .str r.val]] = some (True, .sv (.bool (decide ((r.key.size : Int) ≤ 200) && decide ((r.val.size : Int) ≤ 700)))) := rfl

theorem same_pure (a b : Bat) (hl : a.rs.length < 4611686018427387904) : Pure Try.prog 69 [a.sv, b.sv] (.sv (.bool (batS a b))) := by
  refine pure_go RZ_ok Try.func69 Try.ntmps69 comp69 cres69 (by decide) (by simp [Bat.sv, Bat.cells]) ?_
  have hh : ((a.ba == b.ba) && ((a.ct == b.ct) && ((a.pr == b.pr) && ((a.ep == b.ep) && ((a.sq == b.sq) && ((a.rs.length : Int) == b.rs.length)))))) = true ∨ ((a.ba == b.ba) && ((a.ct == b.ct) && ((a.pr == b.pr) && ((a.ep == b.ep) && ((a.sq == b.sq) && ((a.rs.length : Int) == b.rs.length)))))) = false := by
    cases ((a.ba == b.ba) && ((a.ct == b.ct) && ((a.pr == b.pr) && ((a.ep == b.ep) && ((a.sq == b.sq) && ((a.rs.length : Int) == b.rs.length)))))) <;> simp
  have e1 := RZ_126 a
  have e2 := RZ_126 b
  have e3 := RZ_127 a.rs b.rs
  rcases hh with hh | hh
  · have hbs : batS a b = recsS a.rs b.rs := by
      simp only [Bool.and_eq_true] at hh
      simp only [batS, hh.1, hh.2.1, hh.2.2.1, hh.2.2.2.1, hh.2.2.2.2.1, Bool.true_and]
    rw [hbs]
    simp [ac69, ar69, Bat.sv, Bat.cells, e1, e2, e3, hh, hl]
  · have hbs : batS a b = false := by
      cases q : batS a b with
      | false => rfl
      | true =>
        have := (batS_iff a b).1 q
        subst this
        simp at hh
    rw [hbs]
    simp [ac69, ar69, Bat.sv, Bat.cells, e1, e2, e3, hh, hl]
theorem rsame_bat (a b : Bat) (hl : a.rs.length < 4611686018427387904) : Pure Try.prog 89 [a.sv, b.sv] (.sv (.bool (batS a b))) := by
  refine pure_go RZ_ok Try.func89 Try.ntmps89 comp89 cres89 (by decide) (by simp [Bat.sv, Bat.cells]) ?_
  have hh : (a.ba == b.ba && a.ct == b.ct && a.pr == b.pr && a.ep == b.ep && a.sq == b.sq) = true ∨ (a.ba == b.ba && a.ct == b.ct && a.pr == b.pr && a.ep == b.ep && a.sq == b.sq) = false := by cases (a.ba == b.ba && a.ct == b.ct && a.pr == b.pr && a.ep == b.ep && a.sq == b.sq) <;> simp
  have e3 := RZ_135 a.rs b.rs
  rcases hh with hh | hh
  · have hbs : batS a b = recsS a.rs b.rs := by
      simp only [Bool.and_eq_true] at hh
      simp only [batS, hh.1.1.1.1, hh.1.1.1.2, hh.1.1.2, hh.1.2, hh.2, Bool.true_and]
    rw [hbs]
    simp [ac89, ar89, Bat.sv, Bat.cells, e3, hh, hl]
  · have hbs : batS a b = false := by
      cases q : batS a b with
      | false => rfl
      | true =>
        have := (batS_iff a b).1 q
        subst this
        simp at hh
    rw [hbs]
    simp [ac89, ar89, Bat.sv, Bat.cells, e3, hh, hl]

def lightR (r : Rec) : Bool := decide ((r.key.size : Int) ≤ 200) && decide ((r.val.size : Int) ≤ 700)
def lightB (b : Bat) : Bool := decide (b.rs.length ≤ 40) && b.rs.all lightR
theorem all_drop (p : Rec → Bool) (l : List Rec) (i : Nat) (h : i < l.length) : (l.drop i).all p = (p (l.getD i rec0) && (l.drop (i + 1)).all p) := by
  rw [List.drop_eq_getElem_cons h]
  simp only [List.all_cons, List.getD_eq_getElem?_getD, List.getElem?_eq_getElem h, Option.getD_some]
theorem light_bat (b : Bat) : Pure Try.prog 64 [b.sv] (.sv (.bool (lightB b))) := by
  refine pure_go RZ_ok Try.func64 Try.ntmps64 comp64 cres64 (by decide) (by simp) ?_
  unfold lightB
  by_cases h0 : b.rs.length ≤ 40
  case neg =>
    have h0' : (40 : Int) < b.rs.length := by omega
    simp [ac64, ar64, Bat.sv, Bat.cells, h0, h0']
  have h0' : ¬ (40 : Int) < b.rs.length := by omega
  simp [ac64, ar64, Bat.sv, Bat.cells, h0, h0']
  refine awpR_loop (α := Nat) (fun i => i ≤ b.rs.length ∧ b.rs.all lightR = (b.rs.drop i).all lightR) (fun i => { n := 22, sl := [(1, .lptr 1 0), (3, .sv (.int .i64 i))], bx := [(1, b.cells.map .sv)], hp := fun _ => none })
    (fun i => b.rs.length - i) 0 ⟨by omega, rfl⟩ (by simp [Bat.cells]) ?_
  rintro i ⟨hi, he⟩
  by_cases h : i < b.rs.length
  · have h1 : (i : Int) < b.rs.length := by omega
    have hw : IntKind.i64.wrap ((i : Int) + 1) = ((i + 1 : Nat) : Int) := by rw [IntKind.wrap_i64]; omega
    have hg := RL_get b.rs h
    have hiA : i < (RL b.rs).length := by simpa using h
    have hg2 : (RL b.rs)[i] = (b.rs.getD i rec0).sv := by rw [← hg, List.getElem?_eq_getElem hiA]; rfl
    rw [all_drop _ _ _ h] at he
    have hr := RZ_121 (b.rs.getD i rec0)
    generalize b.rs.getD i rec0 = r at hg hg2 he hr
    cases hq : lightR r with
    | true =>
      rw [hq, Bool.true_and] at he
      unfold lightR at hq
      rw [hq] at hr
      simp [Bat.cells, h1, hg, hg2, h, Rec.sv, Rec.cells, hw, hr, WkRs_refl]
      exact ⟨i + 1, ⟨by omega, he⟩, by omega, by omega⟩
    | false =>
      rw [hq, Bool.false_and] at he
      unfold lightR at hq
      rw [hq] at hr
      simp [Bat.cells, h1, hg, hg2, h, Rec.sv, Rec.cells, hw, hr, he]
  · have h1 : ¬ (i : Int) < b.rs.length := by omega
    obtain rfl : i = b.rs.length := by omega
    rw [List.drop_length] at he
    simp [h1, he, Bat.cells]

/-! ### From -/
theorem f85_pure (b : Bat) (off : Int) (r : Rec) : Pure Try.prog 143 [r.sv, .eptr b.sv 0, .eptr (.agg [.int .i64 off]) 0] (.sv (.bool (decide (atW b r < off)))) := by
  refine pure_go R0_ok Try.func143 Try.ntmps143 comp143 cres143 (by decide) (by simp [Rec.sv, Rec.cells, Bat.sv, Bat.cells]) ?_
  simp [ac143, ar143, Rec.sv, Rec.cells, Bat.sv, Bat.cells, atW]
  exact decide_eq_decide.2 Iff.rfl
theorem RL_flat (l : List Rec) : (RL l).all SV.flat = true := by
  simp [RL, Rec.sv, Rec.cells, SV.flat, Function.comp_def]
theorem clone_recs (l : List Rec) (hl : l.length ≤ 1000) : Pure Try.prog 142 [.sl 6 (RL l)] (.own 6 (RL l)) := by
  refine pure_go R0_ok Try.func142 Try.ntmps142 comp142 cres142 (by decide) (by simp) ?_
  cases l with
  | nil => simp [ac142, ar142, RL_nil]
  | cons x xs =>
    have h : RL (x :: xs) = x.sv :: RL xs := rfl
    simp at hl
    simp [ac142, ar142, h]
    omega
end Go.Proofs.Ytflcdbfcipkhkaa

set_option linter.unusedSimpArgs false
set_option linter.unusedVariables false
set_option maxHeartbeats 1000000
namespace Go.Proofs.Ytflcdbfcipkhkaa
open Go.Av

theorem chkL_zero {ct : Int} : ∀ {l : List Rec} {last : Int}, chkL ct last l = 0 → ∀ r ∈ l, recE r = 0
  | [], _, _, r, hr => by cases hr
  | x :: l, last, h, r, hr => by
    simp only [chkL] at h
    by_cases h1 : recE x = 0
    · rw [if_neg (fun q => q h1)] at h
      by_cases h2 : x.dl ≤ last ∨ ct ≤ x.dl
      · rw [if_pos h2] at h; cases h
      · rw [if_neg h2] at h
        rcases List.mem_cons.1 hr with rfl | hr
        · exact h1
        · exact chkL_zero h r hr
    · rw [if_pos h1] at h; exact absurd h h1
theorem batE_chk {b : Bat} (h : batE b = 0) : chkL b.ct (-1) b.rs = 0 := by
  have h1 : batN b = 0 := Classical.byContradiction fun q => by rw [batE, if_pos q] at h; exact q h
  rw [batE, if_neg (fun q => q h1)] at h
  exact Classical.byContradiction fun q => by rw [if_pos q] at h; exact q h
theorem batE_num {b : Bat} (h : batE b = 0) : 1 ≤ b.ct ∧ b.ct ≤ 32 ∧ 0 ≤ b.ba ∧ b.ba + b.ct ≤ 4611686018427387903 ∧ 0 ≤ b.pr ∧ b.pr ≤ 1099511627776 ∧ 0 ≤ b.ep ∧ b.ep ≤ 32767 ∧ 0 ≤ b.sq ∧ b.sq ≤ 2147483647 := by
  have q : batN b = 0 := Classical.byContradiction fun q => by rw [batE, if_pos q] at h; exact q h
  unfold batN at q
  have q1 : ¬ (b.ct < 1 ∨ 32 < b.ct ∨ b.ba < 0 ∨ 4611686018427387903 - b.ct < b.ba) := fun z => by rw [if_pos z] at q; cases q
  rw [if_neg q1] at q
  have q2 : ¬ (b.pr < 0 ∨ 1099511627776 < b.pr ∨ b.ep < 0 ∨ 32767 < b.ep ∨ b.sq < 0 ∨ 2147483647 < b.sq) := fun z => by rw [if_pos z] at q; cases q
  omega
theorem recsB_cons (r : Rec) (l : List Rec) : recsB (r :: l) = putR r ++ recsB l := by simp [recsB]
theorem goR_recs : ∀ (rs : List Rec) (t : List Nat) (acc : List Rec), (∀ r ∈ rs, recE r = 0) → goR rs.length (recsB rs ++ t) 0 acc = some (acc ++ rs)
  | [], t, acc, _ => by simp [goR]
  | r :: rs, t, acc, h => by
    have hr : recE r = 0 := h r (by simp)
    have hp : putR r = recP r := if_pos hr
    rw [recsB_cons, hp, List.append_assoc, List.length_cons, goR, recG_put r hr]
    simp only [ne_eq, not_true_eq_false, if_false]
    rw [goR_recs rs t _ (fun x hx => h x (by simp [hx]))]
    simp
theorem goQ_recs : ∀ (rs : List Rec) (t : List Nat) (acc : List Rec), (∀ r ∈ rs, recE r = 0) → goQ rs.length (recsB rs ++ t) 0 acc = acc ++ rs
  | [], t, acc, _ => by simp [goQ]
  | r :: rs, t, acc, h => by
    have hr : recE r = 0 := h r (by simp)
    have hp : putR r = recP r := if_pos hr
    rw [recsB_cons, hp, List.append_assoc, List.length_cons, goQ, recG_put r hr, if_pos rfl]
    simp only
    rw [goQ_recs rs t _ (fun x hx => h x (by simp [hx]))]
    simp
theorem layB_split (b : Bat) (t : List Nat) : layB b ++ t = layN (zig b.ba) ++ (layN (zig b.ct) ++ (layN (zig b.pr) ++ (layN (zig b.ep) ++ (layN (zig b.sq) ++ (layN (zig b.rs.length) ++ (recsB b.rs ++ t)))))) := by
  simp [layB, numsB, hdL]
theorem p_lay {b : Bat} (h : batE b = 0) (t : List Nat) : (p1 (layB b ++ t)).1 = b.ba ∧ (p2 (layB b ++ t)).1 = b.ct ∧ (p3 (layB b ++ t)).1 = b.pr ∧ (p4 (layB b ++ t)).1 = b.ep ∧ (p5 (layB b ++ t)).1 = b.sq ∧ p6 (layB b ++ t) = ((b.rs.length : Int), recsB b.rs ++ t, 0) := by
  obtain ⟨a1, a2, a3, a4, a5, a6, a7, a8, a9, a10⟩ := batE_num h
  have hl := batE_len h
  have e1 : p1 (layB b ++ t) = (b.ba, (layN (zig b.ct) ++ (layN (zig b.pr) ++ (layN (zig b.ep) ++ (layN (zig b.sq) ++ (layN (zig b.rs.length) ++ (recsB b.rs ++ t)))))), 0) := by rw [layB_split]; exact rNum_lay ⟨by omega, by omega⟩ _
  have e2 : p2 (layB b ++ t) = (b.ct, (layN (zig b.pr) ++ (layN (zig b.ep) ++ (layN (zig b.sq) ++ (layN (zig b.rs.length) ++ (recsB b.rs ++ t))))), 0) := by unfold p2; rw [e1]; exact rNum_lay ⟨by omega, by omega⟩ _
  have e3 : p3 (layB b ++ t) = (b.pr, (layN (zig b.ep) ++ (layN (zig b.sq) ++ (layN (zig b.rs.length) ++ (recsB b.rs ++ t)))), 0) := by unfold p3; rw [e2]; exact rNum_lay ⟨by omega, by omega⟩ _
  have e4 : p4 (layB b ++ t) = (b.ep, (layN (zig b.sq) ++ (layN (zig b.rs.length) ++ (recsB b.rs ++ t))), 0) := by unfold p4; rw [e3]; exact rNum_lay ⟨by omega, by omega⟩ _
  have e5 : p5 (layB b ++ t) = (b.sq, (layN (zig b.rs.length) ++ (recsB b.rs ++ t)), 0) := by unfold p5; rw [e4]; exact rNum_lay ⟨by omega, by omega⟩ _
  have e6 : p6 (layB b ++ t) = ((b.rs.length : Int), (recsB b.rs ++ t), 0) := by unfold p6; rw [e5]; exact rNum_lay ⟨by omega, by omega⟩ _
  exact ⟨by rw [e1], by rw [e2], by rw [e3], by rw [e4], by rw [e5], e6⟩
theorem cntG_len {n : Nat} (h : n ≤ 32) : cntG (n : Int) = n := by
  unfold cntG
  rw [if_neg (by omega), if_neg (by omega)]; rfl
theorem batG_lay {b : Bat} (h : batE b = 0) : batG (layB b) = (b, 0) := by
  obtain ⟨e1, e2, e3, e4, e5, e6⟩ := p_lay h []
  rw [List.append_nil] at e1 e2 e3 e4 e5 e6
  rw [List.append_nil] at e6
  have hg := goR_recs b.rs [] [] (chkL_zero (batE_chk h))
  rw [List.append_nil, List.nil_append] at hg
  unfold batG
  rw [e6, cntG_len (batE_len h), hg, e1, e2, e3, e4, e5]
  exact if_pos ⟨h, rfl⟩
theorem batQ_lay {b : Bat} (h : batE b = 0) : batQ (layB b) = (b, 0) := by
  obtain ⟨e1, e2, e3, e4, e5, e6⟩ := p_lay h []
  rw [List.append_nil] at e1 e2 e3 e4 e5 e6
  rw [List.append_nil] at e6
  have hg := goQ_recs b.rs [] [] (chkL_zero (batE_chk h))
  rw [List.append_nil, List.nil_append] at hg
  unfold batQ
  have := batE_lay h
  rw [if_neg (by omega), e6, cntG_len (batE_len h), hg, e1, e2, e3, e4, e5]
  exact if_pos ⟨h, rfl⟩
theorem finG_cases (l : List Nat) (b : Bat) : finG l b = (bat0, 4) ∨ batE b = 0 ∧ layB b = l ∧ finG l b = (b, 0) := by
  unfold finG
  by_cases h : batE b = 0 ∧ layB b = l
  · exact .inr ⟨h.1, h.2, if_pos h⟩
  · exact .inl (if_neg h)
theorem batG_cases (l : List Nat) : batG l = (bat0, 4) ∨ ∃ b, batE b = 0 ∧ layB b = l ∧ batG l = (b, 0) := by
  unfold batG
  cases goR (cntG (p6 l).1) (p6 l).2.1 (p6 l).2.2 [] with
  | none => exact .inl rfl
  | some rs =>
    rcases finG_cases l ⟨(p1 l).1, (p2 l).1, (p3 l).1, (p4 l).1, (p5 l).1, rs⟩ with h | ⟨h1, h2, h3⟩
    · exact .inl h
    · exact .inr ⟨_, h1, h2, h3⟩
theorem batQ_cases (l : List Nat) : batQ l = (bat0, 4) ∨ ∃ b, batE b = 0 ∧ layB b = l ∧ batQ l = (b, 0) := by
  unfold batQ
  split
  · exact .inl rfl
  · rcases finG_cases l ⟨(p1 l).1, (p2 l).1, (p3 l).1, (p4 l).1, (p5 l).1, goQ (cntG (p6 l).1) (p6 l).2.1 (p6 l).2.2 []⟩ with h | ⟨h1, h2, h3⟩
    · exact .inl h
    · exact .inr ⟨_, h1, h2, h3⟩
/-- Both readers tell the same. -/
theorem batG_batQ (l : List Nat) : batG l = batQ l := by
  rcases batG_cases l with h | ⟨b, h1, h2, h3⟩
  · rcases batQ_cases l with k | ⟨b, k1, k2, k3⟩
    · rw [h, k]
    · subst k2
      rw [batG_lay k1, k3]
  · subst h2
    rw [h3, batQ_lay h1]
/-- No batch's bytes are the beginning of another one's. -/
theorem bat_prefix {a b : Bat} (ha : batE a = 0) (hb : batE b = 0) {t : List Nat} (h : layB b = layB a ++ t) : a = b := by
  obtain ⟨a1, a2, a3, a4, a5, a6⟩ := p_lay ha t
  obtain ⟨b1, b2, b3, b4, b5, b6⟩ := p_lay hb []
  rw [List.append_nil, h] at b1 b2 b3 b4 b5 b6
  rw [List.append_nil, a6] at b6
  obtain ⟨l1, l2⟩ := Prod.mk.inj b6
  have hlen : a.rs.length = b.rs.length := by omega
  have e := (Prod.mk.inj l2).1
  have g1 := goR_recs a.rs t [] (chkL_zero (batE_chk ha))
  have g2 := goR_recs b.rs [] [] (chkL_zero (batE_chk hb))
  rw [e, hlen] at g1
  rw [List.append_nil, g1] at g2
  have hrs : a.rs = b.rs := by simpa using g2
  obtain ⟨x1, x2, x3, x4, x5, x6⟩ := a
  obtain ⟨y1, y2, y3, y4, y5, y6⟩ := b
  simp only at a1 a2 a3 a4 a5 b1 b2 b3 b4 b5 hrs
  rw [a1] at b1; rw [a2] at b2; rw [a3] at b3; rw [a4] at b4; rw [a5] at b5
  subst b1 b2 b3 b4 b5 hrs
  rfl
theorem layB_inj {a b : Bat} (ha : batE a = 0) (hb : batE b = 0) (h : layB a = layB b) : a = b := bat_prefix ha hb (t := []) (by rw [h, List.append_nil])
theorem layB_pos (b : Bat) : 1 ≤ (layB b).length := by
  have := layN_pos (zig b.ba)
  simp only [layB, numsB, hdL, List.length_append, List.map_cons, List.flatten_cons]
  omega
theorem batG_more {b : Bat} (h : batE b = 0) (c : Nat) : batG (layB b ++ [c]) = (bat0, 4) := by
  rcases batG_cases (layB b ++ [c]) with k | ⟨a, k1, k2, k3⟩
  · exact k
  · have := bat_prefix h k1 k2
    subst this
    have := congrArg List.length k2
    simp at this
theorem batG_less {b : Bat} (h : batE b = 0) : batG (layB b).dropLast = (bat0, 4) := by
  rcases batG_cases (layB b).dropLast with k | ⟨a, k1, k2, k3⟩
  · exact k
  · have hne : layB b ≠ [] := fun q => by have := layB_pos b; rw [q] at this; simp at this
    have e : layB b = layB a ++ [(layB b).getLast hne] := by rw [k2]; exact (List.dropLast_concat_getLast hne).symm
    have := bat_prefix k1 h e
    subst this
    have := congrArg List.length e
    simp at this

/-! ### offsets rise -/
theorem chkL_spec {ct : Int} : ∀ {l : List Rec} {last : Int}, chkL ct last l = 0 → ∀ i, i < l.length → last < (l.getD i rec0).dl ∧ (l.getD i rec0).dl < ct ∧ ∀ j, j < i → (l.getD j rec0).dl < (l.getD i rec0).dl
  | [], _, _, i, hi => by simp at hi
  | x :: l, last, h, i, hi => by
    simp only [chkL] at h
    have h1 : recE x = 0 := chkL_zero (l := x :: l) (last := last) (ct := ct) (by simpa only [chkL] using h) x (by simp)
    rw [if_neg (fun q => q h1)] at h
    have h2 : ¬ (x.dl ≤ last ∨ ct ≤ x.dl) := fun q => by rw [if_pos q] at h; cases h
    rw [if_neg h2] at h
    cases i with
    | zero => exact ⟨by simp; omega, by simp; omega, fun j hj => absurd hj (Nat.not_lt_zero _)⟩
    | succ i =>
      obtain ⟨k1, k2, k3⟩ := chkL_spec h i (by simpa using hi)
      refine ⟨by simp at k1 ⊢; omega, by simpa using k2, fun j hj => ?_⟩
      cases j with
      | zero => simpa using k1
      | succ j => simpa using k3 j (by omega)
end Go.Proofs.Ytflcdbfcipkhkaa

/- Batch: what fits a batch; arguments of which less is known. -/



set_option linter.unusedSimpArgs false
set_option linter.unusedVariables false
set_option maxHeartbeats 4000000
namespace Go.Proofs.Ytflcdbfcipkhkaa
open Go.Av
theorem wf64 {n : Int} (h : (Lit.int .i64 n).wf = true) : I64 n := by
  simp [Lit.wf, IntKind.min, IntKind.max, IntKind.signed, IntKind.bits] at h
  exact ⟨by omega, by omega⟩
theorem wfu8 {n : Int} (h : (Lit.int .u8 n).wf = true) : 0 ≤ n ∧ n < 256 := by
  simp [Lit.wf, IntKind.min, IntKind.max, IntKind.signed, IntKind.bits] at h
  omega
theorem has_bytes : ∀ {xs : List SV}, (∀ x ∈ xs, x = mkE x.cells ∧ (Sh.int .u8).has x.cells) → ∃ l, xs = bs l ∧ Bytes l
  | [], _ => ⟨[], rfl, fun c h => by simp at h⟩
  | x :: xs, h => by
    obtain ⟨l, rfl, hl⟩ := has_bytes (xs := xs) (fun y hy => h y (by simp [hy]))
    obtain ⟨he, hx⟩ := h x (by simp)
    simp only [Sh.has] at hx
    obtain ⟨n, hn, hw⟩ := hx
    obtain ⟨h0, h1⟩ := wfu8 hw
    obtain ⟨m, rfl⟩ := Int.eq_ofNat_of_zero_le h0
    rw [hn] at he
    simp only [mkE] at he
    subst he
    exact ⟨m :: l, rfl, fun c hc => by rcases List.mem_cons.1 hc with rfl | hc; omega; exact hl c hc⟩
theorem has_recs : ∀ {xs : List SV}, (∀ x ∈ xs, x = mkE x.cells ∧ (Sh.st [.int .i64, .int .i64, .bool, .str, .bool, .str]).has x.cells) → ∃ l, xs = RL l
  | [], _ => ⟨[], rfl⟩
  | x :: xs, h => by
    obtain ⟨l, rfl⟩ := has_recs (xs := xs) (fun y hy => h y (by simp [hy]))
    obtain ⟨he, hx⟩ := h x (by simp)
    simp only [Sh.has, Sh.hasL] at hx
    obtain ⟨_, _, e1, ⟨dl, rfl, w1⟩, _, _, rfl, ⟨tm, rfl, w2⟩, _, _, rfl, ⟨kd, rfl⟩, _, _, rfl, ⟨key, rfl, _⟩, _, _, rfl, ⟨dd, rfl⟩, _, _, rfl, ⟨val, rfl, _⟩, rfl⟩ := hx
    rw [e1] at he
    simp only [List.singleton_append, mkE] at he
    subst he
    exact ⟨⟨dl, tm, kd, key, dd, val⟩ :: l, rfl⟩
/-- A batch as an argument: its records may be nil. -/
theorem has_bat {v : SV} (h : (Sh.st [.int .i64, .int .i64, .int .i64, .int .i64, .int .i64, .sl (.st [.int .i64, .int .i64, .bool, .str, .bool, .str])]).hasV v) : ∃ b : Bat, b.ok ∧ ∃ l, v = .agg l ∧ WkCs l b.cells := by
  simp only [Sh.hasV, Sh.hasL, Sh.has] at h
  obtain ⟨l, rfl, _, _, rfl, ⟨ba, rfl, w1⟩, _, _, rfl, ⟨ct, rfl, w2⟩, _, _, rfl, ⟨pr, rfl, w3⟩, _, _, rfl, ⟨ep, rfl, w4⟩, _, _, rfl, ⟨sq, rfl, w5⟩, _, _, rfl, h6, rfl⟩ := h
  rcases h6 with rfl | ⟨xs, rfl, _, hx⟩
  · exact ⟨⟨ba, ct, pr, ep, sq, []⟩, ⟨wf64 w1, wf64 w2, wf64 w3, wf64 w4, wf64 w5⟩, _, rfl, rfl, rfl, rfl, rfl, rfl, rfl, trivial⟩
  · obtain ⟨rs, rfl⟩ := has_recs (xs := xs) (fun x hm => by have := hx x hm; simp only [Sh.has, Sh.hasL]; exact this)
    exact ⟨⟨ba, ct, pr, ep, sq, rs⟩, ⟨wf64 w1, wf64 w2, wf64 w3, wf64 w4, wf64 w5⟩, _, rfl, rfl, rfl, rfl, rfl, rfl, rfl, trivial⟩
/-- Less may be known of the arguments. -/
def WkA : SV → SV → Prop
  | .agg l, .agg m => WkCs l m
  | .nils, .sl _ xs => xs = []
  | a, b => a = b
theorem WkA.rep {mu : Mem} {x y : SV} {v : Value} (h : WkA x y) (hr : Rep mu x v) : Rep mu y v := by
  unfold WkA at h
  split at h
  · exact h.rep hr
  · subst h
    rw [Rep.inv_nils hr]
    exact .slnil _
  · rw [← h]; exact hr
theorem pure_wk1 {P : Program} {f : FuncId} {rv : LV} {a a' : SV} (h : WkA a a') (p : Pure P f [a'] rv) : Pure P f [a] rv := fun mu w vs hm hr => p mu w vs hm ⟨hr.1, fun j hj => by
  match j, hj with
  | 0, _ => exact h.rep (hr.2 0 (by simp))⟩
theorem pure_wk2 {P : Program} {f : FuncId} {rv : LV} {a a' b b' : SV} (h : WkA a a') (k : WkA b b') (p : Pure P f [a', b'] rv) : Pure P f [a, b] rv := fun mu w vs hm hr => p mu w vs hm ⟨hr.1, fun j hj => by
  match j, hj with
  | 0, _ => exact h.rep (hr.2 0 (by simp))
  | 1, _ => exact k.rep (hr.2 1 (by simp))⟩
theorem has_int {v : SV} (h : Sh.hasV (.int .i64) v) : ∃ n, v = .int .i64 n ∧ I64 n := by
  obtain ⟨n, h, hn⟩ := (h : (Sh.int .i64).has [v])
  cases h
  exact ⟨n, rfl, wf64 hn⟩
end Go.Proofs.Ytflcdbfcipkhkaa
