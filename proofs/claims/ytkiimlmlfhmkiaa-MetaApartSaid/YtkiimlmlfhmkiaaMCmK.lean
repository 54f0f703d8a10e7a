import Derived.Test.YtkiimlmlfhmkiaaMCmJ
import Derived.Test.YtkiimlmlfhmkiaaMCgB

set_option linter.unusedVariables false
set_option linter.unusedSimpArgs false

/- Meta: Get, walked. -/


set_option linter.unusedSimpArgs false
set_option linter.unusedVariables false
set_option maxHeartbeats 8000000
set_option maxRecDepth 10000
namespace Go.Proofs.Ytkiimlmlfhmkiaa
open Go.Av

theorem nums_bytes (l : List Int) : Bytes (nums l) := by
  intro c hc
  simp only [nums, List.mem_flatten, List.mem_map] at hc
  obtain ⟨x, ⟨n, _, rfl⟩, hx⟩ := hc
  exact layN_bytes _ c hx
theorem textN_bytes (s : ByteArray) : Bytes (textN s) := by
  intro c hc
  rcases List.mem_append.1 hc with hc | hc
  · exact layN_bytes _ c hc
  · simp only [bytesNat, List.mem_map] at hc
    obtain ⟨u, _, rfl⟩ := hc
    exact u.toNat_lt
theorem putM_bytes {m : Met} (ho : m.ok) : Bytes (putM m) := by
  unfold putM
  split
  · rename_i h
    rw [metL_nums h ho.1]
    have h1 := ho.1
    have h2 := ho.2.1
    intro c hc
    rcases List.mem_append.1 hc with hc | hc
    · rcases List.mem_append.1 hc with hc | hc
      · simp at hc; omega
      · exact nums_bytes _ c hc
    · split at hc
      · exact textN_bytes _ c hc
      · cases hc
  · intro c hc; cases hc
theorem get_core {l l0 l1 l2 l3 l4 l5 l6 l7 l8 tx : List Nat} {k : Nat} {e0 e1 e2 e3 e4 e5 e6 e7 e8 n1 n2 n3 n4 n5 n6 n7 : Int} (hb : Bytes l) (hl : l.length < 140737488355328)
    (hF : rFixed l 0 1 = (k, l0, e0)) (h1 : tkN true l0 e0 = (n1, l1, e1)) (h2 : tkN (decide ((k : Int) = 0)) l1 e1 = (n2, l2, e2)) (h3 : tkN (decide ((k : Int) = 0)) l2 e2 = (n3, l3, e3))
    (h4 : tkN (decide ((k : Int) = 2 ∨ (k : Int) = 3 ∨ (k : Int) = 4 ∨ (k : Int) = 5)) l3 e3 = (n4, l4, e4)) (h5 : tkN (decide ((k : Int) = 4)) l4 e4 = (n5, l5, e5))
    (h6 : tkN (decide ((k : Int) = 2 ∨ (k : Int) = 3 ∨ (k : Int) = 4)) l5 e5 = (n6, l6, e6)) (h7 : tkN (decide ((k : Int) = 2 ∨ (k : Int) = 4 ∨ (k : Int) = 5)) l6 e6 = (n7, l7, e7))
    (h8 : txN (decide ((k : Int) = 0)) l7 e7 = (tx, l8, e8)) (M : Met) (hM : M = ⟨k, n1, n4, sOf tx, n2, n3 == 1, n6, n7, n5⟩) :
    Pure Try.prog 22 [.sl 1 (bs l)] (.tup [.sv (if metE M = 0 ∧ rDone l8 e8 = 0 ∧ putM M = l then (M, (0 : Int)) else (met0, 4)).1.sv, .sv (.int .i64 (if metE M = 0 ∧ rDone l8 e8 = 0 ∧ putM M = l then (M, (0 : Int)) else (met0, 4)).2)]) := by
  have hkl := rFixed1_lt l hb 0
  have hb0 := rFixed_bytes hb 0 1
  have hl0 := rFixed_le l 0 1
  rw [hF] at hkl hb0 hl0
  simp only at hkl hb0 hl0
  have e16 := R22_16 M
  have e65 := R22_65 l (putM M)
  have ee : R22.e = R22e := rfl
  have en : R22.n = R22n := rfl
  have eb : R22.b = R22b := rfl
  have e51 := R22_51 (k : Int)
  have hR := R22_ok
  have hfv : R22.fv 61 = true := rfl
  have hnf : R22.nofz = true := rfl
  unfold ofK at e51
  have hku : IntKind.u8.wrap ((k : Nat) : Int) = (k : Int) := by rw [IntKind.wrap_u8]; omega
  have hkk : 0 ≤ ((k : Nat) : Int) ∧ ((k : Nat) : Int) < 256 := ⟨by omega, by omega⟩
  obtain ⟨b1, c1, i1⟩ := tkN_facts h1 hb0
  obtain ⟨b2, c2, i2⟩ := tkN_facts h2 b1
  obtain ⟨b3, c3, i3⟩ := tkN_facts h3 b2
  obtain ⟨b4, c4, i4⟩ := tkN_facts h4 b3
  obtain ⟨b5, c5, i5⟩ := tkN_facts h5 b4
  obtain ⟨b6, c6, i6⟩ := tkN_facts h6 b5
  obtain ⟨b7, c7, i7⟩ := tkN_facts h7 b6
  have hok : M.ok := by rw [hM]; exact ⟨hkk.1, hkk.2, i1, i4, i2, i6, i7, i5⟩
  have hpb : Bytes (putM M) := putM_bytes hok
  have z0 : l0.length < 4611686018427387904 := by omega
  have z1 : l1.length < 4611686018427387904 := by omega
  have z2 : l2.length < 4611686018427387904 := by omega
  have z3 : l3.length < 4611686018427387904 := by omega
  have z4 : l4.length < 4611686018427387904 := by omega
  have z5 : l5.length < 4611686018427387904 := by omega
  have z6 : l6.length < 4611686018427387904 := by omega
  have z7 : l7.length < 4611686018427387904 := by omega
  have zl : l.length < 4611686018427387904 := by omega
  have zl2 : l.length ≤ 140737488355328 := by omega
  generalize R22 = R at hR e16 e51 e65 ee en eb hfv hnf
  generalize metE M = E at e16 ⊢
  generalize putM M = B at e16 e65 hpb ⊢
  simp only [msv, hM] at e16 ⊢
  generalize hK : ((k : Nat) : Int) = K at *
  generalize decide (K = 0) = f1 at *
  generalize decide (K = 2 ∨ K = 3 ∨ K = 4 ∨ K = 5) = f2 at *
  generalize decide (K = 4) = f3 at *
  generalize decide (K = 2 ∨ K = 3 ∨ K = 4) = f4 at *
  generalize decide (K = 2 ∨ K = 4 ∨ K = 5) = f5 at *
  refine pure_go hR Try.func22 Try.ntmps22 comp22 cres22 (by decide) (by simp) ?_
  cases f1 with
  | true =>
    simp only [txN, if_true] at h8
    by_cases hC : E = 0 ∧ rDone l8 e8 = 0 ∧ B = l
    · simp only [if_pos hC]
      obtain ⟨q1, q2, q3⟩ := hC
      subst q1 q3
      simp (maxSteps := 600000) [ac22, ar22, ee, en, eb, R22e, R22n, R22b, e51, hfv, hnf, hF, hku, h1, h2, h3, h4, h5, h6, h7, h8, isBs_bs, hb, hb0, b1, b2, b3, b4, b5, b6, b7, z0, z1, z2, z3, z4, z5, z6, z7, zl, zl2, e16, e65, hok, hpb, hK, q2, Met.sv, Met.cells]
      exact hM ▸ hok
    · simp only [if_neg hC]
      simp (maxSteps := 600000) [ac22, ar22, ee, en, eb, R22e, R22n, R22b, e51, hfv, hnf, hF, hku, h1, h2, h3, h4, h5, h6, h7, h8, isBs_bs, hb, hb0, b1, b2, b3, b4, b5, b6, b7, z0, z1, z2, z3, z4, z5, z6, z7, zl, zl2, e16, e65, hok, hpb, hK, Met.sv, Met.cells, met0]
      refine ⟨hM ▸ hok, fun q1 q2 q3 => absurd ⟨q1, q2, q3.symm⟩ hC⟩
  | false =>
    simp only [txN, Bool.false_eq_true, if_false] at h8
    obtain ⟨rfl, rfl, rfl⟩ : [] = tx ∧ l7 = l8 ∧ e7 = e8 := by simpa using h8
    have hs0 : sOf [] = ByteArray.mk #[] := rfl
    rw [hs0] at e16 hM
    by_cases hC : E = 0 ∧ rDone l7 e7 = 0 ∧ B = l
    · simp only [if_pos hC]
      obtain ⟨q1, q2, q3⟩ := hC
      subst q1 q3
      simp (maxSteps := 600000) [ac22, ar22, ee, en, eb, R22e, R22n, R22b, e51, hfv, hnf, hF, hku, h1, h2, h3, h4, h5, h6, h7, hs0, isBs_bs, hb, hb0, b1, b2, b3, b4, b5, b6, b7, z0, z1, z2, z3, z4, z5, z6, z7, zl, zl2, e16, e65, hok, hpb, hK, q2, Met.sv, Met.cells]
      exact hM ▸ hok
    · simp only [if_neg hC]
      simp (maxSteps := 600000) [ac22, ar22, ee, en, eb, R22e, R22n, R22b, e51, hfv, hnf, hF, hku, h1, h2, h3, h4, h5, h6, h7, hs0, isBs_bs, hb, hb0, b1, b2, b3, b4, b5, b6, b7, z0, z1, z2, z3, z4, z5, z6, z7, zl, zl2, e16, e65, hok, hpb, hK, Met.sv, Met.cells, met0]
      refine ⟨hM ▸ hok, fun q1 q2 q3 => absurd ⟨q1, q2, q3.symm⟩ hC⟩
theorem get_met (l : List Nat) (hb : Bytes l) (hl : l.length < 140737488355328) : Pure Try.prog 22 [.sl 1 (bs l)] (.tup [.sv (metG l).1.sv, .sv (.int .i64 (metG l).2)]) :=
  get_core hb hl rfl rfl rfl rfl rfl rfl rfl rfl rfl (mget l).1 rfl
end Go.Proofs.Ytkiimlmlfhmkiaa

/- Meta: the answer's Get. -/


set_option linter.unusedSimpArgs false
set_option linter.unusedVariables false
set_option maxHeartbeats 8000000
set_option maxRecDepth 10000
namespace Go.Proofs.Ytkiimlmlfhmkiaa
open Go.Av

def eRd (p : List Nat × Int) : List SV := [rd' p.1 p.2]
theorem eRd_inj (a b : List Nat × Int) (h : eRd a = eRd b) : a = b := by
  simp [eRd, rd'] at h
  exact Prod.ext (bs_inj' h.1) h.2
def eRdI (p : (List Nat × Int) × Int) : List SV := [rd' p.1.1 p.1.2, .int .i64 p.2]
theorem eRdI_inj (a b : (List Nat × Int) × Int) (h : eRdI a = eRdI b) : a = b := by
  simp [eRdI, rd'] at h
  exact Prod.ext (Prod.ext (bs_inj' h.1.1) h.1.2) h.2
noncomputable def R66p (f : FuncId) (l : List SV) : Option (Prop × LV) :=
  match f with
  | 96 => row eRdI (fun p => (Bytes p.1.1 ∧ p.1.1.length < 4611686018427387904, .tup [.sv (rd' (rFixed p.1.1 p.1.2 p.2).2.1 (rFixed p.1.1 p.1.2 p.2).2.2), .sv (.int .u64 (rFixed p.1.1 p.1.2 p.2).1)])) l
  | 68 => row eRd (fun p => (Bytes p.1 ∧ p.1.length < 4611686018427387904, .tup [.sv (rd' (rNum p.1 p.2).2.1 (rNum p.1 p.2).2.2), .sv (.int .i64 (rNum p.1 p.2).1)])) l
  | 69 => row eRdI (fun p => (Bytes p.1.1 ∧ p.1.1.length < 4611686018427387904, .tup [.sv (rd' (rText p.1.1 p.1.2 p.2).2.1 (rText p.1.1 p.1.2 p.2).2.2), .sv (.str (sOf (rText p.1.1 p.1.2 p.2).1))])) l
  | _ => none
noncomputable def R66 : Orc := { p := R66p }
theorem R66_ok : R66.ok Try.prog := by
  refine ⟨fun f l c rv h hc => ?_, fun _ _ _ _ _ _ h => (by cases h), fun _ _ _ _ h => (by cases h), fun _ h => (by cases h), fun _ _ _ _ _ _ h => (by cases h), fun _ _ _ _ _ _ _ h => (by cases h)⟩
  change R66p f l = _ at h
  unfold R66p at h
  split at h
  · exact row_ok h hc (fun p hp => reffix p.1.1 p.1.2 p.2 hp.1 hp.2)
  · exact row_ok h hc (fun p hp => refnum p.1 p.2 hp.1 hp.2)
  · exact row_ok h hc (fun p hp => reftext p.1.1 p.1.2 p.2 hp.1 hp.2)
  · cases h
theorem R66_96 (l : List Nat) (e w : Int) : R66.p 96 [.agg [.sl 1 (bs l), .int .i64 e], .int .i64 w] = some (Bytes l ∧ l.length < 4611686018427387904, .tup [.sv (.agg [.sl 1 (bs (rFixed l e w).2.1), .int .i64 (rFixed l e w).2.2]), .sv (.int .u64 (rFixed l e w).1)]) := row_eq eRdI_inj _ ((l, e), w)
theorem R66_68 (l : List Nat) (e : Int) : R66.p 68 [.agg [.sl 1 (bs l), .int .i64 e]] = some (Bytes l ∧ l.length < 4611686018427387904, .tup [.sv (.agg [.sl 1 (bs (rNum l e).2.1), .int .i64 (rNum l e).2.2]), .sv (.int .i64 (rNum l e).1)]) := row_eq eRd_inj _ (l, e)
theorem R66_69 (l : List Nat) (e w : Int) : R66.p 69 [.agg [.sl 1 (bs l), .int .i64 e], .int .i64 w] = some (Bytes l ∧ l.length < 4611686018427387904, .tup [.sv (.agg [.sl 1 (bs (rText l e w).2.1), .int .i64 (rText l e w).2.2]), .sv (.str (sOf (rText l e w).1))]) := row_eq eRdI_inj _ ((l, e), w)
def flgR (k : Int) : Bool × Bool × Bool × Bool × Bool := (decide (k = 0), decide (¬ (k = 0 ∨ k = 1 ∨ k = 6)), decide (k = 4), decide (¬ (k = 0 ∨ k = 1 ∨ k = 6 ∨ k = 5)), decide (¬ (k = 0 ∨ k = 1 ∨ k = 6 ∨ k = 3)))
def rread (l : List Nat) : Met := (mgetF (flgR ((rFixed l 0 1).1 : Nat)) ((rFixed l 0 1).1 : Nat) (rFixed l 0 1).2.1 (rFixed l 0 1).2.2).1
theorem tkN_t (l : List Nat) (e : Int) : tkN true l e = rNum l e := rfl
theorem tkN_f (l : List Nat) (e : Int) : tkN false l e = (0, l, e) := rfl
theorem rN_facts {l : List Nat} {e : Int} {n : Int} {l' : List Nat} {e' : Int} (h : rNum l e = (n, l', e')) (hb : Bytes l) (hz : l.length < 4611686018427387904) : Bytes l' ∧ l'.length < 4611686018427387904 := by
  obtain ⟨h1, h2, _⟩ := tkN_facts (has := true) h hb
  exact ⟨h1, by omega⟩
theorem read_pure (l : List Nat) (hb : Bytes l) (hl : l.length < 4611686018427387904) : Pure Try.prog 66 [.sl 1 (bs l)] (.sv (rread l).sv) := by
  have hkl := rFixed1_lt l hb 0
  have hb0 := rFixed_bytes hb 0 1
  have hl0 := rFixed_le l 0 1
  have e96 := R66_96 l 0 1
  have e68 := R66_68
  have e69 := R66_69
  have hR := R66_ok
  unfold rread
  generalize R66 = R at hR e96 e68 e69
  generalize rFixed l 0 1 = F at hkl hb0 hl0 e96 ⊢
  obtain ⟨k, l0, e0⟩ := F
  simp only at hkl hb0 hl0 e96 ⊢
  have hku : IntKind.u8.wrap ((k : Nat) : Int) = (k : Int) := by rw [IntKind.wrap_u8]; omega
  have z0 : l0.length < 4611686018427387904 := by omega
  rcases h1 : rNum l0 e0 with ⟨n1, l1, e1⟩
  obtain ⟨b1, z1⟩ := rN_facts h1 hb0 z0
  rcases h2 : rNum l1 e1 with ⟨n2, l2, e2⟩
  obtain ⟨b2, z2⟩ := rN_facts h2 b1 z1
  rcases h3 : rNum l2 e2 with ⟨n3, l3, e3⟩
  obtain ⟨b3, z3⟩ := rN_facts h3 b2 z2
  rcases h4 : rNum l3 e3 with ⟨n4, l4, e4⟩
  obtain ⟨b4, z4⟩ := rN_facts h4 b3 z3
  rcases h5 : rNum l4 e4 with ⟨n5, l5, e5⟩
  rcases h8 : rText l3 e3 32 with ⟨tx, l8, e8⟩
  have hs0 : sOf [] = ByteArray.mk #[] := rfl
  refine pure_go hR Try.func66 Try.ntmps66 comp66 cres66 (by decide) (by simp) ?_
  generalize hK : ((k : Nat) : Int) = K at hku ⊢
  by_cases k0 : K = 0
  · rw [k0] at hku hK
    simp [ac66, ar66, e96, e68, e69, hb, hl, hku, hb0, z0, b1, z1, b2, z2, b3, z3, b4, z4, h1, h2, h3, h4, h5, h8, k0, mgetF, flgR, tkN_t, tkN_f, txN, Met.sv, Met.cells, hs0, hK]
  by_cases k1 : K = 1
  · rw [k1] at hku hK
    simp [ac66, ar66, e96, e68, e69, hb, hl, hku, hb0, z0, b1, z1, b2, z2, b3, z3, b4, z4, h1, h2, h3, h4, h5, h8, k1, mgetF, flgR, tkN_t, tkN_f, txN, Met.sv, Met.cells, hs0, hK]
  by_cases k6 : K = 6
  · rw [k6] at hku hK
    simp [ac66, ar66, e96, e68, e69, hb, hl, hku, hb0, z0, b1, z1, b2, z2, b3, z3, b4, z4, h1, h2, h3, h4, h5, h8, k6, mgetF, flgR, tkN_t, tkN_f, txN, Met.sv, Met.cells, hs0, hK]
  by_cases k2 : K = 2
  · rw [k2] at hku hK
    simp [ac66, ar66, e96, e68, e69, hb, hl, hku, hb0, z0, b1, z1, b2, z2, b3, z3, b4, z4, h1, h2, h3, h4, h5, h8, k2, mgetF, flgR, tkN_t, tkN_f, txN, Met.sv, Met.cells, hs0, hK]
  by_cases k3 : K = 3
  · rw [k3] at hku hK
    simp [ac66, ar66, e96, e68, e69, hb, hl, hku, hb0, z0, b1, z1, b2, z2, b3, z3, b4, z4, h1, h2, h3, h4, h5, h8, k3, mgetF, flgR, tkN_t, tkN_f, txN, Met.sv, Met.cells, hs0, hK]
  by_cases k4 : K = 4
  · rw [k4] at hku hK
    simp [ac66, ar66, e96, e68, e69, hb, hl, hku, hb0, z0, b1, z1, b2, z2, b3, z3, b4, z4, h1, h2, h3, h4, h5, h8, k4, mgetF, flgR, tkN_t, tkN_f, txN, Met.sv, Met.cells, hs0, hK]
  by_cases k5 : K = 5
  · rw [k5] at hku hK
    simp [ac66, ar66, e96, e68, e69, hb, hl, hku, hb0, z0, b1, z1, b2, z2, b3, z3, b4, z4, h1, h2, h3, h4, h5, h8, k5, mgetF, flgR, tkN_t, tkN_f, txN, Met.sv, Met.cells, hs0, hK]
  simp [ac66, ar66, e96, e68, e69, hb, hl, hku, hb0, z0, b1, z1, b2, z2, b3, z3, b4, z4, h1, h2, h3, h4, h5, h8, k0, k1, k2, k3, k4, k5, k6, mgetF, flgR, tkN_t, tkN_f, txN, Met.sv, Met.cells, hs0, hK]
end Go.Proofs.Ytkiimlmlfhmkiaa
