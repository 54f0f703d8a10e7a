import Derived.Test.YtomlhaekhammkaaIxH

set_option linter.unusedSimpArgs false
set_option linter.unusedVariables false
set_option maxHeartbeats 4000000
namespace Go.Proofs.Ytomlhaekhammkaa
open Go.Av

/-- The last entry of a list that is not above an offset. -/
def LastIs (l : List Ent) (off : Int) (i : Nat) (last : Int) : Prop :=
  -1 ≤ last ∧ last < i ∧ (0 ≤ last → (l.getD last.toNat (0, 0, 0)).1 ≤ off) ∧ ∀ j : Nat, last < j → j < i → off < (l.getD j (0, 0, 0)).1

theorem near_law {N : Nat} (hN : 1 ≤ N) {l : List Ent} (hr : rising l = true) {off last : Int} (hl : LastIs l off l.length last) :
    (last < 0 ∧ (findX (buildX N l) off).2 = false) ∨
    (0 ≤ last ∧ (findX (buildX N l) off).2 = true ∧ ∃ K : Nat, (K : Int) ≤ last ∧ last - N + 1 ≤ K ∧ (l.getD K (0, 0, 0)).1 = (findX (buildX N l) off).1.1 ∧ (l.getD K (0, 0, 0)).2.2 = (findX (buildX N l) off).1.2.2 ∧ (l.getD K (0, 0, 0)).1 ≤ off) := by
  obtain ⟨h1, h2, h3, h4⟩ := hl
  have hb := bs_build N hN l
  obtain ⟨X, hX⟩ : ∃ X, buildX N l = X := ⟨_, rfl⟩
  rw [hX] at hb ⊢
  obtain ⟨b1, b2, B⟩ := X
  simp only at hb
  have hBr : rising B = true := by
    simp only [rising, decide_eq_true_eq]
    intro i hi
    have e1 := hb.off i (by omega)
    have e2 := hb.off (i + 1) (by omega)
    have e3 := (hb.len (i + 1)).1 (by omega)
    rw [e1, e2]
    exact rising_le hr (Nat.mul_le_mul_right N (by omega)) e3
  rw [find_rising b1 b2 B off hBr]
  by_cases h0 : last < 0
  · left
    refine ⟨h0, ?_⟩
    rw [lastP_none (fun j hj => ?_)]
    have e1 := hb.off j hj
    have e3 := (hb.len j).1 hj
    have := h4 (j * N) (by omega) e3
    rw [← e1] at this
    exact decide_eq_false (by omega)
  · right
    obtain ⟨m, rfl⟩ := Int.eq_ofNat_of_zero_le (show 0 ≤ last by omega)
    have hm : m < l.length := by omega
    have hq1 : m / N * N ≤ m := Nat.div_mul_le_self m N
    have hq2 : m < (m / N + 1) * N := by
      have := Nat.lt_div_mul_add (a := m) (b := N) (by omega)
      rw [Nat.succ_mul]; omega
    have hk : m / N < B.length := (hb.len _).2 (by omega)
    have e1 := hb.off (m / N) hk
    have e2 := hb.pl (m / N) hk
    have hle : (l.getD (m / N * N) (0, 0, 0)).1 ≤ off := by
      have := rising_le hr hq1 hm
      have := h3 (by omega)
      simp only [Int.toNat_natCast] at this
      omega
    have hsome := lastP_some (p := fun e => decide (e.1 ≤ off)) (l := B) hk (fun j hj1 hj2 => by
      have e3 := hb.off j hj2
      have e4 := (hb.len j).1 hj2
      have h5 : (m / N + 1) * N ≤ j * N := Nat.mul_le_mul_right N (by omega)
      have := h4 (j * N) (by omega) e4
      rw [← e3] at this
      exact decide_eq_false (by omega)) (by rw [e1]; exact decide_eq_true hle)
    rw [hsome]
    refine ⟨by omega, rfl, m / N * N, by omega, ?_, ?_, ?_, hle⟩
    · rw [Nat.succ_mul] at hq2; omega
    · exact e1.symm
    · exact e2.symm

theorem near_pure (l : List Ent) (e : Int) (off : Int) (he : 0 ≤ e ∧ e < 256) : Pure Try.prog 9 [.sl 3 (EL l), .int .u8 e, iV off] (.sv (.bool true)) := by
  refine pure_go RI_ok Try.func9 Try.ntmps9 comp9 cres9 (by decide) (by simp) ?_
  by_cases h1 : 60 < (l.length : Int)
  · simp [ac9, ar9, iV, eV, h1, RI_26, RI_40 l]
  have k1 : (l.length : Int) ≤ 60 := by omega
  have ol : OkL (EL l) := (OkL_EL l).2 (by omega)
  have hR := RI_40 l
  cases hr : rising l with
  | false =>
    rw [hr] at hR
    simp [ac9, ar9, iV, eV, h1, k1, hR, ol, RI_26]
  | true =>
  rw [hr] at hR
  obtain ⟨N, hN, hN1, hN7⟩ : ∃ N : Nat, (if 1 < IntKind.i64.wrap (e.tmod 8) then IntKind.i64.wrap (e.tmod 8) else 1) = (N : Int) ∧ 1 ≤ N ∧ N ≤ 7 := by
    obtain ⟨m, rfl⟩ := Int.eq_ofNat_of_zero_le he.1
    have e1 : ((m : Int)).tmod 8 = ((m % 8 : Nat) : Int) := tmodn m 8
    have e2 : IntKind.i64.wrap ((m % 8 : Nat) : Int) = ((m % 8 : Nat) : Int) := by rw [IntKind.wrap_i64]; omega
    rw [e1, e2]
    by_cases q : 1 < m % 8
    · exact ⟨m % 8, by rw [if_pos (by omega)], by omega, by omega⟩
    · exact ⟨1, by rw [if_neg (by omega)]; rfl, by omega, by omega⟩
  simp [ac9, ar9, iV, eV, h1, k1, hR, ol, hN]
  refine awpR_loop (α := Nat × Int) (fun p => p.1 ≤ l.length ∧ LastIs l off p.1 p.2) (fun p => { n := 101, sl := [(0, .sv (.sl 3 (EL l))), (2, .sv (.int .i64 off)), (7, .sv (.int .i64 N)), (8, .own 3 (EL (l.take p.1))), (9, .sv (.int .i64 p.2)), (10, .sv (.int .i64 p.1))], bx := [], hp := fun _ => none })
    (fun p => l.length - p.1) (0, -1) ⟨by simp, by simp [LastIs]⟩ (by simp [EL]) ?_
  rintro ⟨i, last⟩ ⟨hi, hla⟩
  simp only at hi hla
  by_cases h : i < l.length
  · have h1 : (i : Int) < l.length := by omega
    have hg := EL_get l h
    have es : EL (l.take (i + 1)) = EL (l.take i) ++ [eV (l.getD i (0, 0, 0))] := EL_take_succ l h
    have hw : IntKind.i64.wrap ((i : Int) + 1) = ((i + 1 : Nat) : Int) := by rw [IntKind.wrap_i64]; omega
    obtain ⟨q1, q2, q3, q4⟩ := hla
    have st1 : (l.getD i (0, 0, 0)).1 ≤ off → LastIs l off (i + 1) i := fun q => ⟨by omega, by omega, fun _ => by simpa using q, fun j h1 h2 => by omega⟩
    have st2 : ¬ (l.getD i (0, 0, 0)).1 ≤ off → LastIs l off (i + 1) last := fun q => ⟨q1, by omega, q3, fun j h1 h2 => by
      by_cases e : j = i
      · subst e; omega
      · exact q4 j h1 (by omega)⟩
    generalize l.getD i (0, 0, 0) = s at hg es st1 st2
    obtain ⟨s1, s2, s3⟩ := s
    by_cases q : s1 ≤ off
    · simp [h1, hg, eV, iV, hw, q]
      exact ⟨by omega, i + 1, i, ⟨by omega, st1 q⟩, by omega, by rw [es]; rfl, rfl, by omega⟩
    · simp [h1, hg, eV, iV, hw, q]
      exact ⟨by omega, i + 1, last, ⟨by omega, st2 q⟩, by omega, by rw [es]; rfl, rfl, by omega⟩
  · have h1 : ¬ (i : Int) < l.length := by omega
    obtain rfl : i = l.length := by omega
    have law := near_law hN1 hr hla
    have hc := (buildX_count N l).2
    have oB : OkL (EL (buildX N l).2.2) := (OkL_EL _).2 (by omega)
    have hF := RI_39 (buildX N l).1 (buildX N l).2.1 (buildX N l).2.2 off
    have eta : ((buildX N l).1, (buildX N l).2.1, (buildX N l).2.2) = buildX N l := rfl
    rw [eta] at hF
    rcases law with ⟨g1, g2⟩ | ⟨g1, g2, K, g3, g4, g5, g6, g7⟩
    · generalize findX (buildX N l) off = ft at hF g2
      obtain ⟨⟨f1, f2, f3⟩, fb⟩ := ft
      simp only at g2
      subst g2
      simp [h1, ol, RI_35, ixV, xV, iV, eV, oB, hF, g1, RI_26]
    · generalize findX (buildX N l) off = ft at hF g2 g5 g6
      obtain ⟨⟨f1, f2, f3⟩, fb⟩ := ft
      simp only at g2 g5 g6
      subst g2
      have hlast : last < l.length := hla.2.1
      obtain ⟨i0, hi0, hi1⟩ : ∃ i0 : Nat, (if 0 < IntKind.i64.wrap (IntKind.i64.wrap (last - N) + 1) then IntKind.i64.wrap (IntKind.i64.wrap (last - N) + 1) else 0) = (i0 : Int) ∧ i0 ≤ K := by
        have e1 : IntKind.i64.wrap (last - N) = last - N := by rw [IntKind.wrap_i64]; omega
        have e2 : IntKind.i64.wrap (last - N + 1) = last - N + 1 := by rw [IntKind.wrap_i64]; omega
        rw [e1, e2]
        exact ⟨(if 0 < last - N + 1 then last - N + 1 else 0).toNat, by split <;> omega, by split <;> omega⟩
      simp [h1, ol, RI_35, ixV, xV, iV, eV, oB, hF, hi0]
      refine awpR_loop (α := Nat) (fun i => i ≤ K) (fun i => { n := 101, sl := [(0, .sv (.sl 3 (EL l))), (2, .sv (.int .i64 off)), (9, .sv (.int .i64 last)), (11, .lptr 11 0), (13, .sv (.int .i64 i))], bx := [(11, [.sv (.int .i64 f1), .sv (.int .i64 f2), .sv (.int .i64 f3)])], hp := fun _ => none })
        (fun i => K - i) i0 hi1 (by simp) ?_
      intro i hi
      have j1 : (i : Int) ≤ last := by omega
      have j2 : i < l.length := by omega
      have j3 : (i : Int) < l.length := by omega
      have hg := EL_get l j2
      have hw : IntKind.i64.wrap ((i : Int) + 1) = ((i + 1 : Nat) : Int) := by rw [IntKind.wrap_i64]; omega
      have hK : i = K → (l.getD i (0, 0, 0)).1 = f1 ∧ (l.getD i (0, 0, 0)).2.2 = f3 ∧ (l.getD i (0, 0, 0)).1 ≤ off := fun e => by subst e; exact ⟨g5, g6, g7⟩
      generalize l.getD i (0, 0, 0) = s at hg hK
      obtain ⟨s1, s2, s3⟩ := s
      simp only at hK
      have fin : ¬ (s1 = f1 ∧ s3 = f3 ∧ s1 ≤ off) → ∃ a', a' ≤ K ∧ K - a' < K - i ∧ (i : Int) + 1 = a' := fun q => by
        have : i ≠ K := fun e => q (hK e)
        exact ⟨i + 1, by omega, by omega, by omega⟩
      by_cases q1 : s1 = f1
      · by_cases q2 : s3 = f3
        · by_cases q3 : s1 ≤ off
          · simp [j1, j3, hg, eV, iV, hw, q1, q2, RI_26]
            exact fun h => by omega
          · have := fin (fun q => q3 q.2.2)
            have q3' : ¬ f1 ≤ off := by rw [← q1]; exact q3
            have q4' : off < f1 := by omega
            simp [j1, j3, hg, eV, iV, hw, q1, q2, q3', q4']
            exact this
        · have := fin (fun q => q2 q.2.1)
          simp [j1, j3, hg, eV, iV, hw, q1, q2]
          exact this
      · have := fin (fun q => q1 q.1)
        simp [j1, j3, hg, eV, iV, hw, q1]
        exact this
end Go.Proofs.Ytomlhaekhammkaa
