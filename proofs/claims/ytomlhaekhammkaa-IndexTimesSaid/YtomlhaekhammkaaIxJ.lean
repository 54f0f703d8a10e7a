import Derived.Test.YtomlhaekhammkaaIxI

set_option linter.unusedSimpArgs false
set_option linter.unusedVariables false
set_option maxHeartbeats 4000000
namespace Go.Proofs.Ytomlhaekhammkaa
open Go.Av

/-- Entries with their places. -/
def placed : Nat → List Ent → List Ent
  | _, [] => []
  | i, e :: r => (e.1, e.2.1, (i : Int)) :: placed (i + 1) r
theorem placed_length : ∀ (i : Nat) (l : List Ent), (placed i l).length = l.length
  | _, [] => rfl
  | i, e :: r => by simp [placed, placed_length (i + 1) r]
theorem placed_get : ∀ (i : Nat) (l : List Ent) (j : Nat), j < l.length → (placed i l).getD j (0, 0, 0) = ((l.getD j (0, 0, 0)).1, (l.getD j (0, 0, 0)).2.1, ((i + j : Nat) : Int))
  | i, e :: r, 0, _ => by simp [placed]
  | i, e :: r, j + 1, h => by
    have := placed_get (i + 1) r j (by simpa using h)
    simp only [placed, List.getD_cons_succ]
    rw [this, show i + 1 + j = i + (j + 1) by omega]
theorem placed_take : ∀ (i : Nat) (l : List Ent) (j : Nat), (placed i l).take j = placed i (l.take j)
  | _, [], j => by simp [placed]
  | i, e :: r, 0 => by simp [placed]
  | i, e :: r, j + 1 => by simp [placed, placed_take (i + 1) r j]

theorem times_law {N : Nat} (hN : 1 ≤ N) (l : List Ent) (time : Int) :
    ((byT time (buildX N (placed 0 l)).2.2).2 = false ∧ (l.length = 0 ∨ time ≤ (l.getD 0 (0, 0, 0)).2.1)) ∨
    ((byT time (buildX N (placed 0 l)).2.2).2 = true ∧ ∃ k : Nat, (byT time (buildX N (placed 0 l)).2.2).1.2.2 = ((k * N : Nat) : Int) ∧ k * N < l.length ∧ (∀ j, j ≤ k → (l.getD (j * N) (0, 0, 0)).2.1 < time) ∧ ((k + 1) * N < l.length → time ≤ (l.getD ((k + 1) * N) (0, 0, 0)).2.1)) := by
  have hb := bs_build N hN (placed 0 l)
  generalize (buildX N (placed 0 l)).2.2 = B at hb ⊢
  have hp : ∀ j, j < B.length → j * N < l.length := fun j hj => by have := (hb.len j).1 hj; rwa [placed_length] at this
  have hpt : ∀ j, j < B.length → ((placed 0 l).getD (j * N) (0, 0, 0)).2.1 = (l.getD (j * N) (0, 0, 0)).2.1 := fun j hj => by rw [placed_get 0 l _ (hp j hj)]
  rw [byT_last]
  by_cases hex : ∃ k, k < B.length ∧ (B.getD k (0, 0, 0)).2.1 < time
  · -- the last such
    obtain ⟨k, hk1, hk2, hk3⟩ : ∃ k, k < B.length ∧ (B.getD k (0, 0, 0)).2.1 < time ∧ ∀ j, k < j → j < B.length → ¬ (B.getD j (0, 0, 0)).2.1 < time := by
      have : ∀ d k, k < B.length → B.length - k ≤ d → (B.getD k (0, 0, 0)).2.1 < time → ∃ k, k < B.length ∧ (B.getD k (0, 0, 0)).2.1 < time ∧ ∀ j, k < j → j < B.length → ¬ (B.getD j (0, 0, 0)).2.1 < time := by
        intro d
        induction d with
        | zero => intro k h1 h2; omega
        | succ d ih =>
          intro k h1 h2 h3
          by_cases q : ∃ j, k < j ∧ j < B.length ∧ (B.getD j (0, 0, 0)).2.1 < time
          · obtain ⟨j, q1, q2, q3⟩ := q
            exact ih j q2 (by omega) q3
          · exact ⟨k, h1, h3, fun j j1 j2 j3 => q ⟨j, j1, j2, j3⟩⟩
      obtain ⟨k, h1, h2⟩ := hex
      exact this _ k h1 (Nat.le_refl _) h2
    right
    rw [lastP_some (p := fun e => decide (e.2.1 < time)) hk1 (fun j h1 h2 => decide_eq_false (hk3 j h1 h2)) (decide_eq_true hk2)]
    refine ⟨rfl, k, ?_, hp k hk1, fun j hj => ?_, fun hn => ?_⟩
    · simp only []
      rw [hb.pl k hk1, placed_get 0 l _ (hp k hk1)]
      simp
    · have h1 := hb.tge j (by omega)
      have h2 := hb.rise k j hj hk1
      rw [hpt j (by omega)] at h1
      omega
    · have h1 : k + 1 < B.length := (hb.len _).2 (by rw [placed_length]; exact hn)
      have h2 := hk3 (k + 1) (by omega) h1
      obtain ⟨j, j1, j2⟩ := hb.tex (k + 1) h1
      rw [hpt j (by omega)] at j2
      by_cases e : j = k + 1
      · subst e; omega
      · have h3 := hb.tge j (by omega)
        have h4 := hb.rise k j (by omega) hk1
        rw [hpt j (by omega)] at h3
        omega
  · left
    rw [lastP_none (fun j hj => decide_eq_false (fun q => hex ⟨j, hj, q⟩))]
    refine ⟨rfl, ?_⟩
    by_cases h0 : l.length = 0
    · exact .inl h0
    · right
      have h1 : 0 < B.length := (hb.len 0).2 (by rw [placed_length]; omega)
      obtain ⟨j, j1, j2⟩ := hb.tex 0 h1
      rw [hpt j (by omega)] at j2
      have : j = 0 := by omega
      subst this
      have h2 : ¬ (B.getD 0 (0, 0, 0)).2.1 < time := fun q => hex ⟨0, h1, q⟩
      simp only [Nat.zero_mul] at j2
      omega
theorem times_rise {N : Nat} (hN : 1 ≤ N) (l : List Ent) {i : Nat} (hi : 1 ≤ i) (h : i < (buildX N l).2.2.length) : ((buildX N l).2.2.getD (i - 1) (0, 0, 0)).2.1 ≤ ((buildX N l).2.2.getD i (0, 0, 0)).2.1 :=
  (bs_build N hN l).rise i (i - 1) (by omega) h

theorem times_pure (l : List Ent) (e : Int) (time : Int) (he : 0 ≤ e ∧ e < 256) : Pure Try.prog 10 [.sl 3 (EL l), .int .u8 e, iV time] (.sv (.bool true)) := by
  refine pure_go RI_ok Try.func10 Try.ntmps10 comp10 cres10 (by decide) (by simp) ?_
  by_cases h1 : 60 < (l.length : Int)
  · simp [ac10, ar10, iV, eV, h1, RI_26]
  have k1 : (l.length : Int) ≤ 60 := by omega
  obtain ⟨N, hN, hN1, hN7⟩ : ∃ N : Nat, (if 1 < IntKind.i64.wrap (e.tmod 8) then IntKind.i64.wrap (e.tmod 8) else 1) = (N : Int) ∧ 1 ≤ N ∧ N ≤ 7 := by
    obtain ⟨m, rfl⟩ := Int.eq_ofNat_of_zero_le he.1
    have e1 : ((m : Int)).tmod 8 = ((m % 8 : Nat) : Int) := tmodn m 8
    have e2 : IntKind.i64.wrap ((m % 8 : Nat) : Int) = ((m % 8 : Nat) : Int) := by rw [IntKind.wrap_i64]; omega
    rw [e1, e2]
    by_cases q : 1 < m % 8
    · exact ⟨m % 8, by rw [if_pos (by omega)], by omega, by omega⟩
    · exact ⟨1, by rw [if_neg (by omega)]; rfl, by omega, by omega⟩
  simp [ac10, ar10, iV, eV, h1, k1, hN]
  refine awpR_loop (α := Nat) (fun i => i ≤ l.length) (fun i => { n := 121, sl := [(0, .sv (.sl 3 (EL l))), (2, .sv (.int .i64 time)), (7, .sv (.int .i64 N)), (8, .own 3 (EL (placed 0 (l.take i)))), (9, .sv (.int .i64 i))], bx := [], hp := fun _ => none })
    (fun i => l.length - i) 0 (by omega) (by simp [EL, placed]) ?_
  intro i hi
  by_cases h : i < l.length
  · have h1 : (i : Int) < l.length := by omega
    have hg := EL_get l h
    have es : EL (placed 0 (l.take (i + 1))) = EL (placed 0 (l.take i)) ++ [eV ((l.getD i (0, 0, 0)).1, (l.getD i (0, 0, 0)).2.1, (i : Int))] := by
      have hpl : i < (placed 0 l).length := by rw [placed_length]; exact h
      rw [← placed_take, ← placed_take, EL_take_succ _ hpl, placed_get 0 l i h]
      simp
    have hw : IntKind.i64.wrap ((i : Int) + 1) = ((i + 1 : Nat) : Int) := by rw [IntKind.wrap_i64]; omega
    have hpl2 : (placed 0 (l.take i)).length ≤ 60 := by rw [placed_length]; simp; omega
    generalize l.getD i (0, 0, 0) = s at hg es
    obtain ⟨s1, s2, s3⟩ := s
    simp [h1, hg, eV, iV, hw]
    refine ⟨by omega, i + 1, by omega, by omega, ?_, by omega⟩
    rw [es]; rfl
  · have h1 : ¬ (i : Int) < l.length := by omega
    obtain rfl : i = l.length := by omega
    have hlen2 : (placed 0 l).length = l.length := placed_length 0 l
    have law := times_law hN1 l time
    have hrise := fun i hi h => @times_rise N hN1 (placed 0 l) i hi h
    have hc := (buildX_count N (placed 0 l)).2
    have ol : OkL (EL (placed 0 l)) := (OkL_EL _).2 (by omega)
    have oB : OkL (EL (buildX N (placed 0 l)).2.2) := (OkL_EL _).2 (by omega)
    have h35 := RI_35 N (placed 0 l)
    generalize buildX N (placed 0 l) = X at law hrise hc oB h35
    obtain ⟨x1, x2, B⟩ := X
    simp only at law hrise hc oB
    simp [h1, ol, h35, ixV, xV, iV, eV]
    have hBl : B.length ≤ 60 := by omega
    refine awpR_loop (α := Nat) (fun i => 1 ≤ i ∧ (i ≤ B.length ∨ i = 1)) (fun i => { n := 121, sl := [(0, .sv (.sl 3 (EL l))), (2, .sv (.int .i64 time)), (7, .sv (.int .i64 N)), (11, .lptr 11 0), (12, .sv (.int .i64 i))], bx := [(11, [.sv (.int .i64 x1), .sv (.int .i64 x2), .sv (.sl 3 (EL B))])], hp := fun _ => none })
      (fun i => B.length - i) 1 (by simp) (by simp) ?_
    rintro i ⟨hi1, hi2⟩
    by_cases hb : i < B.length
    · have j1 : (i : Int) < B.length := by omega
      have hb1 : i - 1 < B.length := by omega
      have j2 : ((i - 1 : Nat) : Int) < B.length := by omega
      have hg := EL_get B hb
      have hg2 := EL_get B hb1
      have hw : IntKind.i64.wrap ((i : Int) + 1) = ((i + 1 : Nat) : Int) := by rw [IntKind.wrap_i64]; omega
      have hw2 : IntKind.i64.wrap ((i : Int) - 1) = ((i - 1 : Nat) : Int) := by rw [IntKind.wrap_i64]; omega
      have hle := hrise i hi1 hb
      generalize B.getD i (0, 0, 0) = s at hg hle
      generalize B.getD (i - 1) (0, 0, 0) = t at hg2 hle
      obtain ⟨s1, s2, s3⟩ := s
      obtain ⟨t1, t2, t3⟩ := t
      simp only at hle
      have hle' : ¬ s2 < t2 := by omega
      simp [j1, j2, hg, hg2, eV, iV, hw, hw2, hle, hle']
      exact ⟨i + 1, ⟨by omega, by omega⟩, by omega, by omega⟩
    · have j1 : ¬ (i : Int) < B.length := by omega
      have hT := RI_37 x1 x2 B time
      rcases law with ⟨g1, g2⟩ | ⟨g1, k, g2, g3, g4, g5⟩
      · generalize byT time B = bt at hT g1
        obtain ⟨⟨t1, t2, t3⟩, tb⟩ := bt
        simp only at g1
        subst g1
        by_cases hl0 : l.length = 0
        · have hl0' : l = [] := List.length_eq_zero_iff.1 hl0
          subst hl0'
          simp [j1, hT, oB, eV, iV, RI_26]
        · have g2' : time ≤ (l.getD 0 (0, 0, 0)).2.1 := by rcases g2 with q | q; exact absurd q hl0; exact q
          have hg := EL_get l (i := 0) (by omega)
          have hp0 : (0 : Int) < l.length := by omega
          generalize l.getD 0 (0, 0, 0) = s at hg g2'
          obtain ⟨s1, s2, s3⟩ := s
          simp only at g2'
          simp [j1, hT, oB, eV, iV, RI_26, hl0, hp0, hg, g2']
          omega
      · obtain ⟨M, hM⟩ : ∃ M, k * N = M := ⟨_, rfl⟩
        have hM2 : (k + 1) * N = M + N := by rw [Nat.succ_mul, hM]
        rw [hM] at g2 g3
        rw [hM2] at g5
        generalize byT time B = bt at hT g1 g2
        obtain ⟨⟨t1, t2, t3⟩, tb⟩ := bt
        simp only at g1 g2
        subst g1 g2
        simp [j1, hT, oB, eV, iV]
        refine awpR_loop (α := Nat × Nat) (fun p => p.2 = p.1 * N ∧ p.1 ≤ k + 1) (fun p => { n := 121, sl := [(0, .sv (.sl 3 (EL l))), (2, .sv (.int .i64 time)), (7, .sv (.int .i64 N)), (13, .lptr 13 0), (15, .sv (.int .i64 p.2))], bx := [(13, [.sv (.int .i64 t1), .sv (.int .i64 t2), .sv (.int .i64 M)])], hp := fun _ => none })
          (fun p => k + 1 - p.1) (0, 0) (by simp) (by simp) ?_
        rintro ⟨j, m⟩ ⟨hm, hj⟩
        simp only at hm hj
        by_cases q : j ≤ k
        · have q1 : m ≤ M := by rw [hm, ← hM]; exact Nat.mul_le_mul_right N q
          have q2 : (m : Int) ≤ M := by omega
          have q3 : m < l.length := by omega
          have q4 : (m : Int) < l.length := by omega
          have hg := EL_get l q3
          have ht := g4 j q
          rw [← hm] at ht
          have hw : IntKind.i64.wrap ((m : Int) + N) = (m : Int) + N := by rw [IntKind.wrap_i64]; omega
          generalize l.getD m (0, 0, 0) = s at hg ht
          obtain ⟨s1, s2, s3⟩ := s
          simp only at ht
          have ht' : ¬ time ≤ s2 := by omega
          simp [q2, q4, hg, eV, iV, ht, ht', hw]
          exact ⟨j + 1, m + N, ⟨by rw [Nat.succ_mul, hm], by omega⟩, by omega, by omega⟩
        · have ej : j = k + 1 := by omega
          have em : m = M + N := by rw [hm, ej]; exact hM2
          have q2 : ¬ (m : Int) ≤ M := by omega
          have hw : IntKind.i64.wrap ((M : Int) + N) = ((M + N : Nat) : Int) := by rw [IntKind.wrap_i64]; omega
          by_cases hn : M + N < l.length
          · have hn1 : ((M + N : Nat) : Int) < l.length := by omega
            have hn2 : ¬ (l.length : Int) ≤ ((M + N : Nat) : Int) := by omega
            have hg := EL_get l hn
            have ht := g5 hn
            generalize l.getD (M + N) (0, 0, 0) = s at hg ht
            obtain ⟨s1, s2, s3⟩ := s
            simp only at ht
            generalize M + N = Z at hw hn1 hn2 hg
            simp [q2, hw, hn1, hn2, hg, eV, iV, ht, RI_26]
          · have hn2 : (l.length : Int) ≤ ((M + N : Nat) : Int) := by omega
            have hne : (EL l)[M + N]?.getD .undef = .undef := by
              rw [List.getElem?_eq_none (by simp; omega)]; rfl
            generalize M + N = Z at hw hn2 hne
            simp [q2, hw, hn2, hne, RI_26]
end Go.Proofs.Ytomlhaekhammkaa
