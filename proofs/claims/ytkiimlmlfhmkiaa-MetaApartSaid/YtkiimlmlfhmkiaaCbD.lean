import Derived.Test.YtkiimlmlfhmkiaaMCbB

set_option linter.unusedSimpArgs false
set_option linter.unusedVariables false
set_option maxHeartbeats 2000000
namespace Go.Proofs.Ytkiimlmlfhmkiaa
open Go.Av

/-- What is wrong with records behind a delta. -/
def chkL (ct : Int) : Int → List Rec → Int
  | _, [] => 0
  | last, r :: l => if recE r ≠ 0 then recE r else if r.dl ≤ last ∨ ct ≤ r.dl then 16 else chkL ct r.dl l
def batE (b : Bat) : Int :=
  if batN b ≠ 0 then batN b else if chkL b.ct (-1) b.rs ≠ 0 then chkL b.ct (-1) b.rs else if 8192 < (layB b).length then 5 else 0
theorem chkL_drop (ct last : Int) (l : List Rec) (i : Nat) (h : i < l.length) : chkL ct last (l.drop i) = if recE (l.getD i rec0) ≠ 0 then recE (l.getD i rec0) else if (l.getD i rec0).dl ≤ last ∨ ct ≤ (l.getD i rec0).dl then 16 else chkL ct (l.getD i rec0).dl (l.drop (i + 1)) := by
  rw [List.drop_eq_getElem_cons h]
  simp [chkL, List.getD_eq_getElem?_getD, h]
theorem batN_len {b : Bat} (h : batN b = 0) : (b.rs.length : Int) ≤ 32 := by
  unfold batN at h
  split at h
  · cases h
  split at h
  · cases h
  split at h
  · cases h
  split at h
  · cases h
  omega
theorem layB_le (b : Bat) (hI : b.ok) (hl : b.rs.length ≤ 1000) : (layB b).length ≤ 60 + 1000 * b.rs.length := by
  have h1 := numsB_le (hdL_in hI hl)
  have h2 := recsB_le b.rs
  have h3 : (hdL b).length = 6 := rfl
  simp only [layB, List.length_append]
  omega

def RC : Orc := { p := fun f l => match f, l with
  | 71, [.agg [.int .i64 a, .int .i64 b, .int .i64 c, .int .i64 d, .int .i64 e, .sl 6 xs]] => some (xs = RL (unRL xs) ∧ Bat.ok ⟨a, b, c, d, e, unRL xs⟩ ∧ xs.length ≤ 1000, .own 1 (bs (layB ⟨a, b, c, d, e, unRL xs⟩)))
  | 72, [.agg [.int .i64 a, .int .i64 b, .int .i64 c, .int .i64 d, .int .i64 e, .sl 6 xs]] => some (xs = RL (unRL xs) ∧ Bat.ok ⟨a, b, c, d, e, unRL xs⟩ ∧ xs.length ≤ 1000, .own 1 (bs (layB ⟨a, b, c, d, e, unRL xs⟩)))
  | 73, [.agg [.int .i64 a, .int .i64 b, .int .i64 c, .int .i64 d, .int .i64 e, .sl 6 xs]] => some (xs = RL (unRL xs) ∧ I64 b, .sv (.int .i64 (batN ⟨a, b, c, d, e, unRL xs⟩)))
  | 74, [.agg [.int .i64 dl, .int .i64 tm, .bool kd, .str key, .bool dd, .str val]] => some (True, .sv (.int .i64 (recE ⟨dl, tm, kd, key, dd, val⟩)))
  | 80, [.agg [.int .i64 dl, .int .i64 tm, .bool kd, .str key, .bool dd, .str val]] => some (True, .sv (.int .i64 (recE ⟨dl, tm, kd, key, dd, val⟩)))
  | _, _ => none }
theorem RC_ok : RC.ok Try.prog := by
  refine ⟨fun f l c rv h hc => ?_, fun _ _ _ _ _ _ h => (by cases h), fun _ _ _ _ h => (by cases h), fun _ h => (by cases h), fun _ _ _ _ _ _ h => (by cases h), fun _ _ _ _ _ _ _ h => (by cases h)⟩
  simp only [RC] at h
  split at h <;> cases h
  · rename_i a b c d e xs
    obtain ⟨h1, h2, h3⟩ := hc
    have := lay_bat ⟨a, b, c, d, e, unRL xs⟩ h2 (by simpa [unRL] using h3)
    simp only [Bat.sv, Bat.cells, ← h1] at this
    exact this
  · rename_i a b c d e xs
    obtain ⟨h1, h2, h3⟩ := hc
    have := rlay_bat ⟨a, b, c, d, e, unRL xs⟩ h2 (by simpa [unRL] using h3)
    simp only [Bat.sv, Bat.cells, ← h1] at this
    exact this
  · rename_i a b c d e xs
    obtain ⟨h1, h2⟩ := hc
    have := numbers_pure ⟨a, b, c, d, e, unRL xs⟩ h2
    simp only [Bat.sv, Bat.cells, ← h1] at this
    exact this
  · exact check_pure ⟨_, _, _, _, _, _⟩
  · exact rcheck_pure ⟨_, _, _, _, _, _⟩
theorem RC_71 (b : Bat) : RC.p 71 [.agg [.int .i64 b.ba, .int .i64 b.ct, .int .i64 b.pr, .int .i64 b.ep, .int .i64 b.sq, .sl 6 (RL b.rs)]] = some (RL b.rs = RL b.rs ∧ b.ok ∧ (RL b.rs).length ≤ 1000, .own 1 (bs (layB b))) := by
  show some (RL b.rs = RL (unRL (RL b.rs)) ∧ Bat.ok ⟨b.ba, b.ct, b.pr, b.ep, b.sq, unRL (RL b.rs)⟩ ∧ (RL b.rs).length ≤ 1000, LV.own 1 (bs (layB ⟨b.ba, b.ct, b.pr, b.ep, b.sq, unRL (RL b.rs)⟩))) = _
  rw [unRL_RL]
theorem RC_72 (b : Bat) : RC.p 72 [.agg [.int .i64 b.ba, .int .i64 b.ct, .int .i64 b.pr, .int .i64 b.ep, .int .i64 b.sq, .sl 6 (RL b.rs)]] = some (RL b.rs = RL b.rs ∧ b.ok ∧ (RL b.rs).length ≤ 1000, .own 1 (bs (layB b))) := by
  show some (RL b.rs = RL (unRL (RL b.rs)) ∧ Bat.ok ⟨b.ba, b.ct, b.pr, b.ep, b.sq, unRL (RL b.rs)⟩ ∧ (RL b.rs).length ≤ 1000, LV.own 1 (bs (layB ⟨b.ba, b.ct, b.pr, b.ep, b.sq, unRL (RL b.rs)⟩))) = _
  rw [unRL_RL]
theorem RC_73 (b : Bat) : RC.p 73 [.agg [.int .i64 b.ba, .int .i64 b.ct, .int .i64 b.pr, .int .i64 b.ep, .int .i64 b.sq, .sl 6 (RL b.rs)]] = some (RL b.rs = RL b.rs ∧ I64 b.ct, .sv (.int .i64 (batN b))) := by
  show some (RL b.rs = RL (unRL (RL b.rs)) ∧ I64 b.ct, LV.sv (.int .i64 (batN ⟨b.ba, b.ct, b.pr, b.ep, b.sq, unRL (RL b.rs)⟩))) = _
  rw [unRL_RL]
theorem RC_74 (r : Rec) : RC.p 74 [.agg [.int .i64 r.dl, .int .i64 r.tm, .bool r.kd, .str r.key, .bool r.dd, .str r.val]] = some (True, .sv (.int .i64 (recE r))) := rfl
theorem RC_80 (r : Rec) : RC.p 80 [.agg [.int .i64 r.dl, .int .i64 r.tm, .bool r.kd, .str r.key, .bool r.dd, .str r.val]] = some (True, .sv (.int .i64 (recE r))) := rfl

theorem check_bat (b : Bat) (hI : b.ok) : Pure Try.prog 33 [b.sv] (.sv (.int .i64 (batE b))) := by
  refine pure_go RC_ok Try.func33 Try.ntmps33 comp33 cres33 (by decide) (by simp) ?_
  have hct := hI.2.1
  by_cases hN : batN b = 0
  case neg => simp [ac33, ar33, Bat.sv, Bat.cells, RC_73, hct, hN, batE]
  have hl := batN_len hN
  have hle : b.rs.length ≤ 1000 := by omega
  have hly := layB_le b hI (by omega)
  simp [ac33, ar33, Bat.sv, Bat.cells, RC_73, hct, hN]
  refine awpR_loop (α := Nat × Int) (fun x => x.1 ≤ b.rs.length ∧ chkL b.ct (-1) b.rs = chkL b.ct x.2 (b.rs.drop x.1)) (fun x => { n := 43, sl := [(1, .lptr 1 0), (4, .sv (.int .i64 x.2)), (14, .sv (.sl 6 (RL b.rs))), (15, .sv (.int .i64 b.rs.length)), (16, .sv (.int .i64 x.1))], bx := [(1, b.cells.map .sv)], hp := fun _ => none })
    (fun x => b.rs.length - x.1) (0, -1) ⟨by omega, rfl⟩ (by simp [Bat.cells]) ?_
  rintro ⟨i, last⟩ ⟨hi, he⟩
  simp only at hi he
  by_cases h : i < b.rs.length
  · have h1 : (i : Int) < b.rs.length := by omega
    have hw : IntKind.i64.wrap ((i : Int) + 1) = ((i + 1 : Nat) : Int) := by rw [IntKind.wrap_i64]; omega
    have hg := RL_get b.rs h
    have hiA : i < (RL b.rs).length := by simpa using h
    have hg2 : (RL b.rs)[i] = (b.rs.getD i rec0).sv := by rw [← hg, List.getElem?_eq_getElem hiA]; rfl
    rw [chkL_drop _ _ _ _ h] at he
    generalize b.rs.getD i rec0 = r at hg hg2 he
    by_cases h2 : recE r = 0
    case neg =>
      rw [if_pos h2] at he
      simp [Bat.cells, h1, hg, hg2, h, Rec.sv, Rec.cells, RC_74, hw, h2, batE, hN, he]
    rw [if_neg (fun q => q h2)] at he
    by_cases h3 : r.dl ≤ last
    · rw [if_pos (.inl h3)] at he
      simp [Bat.cells, h1, hg, hg2, h, Rec.sv, Rec.cells, RC_74, hw, h2, batE, hN, he, h3]
    by_cases h4 : b.ct ≤ r.dl
    · rw [if_pos (.inr h4)] at he
      simp [Bat.cells, h1, hg, hg2, h, Rec.sv, Rec.cells, RC_74, hw, h2, batE, hN, he, h3, h4]
    rw [if_neg (by omega)] at he
    simp [Bat.cells, h1, hg, hg2, h, Rec.sv, Rec.cells, RC_74, hw, h2, batE, hN, h3, h4]
    exact ⟨i + 1, r.dl, ⟨by omega, he⟩, by omega, rfl, by omega⟩
  · have h1 : ¬ (i : Int) < b.rs.length := by omega
    obtain rfl : i = b.rs.length := by omega
    rw [List.drop_length] at he
    simp only [chkL] at he
    by_cases h5 : 8192 < (layB b).length
    · have h6 : (8192 : Int) < (layB b).length := by omega
      simp [Bat.cells, h1, he, hN, batE, RC_71, hI, hle, h5, h6]
    · have h6 : ¬ (8192 : Int) < (layB b).length := by omega
      simp [Bat.cells, h1, he, hN, batE, RC_71, hI, hle, h5, h6]
theorem rcheck_bat (b : Bat) (hI : b.ok) : Pure Try.prog 38 [b.sv] (.sv (.int .i64 (batE b))) := by
  refine pure_go RC_ok Try.func38 Try.ntmps38 comp38 cres38 (by decide) (by simp) ?_
  by_cases hN : batN b = 0
  case neg =>
    have hE : batE b = batN b := if_pos hN
    rw [hE]
    obtain ⟨ba, ct, pr, ep, sq, rs⟩ := b
    have hct : I64 ct := hI.2.1
    unfold batN at hN ⊢
    simp only at hN ⊢
    by_cases h1 : ct < 1
    · simp [ac38, ar38, Bat.sv, Bat.cells, h1]
    by_cases h2 : 32 < ct
    · simp [ac38, ar38, Bat.sv, Bat.cells, h1, h2]
    have hw : IntKind.i64.wrap (4611686018427387903 - ct) = 4611686018427387903 - ct := by rw [IntKind.wrap_i64]; omega
    by_cases h3 : ba < 0
    · simp [ac38, ar38, Bat.sv, Bat.cells, h1, h2, h3]
    by_cases h4 : 4611686018427387903 - ct < ba
    · simp [ac38, ar38, Bat.sv, Bat.cells, h1, h2, h3, hw, h4]
    by_cases h5 : pr < 0
    · simp [ac38, ar38, Bat.sv, Bat.cells, h1, h2, h3, hw, h4, h5]
    by_cases h6 : 1099511627776 < pr
    · simp [ac38, ar38, Bat.sv, Bat.cells, h1, h2, h3, hw, h4, h5, h6]
    by_cases h7 : ep < 0
    · simp [ac38, ar38, Bat.sv, Bat.cells, h1, h2, h3, hw, h4, h5, h6, h7]
    by_cases h8 : 32767 < ep
    · simp [ac38, ar38, Bat.sv, Bat.cells, h1, h2, h3, hw, h4, h5, h6, h7, h8]
    by_cases h9 : sq < 0
    · simp [ac38, ar38, Bat.sv, Bat.cells, h1, h2, h3, hw, h4, h5, h6, h7, h8, h9]
    by_cases h10 : 2147483647 < sq
    · simp [ac38, ar38, Bat.sv, Bat.cells, h1, h2, h3, hw, h4, h5, h6, h7, h8, h9, h10]
    rw [if_neg (by omega), if_neg (by omega)] at hN ⊢
    by_cases h11 : pr = 0
    · by_cases h12 : ep = 0
      · by_cases h13 : sq = 0
        · rw [if_neg (by omega)] at hN ⊢
          have h14 : ct < rs.length := Classical.byContradiction fun q => hN (if_neg q)
          simp [ac38, ar38, Bat.sv, Bat.cells, h1, h2, h3, hw, h4, h5, h6, h7, h8, h9, h10, h11, h12, h13, h14]
        · simp [ac38, ar38, Bat.sv, Bat.cells, h1, h2, h3, hw, h4, h5, h6, h7, h8, h9, h10, h11, h12, h13]
      · simp [ac38, ar38, Bat.sv, Bat.cells, h1, h2, h3, hw, h4, h5, h6, h7, h8, h9, h10, h11, h12]
    · rw [if_neg (by omega)] at hN ⊢
      have h14 : ct < rs.length := Classical.byContradiction fun q => hN (if_neg q)
      simp [ac38, ar38, Bat.sv, Bat.cells, h1, h2, h3, hw, h4, h5, h6, h7, h8, h9, h10, h11, h14]
  have hl := batN_len hN
  have hle : b.rs.length ≤ 1000 := by omega
  have hly := layB_le b hI (by omega)
  have q := hN
  unfold batN at q
  have q1 : ¬ (b.ct < 1 ∨ 32 < b.ct ∨ b.ba < 0 ∨ 4611686018427387903 - b.ct < b.ba) := fun z => by rw [if_pos z] at q; cases q
  rw [if_neg q1] at q
  have q2 : ¬ (b.pr < 0 ∨ 1099511627776 < b.pr ∨ b.ep < 0 ∨ 32767 < b.ep ∨ b.sq < 0 ∨ 2147483647 < b.sq) := fun z => by rw [if_pos z] at q; cases q
  rw [if_neg q2] at q
  have q3 : ¬ (b.pr = 0 ∧ (b.ep ≠ 0 ∨ b.sq ≠ 0)) := fun z => by rw [if_pos z] at q; cases q
  rw [if_neg q3] at q
  have q4 : ¬ (b.ct < b.rs.length) := fun z => by rw [if_pos z] at q; cases q
  clear q
  have h1 : ¬ b.ct < 1 := by omega
  have h2 : ¬ 32 < b.ct := by omega
  have h3 : ¬ b.ba < 0 := by omega
  have h4 : ¬ 4611686018427387903 - b.ct < b.ba := by omega
  have h5 : ¬ b.pr < 0 := by omega
  have h6 : ¬ 1099511627776 < b.pr := by omega
  have h7 : ¬ b.ep < 0 := by omega
  have h8 : ¬ 32767 < b.ep := by omega
  have h9 : ¬ b.sq < 0 := by omega
  have h10 : ¬ 2147483647 < b.sq := by omega
  have hw0 : IntKind.i64.wrap (4611686018427387903 - b.ct) = 4611686018427387903 - b.ct := by rw [IntKind.wrap_i64]; omega
  by_cases h11 : b.pr = 0
  · have h12 : b.ep = 0 := Classical.byContradiction fun z => q3 ⟨h11, .inl z⟩
    have h13 : b.sq = 0 := Classical.byContradiction fun z => q3 ⟨h11, .inr z⟩
    simp [ac38, ar38, Bat.sv, Bat.cells, h1, h2, h3, hw0, h4, h5, h6, h7, h8, h9, h10, h11, h12, h13, q4]
    refine awpR_loop (α := Nat × Int) (fun x => x.1 ≤ b.rs.length ∧ chkL b.ct (-1) b.rs = chkL b.ct x.2 (b.rs.drop x.1)) (fun x => { n := 125, sl := [(1, .lptr 1 0), (3, .sv (.int .i64 x.2)), (4, .sv (.int .i64 x.1))], bx := [(1, b.cells.map .sv)], hp := fun _ => none })
      (fun x => b.rs.length - x.1) (0, -1) ⟨by omega, rfl⟩ (by simp [Bat.cells, h11, h12, h13]) ?_
    rintro ⟨i, last⟩ ⟨hi, he⟩
    simp only at hi he
    by_cases h : i < b.rs.length
    · have k1 : (i : Int) < b.rs.length := by omega
      have hw : IntKind.i64.wrap ((i : Int) + 1) = ((i + 1 : Nat) : Int) := by rw [IntKind.wrap_i64]; omega
      have hg := RL_get b.rs h
      have hiA : i < (RL b.rs).length := by simpa using h
      have hg2 : (RL b.rs)[i] = (b.rs.getD i rec0).sv := by rw [← hg, List.getElem?_eq_getElem hiA]; rfl
      rw [chkL_drop _ _ _ _ h] at he
      generalize b.rs.getD i rec0 = r at hg hg2 he
      by_cases k2 : recE r = 0
      case neg =>
        rw [if_pos k2] at he
        simp [Bat.cells, k1, hg, hg2, h, Rec.sv, Rec.cells, RC_80, hw, k2, batE, hN, he]
      rw [if_neg (fun q => q k2)] at he
      by_cases k3 : r.dl ≤ last
      · rw [if_pos (.inl k3)] at he
        simp [Bat.cells, k1, hg, hg2, h, Rec.sv, Rec.cells, RC_80, hw, k2, batE, hN, he, k3]
      by_cases k4 : b.ct ≤ r.dl
      · rw [if_pos (.inr k4)] at he
        simp [Bat.cells, k1, hg, hg2, h, Rec.sv, Rec.cells, RC_80, hw, k2, batE, hN, he, k3, k4]
      rw [if_neg (by omega)] at he
      simp [Bat.cells, k1, hg, hg2, h, Rec.sv, Rec.cells, RC_80, hw, k2, batE, hN, k3, k4, WkRs_refl]
      exact ⟨i + 1, r.dl, ⟨by omega, he⟩, by omega, rfl, by omega⟩
    · have k1 : ¬ (i : Int) < b.rs.length := by omega
      obtain rfl : i = b.rs.length := by omega
      rw [List.drop_length] at he
      simp only [chkL] at he
      by_cases k5 : 8192 < (layB b).length
      · have k6 : (8192 : Int) < (layB b).length := by omega
        simp [Bat.cells, k1, he, hN, batE, RC_72, hI, hle, k5, k6]
      · have k6 : ¬ (8192 : Int) < (layB b).length := by omega
        simp [Bat.cells, k1, he, hN, batE, RC_72, hI, hle, k5, k6]
  · simp [ac38, ar38, Bat.sv, Bat.cells, h1, h2, h3, hw0, h4, h5, h6, h7, h8, h9, h10, h11, q4]
    refine awpR_loop (α := Nat × Int) (fun x => x.1 ≤ b.rs.length ∧ chkL b.ct (-1) b.rs = chkL b.ct x.2 (b.rs.drop x.1)) (fun x => { n := 125, sl := [(1, .lptr 1 0), (3, .sv (.int .i64 x.2)), (4, .sv (.int .i64 x.1))], bx := [(1, b.cells.map .sv)], hp := fun _ => none })
      (fun x => b.rs.length - x.1) (0, -1) ⟨by omega, rfl⟩ (by simp [Bat.cells]) ?_
    rintro ⟨i, last⟩ ⟨hi, he⟩
    simp only at hi he
    by_cases h : i < b.rs.length
    · have k1 : (i : Int) < b.rs.length := by omega
      have hw : IntKind.i64.wrap ((i : Int) + 1) = ((i + 1 : Nat) : Int) := by rw [IntKind.wrap_i64]; omega
      have hg := RL_get b.rs h
      have hiA : i < (RL b.rs).length := by simpa using h
      have hg2 : (RL b.rs)[i] = (b.rs.getD i rec0).sv := by rw [← hg, List.getElem?_eq_getElem hiA]; rfl
      rw [chkL_drop _ _ _ _ h] at he
      generalize b.rs.getD i rec0 = r at hg hg2 he
      by_cases k2 : recE r = 0
      case neg =>
        rw [if_pos k2] at he
        simp [Bat.cells, k1, hg, hg2, h, Rec.sv, Rec.cells, RC_80, hw, k2, batE, hN, he]
      rw [if_neg (fun q => q k2)] at he
      by_cases k3 : r.dl ≤ last
      · rw [if_pos (.inl k3)] at he
        simp [Bat.cells, k1, hg, hg2, h, Rec.sv, Rec.cells, RC_80, hw, k2, batE, hN, he, k3]
      by_cases k4 : b.ct ≤ r.dl
      · rw [if_pos (.inr k4)] at he
        simp [Bat.cells, k1, hg, hg2, h, Rec.sv, Rec.cells, RC_80, hw, k2, batE, hN, he, k3, k4]
      rw [if_neg (by omega)] at he
      simp [Bat.cells, k1, hg, hg2, h, Rec.sv, Rec.cells, RC_80, hw, k2, batE, hN, k3, k4, WkRs_refl]
      exact ⟨i + 1, r.dl, ⟨by omega, he⟩, by omega, rfl, by omega⟩
    · have k1 : ¬ (i : Int) < b.rs.length := by omega
      obtain rfl : i = b.rs.length := by omega
      rw [List.drop_length] at he
      simp only [chkL] at he
      by_cases k5 : 8192 < (layB b).length
      · have k6 : (8192 : Int) < (layB b).length := by omega
        simp [Bat.cells, k1, he, hN, batE, RC_72, hI, hle, k5, k6]
      · have k6 : ¬ (8192 : Int) < (layB b).length := by omega
        simp [Bat.cells, k1, he, hN, batE, RC_72, hI, hle, k5, k6]
end Go.Proofs.Ytkiimlmlfhmkiaa
