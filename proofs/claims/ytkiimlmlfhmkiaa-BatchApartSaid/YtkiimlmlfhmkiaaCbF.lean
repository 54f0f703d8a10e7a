import Derived.Test.YtkiimlmlfhmkiaaCbE

set_option linter.unusedSimpArgs false
set_option linter.unusedVariables false
set_option maxHeartbeats 2000000
namespace Go.Proofs.Ytkiimlmlfhmkiaa
open Go.Av

def RD : Orc := { p := fun f l => match f, l with
  | 33, [.agg [.int .i64 a, .int .i64 b, .int .i64 c, .int .i64 d, .int .i64 e, .sl 6 xs]] => some (xs = RL (unRL xs) ∧ Bat.ok ⟨a, b, c, d, e, unRL xs⟩, .sv (.int .i64 (batE ⟨a, b, c, d, e, unRL xs⟩)))
  | 38, [.agg [.int .i64 a, .int .i64 b, .int .i64 c, .int .i64 d, .int .i64 e, .sl 6 xs]] => some (xs = RL (unRL xs) ∧ Bat.ok ⟨a, b, c, d, e, unRL xs⟩, .sv (.int .i64 (batE ⟨a, b, c, d, e, unRL xs⟩)))
  | f, l => RC.p f l }
theorem RD_ok : RD.ok Try.prog := by
  refine ⟨fun f l c rv h hc => ?_, fun _ _ _ _ _ _ h => (by cases h), fun _ _ _ _ h => (by cases h), fun _ h => (by cases h), fun _ _ _ _ _ _ h => (by cases h)⟩
  simp only [RD] at h
  split at h
  · cases h
    rename_i a b c d e xs
    obtain ⟨h1, h2⟩ := hc
    have := check_bat ⟨a, b, c, d, e, unRL xs⟩ h2
    simp only [Bat.sv, Bat.cells, ← h1] at this
    exact this
  · cases h
    rename_i a b c d e xs
    obtain ⟨h1, h2⟩ := hc
    have := rcheck_bat ⟨a, b, c, d, e, unRL xs⟩ h2
    simp only [Bat.sv, Bat.cells, ← h1] at this
    exact this
  · exact RC_ok.p _ _ _ _ h hc
theorem RD_71 (b : Bat) : RD.p 71 [.agg [.int .i64 b.ba, .int .i64 b.ct, .int .i64 b.pr, .int .i64 b.ep, .int .i64 b.sq, .sl 6 (RL b.rs)]] = some (RL b.rs = RL b.rs ∧ b.ok ∧ (RL b.rs).length ≤ 1000, .own 1 (bs (layB b))) := RC_71 b
theorem RD_72 (b : Bat) : RD.p 72 [.agg [.int .i64 b.ba, .int .i64 b.ct, .int .i64 b.pr, .int .i64 b.ep, .int .i64 b.sq, .sl 6 (RL b.rs)]] = some (RL b.rs = RL b.rs ∧ b.ok ∧ (RL b.rs).length ≤ 1000, .own 1 (bs (layB b))) := RC_72 b
theorem RD_33 (b : Bat) : RD.p 33 [.agg [.int .i64 b.ba, .int .i64 b.ct, .int .i64 b.pr, .int .i64 b.ep, .int .i64 b.sq, .sl 6 (RL b.rs)]] = some (RL b.rs = RL b.rs ∧ b.ok, .sv (.int .i64 (batE b))) := by
  show some (RL b.rs = RL (unRL (RL b.rs)) ∧ Bat.ok ⟨b.ba, b.ct, b.pr, b.ep, b.sq, unRL (RL b.rs)⟩, LV.sv (.int .i64 (batE ⟨b.ba, b.ct, b.pr, b.ep, b.sq, unRL (RL b.rs)⟩))) = _
  rw [unRL_RL]
theorem RD_38 (b : Bat) : RD.p 38 [.agg [.int .i64 b.ba, .int .i64 b.ct, .int .i64 b.pr, .int .i64 b.ep, .int .i64 b.sq, .sl 6 (RL b.rs)]] = some (RL b.rs = RL b.rs ∧ b.ok, .sv (.int .i64 (batE b))) := by
  show some (RL b.rs = RL (unRL (RL b.rs)) ∧ Bat.ok ⟨b.ba, b.ct, b.pr, b.ep, b.sq, unRL (RL b.rs)⟩, LV.sv (.int .i64 (batE ⟨b.ba, b.ct, b.pr, b.ep, b.sq, unRL (RL b.rs)⟩))) = _
  rw [unRL_RL]
theorem batE_len {b : Bat} (h : batE b = 0) : b.rs.length ≤ 32 := by
  have : batN b = 0 := Classical.byContradiction fun q => by rw [batE, if_pos q] at h; exact q h
  have := batN_len this
  omega
theorem batE_lay {b : Bat} (h : batE b = 0) : (layB b).length ≤ 8192 := by
  unfold batE at h
  split at h
  · contradiction
  split at h
  · contradiction
  split at h
  · cases h
  omega
def putB (b : Bat) : List Nat := if batE b = 0 then layB b else []
theorem put_bat (b : Bat) (hI : b.ok) : Pure Try.prog 31 [b.sv] (.tup [.own 1 (bs (putB b)), .sv (.int .i64 (batE b))]) := by
  refine pure_go RD_ok Try.func31 Try.ntmps31 comp31 cres31 (by decide) (by simp) ?_
  by_cases hE : batE b = 0
  · have hl : b.rs.length ≤ 1000 := by have := batE_len hE; omega
    have hly := batE_lay hE
    simp [ac31, ar31, Bat.sv, Bat.cells, RD_33, RD_71, hI, hE, putB, hl]
  · simp [ac31, ar31, Bat.sv, Bat.cells, RD_33, hI, hE, putB, bs]
theorem rput_bat (b : Bat) (hI : b.ok) : Pure Try.prog 32 [b.sv] (.tup [.own 1 (bs (putB b)), .sv (.int .i64 (batE b))]) := by
  refine pure_go RD_ok Try.func32 Try.ntmps32 comp32 cres32 (by decide) (by simp) ?_
  by_cases hE : batE b = 0
  · have hl : b.rs.length ≤ 1000 := by have := batE_len hE; omega
    have hly := batE_lay hE
    simp [ac32, ar32, Bat.sv, Bat.cells, RD_38, RD_72, hI, hE, putB, hl]
  · simp [ac32, ar32, Bat.sv, Bat.cells, RD_38, hI, hE, putB, bs]

/-! ### reading -/
theorem i64_0 : I64 0 := ⟨by decide, by decide⟩
theorem rNum_in (l : List Nat) (e : Int) : I64 (rNum l e).1 := by
  unfold rNum
  split
  · unfold getN
    simp only
    split
    · split
      · exact zag_ge (Nat.mod_lt _ (Nat.succ_pos _))
      · exact i64_0
    · split
      · exact i64_0
      · exact i64_0
  · exact i64_0
theorem recG5_rest (f : Nat) (dl tm : Int) (l : List Nat) (e : Int) : (Bytes l → Bytes (recG5 f dl tm l e).2.2.1) ∧ (recG5 f dl tm l e).2.2.1.length ≤ l.length := by
  have k : ∀ c : Bool, (Bytes l → Bytes (if c = true then rText l e 64 else ([], l, e)).2.1) ∧ (if c = true then rText l e 64 else ([], l, e)).2.1.length ≤ l.length := by
    intro c
    cases c
    · exact ⟨fun h => h, Nat.le_refl _⟩
    · exact ⟨fun h => rText_bytes h _ _, rText_le _ _ _⟩
  unfold recG5
  have k1 := k (decide (f % 2 = 1))
  simp only [decide_eq_true_eq] at k1
  generalize (if f % 2 = 1 then rText l e 64 else ([], l, e)) = x at k1
  obtain ⟨k1, k2⟩ := k1
  have v : ∀ c : Bool, (Bytes x.2.1 → Bytes (if c = true then ([], x.2) else rText x.2.1 x.2.2 512).2.1) ∧ (if c = true then ([], x.2) else rText x.2.1 x.2.2 512).2.1.length ≤ x.2.1.length := by
    intro c
    cases c
    · exact ⟨fun h => rText_bytes h _ _, rText_le _ _ _⟩
    · exact ⟨fun h => h, Nat.le_refl _⟩
  have v1 := v (decide (f / 2 % 2 = 1))
  simp only [decide_eq_true_eq] at v1
  simp only
  generalize (if f / 2 % 2 = 1 then ([], x.2) else rText x.2.1 x.2.2 512) = y at v1
  obtain ⟨v1, v2⟩ := v1
  split
  · split <;> exact ⟨fun h => v1 (k1 h), Nat.le_trans v2 k2⟩
  · exact ⟨fun h => v1 (k1 h), Nat.le_trans v2 k2⟩
theorem recG_bytes {l : List Nat} (hl : Bytes l) (e : Int) : Bytes (recG l e).2.2.1 :=
  (recG5_rest _ _ _ _ _).1 (rNum_bytes (rNum_bytes (rFixed_bytes hl e 1) _) _)
theorem recG_le (l : List Nat) (e : Int) : (recG l e).2.2.1.length ≤ l.length :=
  Nat.le_trans (recG5_rest _ _ _ _ _).2 (Nat.le_trans (rNum_le _ _) (Nat.le_trans (rNum_le _ _) (rFixed_le l e 1)))
end Go.Proofs.Ytkiimlmlfhmkiaa
