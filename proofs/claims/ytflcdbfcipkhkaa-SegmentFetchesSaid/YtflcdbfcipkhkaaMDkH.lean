import Derived.Test.YtflcdbfcipkhkaaMDsC

set_option linter.unusedVariables false
set_option linter.unusedSimpArgs false

/- Segment: awake. -/

set_option linter.unusedSimpArgs false
set_option linter.unusedVariables false
set_option maxHeartbeats 8000000
set_option maxRecDepth 100000
namespace Go.Proofs.Ytflcdbfcipkhkaa
open Go.Av

theorem wb1ok : wb1.ok := (wok2.2 wb1 (by simp [ws2])).1
theorem wb2ok : wb2.ok := (wok2.2 wb2 (by simp [ws2])).1
theorem bat0ok : bat0.ok := ⟨by unfold I64; decide, by unfold I64; decide, by unfold I64; decide, by unfold I64; decide, by unfold I64; decide⟩
theorem sawake : Pure Try.prog 48 [] (.sv (.bool true)) := by
  have e66a : RGo.p 66 [.agg [.int .i64 0, .nils], .agg [.int .i64 5, .int .i64 2, .int .i64 0, .int .i64 0, .int .i64 0, .sl 6 [.agg [.int .i64 0, .int .i64 3, .bool true, .str (ByteArray.mk #[107]), .bool false, .str (ByteArray.mk #[])]]]] = some (ws0.ls.length < 1000 ∧ wb1.ok, .tup [.sv (putS ws0 wb1).1.sv, .sv (.int .i64 (putS ws0 wb1).2)]) := rowN_eq eSB_inj _ (ws0, wb1) rfl
  have e66b : RGo.p 66 [ssv ws1, .agg [.int .i64 9, .int .i64 1, .int .i64 0, .int .i64 0, .int .i64 0, .nils]] = some (ws1.ls.length < 1000 ∧ wb2.ok, .tup [.sv (putS ws1 wb2).1.sv, .sv (.int .i64 (putS ws1 wb2).2)]) := rowN_eq eSB_inj _ (ws1, wb2) rfl
  have e66c : RGo.p 66 [ssv ws2, .agg [.int .i64 9, .int .i64 1, .int .i64 0, .int .i64 0, .int .i64 0, .nils]] = some (ws2.ls.length < 1000 ∧ wb2.ok, .tup [.sv (putS ws2 wb2).1.sv, .sv (.int .i64 (putS ws2 wb2).2)]) := rowN_eq eSB_inj _ (ws2, wb2) rfl
  have e50 : RGo.p 50 [ssv ws2, .int .i64 7, .int .i64 1] = some (okB ws2.ls, .own 6 (BL (fetL 7 1 ws2.ls []))) := row_eq eSII_inj _ (ws2, 7, 1)
  have e52 : RGo.p 52 [ssv ws2, .int .i64 3] = some (okB ws2.ls, .tup [.sv (.int .i64 (tmS 3 ws2.ls).1), .sv (.bool (tmS 3 ws2.ls).2)]) := row_eq eSI_inj _ (ws2, 3)
  have e54 : RGo.p 54 [ssv ws2] = some (okB ws2.ls ∧ keyOK ws2.ls, .sv (.sl 1 (TL (keyS ws2.ls [])))) := row_eq eS_inj _ ws2
  have e56 : RGo.p 56 [ssv ws2] = some (okB ws2.ls, .sv (.int .i64 (nwL (-1) ws2.ls))) := row_eq eS_inj _ ws2
  have e58 : RGo.p 58 [ssv ws2] = some (okB ws2.ls, .sv (.int .i64 (blkS ws2.ls))) := row_eq eS_inj _ ws2
  have e60 : RGo.p 60 [.agg [.int .i64 0, .int .i64 0, .int .i64 0, .int .i64 0, .int .i64 0, .nils]] = some (bat0.ok, .sv (.int .i64 (needB bat0))) := rowN_eq eB_inj _ bat0 rfl
  have e62 : RGo.p 62 [ssv ws2, .int .i64 2] = some (okB ws2.ls, .sv (ixV (buildX 2 (entL 0 ws2.ls)))) := row_eq eSI_inj _ (ws2, 2)
  have e68 : RGo.p 68 [ssv ws2] = some (ws2.ls.length ≤ 1000, .sv (.int .i64 (segN ws2))) := row_eq eS_inj _ ws2
  have e65 : RGo.p 65 [ssv ws2] = some (okB ws2.ls, .sv (.int .i64 (segE ws2))) := row_eq eS_inj _ ws2
  have e109a : RGo.p 109 [ssv ws2, ssv ws2] = some (ws2.ls.length < 4611686018427387904 ∧ smallB ws2.ls, .sv (.bool (decide (ws2.ba = ws2.ba) && decide (ws2.ls = ws2.ls)))) := row_eq eSS_inj _ (ws2, ws2)
  have e109b : RGo.p 109 [ssv ws1, ssv ws2] = some (ws1.ls.length < 4611686018427387904 ∧ smallB ws1.ls, .sv (.bool (decide (ws1.ba = ws2.ba) && decide (ws1.ls = ws2.ls)))) := row_eq eSS_inj _ (ws1, ws2)
  rw [wput1] at e66a
  rw [wput2] at e66b
  rw [wput3, show putS ws2 wb2 = (⟨0, []⟩, 16) by rw [putS, if_pos wb2E, if_pos (by decide)]] at e66c
  rw [wfetch, show BL [wb2] = [.agg [.int .i64 9, .int .i64 1, .int .i64 0, .int .i64 0, .int .i64 0, .sl 6 []]] from rfl] at e50
  rw [wtime] at e52
  rw [wkeys, show TL [⟨#[107]⟩] = [.str (ByteArray.mk #[107])] from rfl] at e54
  rw [wnewest] at e56
  rw [wblk] at e58
  rw [wneed] at e60
  rw [wsparse, show ixV (2, 2, [(5, 3, 0)]) = .agg [.int .i64 2, .int .i64 2, .sl 3 [.agg [.int .i64 5, .int .i64 3, .int .i64 0]]] from rfl] at e62
  rw [wnext] at e68
  rw [wcheck] at e65
  rw [show (decide (ws2.ba = ws2.ba) && decide (ws2.ls = ws2.ls)) = true by simp] at e109a
  rw [show (decide (ws1.ba = ws2.ba) && decide (ws1.ls = ws2.ls)) = false by
    have : ws1.ls ≠ ws2.ls := fun h => by have := congrArg List.length h; simp [ws1, ws2] at this
    simp [this]] at e109b
  have hs1 : ws1.sv = ssv ws1 := rfl
  have hs2 : ws2.sv = ssv ws2 := rfl
  have hs0 : (Seg.mk 0 []).sv = .agg [.int .i64 0, .sl 6 []] := rfl
  simp only [hs1] at e66a
  simp only [hs2] at e66b
  simp only [hs0] at e66c
  have n0 : ws0.ls.length < 1000 := by decide
  have n1 : ws1.ls.length < 1000 := by decide
  have n2 : ws2.ls.length < 1000 := by decide
  have n3 : ws2.ls.length ≤ 1000 := by decide
  have o2 := wok2
  have k2 := wkey2
  have b1 := wb1ok
  have b2 := wb2ok
  have b0 := bat0ok
  have m2 := (okB_small wok2).1
  have s2 := (okB_small wok2).2
  have m1 : ws1.ls.length < 4611686018427387904 := by decide
  have s1 : smallB ws1.ls := fun b hb => by simp [ws1] at hb; subst hb; decide
  have hR := RGo_ok
  have hnf : RGo.nofz = false := rfl
  have hb1 : ws1.ba = 0 := rfl
  have hb2 : ws2.ba = 0 := rfl
  simp only [ssv, hb1, hb2] at *
  generalize RGo = R at *
  generalize hL1 : ws1.ls = L1 at *
  generalize hL2 : ws2.ls = L2 at *
  refine pure_go hR Try.func48 Try.ntmps48 comp48 cres48 (by decide) (by simp) ?_
  simp (maxSteps := 2000000) [ac48, ar48, e66a, e66b, e66c, e50, e52, e54, e56, e58, e60, e62, e68, e65, e109a, e109b, hnf, n0, n1, n2, n3, o2, k2, b1, b2, b0, m1, m2, s1, s2]
end Go.Proofs.Ytflcdbfcipkhkaa

/- Segment: the law Fetches. -/

set_option linter.unusedSimpArgs false
set_option linter.unusedVariables false
set_option maxHeartbeats 8000000
set_option maxRecDepth 100000
namespace Go.Proofs.Ytflcdbfcipkhkaa
open Go.Av

theorem light_ok {l : List Bat} (h : lightA l 20 = true) (ho : ∀ b ∈ l, b.ok) : okB l ∧ keyOK l := by
  unfold lightA at h
  simp only [Bool.and_eq_true, decide_eq_true_eq, List.all_eq_true] at h
  refine ⟨⟨by omega, fun b hb => ⟨ho b hb, ?_⟩⟩, fun b hb r hr => ?_⟩
  · have := h.2 b hb
    unfold lightB at this
    simp only [Bool.and_eq_true, decide_eq_true_eq] at this
    omega
  · have := h.2 b hb
    unfold lightB at this
    simp only [Bool.and_eq_true, decide_eq_true_eq, List.all_eq_true] at this
    have := this.2 r hr
    unfold lightR at this
    simp only [Bool.and_eq_true, decide_eq_true_eq] at this
    omega
theorem light_len20 {l : List Bat} (h : lightA l 20 = true) : l.length ≤ 20 := by
  unfold lightA at h
  simp only [Bool.and_eq_true, decide_eq_true_eq] at h
  omega
theorem fromB_len (b : Bat) (off : Int) : (fromB b off).rs.length ≤ b.rs.length := List.length_filter_le _ _
theorem fetL_len (off most : Int) : ∀ (l acc : List Bat), (fetL off most l acc).length ≤ acc.length + l.length ∧ ∀ (n : Nat), (∀ b ∈ l, b.rs.length ≤ n) → (∀ b ∈ acc, b.rs.length ≤ n) → ∀ b ∈ fetL off most l acc, b.rs.length ≤ n
  | [], acc => ⟨by simp [fetL], fun n _ h => by simpa [fetL] using h⟩
  | b :: l, acc => by
    rw [fetL]
    split
    · exact ⟨by simp, fun n _ h => h⟩
    split
    · obtain ⟨h1, h2⟩ := fetL_len off most l acc
      exact ⟨by simp; omega, fun n a b' => h2 n (fun x hx => a x (by simp [hx])) b'⟩
    · obtain ⟨h1, h2⟩ := fetL_len off most l (acc ++ [fromB b off])
      refine ⟨by simp at h1 ⊢; omega, fun n a b' => h2 n (fun x hx => a x (by simp [hx])) (fun x hx => ?_)⟩
      rcases List.mem_append.1 hx with hx | hx
      · exact b' x hx
      · simp at hx
        subst hx
        exact Nat.le_trans (fromB_len b off) (a b (by simp))
theorem fetL_small {l : List Bat} (h : okB l) (off most : Int) : (fetL off most l []).length < 4611686018427387904 ∧ smallB (fetL off most l []) := by
  obtain ⟨h1, h2⟩ := fetL_len off most l []
  have hl := h.1
  refine ⟨by simp at h1; omega, fun b hb => ?_⟩
  have := h2 1000 (fun b hb => (h.2 b hb).2) (fun b hb => by simp at hb) b hb
  omega
theorem RGo_46 (s : Seg) : RGo.p 46 [ssv s] = some (True, .sv (.bool (lightA s.ls 20))) := row_eq eS_inj _ s
theorem RGo_47 (s : Seg) : RGo.p 47 [ssv s] = some (okB s.ls, .sv (.int .i64 (segE s))) := row_eq eS_inj _ s
theorem RGo_65 (s : Seg) : RGo.p 65 [ssv s] = some (okB s.ls, .sv (.int .i64 (segE s))) := row_eq eS_inj _ s
theorem RGo_48 : RGo.p 48 [] = some (Pure Try.prog 48 [] (.sv (.bool true)), .sv (.bool true)) := row_eq (enc := fun _ : Unit => ([] : List SV)) (fun _ _ _ => rfl) _ ()
theorem RGo_50 (s : Seg) (a b : Int) : RGo.p 50 [ssv s, .int .i64 a, .int .i64 b] = some (okB s.ls, .own 6 (BL (fetL a b s.ls []))) := row_eq eSII_inj _ (s, a, b)
theorem RGo_51 (s : Seg) (a b : Int) : RGo.p 51 [ssv s, .int .i64 a, .int .i64 b] = some (okB s.ls, .own 6 (BL (fetL a b s.ls []))) := row_eq eSII_inj _ (s, a, b)
theorem RGo_49 (a b : List Bat) : RGo.p 49 [.sl 6 (BL a), .sl 6 (BL b)] = some (a.length < 4611686018427387904 ∧ smallB a, .sv (.bool (decide (a = b)))) := row_eq eBL2_inj _ (a, b)
theorem law_sfetches (s : Seg) (off most : Int) (ho : ∀ b ∈ s.ls, b.ok) : Pure Try.prog 9 [s.sv, .int .i64 off, .int .i64 most] (.sv (.bool true)) := by
  have e46 := RGo_46 s
  have e47 := RGo_47 s
  have e48 := RGo_48
  have e50 := RGo_50 s off most
  have e51 := RGo_51 s off most
  have e49 := RGo_49 (fetL off most s.ls []) (fetL off most s.ls [])
  have hR := RGo_ok
  have haw := sawake
  have hlo := @light_ok s.ls
  have hfs := @fetL_small s.ls
  generalize RGo = R at *
  refine pure_go hR Try.func9 Try.ntmps9 comp9 cres9 (by decide) (by simp) ?_
  cases hL : lightA s.ls 20 with
  | false =>
    rw [hL] at e46
    simp [ac9, ar9, Seg.sv, Seg.cells, e46, e47, e48, haw]
  | true =>
    rw [hL] at e46
    obtain ⟨hk, _⟩ := hlo hL ho
    obtain ⟨f1, f2⟩ := hfs hk off most
    rw [show decide (fetL off most s.ls [] = fetL off most s.ls []) = true by simp] at e49
    by_cases hE : segE s = 0
    · rw [hE] at e47
      simp [ac9, ar9, Seg.sv, Seg.cells, e46, e47, e48, haw, hk, e50, e51, e49, f1, f2]
    · simp [ac9, ar9, Seg.sv, Seg.cells, e46, e47, e48, haw, hk, hE]
end Go.Proofs.Ytflcdbfcipkhkaa
