import Derived.Test.YtflcdbfcipkhkaaMDsC
import Derived.Test.YtflcdbfcipkhkaaMDkE
import Derived.Test.YtflcdbfcipkhkaaMDsF
import Derived.Test.YtflcdbfcipkhkaaMDbL

set_option linter.unusedVariables false
set_option linter.unusedSimpArgs false

/- Segment: awake. -/

set_option linter.unusedSimpArgs false
set_option linter.unusedVariables false
set_option maxHeartbeats 8000000
set_option maxRecDepth 100000
namespace Go.Proofs.Ytflcdbfcipkhkaa
open Go.Av

theorem wb1ok : wb1.ok := (wok2.2 wb1 (by simp [ws2])).1
theorem wb2ok : wb2.ok := (wok2.2 wb2 (by simp [ws2])).1
theorem bat0ok : bat0.ok := ⟨by unfold I64; decide, by unfold I64; decide, by unfold I64; decide, by unfold I64; decide, by unfold I64; decide⟩
theorem sawake : Pure Try.prog 48 [] (.sv (.bool true)) := by
  have e66a : RGo.p 66 [.agg [.int .i64 0, .nils], .agg [.int .i64 5, .int .i64 2, .int .i64 0, .int .i64 0, .int .i64 0, .sl 6 [.agg [.int .i64 0, .int .i64 3, .bool true, .str (ByteArray.mk #[107]), .bool false, .str (ByteArray.mk #[])]]]] = some (ws0.ls.length < 1000 ∧ wb1.ok, .tup [.sv (putS ws0 wb1).1.sv, .sv (.int .i64 (putS ws0 wb1).2)]) := rowN_eq eSB_inj _ (ws0, wb1) rfl
  have e66b : RGo.p 66 [ssv ws1, .agg [.int .i64 9, .int .i64 1, .int .i64 0, .int .i64 0, .int .i64 0, .nils]] = some (ws1.ls.length < 1000 ∧ wb2.ok, .tup [.sv (putS ws1 wb2).1.sv, .sv (.int .i64 (putS ws1 wb2).2)]) := rowN_eq eSB_inj _ (ws1, wb2) rfl
  have e66c : RGo.p 66 [ssv ws2, .agg [.int .i64 9, .int .i64 1, .int .i64 0, .int .i64 0, .int .i64 0, .nils]] = some (ws2.ls.length < 1000 ∧ wb2.ok, .tup [.sv (putS ws2 wb2).1.sv, .sv (.int .i64 (putS ws2 wb2).2)]) := rowN_eq eSB_inj _ (ws2, wb2) rfl
  have e50 : RGo.p 50 [ssv ws2, .int .i64 7, .int .i64 1] = some (okB ws2.ls, .own 6 (BL (fetL 7 1 ws2.ls []))) := row_eq eSII_inj _ (ws2, 7, 1)
  have e52 : RGo.p 52 [ssv ws2, .int .i64 3] = some (okB ws2.ls, .tup [.sv (.int .i64 (tmS 3 ws2.ls).1), .sv (.bool (tmS 3 ws2.ls).2)]) := row_eq eSI_inj _ (ws2, 3)
  have e54 : RGo.p 54 [ssv ws2] = some (okB ws2.ls ∧ keyOK ws2.ls, .sv (.sl 1 (TL (keyS ws2.ls [])))) := row_eq eS_inj _ ws2
  have e56 : RGo.p 56 [ssv ws2] = some (okB ws2.ls, .sv (.int .i64 (nwL (-1) ws2.ls))) := row_eq eS_inj _ ws2
  have e58 : RGo.p 58 [ssv ws2] = some (okB ws2.ls, .sv (.int .i64 (blkS ws2.ls))) := row_eq eS_inj _ ws2
  have e60 : RGo.p 60 [.agg [.int .i64 0, .int .i64 0, .int .i64 0, .int .i64 0, .int .i64 0, .nils]] = some (bat0.ok, .sv (.int .i64 (needB bat0))) := rowN_eq eB_inj _ bat0 rfl
  have e62 : RGo.p 62 [ssv ws2, .int .i64 2] = some (okB ws2.ls, .sv (ixV (buildX 2 (entL 0 ws2.ls)))) := row_eq eSI_inj _ (ws2, 2)
  have e68 : RGo.p 68 [ssv ws2] = some (ws2.ls.length ≤ 1000, .sv (.int .i64 (segN ws2))) := row_eq eS_inj _ ws2
  have e65 : RGo.p 65 [ssv ws2] = some (okB ws2.ls, .sv (.int .i64 (segE ws2))) := row_eq eS_inj _ ws2
  have e109a : RGo.p 109 [ssv ws2, ssv ws2] = some (ws2.ls.length < 4611686018427387904 ∧ smallB ws2.ls, .sv (.bool (decide (ws2.ba = ws2.ba) && decide (ws2.ls = ws2.ls)))) := row_eq eSS_inj _ (ws2, ws2)
  have e109b : RGo.p 109 [ssv ws1, ssv ws2] = some (ws1.ls.length < 4611686018427387904 ∧ smallB ws1.ls, .sv (.bool (decide (ws1.ba = ws2.ba) && decide (ws1.ls = ws2.ls)))) := row_eq eSS_inj _ (ws1, ws2)
  rw [wput1] at e66a
  rw [wput2] at e66b
  rw [wput3, show putS ws2 wb2 = (⟨0, []⟩, 16) by rw [putS, if_pos wb2E, if_pos (by decide)]] at e66c
  rw [wfetch, show BL [wb2] = [.agg [.int .i64 9, .int .i64 1, .int .i64 0, .int .i64 0, .int .i64 0, .sl 6 []]] from rfl] at e50
  rw [wtime] at e52
  rw [wkeys, show TL [⟨#[107]⟩] = [.str (ByteArray.mk #[107])] from rfl] at e54
  rw [wnewest] at e56
  rw [wblk] at e58
  rw [wneed] at e60
  rw [wsparse, show ixV (2, 2, [(5, 3, 0)]) = .agg [.int .i64 2, .int .i64 2, .sl 3 [.agg [.int .i64 5, .int .i64 3, .int .i64 0]]] from rfl] at e62
  rw [wnext] at e68
  rw [wcheck] at e65
  rw [show (decide (ws2.ba = ws2.ba) && decide (ws2.ls = ws2.ls)) = true by simp] at e109a
  rw [show (decide (ws1.ba = ws2.ba) && decide (ws1.ls = ws2.ls)) = false by
    have : ws1.ls ≠ ws2.ls := fun h => by have := congrArg List.length h; simp [ws1, ws2] at this
    simp [this]] at e109b
  have hs1 : ws1.sv = ssv ws1 := rfl
  have hs2 : ws2.sv = ssv ws2 := rfl
  have hs0 : (Seg.mk 0 []).sv = .agg [.int .i64 0, .sl 6 []] := rfl
  simp only [hs1] at e66a
  simp only [hs2] at e66b
  simp only [hs0] at e66c
  have n0 : ws0.ls.length < 1000 := by decide
  have n1 : ws1.ls.length < 1000 := by decide
  have n2 : ws2.ls.length < 1000 := by decide
  have n3 : ws2.ls.length ≤ 1000 := by decide
  have o2 := wok2
  have k2 := wkey2
  have b1 := wb1ok
  have b2 := wb2ok
  have b0 := bat0ok
  have m2 := (okB_small wok2).1
  have s2 := (okB_small wok2).2
  have m1 : ws1.ls.length < 4611686018427387904 := by decide
  have s1 : smallB ws1.ls := fun b hb => by simp [ws1] at hb; subst hb; decide
  have hR := RGo_ok
  have hnf : RGo.nofz = false := rfl
  have hb1 : ws1.ba = 0 := rfl
  have hb2 : ws2.ba = 0 := rfl
  simp only [ssv, hb1, hb2] at *
  generalize RGo = R at *
  generalize hL1 : ws1.ls = L1 at *
  generalize hL2 : ws2.ls = L2 at *
  refine pure_go hR Try.func48 Try.ntmps48 comp48 cres48 (by decide) (by simp) ?_
  simp (maxSteps := 2000000) [ac48, ar48, e66a, e66b, e66c, e50, e52, e54, e56, e58, e60, e62, e68, e65, e109a, e109b, hnf, n0, n1, n2, n3, o2, k2, b1, b2, b0, m1, m2, s1, s2]
end Go.Proofs.Ytflcdbfcipkhkaa

/- Segment: the law Fetches. -/

set_option linter.unusedSimpArgs false
set_option linter.unusedVariables false
set_option maxHeartbeats 8000000
set_option maxRecDepth 100000
namespace Go.Proofs.Ytflcdbfcipkhkaa
open Go.Av

theorem light_ok {l : List Bat} (h : lightA l 20 = true) (ho : ∀ b ∈ l, b.ok) : okB l ∧ keyOK l := by
  unfold lightA at h
  simp only [Bool.and_eq_true, decide_eq_true_eq, List.all_eq_true] at h
  refine ⟨⟨by omega, fun b hb => ⟨ho b hb, ?_⟩⟩, fun b hb r hr => ?_⟩
  · have := h.2 b hb
    unfold lightB at this
    simp only [Bool.and_eq_true, decide_eq_true_eq] at this
    omega
  · have := h.2 b hb
    unfold lightB at this
    simp only [Bool.and_eq_true, decide_eq_true_eq, List.all_eq_true] at this
    have := this.2 r hr
    unfold lightR at this
    simp only [Bool.and_eq_true, decide_eq_true_eq] at this
    omega
theorem light_len20 {l : List Bat} (h : lightA l 20 = true) : l.length ≤ 20 := by
  unfold lightA at h
  simp only [Bool.and_eq_true, decide_eq_true_eq] at h
  omega
theorem fromB_len (b : Bat) (off : Int) : (fromB b off).rs.length ≤ b.rs.length := List.length_filter_le _ _
theorem fetL_len (off most : Int) : ∀ (l acc : List Bat), (fetL off most l acc).length ≤ acc.length + l.length ∧ ∀ (n : Nat), (∀ b ∈ l, b.rs.length ≤ n) → (∀ b ∈ acc, b.rs.length ≤ n) → ∀ b ∈ fetL off most l acc, b.rs.length ≤ n
  | [], acc => ⟨by simp [fetL], fun n _ h => by simpa [fetL] using h⟩
  | b :: l, acc => by
    rw [fetL]
    split
    · exact ⟨by simp, fun n _ h => h⟩
    split
    · obtain ⟨h1, h2⟩ := fetL_len off most l acc
      exact ⟨by simp; omega, fun n a b' => h2 n (fun x hx => a x (by simp [hx])) b'⟩
    · obtain ⟨h1, h2⟩ := fetL_len off most l (acc ++ [fromB b off])
      refine ⟨by simp at h1 ⊢; omega, fun n a b' => h2 n (fun x hx => a x (by simp [hx])) (fun x hx => ?_)⟩
      rcases List.mem_append.1 hx with hx | hx
      · exact b' x hx
      · simp at hx
        subst hx
        exact Nat.le_trans (fromB_len b off) (a b (by simp))
theorem fetL_small {l : List Bat} (h : okB l) (off most : Int) : (fetL off most l []).length < 4611686018427387904 ∧ smallB (fetL off most l []) := by
  obtain ⟨h1, h2⟩ := fetL_len off most l []
  have hl := h.1
  refine ⟨by simp at h1; omega, fun b hb => ?_⟩
  have := h2 1000 (fun b hb => (h.2 b hb).2) (fun b hb => by simp at hb) b hb
  omega
theorem RGo_46 (s : Seg) : RGo.p 46 [ssv s] = some (True, .sv (.bool (lightA s.ls 20))) := row_eq eS_inj _ s
theorem RGo_47 (s : Seg) : RGo.p 47 [ssv s] = some (okB s.ls, .sv (.int .i64 (segE s))) := row_eq eS_inj _ s
theorem RGo_65 (s : Seg) : RGo.p 65 [ssv s] = some (okB s.ls, .sv (.int .i64 (segE s))) := row_eq eS_inj _ s
theorem RGo_48 : RGo.p 48 [] = some (Pure Try.prog 48 [] (.sv (.bool true)), .sv (.bool true)) := row_eq (enc := fun _ : Unit => ([] : List SV)) (fun _ _ _ => rfl) _ ()
theorem RGo_50 (s : Seg) (a b : Int) : RGo.p 50 [ssv s, .int .i64 a, .int .i64 b] = some (okB s.ls, .own 6 (BL (fetL a b s.ls []))) := row_eq eSII_inj _ (s, a, b)
theorem RGo_51 (s : Seg) (a b : Int) : RGo.p 51 [ssv s, .int .i64 a, .int .i64 b] = some (okB s.ls, .own 6 (BL (fetL a b s.ls []))) := row_eq eSII_inj _ (s, a, b)
theorem RGo_49 (a b : List Bat) : RGo.p 49 [.sl 6 (BL a), .sl 6 (BL b)] = some (a.length < 4611686018427387904 ∧ smallB a, .sv (.bool (decide (a = b)))) := row_eq eBL2_inj _ (a, b)
theorem law_sfetches (s : Seg) (off most : Int) (ho : ∀ b ∈ s.ls, b.ok) : Pure Try.prog 9 [s.sv, .int .i64 off, .int .i64 most] (.sv (.bool true)) := by
  have e46 := RGo_46 s
  have e47 := RGo_47 s
  have e48 := RGo_48
  have e50 := RGo_50 s off most
  have e51 := RGo_51 s off most
  have e49 := RGo_49 (fetL off most s.ls []) (fetL off most s.ls [])
  have hR := RGo_ok
  have haw := sawake
  have hlo := @light_ok s.ls
  have hfs := @fetL_small s.ls
  generalize RGo = R at *
  refine pure_go hR Try.func9 Try.ntmps9 comp9 cres9 (by decide) (by simp) ?_
  cases hL : lightA s.ls 20 with
  | false =>
    rw [hL] at e46
    simp [ac9, ar9, Seg.sv, Seg.cells, e46, e47, e48, haw]
  | true =>
    rw [hL] at e46
    obtain ⟨hk, _⟩ := hlo hL ho
    obtain ⟨f1, f2⟩ := hfs hk off most
    rw [show decide (fetL off most s.ls [] = fetL off most s.ls []) = true by simp] at e49
    by_cases hE : segE s = 0
    · rw [hE] at e47
      simp [ac9, ar9, Seg.sv, Seg.cells, e46, e47, e48, haw, hk, e50, e51, e49, f1, f2]
    · simp [ac9, ar9, Seg.sv, Seg.cells, e46, e47, e48, haw, hk, hE]
end Go.Proofs.Ytflcdbfcipkhkaa

/- Segment: the first offset of a time is the least one. -/


set_option linter.unusedSimpArgs false
set_option linter.unusedVariables false
set_option maxHeartbeats 4000000
namespace Go.Proofs.Ytflcdbfcipkhkaa
open Go.Av

theorem chkL_mem {ct : Int} : ∀ {l : List Rec} {last : Int}, chkL ct last l = 0 → ∀ r ∈ l, last < r.dl ∧ r.dl < ct
  | [], last, h, r, hr => by cases hr
  | x :: l, last, h, r, hr => by
    rw [chkL] at h
    split at h
    · rename_i q; exact absurd h q
    split at h
    · cases h
    rename_i q1 q2
    have q3 : last < x.dl ∧ x.dl < ct := by omega
    rcases List.mem_cons.1 hr with rfl | hr
    · exact q3
    · have := chkL_mem h r hr
      exact ⟨by omega, this.2⟩
theorem chkL_tail {ct last : Int} {x : Rec} {l : List Rec} (h : chkL ct last (x :: l) = 0) : chkL ct x.dl l = 0 ∧ last < x.dl ∧ x.dl < ct := by
  have hm := chkL_mem h x (by simp)
  rw [chkL] at h
  split at h
  · rename_i q; exact absurd h q
  split at h
  · cases h
  exact ⟨h, hm⟩
theorem rtB_keep (t ba a : Int) : ∀ (l : List Rec), (∀ r ∈ l, ¬ IntKind.i64.wrap (ba + r.dl) < a) → rtB t ba l (a, true) = (a, true)
  | [], _ => rfl
  | r :: l, h => by
    rw [rtB]
    have : rt1 t ba r (a, true) = (a, true) := by
      unfold rt1
      rw [if_neg]
      rintro ⟨_, q | q⟩
      · cases q
      · exact h r (by simp) q
    rw [this]
    exact rtB_keep t ba a l (fun r hr => h r (by simp [hr]))
theorem rtB_eq (t ba ct b : Int) (h0 : 0 ≤ ba) (h1 : ba + ct ≤ 4611686018427387903) : ∀ (l : List Rec) (last : Int), -1 ≤ last → chkL ct last l = 0 → rtB t ba l (b, false) = match tmB t ba l with
    | some a => (a, true)
    | none => (b, false)
  | [], _, _, _ => rfl
  | r :: l, last, hl, h => by
    obtain ⟨h2, h3, h4⟩ := chkL_tail h
    rw [rtB, tmB]
    have hw : IntKind.i64.wrap (ba + r.dl) = ba + r.dl := by rw [IntKind.wrap_i64]; omega
    by_cases q : t ≤ r.tm
    · rw [if_pos q]
      have : rt1 t ba r (b, false) = (IntKind.i64.wrap (ba + r.dl), true) := by
        unfold rt1
        rw [if_pos ⟨q, .inl rfl⟩]
      rw [this, rtB_keep]
      intro r' hr'
      have := chkL_mem h2 r' hr'
      have hw' : IntKind.i64.wrap (ba + r'.dl) = ba + r'.dl := by rw [IntKind.wrap_i64]; omega
      omega
    · rw [if_neg q]
      have : rt1 t ba r (b, false) = (b, false) := by
        unfold rt1
        rw [if_neg (fun z => q z.1)]
      rw [this]
      exact rtB_eq t ba ct b h0 h1 l r.dl (by omega) h2
theorem tmB_in {t ba ct : Int} (h0 : 0 ≤ ba) (h1 : ba + ct ≤ 4611686018427387903) : ∀ {l : List Rec} {last : Int}, -1 ≤ last → chkL ct last l = 0 → ∀ {a : Int}, tmB t ba l = some a → ba ≤ a ∧ a < ba + ct
  | [], _, _, _, a, h => by cases h
  | r :: l, last, hl, hc, a, h => by
    obtain ⟨h2, h3, h4⟩ := chkL_tail hc
    rw [tmB] at h
    have hw : IntKind.i64.wrap (ba + r.dl) = ba + r.dl := by rw [IntKind.wrap_i64]; omega
    split at h
    · cases h
      omega
    · exact tmB_in h0 h1 (by omega) h2 h
theorem chkS_tail {n : Int} {b : Bat} {l : List Bat} (h : chkS n (b :: l) = 0) : batE b = 0 ∧ n ≤ b.ba ∧ chkS (nxB b) l = 0 := by
  rw [chkS] at h
  split at h
  · rename_i q
    split at h
    · cases h
    · exact ⟨q, by omega, h⟩
  · rename_i q; exact absurd h q
theorem chkS_mem : ∀ {l : List Bat} {n : Int}, chkS n l = 0 → ∀ b ∈ l, batE b = 0 ∧ n ≤ b.ba
  | [], n, _, b, hb => by cases hb
  | x :: l, n, h, b, hb => by
    obtain ⟨h1, h2, h3⟩ := chkS_tail h
    rcases List.mem_cons.1 hb with rfl | hb
    · exact ⟨h1, h2⟩
    · obtain ⟨k1, k2⟩ := chkS_mem h3 b hb
      obtain ⟨k3, k4, k5, k6⟩ := batE_nx h1
      exact ⟨k1, by omega⟩
theorem rtS_keep (t a : Int) : ∀ (l : List Bat) (n : Int), chkS n l = 0 → a < n → rtS t l (a, true) = (a, true)
  | [], _, _, _ => rfl
  | b :: l, n, h, hn => by
    obtain ⟨h1, h2, h3⟩ := chkS_tail h
    obtain ⟨k3, k4, k5, k6⟩ := batE_nx h1
    have hc := batE_chk h1
    rw [rtS, rtB_keep]
    · exact rtS_keep t a l (nxB b) h3 (by omega)
    · intro r hr
      have := chkL_mem hc r hr
      have hw : IntKind.i64.wrap (b.ba + r.dl) = b.ba + r.dl := by rw [IntKind.wrap_i64]; omega
      omega
theorem tmS_eq (t : Int) : ∀ (l : List Bat) (n : Int), chkS n l = 0 → rtS t l (0, false) = tmS t l
  | [], _, _ => rfl
  | b :: l, n, h => by
    obtain ⟨h1, h2, h3⟩ := chkS_tail h
    obtain ⟨k3, k4, k5, k6⟩ := batE_nx h1
    have hc := batE_chk h1
    rw [rtS, tmS, rtB_eq t b.ba b.ct 0 k5 k6 b.rs (-1) (by omega) hc]
    cases q : tmB t b.ba b.rs with
    | none => exact tmS_eq t l (nxB b) h3
    | some a =>
      have := tmB_in k5 k6 (by omega) hc q
      exact rtS_keep t a l (nxB b) h3 (by omega)
theorem segE_chk {s : Seg} (h : segE s = 0) : chkS s.ba s.ls = 0 ∧ 0 ≤ s.ba := by
  unfold segE at h
  split at h
  · cases h
  split at h
  · cases h
  exact ⟨h, by omega⟩
end Go.Proofs.Ytflcdbfcipkhkaa

/- Segment: plain laws for May, All, Times and Few. -/


set_option linter.unusedSimpArgs false
set_option linter.unusedVariables false
set_option maxHeartbeats 4000000
namespace Go.Proofs.Ytflcdbfcipkhkaa
open Go.Av

theorem segN_cons (n : Int) (x : Bat) (l : List Bat) : segN ⟨n, x :: l⟩ = segN ⟨nxB x, l⟩ := by
  unfold segN
  cases l with
  | nil => rfl
  | cons y l =>
    simp only [List.getLast?_cons_cons]
    have : ∀ z : List Bat, ∀ y, ∃ w, (y :: z).getLast? = some w := fun z y => ⟨_, List.getLast?_cons ..⟩
    obtain ⟨w, hw⟩ := this l y
    rw [hw]
theorem segN_snoc (n : Int) (l : List Bat) (b : Bat) : segN ⟨n, l ++ [b]⟩ = nxB b := by
  simp [segN]
theorem chkS_app : ∀ (l : List Bat) (n : Int) (b : Bat), chkS n l = 0 → batE b = 0 → ¬ b.ba < segN ⟨n, l⟩ → chkS n (l ++ [b]) = 0
  | [], n, b, _, hb, hn => by
    have : segN ⟨n, []⟩ = n := rfl
    rw [this] at hn
    simp [chkS, hb, hn]
  | x :: l, n, b, h, hb, hn => by
    obtain ⟨h1, h2, h3⟩ := chkS_tail h
    rw [segN_cons] at hn
    rw [List.cons_append, chkS, if_pos h1, if_neg (by omega)]
    exact chkS_app l (nxB x) b h3 hb hn
theorem chkS_le : ∀ (l : List Bat) (n : Int), chkS n l = 0 → n ≤ segN ⟨n, l⟩ ∧ ∀ b ∈ l, nxB b ≤ segN ⟨n, l⟩
  | [], n, _ => ⟨Int.le_refl _, fun b hb => by cases hb⟩
  | x :: l, n, h => by
    obtain ⟨h1, h2, h3⟩ := chkS_tail h
    obtain ⟨k1, k2⟩ := chkS_le l (nxB x) h3
    obtain ⟨j1, j2, j3, j4⟩ := batE_nx h1
    rw [segN_cons]
    refine ⟨by omega, fun b hb => ?_⟩
    rcases List.mem_cons.1 hb with rfl | hb
    · exact k1
    · exact k2 b hb
theorem chkS_split : ∀ (p : List Bat) (n : Int) (b : Bat) (q : List Bat), chkS n (p ++ b :: q) = 0 → chkS n p = 0 ∧ batE b = 0 ∧ segN ⟨n, p⟩ ≤ b.ba ∧ chkS (nxB b) q = 0
  | [], n, b, q, h => by
    obtain ⟨h1, h2, h3⟩ := chkS_tail h
    exact ⟨rfl, h1, h2, h3⟩
  | x :: p, n, b, q, h => by
    obtain ⟨h1, h2, h3⟩ := chkS_tail h
    obtain ⟨k1, k2, k3, k4⟩ := chkS_split p (nxB x) b q h3
    refine ⟨?_, k2, by rw [segN_cons]; exact k3, k4⟩
    rw [chkS, if_pos h1, if_neg (by omega)]
    exact k1
theorem fromB_all {b : Bat} {off : Int} (h : batE b = 0) (ho : off ≤ b.ba) : fromB b off = b := by
  obtain ⟨j1, j2, j3, j4⟩ := batE_nx h
  have hc := batE_chk h
  unfold fromB fromR
  rw [List.filter_eq_self.2]
  intro r hr
  have := chkL_mem hc r hr
  have hw : IntKind.i64.wrap (b.ba + r.dl) = b.ba + r.dl := by rw [IntKind.wrap_i64]; omega
  unfold atW
  simp only [decide_eq_true_eq]
  omega
theorem fetL_skip (off most : Int) : ∀ (p q acc : List Bat), (∀ x ∈ p, nxB x ≤ off) → ¬ most ≤ acc.length → fetL off most (p ++ q) acc = fetL off most q acc
  | [], q, acc, _, _ => rfl
  | x :: p, q, acc, h, hm => by
    rw [List.cons_append, fetL, if_neg hm, if_pos (h x (by simp))]
    exact fetL_skip off most p q acc (fun y hy => h y (by simp [hy])) hm
theorem fetL_full (off most : Int) (l acc : List Bat) (h : most ≤ acc.length) : fetL off most l acc = acc := by
  cases l with
  | nil => rfl
  | cons b l => rw [fetL, if_pos h]
/-- All that is fetched. -/
def fetA (off : Int) (l : List Bat) : List Bat := (l.filter fun b => decide (off < nxB b)).map fun b => fromB b off
theorem fetA_len (off : Int) (l : List Bat) : (fetA off l).length ≤ l.length := by
  unfold fetA
  rw [List.length_map]
  exact List.length_filter_le _ _
theorem fetL_eq (off : Int) : ∀ (l acc : List Bat) (n : Nat), acc.length ≤ n → fetL off n l acc = acc ++ (fetA off l).take (n - acc.length)
  | [], acc, n, _ => by simp [fetL, fetA]
  | b :: l, acc, n, h => by
    by_cases hm : (n : Int) ≤ acc.length
    · rw [fetL_full _ _ _ _ hm]
      have : n - acc.length = 0 := by omega
      simp [this]
    · rw [fetL, if_neg hm]
      by_cases hn : nxB b ≤ off
      · rw [if_pos hn, fetL_eq off l acc n h]
        have : fetA off (b :: l) = fetA off l := by
          unfold fetA
          rw [List.filter_cons_of_neg (by simp; omega)]
        rw [this]
      · rw [if_neg hn, fetL_eq off l (acc ++ [fromB b off]) n (by simp; omega)]
        have : fetA off (b :: l) = fromB b off :: fetA off l := by
          unfold fetA
          rw [List.filter_cons_of_pos (by simp; omega), List.map_cons]
        rw [this]
        have h2 : n - acc.length = (n - (acc ++ [fromB b off]).length) + 1 := by simp; omega
        rw [h2, List.take_succ_cons]
        simp
theorem fetL_take (off : Int) (l : List Bat) (n : Nat) : fetL off n l [] = (fetA off l).take n := by
  rw [fetL_eq off l [] n (by simp)]
  simp
theorem fetA_none {off : Int} {l : List Bat} (h : ∀ b ∈ l, nxB b ≤ off) : fetA off l = [] := by
  unfold fetA
  rw [List.filter_eq_nil_iff.2 (fun b hb => by have := h b hb; simp; omega)]
  rfl
theorem fetL_none {s : Seg} (h : segE s = 0) (n : Nat) : fetL (segN s) n s.ls [] = [] := by
  rw [fetL_take, fetA_none (chkS_le s.ls s.ba (segE_chk h).1).2]
  simp
theorem fetL_base {s : Seg} (h : segE s = 0) (hl : s.ls.length ≤ 99) : (fetL s.ba 99 s.ls []).length = s.ls.length := by
  have e := fetL_take s.ba s.ls 99
  have e99 : ((99 : Nat) : Int) = 99 := rfl
  rw [e99] at e
  rw [e]
  have : s.ls.filter (fun b => decide (s.ba < nxB b)) = s.ls := by
    rw [List.filter_eq_self]
    intro b hb
    obtain ⟨h1, h2⟩ := chkS_mem (segE_chk h).1 b hb
    obtain ⟨j1, j2, j3, j4⟩ := batE_nx h1
    simp only [decide_eq_true_eq]; omega
  unfold fetA
  rw [this, List.take_of_length_le (by simpa using hl), List.length_map]
theorem fetL_one {s : Seg} (h : segE s = 0) {i : Nat} (hi : i < s.ls.length) : fetL (segN ⟨s.ba, s.ls.take i⟩) 1 s.ls [] = [s.ls.getD i bat0] ∧ segN ⟨s.ba, s.ls.take (i + 1)⟩ = nxB (s.ls.getD i bat0) := by
  obtain ⟨ba, l⟩ := s
  simp only at hi ⊢
  have hc := (segE_chk h).1
  simp only at hc
  have hx : l.getD i bat0 = l[i] := by rw [List.getD_eq_getElem?_getD, List.getElem?_eq_getElem hi]; rfl
  have hs : l = l.take i ++ l[i] :: l.drop (i + 1) := by rw [← List.drop_eq_getElem_cons hi, List.take_append_drop]
  have ht : l.take (i + 1) = l.take i ++ [l[i]] := List.take_succ_eq_append_getElem hi
  rw [hx]
  refine ⟨?_, by rw [ht, segN_snoc]⟩
  have hc2 := hc
  rw [hs] at hc2
  obtain ⟨k1, k2, k3, k4⟩ := chkS_split _ _ _ _ hc2
  obtain ⟨j1, j2, j3, j4⟩ := batE_nx k2
  obtain ⟨m1, m2⟩ := chkS_le _ _ k1
  generalize segN ⟨ba, l.take i⟩ = off at *
  conv => lhs; rw [hs]
  rw [fetL_skip off 1 _ _ [] m2 (by simp), fetL, if_neg (by simp), if_neg (by omega), fromB_all k2 (by omega)]
  exact fetL_full _ _ _ _ (by simp)
theorem segE_put {s : Seg} {b : Bat} (h : segE s = 0) (hb : batE b = 0) (hn : ¬ b.ba < segN s) : segE ⟨s.ba, s.ls ++ [b]⟩ = 0 := by
  have h2 := chkS_app s.ls s.ba b (segE_chk h).1 hb hn
  unfold segE at h ⊢
  simp only at h ⊢
  split at h
  · cases h
  split at h
  · cases h
  rename_i q1 q2
  rw [if_neg q1, if_neg q2]
  exact h2
/-- Is a record of this time at this offset seen? -/
def fb (ok : Bool) (a t ba : Int) (r : Rec) : Bool := ok && (decide (IntKind.i64.wrap (ba + r.dl) = a) && decide (t ≤ r.tm))
def fB (ok : Bool) (a t ba : Int) : Bool → List Rec → Bool
  | f, [] => f
  | f, r :: l => fB ok a t ba (f || fb ok a t ba r) l
def fS (ok : Bool) (a t : Int) : Bool → List Bat → Bool
  | f, [] => f
  | f, b :: l => fS ok a t (fB ok a t b.ba f b.rs) l
theorem fB_drop (ok : Bool) (a t ba : Int) (f : Bool) (l : List Rec) {i : Nat} (h : i < l.length) : fB ok a t ba f (l.drop i) = fB ok a t ba (f || fb ok a t ba (l.getD i rec0)) (l.drop (i + 1)) := by
  rw [List.drop_eq_getElem_cons h, fB, List.getD_eq_getElem?_getD, List.getElem?_eq_getElem h]
  rfl
theorem fS_drop (ok : Bool) (a t : Int) (f : Bool) (l : List Bat) {i : Nat} (h : i < l.length) : fS ok a t f (l.drop i) = fS ok a t (fB ok a t (l.getD i bat0).ba f (l.getD i bat0).rs) (l.drop (i + 1)) := by
  rw [List.drop_eq_getElem_cons h, fS, List.getD_eq_getElem?_getD, List.getElem?_eq_getElem h]
  rfl
theorem fB_true (ok : Bool) (a t ba : Int) : ∀ l : List Rec, fB ok a t ba true l = true
  | [] => rfl
  | r :: l => by rw [fB, Bool.true_or]; exact fB_true ok a t ba l
theorem fS_true (ok : Bool) (a t : Int) : ∀ l : List Bat, fS ok a t true l = true
  | [] => rfl
  | b :: l => by rw [fS, fB_true]; exact fS_true ok a t l
theorem fB_off (a t ba : Int) : ∀ (l : List Rec) (f : Bool), fB false a t ba f l = f
  | [], f => rfl
  | r :: l, f => by rw [fB]; simp [fb, fB_off a t ba l]
theorem fS_off (a t : Int) : ∀ (l : List Bat) (f : Bool), fS false a t f l = f
  | [], f => rfl
  | b :: l, f => by rw [fS, fB_off, fS_off a t l]
theorem fB_hit (t ba : Int) : ∀ (l : List Rec) (f : Bool) (a : Int), tmB t ba l = some a → fB true a t ba f l = true
  | [], _, a, h => by cases h
  | r :: l, f, a, h => by
    rw [tmB] at h
    rw [fB]
    split at h
    · rename_i q
      cases h
      have : fb true (IntKind.i64.wrap (ba + r.dl)) t ba r = true := by simp [fb, q]
      rw [this, Bool.or_true, fB_true]
    · exact fB_hit t ba l _ a h
theorem fS_hit (t : Int) : ∀ (l : List Bat) (f : Bool) (a : Int), tmS t l = (a, true) → fS true a t f l = true
  | [], _, a, h => by simp [tmS] at h
  | b :: l, f, a, h => by
    rw [tmS] at h
    rw [fS]
    split at h
    · rename_i a' q
      simp only [Prod.mk.injEq, and_true] at h
      subst h
      rw [fB_hit t b.ba b.rs f _ q, fS_true]
    · exact fS_hit t l _ a h
theorem fS_ok (t : Int) (l : List Bat) : fS (tmS t l).2 (tmS t l).1 t false l = (tmS t l).2 := by
  cases q : (tmS t l).2 with
  | false => exact fS_off _ t l false
  | true => exact fS_hit t l false _ (Prod.ext rfl q)
theorem tmB_none (t ba : Int) : ∀ (l : List Rec), tmB t ba l = none → ∀ r ∈ l, r.tm < t
  | [], _, r, hr => by cases hr
  | x :: l, h, r, hr => by
    rw [tmB] at h
    split at h
    · cases h
    · rename_i q
      rcases List.mem_cons.1 hr with rfl | hr
      · omega
      · exact tmB_none t ba l h r hr
theorem tmB_le {t ba ct : Int} (h0 : 0 ≤ ba) (h1 : ba + ct ≤ 4611686018427387903) : ∀ (l : List Rec) (last : Int), -1 ≤ last → chkL ct last l = 0 → ∀ a, tmB t ba l = some a → ∀ r ∈ l, t ≤ r.tm → a ≤ IntKind.i64.wrap (ba + r.dl)
  | [], _, _, _, a, h, _, _, _ => by cases h
  | x :: l, last, hl, hc, a, h, r, hr, ht => by
    obtain ⟨h2, h3, h4⟩ := chkL_tail hc
    have hw : IntKind.i64.wrap (ba + x.dl) = ba + x.dl := by rw [IntKind.wrap_i64]; omega
    rw [tmB] at h
    split at h
    · cases h
      rcases List.mem_cons.1 hr with rfl | hr
      · exact Int.le_refl _
      · have := chkL_mem h2 r hr
        have hw' : IntKind.i64.wrap (ba + r.dl) = ba + r.dl := by rw [IntKind.wrap_i64]; omega
        omega
    · rename_i q
      rcases List.mem_cons.1 hr with rfl | hr
      · exact absurd ht q
      · exact tmB_le h0 h1 l x.dl (by omega) h2 a h r hr ht
theorem tmS_first (t : Int) : ∀ (l : List Bat) (n : Int), chkS n l = 0 → ∀ b ∈ l, ∀ r ∈ b.rs, t ≤ r.tm → (tmS t l).2 = true ∧ (tmS t l).1 ≤ IntKind.i64.wrap (b.ba + r.dl)
  | [], _, _, b, hb, _, _, _ => by cases hb
  | x :: l, n, h, b, hb, r, hr, ht => by
    obtain ⟨h1, h2, h3⟩ := chkS_tail h
    obtain ⟨k3, k4, k5, k6⟩ := batE_nx h1
    have hc := batE_chk h1
    rw [tmS]
    cases q : tmB t x.ba x.rs with
    | some a =>
      refine ⟨rfl, ?_⟩
      rcases List.mem_cons.1 hb with rfl | hb
      · exact tmB_le k5 k6 b.rs (-1) (by omega) hc a q r hr ht
      · have ha := tmB_in k5 k6 (by omega) hc q
        obtain ⟨m1, m2⟩ := chkS_mem h3 b hb
        obtain ⟨j3, j4, j5, j6⟩ := batE_nx m1
        have := chkL_mem (batE_chk m1) r hr
        have hw : IntKind.i64.wrap (b.ba + r.dl) = b.ba + r.dl := by rw [IntKind.wrap_i64]; omega
        simp only
        omega
    | none =>
      rcases List.mem_cons.1 hb with rfl | hb
      · have := tmB_none t b.ba b.rs q r hr
        omega
      · exact tmS_first t l (nxB x) h3 b hb r hr ht
theorem newL_ge (t : Int) : ∀ (l : List Rec) (n : Int), t ≤ newL n l ↔ (t ≤ n ∨ ∃ r ∈ l, t ≤ r.tm)
  | [], n => by simp [newL]
  | r :: l, n => by
    rw [newL, newL_ge t l]
    constructor
    · rintro (h | ⟨x, hx, h⟩)
      · split at h
        · exact .inr ⟨r, by simp, h⟩
        · exact .inl h
      · exact .inr ⟨x, by simp [hx], h⟩
    · rintro (h | ⟨x, hx, h⟩)
      · left; split <;> omega
      · rcases List.mem_cons.1 hx with rfl | hx
        · left; split <;> omega
        · exact .inr ⟨x, hx, h⟩
theorem nwL_ge (t : Int) : ∀ (l : List Bat) (n : Int), t ≤ nwL n l ↔ (t ≤ n ∨ ∃ b ∈ l, t ≤ nwB b)
  | [], n => by simp [nwL]
  | r :: l, n => by
    rw [nwL, nwL_ge t l]
    constructor
    · rintro (h | ⟨x, hx, h⟩)
      · split at h
        · exact .inr ⟨r, by simp, h⟩
        · exact .inl h
      · exact .inr ⟨x, by simp [hx], h⟩
    · rintro (h | ⟨x, hx, h⟩)
      · left; split <;> omega
      · rcases List.mem_cons.1 hx with rfl | hx
        · left; split <;> omega
        · exact .inr ⟨x, hx, h⟩
theorem tmB_some (t ba : Int) : ∀ (l : List Rec) (a : Int), tmB t ba l = some a → ∃ r ∈ l, t ≤ r.tm
  | [], a, h => by cases h
  | r :: l, a, h => by
    rw [tmB] at h
    split at h
    · rename_i q; exact ⟨r, by simp, q⟩
    · obtain ⟨x, hx, h⟩ := tmB_some t ba l a h
      exact ⟨x, by simp [hx], h⟩
theorem tmS_iff (t : Int) : ∀ (l : List Bat), (tmS t l).2 = true ↔ ∃ b ∈ l, ∃ r ∈ b.rs, t ≤ r.tm
  | [] => by simp [tmS]
  | b :: l => by
    rw [tmS]
    cases q : tmB t b.ba b.rs with
    | some a =>
      obtain ⟨x, hx, h⟩ := tmB_some t _ _ a q
      exact ⟨fun _ => ⟨b, by simp, x, hx, h⟩, fun _ => rfl⟩
    | none =>
      simp only
      rw [tmS_iff t l]
      constructor
      · rintro ⟨x, hx, r, hr, h⟩; exact ⟨x, by simp [hx], r, hr, h⟩
      · rintro ⟨x, hx, r, hr, h⟩
        rcases List.mem_cons.1 hx with rfl | hx
        · have := tmB_none t _ _ q r hr
          omega
        · exact ⟨x, hx, r, hr, h⟩
theorem tmS_new {t : Int} (ht : 0 ≤ t) (l : List Bat) : (tmS t l).2 = decide (t ≤ nwL (-1) l) := by
  rw [Bool.eq_iff_iff, decide_eq_true_eq, tmS_iff, nwL_ge]
  constructor
  · rintro ⟨b, hb, r, hr, h⟩
    exact .inr ⟨b, hb, (newL_ge t b.rs (-1)).2 (.inr ⟨r, hr, h⟩)⟩
  · rintro (h | ⟨b, hb, h⟩)
    · omega
    · rcases (newL_ge t b.rs (-1)).1 h with h | ⟨r, hr, h⟩
      · omega
      · exact ⟨b, hb, r, hr, h⟩
theorem RGo_64 (b : Bat) : RGo.p 64 [bsv b] = some (True, .sv (.bool (lightB b))) := row_eq eB_inj _ b
theorem RGo_66 (s : Seg) (b : Bat) : RGo.p 66 [ssv s, bsv b] = some (s.ls.length < 1000 ∧ b.ok, .tup [.sv (putS s b).1.sv, .sv (.int .i64 (putS s b).2)]) := rowN_eq eSB_inj _ (s, b) rfl
theorem RGo_67 (b : Bat) : RGo.p 67 [bsv b] = some (b.ok, .sv (.int .i64 (batE b))) := row_eq eB_inj _ b
theorem RGo_68 (s : Seg) : RGo.p 68 [ssv s] = some (s.ls.length ≤ 1000, .sv (.int .i64 (segN s))) := row_eq eS_inj _ s
theorem RGo_69 (a b : Bat) : RGo.p 69 [bsv a, bsv b] = some (a.rs.length < 4611686018427387904, .sv (.bool (batS a b))) := row_eq eBB_inj _ (a, b)
theorem RGo_70 (b : Bat) : RGo.p 70 [bsv b] = some (True, .sv (.int .i64 (nxB b))) := row_eq eB_inj _ b
theorem light_rs {b : Bat} (h : lightB b = true) : b.rs.length ≤ 40 := by
  unfold lightB at h
  simp only [Bool.and_eq_true, decide_eq_true_eq] at h
  exact h.1
end Go.Proofs.Ytflcdbfcipkhkaa

/- Segment: the law Few. -/


set_option linter.unusedSimpArgs false
set_option linter.unusedVariables false
set_option maxHeartbeats 8000000
set_option maxRecDepth 100000
namespace Go.Proofs.Ytflcdbfcipkhkaa
open Go.Av

theorem has_u8 {v : SV} (h : Sh.hasV (.int .u8) v) : ∃ n, v = .int .u8 n ∧ 0 ≤ n ∧ n < 256 := by
  obtain ⟨n, e, w⟩ := (h : (Sh.int .u8).has [v])
  cases e
  exact ⟨n, rfl, wfu8 w⟩
theorem law_sfew (s : Seg) (off m : Int) (hm0 : 0 ≤ m) (hm1 : m < 256) (ho : ∀ b ∈ s.ls, b.ok) : Pure Try.prog 14 [s.sv, .int .i64 off, .int .u8 m] (.sv (.bool true)) := by
  have e46 := RGo_46 s
  have e48 := RGo_48
  have e65 := RGo_65 s
  have hn : ∃ n : Nat, m.tmod 20 = n ∧ n < 20 := ⟨(m % 20).toNat, by rw [Int.tmod_eq_emod_of_nonneg hm0]; omega, by omega⟩
  obtain ⟨n, hn, hn2⟩ := hn
  have e1 := RGo_50 s off n
  have e2 := RGo_50 s off (n + 1)
  have e3 := RGo_50 s off 99
  have e49 := RGo_49 ((fetA off s.ls).take n) ((fetA off s.ls).take n)
  rw [show decide ((fetA off s.ls).take n = (fetA off s.ls).take n) = true by simp] at e49
  rw [fetL_take] at e1
  rw [show fetL off ((n : Int) + 1) s.ls [] = (fetA off s.ls).take (n + 1) from fetL_take off s.ls (n + 1)] at e2
  have e99 := fetL_take off s.ls 99
  rw [show ((99 : Nat) : Int) = 99 from rfl] at e99
  rw [e99] at e3
  have hfs := @fetL_small s.ls
  have hR := RGo_ok
  have haw := sawake
  have hlo := @light_ok s.ls
  have hl20 := @light_len20 s.ls
  have hA := fetA_len off s.ls
  generalize RGo = R at *
  refine pure_go hR Try.func14 Try.ntmps14 comp14 cres14 (by decide) (by simp) ?_
  obtain ⟨ba, l⟩ := s
  simp only at *
  cases hL : lightA l 20 with
  | false =>
    rw [hL] at e46
    simp (maxSteps := 4000000) [ac14, ar14, Seg.sv, Seg.cells, e46, e65, e48, haw]
  | true =>
    rw [hL] at e46
    obtain ⟨hk, hkey⟩ := hlo hL ho
    have hl := hl20 hL
    by_cases hE : segE ⟨ba, l⟩ = 0
    case neg =>
      have hEb : (segE ⟨ba, l⟩ == 0) = false := by simp [hE]
      simp (maxSteps := 4000000) [ac14, ar14, Seg.sv, Seg.cells, e46, e65, e48, haw, hk, bne, hEb]
    rw [hE] at e65
    obtain ⟨f1, f2⟩ := hfs hk off n
    rw [fetL_take] at f1 f2
    have hall : (fetA off l).take 99 = fetA off l := List.take_of_length_le (by omega)
    rw [hall] at e3
    have ht : ((fetA off l).take (n + 1)).take (min n (fetA off l).length) = (fetA off l).take n := by
      rw [List.take_take]
      by_cases q : n ≤ (fetA off l).length
      · congr 1; omega
      · rw [List.take_of_length_le (by omega), List.take_of_length_le (by omega)]
    have hbt := BL_take ((fetA off l).take (n + 1)) (min n (fetA off l).length)
    rw [ht] at hbt
    generalize fetA off l = G at *
    have hw1 : IntKind.u8.wrap (n : Int) = n := by
      have : n < 256 := by omega
      simp [IntKind.wrap, IntKind.bits]; omega
    have hw2 : IntKind.i64.wrap (n : Int) = n := by rw [IntKind.wrap_i64]; omega
    have hw3 : IntKind.i64.wrap ((n : Int) + 1) = (n : Int) + 1 := by rw [IntKind.wrap_i64]; omega
    simp (maxSteps := 4000000) [ac14, ar14, Seg.sv, Seg.cells, e46, e65, e1, e2, e3, e48, e49, haw, hk, hE, hn, hw1, hw2, hw3, f1, f2, hbt]
    exact ⟨fun a b c => ⟨⟨⟨a, b⟩, c⟩, by omega⟩, ⟨⟨by omega, by omega⟩, by omega⟩, fun _ _ _ => ⟨by split <;> omega, by split <;> omega⟩⟩
end Go.Proofs.Ytflcdbfcipkhkaa
