/- Meta: both readers tell the same; what is laid is read back. -/
import Derived.Test.YtkiimlmlfhmkiaaMCmK
import Derived.Test.YtkiimlmlfhmkiaaMCrD

set_option linter.unusedSimpArgs false
set_option linter.unusedVariables false
set_option maxHeartbeats 4000000
set_option maxRecDepth 10000
namespace Go.Proofs.Ytkiimlmlfhmkiaa
open Go.Av

theorem tk_lz (b : Bool) {n : Int} (h : I64 n) (l : List Nat) : tkN b (lz b n ++ l) 0 = (if b = true then n else 0, l, 0) := by
  cases b with
  | true => simp only [tkN, lz, if_true]; exact rNum_lay h l
  | false => simp [tkN, lz]
theorem tx_lz (b : Bool) (s : ByteArray) (hs : s.size ≤ 32) (l : List Nat) : txN b ((if b = true then textN s else []) ++ l) 0 = (if b = true then bytesNat s else [], l, 0) := by
  cases b with
  | true =>
    simp only [txN, if_true, textN, List.append_assoc]
    exact rText_lay s 32 ⟨by omega, by omega⟩ (by omega) l
  | false => simp [txN]
theorem mget_lay {m : Met} (ho : m.ok) (h : metE m = 0) (t : List Nat) : mget (metL m ++ t) = (m, t, 0) := by
  obtain ⟨o1, o2, o3, o4, o5, o6, o7, o8⟩ := ho
  have hk : ((m.kd.toNat : Nat) : Int) = m.kd := by omega
  have hcI : I64 (if m.co = true then 1 else 0) := by split <;> exact ⟨by omega, by omega⟩
  have hF : rFixed (metL m ++ t) 0 1 = (m.kd.toNat, lz true m.tp ++ (lz (decide (m.kd = 0)) m.pa ++ (lz (decide (m.kd = 0)) (if m.co = true then 1 else 0) ++ (lz (decide (m.kd = 2 ∨ m.kd = 3 ∨ m.kd = 4 ∨ m.kd = 5)) m.ix ++
      (lz (decide (m.kd = 4)) m.cn ++ (lz (decide (m.kd = 2 ∨ m.kd = 3 ∨ m.kd = 4)) m.zo ++ (lz (decide (m.kd = 2 ∨ m.kd = 4 ∨ m.kd = 5)) m.ba ++ ((if decide (m.kd = 0) = true then textN m.nm else []) ++ t))))))), 0) := by
    have e : metL m ++ t = m.kd.toNat :: (lz true m.tp ++ (lz (decide (m.kd = 0)) m.pa ++ (lz (decide (m.kd = 0)) (if m.co = true then 1 else 0) ++ (lz (decide (m.kd = 2 ∨ m.kd = 3 ∨ m.kd = 4 ∨ m.kd = 5)) m.ix ++
      (lz (decide (m.kd = 4)) m.cn ++ (lz (decide (m.kd = 2 ∨ m.kd = 3 ∨ m.kd = 4)) m.zo ++ (lz (decide (m.kd = 2 ∨ m.kd = 4 ∨ m.kd = 5)) m.ba ++ ((if decide (m.kd = 0) = true then textN m.nm else []) ++ t)))))))) := by
      simp only [metL, List.append_assoc, List.singleton_append, List.cons_append, List.nil_append]
    rw [e]
    exact rFixed_1 _ (by omega) _
  unfold mget
  rw [hF]
  simp only [hk, mgetF, flg, tk_lz _ o3, tk_lz _ o5, tk_lz _ hcI, tk_lz _ o4, tk_lz _ o8, tk_lz _ o6, tk_lz _ o7, if_true]
  have htx : txN (decide (m.kd = 0)) ((if decide (m.kd = 0) = true then textN m.nm else []) ++ t) 0 = (if decide (m.kd = 0) = true then bytesNat m.nm else [], t, 0) := by
    by_cases k0 : m.kd = 0
    · exact tx_lz _ _ (metE_name h k0) t
    · simp [txN, k0]
  rw [htx]
  have hst : strg m = false := by
    unfold metE at h
    rw [if_neg (by have := metE_kd h; omega)] at h
    cases q : strg m with
    | false => rfl
    | true => rw [if_pos q] at h; cases h
  have h6 := metE_kd h
  clear htx hF
  obtain ⟨k, tp, ix, nm, pa, co, zo, ba, cn⟩ := m
  simp only at *
  have hs0 : sOf [] = ByteArray.mk #[] := rfl
  have hnn : noN nm = true → nm = ByteArray.mk #[] := fun q => by
    have h1 := eq_of_beq q
    rw [ByteArray.toList_eq, ByteArray.toList_eq] at h1
    cases nm with
    | mk d => simp at h1; rw [h1]
  have : k = 0 ∨ k = 1 ∨ k = 2 ∨ k = 3 ∨ k = 4 ∨ k = 5 ∨ k = 6 := by omega
  rcases this with rfl | rfl | rfl | rfl | rfl | rfl | rfl <;> simp [strg] at hst ⊢ <;> simp_all [sOf_bytesNat]
  cases co <;> rfl
theorem mget_ok {l : List Nat} (hb : Bytes l) : (mget l).1.ok ∧ (mget l).1.kd = ((rFixed l 0 1).1 : Nat) := by
  have hkl := rFixed1_lt l hb 0
  have hb0 := rFixed_bytes hb 0 1
  unfold mget mgetF
  simp only
  generalize flg ((rFixed l 0 1).1 : Nat) = f
  obtain ⟨f1, f2, f3, f4, f5⟩ := f
  generalize rFixed l 0 1 = F at hkl hb0 ⊢
  obtain ⟨k, l0, e0⟩ := F
  simp only at hkl hb0 ⊢
  rcases h1 : tkN true l0 e0 with ⟨n1, l1, e1⟩
  obtain ⟨b1, c1, i1⟩ := tkN_facts h1 hb0
  rcases h2 : tkN f1 l1 e1 with ⟨n2, l2, e2⟩
  obtain ⟨b2, c2, i2⟩ := tkN_facts h2 b1
  rcases h3 : tkN f1 l2 e2 with ⟨n3, l3, e3⟩
  obtain ⟨b3, c3, i3⟩ := tkN_facts h3 b2
  rcases h4 : tkN f2 l3 e3 with ⟨n4, l4, e4⟩
  obtain ⟨b4, c4, i4⟩ := tkN_facts h4 b3
  rcases h5 : tkN f3 l4 e4 with ⟨n5, l5, e5⟩
  obtain ⟨b5, c5, i5⟩ := tkN_facts h5 b4
  rcases h6 : tkN f4 l5 e5 with ⟨n6, l6, e6⟩
  obtain ⟨b6, c6, i6⟩ := tkN_facts h6 b5
  rcases h7 : tkN f5 l6 e6 with ⟨n7, l7, e7⟩
  obtain ⟨b7, c7, i7⟩ := tkN_facts h7 b6
  simp only [h2, h3, h4, h5, h6, h7]
  exact ⟨⟨by simp only; omega, by simp only; omega, i1, i4, i2, i6, i7, i5⟩, trivial⟩
theorem rread_ok {l : List Nat} (hb : Bytes l) : (rread l).ok ∧ (rread l).kd = ((rFixed l 0 1).1 : Nat) := by
  have hkl := rFixed1_lt l hb 0
  have hb0 := rFixed_bytes hb 0 1
  unfold rread mgetF
  simp only
  generalize flgR ((rFixed l 0 1).1 : Nat) = f
  obtain ⟨f1, f2, f3, f4, f5⟩ := f
  generalize rFixed l 0 1 = F at hkl hb0 ⊢
  obtain ⟨k, l0, e0⟩ := F
  simp only at hkl hb0 ⊢
  rcases h1 : tkN true l0 e0 with ⟨n1, l1, e1⟩
  obtain ⟨b1, c1, i1⟩ := tkN_facts h1 hb0
  rcases h2 : tkN f1 l1 e1 with ⟨n2, l2, e2⟩
  obtain ⟨b2, c2, i2⟩ := tkN_facts h2 b1
  rcases h3 : tkN f1 l2 e2 with ⟨n3, l3, e3⟩
  obtain ⟨b3, c3, i3⟩ := tkN_facts h3 b2
  rcases h4 : tkN f2 l3 e3 with ⟨n4, l4, e4⟩
  obtain ⟨b4, c4, i4⟩ := tkN_facts h4 b3
  rcases h5 : tkN f3 l4 e4 with ⟨n5, l5, e5⟩
  obtain ⟨b5, c5, i5⟩ := tkN_facts h5 b4
  rcases h6 : tkN f4 l5 e5 with ⟨n6, l6, e6⟩
  obtain ⟨b6, c6, i6⟩ := tkN_facts h6 b5
  rcases h7 : tkN f5 l6 e6 with ⟨n7, l7, e7⟩
  obtain ⟨b7, c7, i7⟩ := tkN_facts h7 b6
  simp only [h2, h3, h4, h5, h6, h7]
  exact ⟨⟨by simp only; omega, by simp only; omega, i1, i4, i2, i6, i7, i5⟩, trivial⟩
def refG (l : List Nat) : Met × Int := if metE (rread l) = 0 ∧ putM (rread l) = l then (rread l, 0) else (met0, 4)
theorem rread_eq {l : List Nat} (h : ((rFixed l 0 1).1 : Nat) ≤ 6) : rread l = (mget l).1 := by
  unfold rread mget
  have : flgR ((rFixed l 0 1).1 : Nat) = flg ((rFixed l 0 1).1 : Nat) := by
    generalize (rFixed l 0 1).1 = k at h
    have : k = 0 ∨ k = 1 ∨ k = 2 ∨ k = 3 ∨ k = 4 ∨ k = 5 ∨ k = 6 := by omega
    rcases this with rfl | rfl | rfl | rfl | rfl | rfl | rfl <;> decide
  rw [this]
theorem refG_eq {l : List Nat} (hb : Bytes l) : refG l = metG l := by
  obtain ⟨o1, k1⟩ := mget_ok hb
  obtain ⟨o2, k2⟩ := rread_ok hb
  unfold refG metG
  by_cases h : ((rFixed l 0 1).1 : Nat) ≤ 6
  · rw [rread_eq h]
    by_cases hc : metE (mget l).1 = 0 ∧ putM (mget l).1 = l
    · have hl : metL (mget l).1 = l := by have := hc.2; rwa [putM, if_pos hc.1] at this
      have hm := mget_lay o1 hc.1 []
      rw [List.append_nil, hl] at hm
      have hd : rDone (mget l).2.1 (mget l).2.2 = 0 := by
        have e1 : (mget l).2.1 = [] := congrArg (fun x => x.2.1) hm
        have e2 : (mget l).2.2 = 0 := congrArg (fun x => x.2.2) hm
        rw [e1, e2]; rfl
      rw [if_pos hc, if_pos ⟨hc.1, hd, hc.2⟩]
    · rw [if_neg hc, if_neg (fun q => hc ⟨q.1, q.2.2⟩)]
  · have e1 : metE (mget l).1 ≠ 0 := fun q => by have := metE_kd q; rw [k1] at this; omega
    have e2 : metE (rread l) ≠ 0 := fun q => by have := metE_kd q; rw [k2] at this; omega
    rw [if_neg (fun q => e2 q.1), if_neg (fun q => e1 q.1)]
theorem metG_cases {l : List Nat} (hb : Bytes l) : metG l = (met0, 4) ∨ ∃ m : Met, m.ok ∧ metE m = 0 ∧ metL m = l ∧ metG l = (m, 0) := by
  obtain ⟨o1, k1⟩ := mget_ok hb
  unfold metG
  by_cases hc : metE (mget l).1 = 0 ∧ rDone (mget l).2.1 (mget l).2.2 = 0 ∧ putM (mget l).1 = l
  · refine .inr ⟨_, o1, hc.1, ?_, if_pos hc⟩
    have := hc.2.2
    rwa [putM, if_pos hc.1] at this
  · exact .inl (if_neg hc)
theorem metG_lay {m : Met} (ho : m.ok) (h : metE m = 0) : metG (metL m) = (m, 0) := by
  have hm := mget_lay ho h []
  rw [List.append_nil] at hm
  unfold metG
  rw [hm]
  exact if_pos ⟨h, rfl, by rw [putM, if_pos h]⟩
theorem met_prefix {a b : Met} (ha : a.ok) (hb : b.ok) (ea : metE a = 0) (eb : metE b = 0) {t : List Nat} (h : metL b = metL a ++ t) : a = b := by
  have h1 := mget_lay ha ea t
  have h2 := mget_lay hb eb []
  rw [List.append_nil, h, h1] at h2
  exact congrArg Prod.fst h2
theorem metL_bytes {m : Met} (ho : m.ok) (h : metE m = 0) : Bytes (metL m) := by
  have := putM_bytes ho
  rwa [putM, if_pos h] at this
theorem metL_pos (m : Met) : 1 ≤ (metL m).length := by simp [metL]
theorem metG_more {m : Met} (ho : m.ok) (h : metE m = 0) (c : Nat) (hc : c < 256) : metG (metL m ++ [c]) = (met0, 4) := by
  have hb : Bytes (metL m ++ [c]) := fun x hx => by
    rcases List.mem_append.1 hx with hx | hx
    · exact metL_bytes ho h x hx
    · simp at hx; omega
  rcases metG_cases hb with k | ⟨a, k0, k1, k2, k3⟩
  · exact k
  · have := met_prefix ho k0 h k1 k2
    subst this
    have := congrArg List.length k2
    simp at this
theorem metG_less {m : Met} (ho : m.ok) (h : metE m = 0) : metG (metL m).dropLast = (met0, 4) := by
  have hb : Bytes (metL m).dropLast := fun x hx => metL_bytes ho h x (List.dropLast_subset _ hx)
  rcases metG_cases hb with k | ⟨a, k0, k1, k2, k3⟩
  · exact k
  · have hne : metL m ≠ [] := fun q => by have := metL_pos m; rw [q] at this; simp at this
    have e : metL m = metL a ++ [(metL m).getLast hne] := by rw [k2]; exact (List.dropLast_concat_getLast hne).symm
    have := met_prefix k0 ho k1 h e
    subst this
    have := congrArg List.length e
    simp at this
theorem metL_le {m : Met} (ho : m.ok) (h : metE m = 0) : (metL m).length ≤ 113 := by
  obtain ⟨o1, o2, o3, o4, o5, o6, o7, o8⟩ := ho
  have hcI : I64 (if m.co = true then 1 else 0) := by split <;> exact ⟨by omega, by omega⟩
  have l1 := @lz_le true m.tp o3
  have l2 := @lz_le (decide (m.kd = 0)) m.pa o5
  have l3 := @lz_le (decide (m.kd = 0)) _ hcI
  have l4 := @lz_le (decide (m.kd = 2 ∨ m.kd = 3 ∨ m.kd = 4 ∨ m.kd = 5)) m.ix o4
  have l5 := @lz_le (decide (m.kd = 4)) m.cn o8
  have l6 := @lz_le (decide (m.kd = 2 ∨ m.kd = 3 ∨ m.kd = 4)) m.zo o6
  have l7 := @lz_le (decide (m.kd = 2 ∨ m.kd = 4 ∨ m.kd = 5)) m.ba o7
  have l8 : (if decide (m.kd = 0) = true then textN m.nm else []).length ≤ 42 := by
    by_cases k0 : m.kd = 0
    · simp only [k0, decide_true, if_true]; exact textN_le (metE_name h k0)
    · simp [k0]
  simp only [metL, List.length_append, List.length_singleton]
  omega
/-! ### the answer's Get -/
noncomputable def R23mp (f : FuncId) (l : List SV) : Option (Prop × LV) :=
  match f with
  | 17 => row eM (fun m => (m.ok, .tup [.own 1 (bs (putM m)), .sv (.int .i64 (metE m))])) l
  | 66 => row (fun l : List Nat => [.sl 1 (bs l)]) (fun l => (Bytes l ∧ l.length < 4611686018427387904, .sv (rread l).sv)) l
  | _ => none
noncomputable def R23m : Orc := { p := R23mp }
theorem R23m_ok : R23m.ok Try.prog := by
  refine ⟨fun f l c rv h hc => ?_, fun _ _ _ _ _ _ h => (by cases h), fun _ _ _ _ h => (by cases h), fun _ h => (by cases h), fun _ _ _ _ _ _ h => (by cases h), fun _ _ _ _ _ _ _ h => (by cases h)⟩
  change R23mp f l = _ at h
  unfold R23mp at h
  split at h
  · exact row_ok h hc (fun m hm => rput_met m hm)
  · exact row_ok h hc (fun l hl => read_pure l hl.1 hl.2)
  · cases h
theorem R23m_17 (m : Met) : R23m.p 17 [msv m] = some (m.ok, .tup [.own 1 (bs (putM m)), .sv (.int .i64 (metE m))]) := row_eq eM_inj _ m
theorem R23m_66 (l : List Nat) : R23m.p 66 [.sl 1 (bs l)] = some (Bytes l ∧ l.length < 4611686018427387904, .sv (msv (rread l))) := row_eq (enc := fun l : List Nat => [.sl 1 (bs l)]) (fun a b h => by simp at h; exact bs_inj' h) _ l
theorem rget_met (l : List Nat) (hb : Bytes l) (hl : l.length < 140737488355328) : Pure Try.prog 23 [.sl 1 (bs l)] (.tup [.sv (metG l).1.sv, .sv (.int .i64 (metG l).2)]) := by
  rw [← refG_eq hb]
  have e17 := R23m_17 (rread l)
  have e66 := R23m_66 l
  have hR := R23m_ok
  obtain ⟨hok, _⟩ := rread_ok hb
  have hpb := putM_bytes hok
  have hseq := sOf_eq hpb hb
  unfold refG
  generalize R23m = R at hR e17 e66
  generalize rread l = M at e17 e66 hok hpb hseq ⊢
  have zl : l.length < 4611686018427387904 := by omega
  refine pure_go hR Try.func23 Try.ntmps23 comp23 cres23 (by decide) (by simp) ?_
  by_cases hC : metE M = 0 ∧ putM M = l
  · simp only [if_pos hC]
    rw [hC.1, hC.2] at e17
    simp [ac23, ar23, e17, e66, hb, zl, hok, Met.sv, Met.cells, bs_str]
    exact bs_byte _
  · simp only [if_neg hC]
    have hC' : ¬ (metE M = 0) ∨ metE M = 0 ∧ ¬ putM M = l := by
      by_cases q : metE M = 0
      · exact .inr ⟨q, fun z => hC ⟨q, z⟩⟩
      · exact .inl q
    rcases hC' with q | ⟨q, z⟩
    · generalize metE M = E at e17 q
      simp [ac23, ar23, e17, e66, hb, zl, hok, Met.sv, Met.cells, bs_str, q, met0]
    · rw [q] at e17
      simp [z] at hseq
      simp [ac23, ar23, e17, e66, hb, zl, hok, Met.sv, Met.cells, bs_str, hseq, met0]
      exact ⟨bs_byte _, bs_byte _⟩
end Go.Proofs.Ytkiimlmlfhmkiaa
