/- Assign: awake, and the laws. -/
import Derived.Test.YtmfkliabjfngmaaMGaG

set_option linter.unusedSimpArgs false
set_option linter.unusedVariables false
set_option maxHeartbeats 8000000
set_option maxRecDepth 100000
namespace Go.Proofs.Ytmfkliabjfngmaa
open Go.Av

def eTIS (p : List ByteArray × Int × ByteArray) : List SV := [.sl 1 (TL p.1), .int .i64 p.2.1, .str p.2.2]
theorem eTIS_inj (a b : List ByteArray × Int × ByteArray) (h : eTIS a = eTIS b) : a = b := by simp [eTIS] at h; exact Prod.ext (TL_inj _ _ h.1) (Prod.ext h.2.1 h.2.2)
def eLL2 (p : List (List Int) × List (List Int)) : List SV := [.sl 1 (LL p.1), .sl 1 (LL p.2)]
theorem eLL2_inj (a b : List (List Int) × List (List Int)) (h : eLL2 a = eLL2 b) : a = b := by simp [eLL2] at h; exact Prod.ext (LL_inj _ _ h.1) (LL_inj _ _ h.2)
def eLLI (p : List (List Int) × Int) : List SV := [.sl 1 (LL p.1), .int .i64 p.2]
theorem eLLI_inj (a b : List (List Int) × Int) (h : eLLI a = eLLI b) : a = b := by simp [eLLI] at h; exact Prod.ext (LL_inj _ _ h.1) h.2
noncomputable def RsFp (f : FuncId) (l : List SV) : Option (Prop × LV) :=
  match f with
  | 10 => row eTL (fun a => (True, .sv (.bool (lightT a)))) l
  | 11 => row (fun _ : Unit => []) (fun _ => (Pure Try.prog 11 [] (.sv (.bool true)), .sv (.bool true))) l
  | 12 => row eTL (fun a => (a.length ≤ 1000, .sv (.sl 1 (TL (srt a))))) l
  | 13 => row eTL (fun a => (a.length ≤ 1000, .own 1 (TL (srt a)))) l
  | 14 => row eLL2 (fun p => (p.1.length < 4611686018427387904 ∧ smallL p.1, .sv (.bool (decide (p.1 = p.2))))) l
  | 15 => row eTI (fun p => (p.1.length ≤ 1000, .sv (.sl 1 (LL (rngL (manyP p.2).toNat (srt p.1).length))))) l
  | 16 => row eTI (fun p => (p.1.length ≤ 1000, .own 1 (LL (rngL (manyP p.2).toNat (srt p.1).length)))) l
  | 17 => row eTI (fun p => (p.1.length ≤ 1000, .sv (.sl 1 (LL (turL (manyP p.2).toNat (srt p.1).length))))) l
  | 18 => row eTI (fun p => (p.1.length ≤ 1000, .own 1 (LL (turL (manyP p.2).toNat (srt p.1).length)))) l
  | 19 => row eIL2 (fun p => (p.1.length < 4611686018427387904, .sv (.bool (decide (p.1 = p.2))))) l
  | 20 => row eTIS (fun p => (p.1.length ≤ 1000, .sv (.sl 1 (IL (ofL p.1 p.2.1 p.2.2))))) l
  | 21 => row eTIS (fun p => (p.1.length ≤ 1000, .sv (.sl 1 (IL (ofL p.1 p.2.1 p.2.2))))) l
  | 22 => row eLLI (fun p => (0 ≤ p.2 ∧ p.2 ≤ 1000 ∧ Fair p.1 p.2.toNat, .sv (.bool true))) l
  | _ => none
noncomputable def RsF : Orc := { p := RsFp }
theorem RsF_ok : RsF.ok Try.prog := by
  refine ⟨fun f l c rv h hc => ?_, fun _ _ _ _ _ _ h => (by cases h), fun _ _ _ _ h => (by cases h), fun _ h => (by cases h), fun _ _ _ _ _ _ h => (by cases h), fun _ _ _ _ _ _ _ h => (by cases h)⟩
  change RsFp f l = _ at h
  unfold RsFp at h
  split at h
  · exact row_ok h hc (fun x hp => light_txts x)
  · exact row_ok h hc (fun x hp => hp)
  · exact row_ok h hc (fun x hp => sorted_pure x hp)
  · exact row_ok h hc (fun x hp => rsorted x hp)
  · exact row_ok h hc (fun x hp => same_rows x.1 x.2 hp.1 hp.2)
  · exact row_ok h hc (fun x hp => range_pure x.1 x.2 hp)
  · exact row_ok h hc (fun x hp => rrange_pure x.1 x.2 hp)
  · exact row_ok h hc (fun x hp => turns_pure x.1 x.2 hp)
  · exact row_ok h hc (fun x hp => rturns_pure x.1 x.2 hp)
  · exact row_ok h hc (fun x hp => sameOne x.1 x.2 hp)
  · exact row_ok h hc (fun x hp => of_pure x.1 x.2.1 x.2.2 hp)
  · exact row_ok h hc (fun x hp => rof_pure x.1 x.2.1 x.2.2 hp)
  · refine row_ok h hc (fun x hp => ?_)
    obtain ⟨a, b⟩ := x
    obtain ⟨h1, h2, h3⟩ := hp
    simp only at h1 h2 h3
    obtain ⟨m, rfl⟩ : ∃ m : Nat, b = m := ⟨b.toNat, by omega⟩
    exact fair_pure a m (by omega) (by simpa using h3)
  · cases h
theorem RsF_10 (l : List ByteArray) : RsF.p 10 [.sl 1 (TL l)] = some (True, .sv (.bool (lightT l))) := row_eq eTL_inj _ l
theorem RsF_11 : RsF.p 11 [] = some (Pure Try.prog 11 [] (.sv (.bool true)), .sv (.bool true)) := row_eq (enc := fun _ : Unit => ([] : List SV)) (fun _ _ _ => rfl) _ ()
theorem RsF_12 (l : List ByteArray) : RsF.p 12 [.sl 1 (TL l)] = some (l.length ≤ 1000, .sv (.sl 1 (TL (srt l)))) := row_eq eTL_inj _ l
theorem RsF_13 (l : List ByteArray) : RsF.p 13 [.sl 1 (TL l)] = some (l.length ≤ 1000, .own 1 (TL (srt l))) := row_eq eTL_inj _ l
theorem RsF_14 (a b : List (List Int)) : RsF.p 14 [.sl 1 (LL a), .sl 1 (LL b)] = some (a.length < 4611686018427387904 ∧ smallL a, .sv (.bool (decide (a = b)))) := row_eq eLL2_inj _ (a, b)
theorem RsF_15 (l : List ByteArray) (p : Int) : RsF.p 15 [.sl 1 (TL l), .int .i64 p] = some (l.length ≤ 1000, .sv (.sl 1 (LL (rngL (manyP p).toNat (srt l).length)))) := row_eq eTI_inj _ (l, p)
theorem RsF_16 (l : List ByteArray) (p : Int) : RsF.p 16 [.sl 1 (TL l), .int .i64 p] = some (l.length ≤ 1000, .own 1 (LL (rngL (manyP p).toNat (srt l).length))) := row_eq eTI_inj _ (l, p)
theorem RsF_17 (l : List ByteArray) (p : Int) : RsF.p 17 [.sl 1 (TL l), .int .i64 p] = some (l.length ≤ 1000, .sv (.sl 1 (LL (turL (manyP p).toNat (srt l).length)))) := row_eq eTI_inj _ (l, p)
theorem RsF_18 (l : List ByteArray) (p : Int) : RsF.p 18 [.sl 1 (TL l), .int .i64 p] = some (l.length ≤ 1000, .own 1 (LL (turL (manyP p).toNat (srt l).length))) := row_eq eTI_inj _ (l, p)
theorem RsF_19 (a b : List Int) : RsF.p 19 [.sl 1 (IL a), .sl 1 (IL b)] = some (a.length < 4611686018427387904, .sv (.bool (decide (a = b)))) := row_eq eIL2_inj _ (a, b)
theorem RsF_20 (l : List ByteArray) (p : Int) (k : ByteArray) : RsF.p 20 [.sl 1 (TL l), .int .i64 p, .str k] = some (l.length ≤ 1000, .sv (.sl 1 (IL (ofL l p k)))) := row_eq eTIS_inj _ (l, p, k)
theorem RsF_21 (l : List ByteArray) (p : Int) (k : ByteArray) : RsF.p 21 [.sl 1 (TL l), .int .i64 p, .str k] = some (l.length ≤ 1000, .sv (.sl 1 (IL (ofL l p k)))) := row_eq eTIS_inj _ (l, p, k)
theorem RsF_22 (a : List (List Int)) (p : Int) : RsF.p 22 [.sl 1 (LL a), .int .i64 p] = some (0 ≤ p ∧ p ≤ 1000 ∧ Fair a p.toNat, .sv (.bool true)) := row_eq eLLI_inj _ (a, p)

def sa : ByteArray := ByteArray.mk #[97]
def sb : ByteArray := ByteArray.mk #[98]
def sc : ByteArray := ByteArray.mk #[99]
def wm : List ByteArray := [sb, sa, sb]
theorem wsrt : srt wm = [sa, sb] := by
  obtain ⟨h1, h2⟩ := srt_ok wm
  refine map_bk_inj (sorted_ext h1 (by decide) (fun x => ?_))
  rw [h2]
  simp [wm]
  exact .inr
theorem many5 : manyP 5 = 5 := by decide
theorem w_rng : rngL 5 2 = [[0, 1, 2], [3, 4]] := by decide
theorem w_tur : turL 5 2 = [[0, 2, 4], [1, 3]] := by decide
theorem lab : lts sa sb = true := (lts_iff _ _).2 (by decide)
theorem lac : lts sa sc = true := (lts_iff _ _).2 (by decide)
theorem lbc : lts sb sc = true := (lts_iff _ _).2 (by decide)
theorem lbb : lts sb sb = false := by
  cases h : lts sb sb with
  | false => rfl
  | true => exact absurd h (lts_irrefl sb)
theorem w_ofb : ofL wm 5 sb = [3, 4] := by
  have hp : posK sb [sa, sb] = 1 := by simp [posK, lab, lbb]
  have ha : atK sb [sa, sb] 1 = true := by simp [atK]
  unfold ofL
  rw [wsrt, hp, ha, many5]
  decide
theorem w_ofc : ofL wm 5 sc = [] := by
  have hp : posK sc [sa, sb] = 2 := by simp [posK, lac, lbc]
  have ha : atK sc [sa, sb] 2 = false := by simp [atK]
  unfold ofL
  rw [wsrt, hp, ha]
  simp
theorem awake19 : Pure Try.prog 11 [] (.sv (.bool true)) := by
  have e12 : RsF.p 12 [.sl 1 [.str (ByteArray.mk #[98]), .str (ByteArray.mk #[97]), .str (ByteArray.mk #[98])]] = some (wm.length ≤ 1000, .sv (.sl 1 (TL (srt wm)))) := RsF_12 wm
  have e15 : RsF.p 15 [.sl 1 [.str (ByteArray.mk #[98]), .str (ByteArray.mk #[97]), .str (ByteArray.mk #[98])], .int .i64 5] = some (wm.length ≤ 1000, .sv (.sl 1 (LL (rngL (manyP 5).toNat (srt wm).length)))) := RsF_15 wm 5
  have e17 : RsF.p 17 [.sl 1 [.str (ByteArray.mk #[98]), .str (ByteArray.mk #[97]), .str (ByteArray.mk #[98])], .int .i64 5] = some (wm.length ≤ 1000, .sv (.sl 1 (LL (turL (manyP 5).toNat (srt wm).length)))) := RsF_17 wm 5
  have e20a : RsF.p 20 [.sl 1 [.str (ByteArray.mk #[98]), .str (ByteArray.mk #[97]), .str (ByteArray.mk #[98])], .int .i64 5, .str (ByteArray.mk #[98])] = some (wm.length ≤ 1000, .sv (.sl 1 (IL (ofL wm 5 sb)))) := RsF_20 wm 5 sb
  have e20b : RsF.p 20 [.sl 1 [.str (ByteArray.mk #[98]), .str (ByteArray.mk #[97]), .str (ByteArray.mk #[98])], .int .i64 5, .str (ByteArray.mk #[99])] = some (wm.length ≤ 1000, .sv (.sl 1 (IL (ofL wm 5 sc)))) := RsF_20 wm 5 sc
  have e14a : RsF.p 14 [.sl 1 (LL [[0, 1, 2], [3, 4]]), .sl 1 [.sl 1 [.int .i64 0, .int .i64 1, .int .i64 2], .sl 1 [.int .i64 3, .int .i64 4]]] = some (_, .sv (.bool (decide (([[0, 1, 2], [3, 4]] : List (List Int)) = [[0, 1, 2], [3, 4]])))) := RsF_14 [[0, 1, 2], [3, 4]] [[0, 1, 2], [3, 4]]
  have e14b : RsF.p 14 [.sl 1 (LL [[0, 2, 4], [1, 3]]), .sl 1 [.sl 1 [.int .i64 0, .int .i64 2, .int .i64 4], .sl 1 [.int .i64 1, .int .i64 3]]] = some (_, .sv (.bool (decide (([[0, 2, 4], [1, 3]] : List (List Int)) = [[0, 2, 4], [1, 3]])))) := RsF_14 [[0, 2, 4], [1, 3]] [[0, 2, 4], [1, 3]]
  have hs1 : smallL [[0, 1, 2], [3, 4]] := by intro r hr; simp at hr; rcases hr with rfl | rfl <;> simp
  have hs2 : smallL [[0, 2, 4], [1, 3]] := by intro r hr; simp at hr; rcases hr with rfl | rfl <;> simp
  rw [wsrt] at e12 e15 e17
  rw [many5] at e15 e17
  rw [show rngL (5 : Int).toNat [sa, sb].length = [[0, 1, 2], [3, 4]] from w_rng] at e15
  rw [show turL (5 : Int).toNat [sa, sb].length = [[0, 2, 4], [1, 3]] from w_tur] at e17
  rw [w_ofb] at e20a
  rw [w_ofc] at e20b
  have hR := RsF_ok
  have hwm : wm.length = 3 := rfl
  rw [hwm] at e12 e15 e17 e20a e20b
  have hl1 : (IL [3, 4]).length = 2 := rfl
  have hl2 : (TL [sa, sb]).length = 2 := rfl
  generalize LL [[0, 1, 2], [3, 4]] = A at *
  generalize LL [[0, 2, 4], [1, 3]] = B at *
  generalize RsF = R at *
  refine pure_go hR Try.func11 Try.ntmps11 comp11 cres11 (by decide) (by simp) ?_
  simp (maxSteps := 4000000) [ac11, ar11, e12, e15, e17, e20a, e20b, e14a, e14b, hs1, hs2, hl1, hl2]
theorem lightT_len {l : List ByteArray} (h : lightT l = true) : l.length ≤ 40 := by
  unfold lightT at h
  simp only [Bool.and_eq_true, decide_eq_true_eq] at h
  exact h.1
theorem small_rng {l : List ByteArray} {p : Int} (hl : l.length ≤ 1000) : smallL (rngL (manyP p).toNat (srt l).length) := by
  intro r hr
  simp only [rngL, List.mem_map, List.mem_range] at hr
  obtain ⟨k, hk, rfl⟩ := hr
  have h1 := (manyP_le p).2
  have h2 := Nat.div_le_self (manyP p).toNat (srt l).length
  simp only [rowR, upto_len, shR]
  split <;> omega
theorem small_tur {l : List ByteArray} {p : Int} : smallL (turL (manyP p).toNat (srt l).length) := by
  intro r hr
  simp only [turL, List.mem_map, List.mem_range] at hr
  obtain ⟨k, hk, rfl⟩ := hr
  have h1 := (manyP_le p).2
  have h2 := turR_len (srt l).length (manyP p).toNat k
  omega
theorem small_of (l : List ByteArray) (p : Int) (k : ByteArray) (hl : l.length ≤ 1000) : (ofL l p k).length < 4611686018427387904 := by
  unfold ofL
  split
  · rename_i h
    have hlt := atK_lt h
    exact small_rng hl _ (getD_mem [] (by rw [rngL_len]; exact hlt))
  · simp
theorem law_gives (l : List ByteArray) (p : Int) (k : ByteArray) : Pure Try.prog 3 [.sl 1 (TL l), .int .i64 p, .str k] (.sv (.bool true)) := by
  have e10 := RsF_10 l
  have e11 := RsF_11
  have e12 := RsF_12 l
  have e13 := RsF_13 l
  have e15 := RsF_15 l p
  have e16 := RsF_16 l p
  have e17 := RsF_17 l p
  have e18 := RsF_18 l p
  have e20 := RsF_20 l p k
  have e21 := RsF_21 l p k
  have e14a := RsF_14 (rngL (manyP p).toNat (srt l).length) (rngL (manyP p).toNat (srt l).length)
  have e14b := RsF_14 (turL (manyP p).toNat (srt l).length) (turL (manyP p).toNat (srt l).length)
  have e19 := RsF_19 (ofL l p k) (ofL l p k)
  rw [decide_eq_true rfl] at e14a e14b e19
  have hR := RsF_ok
  have haw := awake19
  have hlo := @lightT_len l
  have hs1 := @small_rng l p
  have hs2 := @small_tur l p
  have hs3 := small_of l p k
  have hsl := srt_len l
  have hrl := rngL_len (manyP p).toNat (srt l).length
  have htl := turL_len (manyP p).toNat (srt l).length
  generalize RsF = R at *
  refine pure_go hR Try.func3 Try.ntmps3 comp3 cres3 (by decide) (by simp) ?_
  cases hL : lightT l with
  | false =>
    rw [hL] at e10
    simp (maxSteps := 4000000) [ac3, ar3, e10, e11, haw]
  | true =>
    rw [hL] at e10
    have h40 := hlo hL
    have h1000 : l.length ≤ 1000 := by omega
    have hs1 := hs1 h1000
    have hs3 := hs3 h1000
    by_cases hk : 60 < (k.size : Int)
    · have hk' : 60 < k.size := by omega
      simp (maxSteps := 4000000) [ac3, ar3, e10, e11, haw, hk, hk']
    have hk' : ¬ 60 < k.size := by omega
    generalize rngL (manyP p).toNat (srt l).length = A at *
    generalize turL (manyP p).toNat (srt l).length = B at *
    generalize ofL l p k = C at *
    generalize srt l = s at *
    have hA : A.length < 4611686018427387904 := by omega
    have hB : B.length < 4611686018427387904 := by omega
    simp (maxSteps := 4000000) [ac3, ar3, e10, e11, e12, e13, haw, hk, hk', h1000]
    refine awpR_loop (α := Nat) (fun i => i ≤ s.length) (fun i => { n := 73, sl := [(0, .sv (.sl 1 (TL l))), (1, .sv (.int .i64 p)), (2, .sv (.str k)), (7, .sv (.sl 1 (TL s))), (8, .own 1 (TL s)), (9, .sv (.int .i64 i))], bx := [], hp := fun _ => none })
      (fun i => s.length - i) 0 (by simp) (by simp) ?_
    intro i hi
    by_cases h : i < s.length
    · have hlt : (i : Int) < s.length := by omega
      have hw := wrap_succ h (show s.length < 4611686018427387904 by omega)
      have hg := TL_get s h
      have hge : (TL s)[i]'(by simpa using h) = .str (s.getD i ⟨#[]⟩) := by rw [← hg, List.getElem?_eq_getElem]; rfl
      generalize s.getD i ⟨#[]⟩ = x at *
      simp [hlt, h, hg, hge, hw]
      exact ⟨i + 1, by omega, by omega, by omega⟩
    · obtain rfl : i = s.length := by omega
      have hlt : ¬ ((s.length : Nat) : Int) < s.length := by omega
      simp (maxSteps := 4000000) [hlt, e15, e16, e17, e18, e20, e21, e14a, e14b, e19, e11, haw, h1000, hA, hB, hs1, hs2, hs3]
theorem manyP_u8 {m : Int} (h0 : 0 ≤ m) (h1 : m < 256) : manyP m = m := by unfold manyP; omega
theorem law_once (l : List ByteArray) (m : Int) (hm0 : 0 ≤ m) (hm1 : m < 256) : Pure Try.prog 4 [.sl 1 (TL l), .int .u8 m] (.sv (.bool true)) := by
  obtain ⟨P, rfl⟩ : ∃ P : Nat, m = P := ⟨m.toNat, by omega⟩
  have e10 := RsF_10 l
  have e11 := RsF_11
  have e12 := RsF_12 l
  have e15 := RsF_15 l P
  have e17 := RsF_17 l P
  rw [manyP_u8 hm0 hm1, Int.toNat_natCast] at e15 e17
  have e22a := RsF_22 (rngL P (srt l).length) P
  have e22b := RsF_22 (turL P (srt l).length) P
  rw [Int.toNat_natCast] at e22a e22b
  have hR := RsF_ok
  have haw := awake19
  have hlo := @lightT_len l
  have hsl := srt_len l
  have hsz : l.length ≠ 0 → 0 < (srt l).length := by
    intro h
    obtain ⟨_, h2⟩ := srt_ok l
    cases hs : srt l with
    | nil =>
      cases l with
      | nil => exact absurd rfl h
      | cons x l => have := (h2 (bk x)).2 (by simp); rw [hs] at this; simp at this
    | cons x s => simp
  have hrl := rngL_len P (srt l).length
  have htl := turL_len P (srt l).length
  have hfr := fun (h : 0 < (srt l).length) (h2 : (srt l).length ≤ 1000) => rng_fair h h2 (show P ≤ 500 by omega)
  have hft := fun (h : 0 < (srt l).length) (h2 : (srt l).length ≤ 1000) => tur_fair h h2 (show P ≤ 500 by omega)
  have hra : ∀ k, k < (srt l).length → ((rngL P (srt l).length).getD k []).length = shR P (srt l).length k := by
    intro k hk
    simp [rngL, List.getD_eq_getElem?_getD, hk, rowR]
  have hta : ∀ k, k < (srt l).length → ((turL P (srt l).length).getD k []).length = shR P (srt l).length k := by
    intro k hk
    simp [turL, List.getD_eq_getElem?_getD, hk, turR_lenS hk]
  have hanti := fun i j (h : i ≤ j) => shR_anti P (srt l).length h
  have hwP : IntKind.i64.wrap (P : Int) = P := by rw [IntKind.wrap_i64]; omega
  generalize RsF = R at *
  refine pure_go hR Try.func4 Try.ntmps4 comp4 cres4 (by decide) (by simp) ?_
  cases hL : lightT l with
  | false =>
    rw [hL] at e10
    simp (maxSteps := 4000000) [ac4, ar4, e10, e11, haw]
  | true =>
    rw [hL] at e10
    have h40 := hlo hL
    have h1000 : l.length ≤ 1000 := by omega
    generalize hA : rngL P (srt l).length = A at *
    generalize hB : turL P (srt l).length = B at *
    generalize hsh : shR P (srt l).length = S at *
    generalize hs : srt l = s at *
    by_cases h0 : l.length = 0
    · have h0' : (l.length : Int) = 0 := by omega
      have hsz0 : s.length = 0 := by omega
      have hA0 : A.length = 0 := by omega
      have hB0 : B.length = 0 := by omega
      have hl0 : l = [] := List.length_eq_zero_iff.1 h0
      have hw0 : IntKind.i64.wrap 0 = 0 := by decide
      subst hl0
      simp (maxSteps := 4000000) [ac4, ar4, e10, e11, e12, e15, e17, haw, hwP, hA0, hB0, hw0]
    have h0' : ¬ (l.length : Int) = 0 := by omega
    have h0b : ((l.length : Int) == 0) = false := by simpa using h0'
    have hl0 : ¬ l = [] := fun z => h0 (by rw [z]; rfl)
    have hn := hsz h0
    have hfr := hfr hn (by omega)
    have hft := hft hn (by omega)
    have q1 : ((A.length : Int) != s.length) = false := by simp; omega
    have q2 : ((B.length : Int) != A.length) = false := by simp; omega
    simp (maxSteps := 4000000) [ac4, ar4, e10, e11, e12, e15, e17, haw, h0, h0', h0b, hl0, hwP, h1000, hrl, htl]
    refine awpR_loop (α := Nat) (fun i => 1 ≤ i ∧ i ≤ s.length) (fun i => { n := 89, sl := [(0, .sv (.sl 1 (TL l))), (1, .sv (.int .u8 P)), (5, .sv (.sl 1 (LL A))), (6, .sv (.sl 1 (LL B))), (7, .sv (.int .i64 i))], bx := [], hp := fun _ => none })
      (fun i => s.length - i) 1 (by omega) (by simp) ?_
    rintro i ⟨hi0, hi⟩
    by_cases h : i < s.length
    · have hlt : (i : Int) < s.length := by omega
      have hw := wrap_succ h (show s.length < 4611686018427387904 by omega)
      have hiA : i < A.length := by omega
      have hiB : i < B.length := by omega
      have hiA' : (i : Int) < A.length := by omega
      have hiB' : (i : Int) < B.length := by omega
      have hjA : i - 1 < A.length := by omega
      have hjA' : ((i - 1 : Nat) : Int) < A.length := by omega
      have hjs : i - 1 < s.length := by omega
      have hjs' : ((i - 1 : Nat) : Int) < s.length := by omega
      have hw4 : IntKind.i64.wrap ((i : Int) - 1) = ((i - 1 : Nat) : Int) := by rw [IntKind.wrap_i64]; omega
      have hgA := LL_get A hiA
      have hgB := LL_get B hiB
      have hgj := LL_get A hjA
      have hgeA : (LL A)[i]'(by simpa using hiA) = .sl 1 (IL (A.getD i [])) := by rw [← hgA, List.getElem?_eq_getElem]; rfl
      have hgeB : (LL B)[i]'(by simpa using hiB) = .sl 1 (IL (B.getD i [])) := by rw [← hgB, List.getElem?_eq_getElem]; rfl
      have hgej : (LL A)[i - 1]'(by simpa using hjA) = .sl 1 (IL (A.getD (i - 1) [])) := by rw [← hgj, List.getElem?_eq_getElem]; rfl
      have l1 := hra i h
      have l2 := hta i h
      have l3 := hra (i - 1) hjs
      have l4 := hanti (i - 1) i (by omega)
      generalize A.getD i [] = x at *
      generalize B.getD i [] = y at *
      generalize A.getD (i - 1) [] = z at *
      have c1 : ¬ z.length < x.length := by omega
      have c2 : x.length = y.length := by omega
      simp [hlt, h, hrl, htl, hgA, hgB, hgj, hgeA, hgeB, hgej, hw, hw4, hjs, hjs', c1, c2]
      exact ⟨by omega, fun _ => ⟨i + 1, ⟨by omega, by omega⟩, by omega, by omega⟩⟩
    · obtain rfl : i = s.length := by omega
      have hlt : ¬ ((s.length : Nat) : Int) < s.length := by omega
      have hP1 : (P : Int) ≤ 1000 := by omega
      have hP2 : P ≤ 1000 := by omega
      simp (maxSteps := 4000000) [hlt, hrl, e22a, e22b, hfr, hft, hP1, hP2, hwP, e11, haw]
theorem law_order (l : List ByteArray) (m : Int) (hm0 : 0 ≤ m) (hm1 : m < 256) : Pure Try.prog 5 [.sl 1 (TL l), .int .u8 m] (.sv (.bool true)) := by
  have e10 := RsF_10 l
  have e11 := RsF_11
  have e17 := RsF_17 l m
  have e20 := RsF_20 l m
  have e17b := RsF_17 (l.reverse ++ l) m
  have e20b := RsF_20 (l.reverse ++ l) m
  have hsr : srt (l.reverse ++ l) = srt l := srt_ext (fun x => by simp)
  have hof : ∀ k, ofL (l.reverse ++ l) m k = ofL l m k := fun k => by unfold ofL; rw [hsr]
  rw [hsr] at e17b
  simp only [hof] at e20b
  have e14 := RsF_14 (turL (manyP m).toNat (srt l).length) (turL (manyP m).toNat (srt l).length)
  have e19 := fun k => RsF_19 (ofL l m k) (ofL l m k)
  simp only [decide_true] at e14 e19
  have hR := RsF_ok
  have haw := awake19
  have hlo := @lightT_len l
  have hs2 := @small_tur l m
  have hs3 := small_of l m
  have htl := turL_len (manyP m).toNat (srt l).length
  have hsl := srt_len l
  have hwm : IntKind.i64.wrap m = m := by rw [IntKind.wrap_i64]; omega
  generalize turL (manyP m).toNat (srt l).length = B at *
  generalize ofL l m = F at *
  generalize RsF = R at *
  refine pure_go hR Try.func5 Try.ntmps5 comp5 cres5 (by decide) (by simp) ?_
  cases hL : lightT l with
  | false =>
    rw [hL] at e10
    simp (maxSteps := 4000000) [ac5, ar5, e10, e11, haw]
  | true =>
    rw [hL] at e10
    have h40 := hlo hL
    have h1000 : l.length ≤ 1000 := by omega
    by_cases h20 : 20 < (l.length : Int)
    · have h20' : 20 < l.length := by omega
      simp (maxSteps := 4000000) [ac5, ar5, e10, e11, haw, h20, h20']
    have h20' : ¬ 20 < l.length := by omega
    simp (maxSteps := 4000000) [ac5, ar5, e10, e11, haw, h20, h20']
    refine awpR_loop (α := Nat) (fun i => i ≤ l.length) (fun i => { n := 73, sl := [(0, .sv (.sl 1 (TL l))), (1, .sv (.int .u8 m)), (5, .own 1 (TL (l.reverse.take i))), (6, .sv (.int .i64 i))], bx := [], hp := fun _ => none })
      (fun i => l.length - i) 0 (by simp) (by simp [TL]) ?_
    intro i hi
    by_cases h : i < l.length
    · have hlt : (i : Int) < l.length := by omega
      have hw := wrap_succ h (show l.length < 4611686018427387904 by omega)
      have hw2 : IntKind.i64.wrap ((l.length : Int) - 1) = (l.length : Int) - 1 := by rw [IntKind.wrap_i64]; omega
      have hw3 : IntKind.i64.wrap ((l.length : Int) - 1 - i) = ((l.length - 1 - i : Nat) : Int) := by rw [IntKind.wrap_i64]; omega
      have hj : l.length - 1 - i < l.length := by omega
      have hj' : ((l.length - 1 - i : Nat) : Int) < l.length := by omega
      have hg := TL_get l hj
      have hge : (TL l)[l.length - 1 - i]'(by simpa using hj) = .str (l.getD (l.length - 1 - i) ⟨#[]⟩) := by rw [← hg, List.getElem?_eq_getElem]; rfl
      have hsn : l.reverse.take (i + 1) = l.reverse.take i ++ [l.getD (l.length - 1 - i) ⟨#[]⟩] := by
        rw [List.take_succ_eq_append_getElem (by simpa using h), List.getElem_reverse, List.getD_eq_getElem?_getD, List.getElem?_eq_getElem hj]
        rfl
      have hlen : (l.reverse.take i).length = i := by simp; omega
      generalize l.getD (l.length - 1 - i) ⟨#[]⟩ = x at *
      generalize hj0 : l.length - 1 - i = j at *
      generalize hrv : l.reverse.take i = rv at *
      simp [hlt, h, hg, hge, hw, hw2, hw3, hj, hj', hlen]
      exact ⟨by omega, i + 1, by omega, by omega, by rw [hsn, TL_app]; rfl, by omega⟩
    · obtain rfl : i = l.length := by omega
      have hlt : ¬ ((l.length : Nat) : Int) < l.length := by omega
      have htk : l.reverse.take l.length = l.reverse := List.take_of_length_le (by simp)
      have hap := TL_app l.reverse l
      have hT : (TL l.reverse).length = l.length := by simp
      rw [htk]
      generalize hrv : l.reverse ++ l = rv at *
      have hrl : rv.length ≤ 1000 := by rw [← hrv]; simp; omega
      simp (maxSteps := 4000000) [hlt, ← hap]
      refine ⟨by omega, ?_⟩
      refine awpR_loop (α := Nat) (fun i => i ≤ l.length) (fun i => { n := 73, sl := [(0, .sv (.sl 1 (TL l))), (1, .sv (.int .u8 m)), (5, .own 1 (TL rv)), (7, .sv (.int .i64 i))], bx := [], hp := fun _ => none })
        (fun i => l.length - i) 0 (by simp) (by simp) ?_
      intro i hi
      by_cases h : i < l.length
      · have hlt : (i : Int) < l.length := by omega
        have hw := wrap_succ h (show l.length < 4611686018427387904 by omega)
        have hg := TL_get l h
        have hge : (TL l)[i]'(by simpa using h) = .str (l.getD i ⟨#[]⟩) := by rw [← hg, List.getElem?_eq_getElem]; rfl
        generalize l.getD i ⟨#[]⟩ = x at *
        have e20 := e20 x
        have e20b := e20b x
        have e19 := e19 x
        have hs3 := hs3 x h1000
        generalize F x = fx at *
        simp (maxSteps := 4000000) [hlt, h, hg, hge, hw, hwm, e20, e20b, e19, h1000, hrl, hs3]
        exact ⟨i + 1, by omega, by omega, by omega⟩
      · obtain rfl : i = l.length := by omega
        have hlt : ¬ ((l.length : Nat) : Int) < l.length := by omega
        have hB : B.length < 4611686018427387904 := by omega
        simp (maxSteps := 4000000) [hlt, hwm, e17, e17b, e14, e11, haw, h1000, hrl, hB, hs2]
end Go.Proofs.Ytmfkliabjfngmaa
