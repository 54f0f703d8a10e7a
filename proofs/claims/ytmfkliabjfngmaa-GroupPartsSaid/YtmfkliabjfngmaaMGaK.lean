import Derived.Test.YtmfkliabjfngmaaMGaH
import Derived.Test.YtmfkliabjfngmaaMGgV
import Derived.Test.YtmfkliabjfngmaaMHgG

set_option linter.unusedVariables false
set_option linter.unusedSimpArgs false

/- Assign: awake, and the laws. -/

set_option linter.unusedSimpArgs false
set_option linter.unusedVariables false
set_option maxHeartbeats 8000000
set_option maxRecDepth 100000
namespace Go.Proofs.Ytmfkliabjfngmaa

open Go.Av

def eTIS (p : List ByteArray × Int × ByteArray) : List SV := [.sl 1 (TL p.1), .int .i64 p.2.1, .str p.2.2]
theorem eTIS_inj (a b : List ByteArray × Int × ByteArray) (h : eTIS a = eTIS b) : a = b := by simp [eTIS] at h; exact Prod.ext (TL_inj _ _ h.1) (Prod.ext h.2.1 h.2.2)
def eLL2 (p : List (List Int) × List (List Int)) : List SV := [.sl 1 (LL p.1), .sl 1 (LL p.2)]
theorem eLL2_inj (a b : List (List Int) × List (List Int)) (h : eLL2 a = eLL2 b) : a = b := by simp [eLL2] at h; exact Prod.ext (LL_inj _ _ h.1) (LL_inj _ _ h.2)
def eLLI (p : List (List Int) × Int) : List SV := [.sl 1 (LL p.1), .int .i64 p.2]
theorem eLLI_inj (a b : List (List Int) × Int) (h : eLLI a = eLLI b) : a = b := by simp [eLLI] at h; exact Prod.ext (LL_inj _ _ h.1) h.2
noncomputable def RsFp (f : FuncId) (l : List SV) : Option (Prop × LV) :=
  match f with
  | 10 => row eTL (fun a => (True, .sv (.bool (lightT a)))) l
  | 11 => row (fun _ : Unit => []) (fun _ => (Pure Try.prog 11 [] (.sv (.bool true)), .sv (.bool true))) l
  | 12 => row eTL (fun a => (a.length ≤ 1000, .sv (.sl 1 (TL (srt a))))) l
  | 13 => row eTL (fun a => (a.length ≤ 1000, .own 1 (TL (srt a)))) l
  | 14 => row eLL2 (fun p => (p.1.length < 4611686018427387904 ∧ smallL p.1, .sv (.bool (decide (p.1 = p.2))))) l
  | 15 => row eTI (fun p => (p.1.length ≤ 1000, .sv (.sl 1 (LL (rngL (manyP p.2).toNat (srt p.1).length))))) l
  | 16 => row eTI (fun p => (p.1.length ≤ 1000, .own 1 (LL (rngL (manyP p.2).toNat (srt p.1).length)))) l
  | 17 => row eTI (fun p => (p.1.length ≤ 1000, .sv (.sl 1 (LL (turL (manyP p.2).toNat (srt p.1).length))))) l
  | 18 => row eTI (fun p => (p.1.length ≤ 1000, .own 1 (LL (turL (manyP p.2).toNat (srt p.1).length)))) l
  | 19 => row eIL2 (fun p => (p.1.length < 4611686018427387904, .sv (.bool (decide (p.1 = p.2))))) l
  | 20 => row eTIS (fun p => (p.1.length ≤ 1000, .sv (.sl 1 (IL (ofL p.1 p.2.1 p.2.2))))) l
  | 21 => row eTIS (fun p => (p.1.length ≤ 1000, .sv (.sl 1 (IL (ofL p.1 p.2.1 p.2.2))))) l
  | 22 => row eLLI (fun p => (0 ≤ p.2 ∧ p.2 ≤ 1000 ∧ Fair p.1 p.2.toNat, .sv (.bool true))) l
  | _ => none
noncomputable def RsF : Orc := { p := RsFp }
theorem RsF_ok : RsF.ok Try.prog := by
  refine ⟨fun f l c rv h hc => ?_, fun _ _ _ _ _ _ h => (by cases h), fun _ _ _ _ h => (by cases h), fun _ h => (by cases h), fun _ _ _ _ _ _ h => (by cases h), fun _ _ _ _ _ _ _ h => (by cases h)⟩
  change RsFp f l = _ at h
  unfold RsFp at h
  split at h
  · exact row_ok h hc (fun x hp => light_txts x)
  · exact row_ok h hc (fun x hp => hp)
  · exact row_ok h hc (fun x hp => sorted_pure x hp)
  · exact row_ok h hc (fun x hp => rsorted x hp)
  · exact row_ok h hc (fun x hp => same_rows x.1 x.2 hp.1 hp.2)
  · exact row_ok h hc (fun x hp => range_pure x.1 x.2 hp)
  · exact row_ok h hc (fun x hp => rrange_pure x.1 x.2 hp)
  · exact row_ok h hc (fun x hp => turns_pure x.1 x.2 hp)
  · exact row_ok h hc (fun x hp => rturns_pure x.1 x.2 hp)
  · exact row_ok h hc (fun x hp => sameOne x.1 x.2 hp)
  · exact row_ok h hc (fun x hp => of_pure x.1 x.2.1 x.2.2 hp)
  · exact row_ok h hc (fun x hp => rof_pure x.1 x.2.1 x.2.2 hp)
  · refine row_ok h hc (fun x hp => ?_)
    obtain ⟨a, b⟩ := x
    obtain ⟨h1, h2, h3⟩ := hp
    simp only at h1 h2 h3
    obtain ⟨m, rfl⟩ : ∃ m : Nat, b = m := ⟨b.toNat, by omega⟩
    exact fair_pure a m (by omega) (by simpa using h3)
  · cases h
theorem RsF_10 (l : List ByteArray) : RsF.p 10 [.sl 1 (TL l)] = some (True, .sv (.bool (lightT l))) := row_eq eTL_inj _ l
theorem RsF_11 : RsF.p 11 [] = some (Pure Try.prog 11 [] (.sv (.bool true)), .sv (.bool true)) := row_eq (enc := fun _ : Unit => ([] : List SV)) (fun _ _ _ => rfl) _ ()
theorem RsF_12 (l : List ByteArray) : RsF.p 12 [.sl 1 (TL l)] = some (l.length ≤ 1000, .sv (.sl 1 (TL (srt l)))) := row_eq eTL_inj _ l
theorem RsF_13 (l : List ByteArray) : RsF.p 13 [.sl 1 (TL l)] = some (l.length ≤ 1000, .own 1 (TL (srt l))) := row_eq eTL_inj _ l
theorem RsF_14 (a b : List (List Int)) : RsF.p 14 [.sl 1 (LL a), .sl 1 (LL b)] = some (a.length < 4611686018427387904 ∧ smallL a, .sv (.bool (decide (a = b)))) := row_eq eLL2_inj _ (a, b)
theorem RsF_15 (l : List ByteArray) (p : Int) : RsF.p 15 [.sl 1 (TL l), .int .i64 p] = some (l.length ≤ 1000, .sv (.sl 1 (LL (rngL (manyP p).toNat (srt l).length)))) := row_eq eTI_inj _ (l, p)
theorem RsF_16 (l : List ByteArray) (p : Int) : RsF.p 16 [.sl 1 (TL l), .int .i64 p] = some (l.length ≤ 1000, .own 1 (LL (rngL (manyP p).toNat (srt l).length))) := row_eq eTI_inj _ (l, p)
theorem RsF_17 (l : List ByteArray) (p : Int) : RsF.p 17 [.sl 1 (TL l), .int .i64 p] = some (l.length ≤ 1000, .sv (.sl 1 (LL (turL (manyP p).toNat (srt l).length)))) := row_eq eTI_inj _ (l, p)
theorem RsF_18 (l : List ByteArray) (p : Int) : RsF.p 18 [.sl 1 (TL l), .int .i64 p] = some (l.length ≤ 1000, .own 1 (LL (turL (manyP p).toNat (srt l).length))) := row_eq eTI_inj _ (l, p)
theorem RsF_19 (a b : List Int) : RsF.p 19 [.sl 1 (IL a), .sl 1 (IL b)] = some (a.length < 4611686018427387904, .sv (.bool (decide (a = b)))) := row_eq eIL2_inj _ (a, b)
theorem RsF_20 (l : List ByteArray) (p : Int) (k : ByteArray) : RsF.p 20 [.sl 1 (TL l), .int .i64 p, .str k] = some (l.length ≤ 1000, .sv (.sl 1 (IL (ofL l p k)))) := row_eq eTIS_inj _ (l, p, k)
theorem RsF_21 (l : List ByteArray) (p : Int) (k : ByteArray) : RsF.p 21 [.sl 1 (TL l), .int .i64 p, .str k] = some (l.length ≤ 1000, .sv (.sl 1 (IL (ofL l p k)))) := row_eq eTIS_inj _ (l, p, k)
theorem RsF_22 (a : List (List Int)) (p : Int) : RsF.p 22 [.sl 1 (LL a), .int .i64 p] = some (0 ≤ p ∧ p ≤ 1000 ∧ Fair a p.toNat, .sv (.bool true)) := row_eq eLLI_inj _ (a, p)

def sa : ByteArray := ByteArray.mk #[97]
def sb : ByteArray := ByteArray.mk #[98]
def sc : ByteArray := ByteArray.mk #[99]
def wm : List ByteArray := [sb, sa, sb]
theorem wsrt : srt wm = [sa, sb] := by
  obtain ⟨h1, h2⟩ := srt_ok wm
  refine map_bk_inj (sorted_ext h1 (by decide) (fun x => ?_))
  rw [h2]
  simp [wm]
  exact .inr
theorem many5 : manyP 5 = 5 := by decide
theorem w_rng : rngL 5 2 = [[0, 1, 2], [3, 4]] := by decide
theorem w_tur : turL 5 2 = [[0, 2, 4], [1, 3]] := by decide
theorem lab : lts sa sb = true := (lts_iff _ _).2 (by decide)
theorem lac : lts sa sc = true := (lts_iff _ _).2 (by decide)
theorem lbc : lts sb sc = true := (lts_iff _ _).2 (by decide)
theorem lbb : lts sb sb = false := by
  cases h : lts sb sb with
  | false => rfl
  | true => exact absurd h (lts_irrefl sb)
theorem w_ofb : ofL wm 5 sb = [3, 4] := by
  have hp : posK sb [sa, sb] = 1 := by simp [posK, lab, lbb]
  have ha : atK sb [sa, sb] 1 = true := by simp [atK]
  unfold ofL
  rw [wsrt, hp, ha, many5]
  decide
theorem w_ofc : ofL wm 5 sc = [] := by
  have hp : posK sc [sa, sb] = 2 := by simp [posK, lac, lbc]
  have ha : atK sc [sa, sb] 2 = false := by simp [atK]
  unfold ofL
  rw [wsrt, hp, ha]
  simp
theorem awake19 : Pure Try.prog 11 [] (.sv (.bool true)) := by
  have e12 : RsF.p 12 [.sl 1 [.str (ByteArray.mk #[98]), .str (ByteArray.mk #[97]), .str (ByteArray.mk #[98])]] = some (wm.length ≤ 1000, .sv (.sl 1 (TL (srt wm)))) := RsF_12 wm
  have e15 : RsF.p 15 [.sl 1 [.str (ByteArray.mk #[98]), .str (ByteArray.mk #[97]), .str (ByteArray.mk #[98])], .int .i64 5] = some (wm.length ≤ 1000, .sv (.sl 1 (LL (rngL (manyP 5).toNat (srt wm).length)))) := RsF_15 wm 5
  have e17 : RsF.p 17 [.sl 1 [.str (ByteArray.mk #[98]), .str (ByteArray.mk #[97]), .str (ByteArray.mk #[98])], .int .i64 5] = some (wm.length ≤ 1000, .sv (.sl 1 (LL (turL (manyP 5).toNat (srt wm).length)))) := RsF_17 wm 5
  have e20a : RsF.p 20 [.sl 1 [.str (ByteArray.mk #[98]), .str (ByteArray.mk #[97]), .str (ByteArray.mk #[98])], .int .i64 5, .str (ByteArray.mk #[98])] = some (wm.length ≤ 1000, .sv (.sl 1 (IL (ofL wm 5 sb)))) := RsF_20 wm 5 sb
  have e20b : RsF.p 20 [.sl 1 [.str (ByteArray.mk #[98]), .str (ByteArray.mk #[97]), .str (ByteArray.mk #[98])], .int .i64 5, .str (ByteArray.mk #[99])] = some (wm.length ≤ 1000, .sv (.sl 1 (IL (ofL wm 5 sc)))) := RsF_20 wm 5 sc
  have e14a : RsF.p 14 [.sl 1 (LL [[0, 1, 2], [3, 4]]), .sl 1 [.sl 1 [.int .i64 0, .int .i64 1, .int .i64 2], .sl 1 [.int .i64 3, .int .i64 4]]] = some (_, .sv (.bool (decide (([[0, 1, 2], [3, 4]] : List (List Int)) = [[0, 1, 2], [3, 4]])))) := RsF_14 [[0, 1, 2], [3, 4]] [[0, 1, 2], [3, 4]]
  have e14b : RsF.p 14 [.sl 1 (LL [[0, 2, 4], [1, 3]]), .sl 1 [.sl 1 [.int .i64 0, .int .i64 2, .int .i64 4], .sl 1 [.int .i64 1, .int .i64 3]]] = some (_, .sv (.bool (decide (([[0, 2, 4], [1, 3]] : List (List Int)) = [[0, 2, 4], [1, 3]])))) := RsF_14 [[0, 2, 4], [1, 3]] [[0, 2, 4], [1, 3]]
  have hs1 : smallL [[0, 1, 2], [3, 4]] := by intro r hr; simp at hr; rcases hr with rfl | rfl <;> simp
  have hs2 : smallL [[0, 2, 4], [1, 3]] := by intro r hr; simp at hr; rcases hr with rfl | rfl <;> simp
  rw [wsrt] at e12 e15 e17
  rw [many5] at e15 e17
  rw [show rngL (5 : Int).toNat [sa, sb].length = [[0, 1, 2], [3, 4]] from w_rng] at e15
  rw [show turL (5 : Int).toNat [sa, sb].length = [[0, 2, 4], [1, 3]] from w_tur] at e17
  rw [w_ofb] at e20a
  rw [w_ofc] at e20b
  have hR := RsF_ok
  have hwm : wm.length = 3 := rfl
  rw [hwm] at e12 e15 e17 e20a e20b
  have hl1 : (IL [3, 4]).length = 2 := rfl
  have hl2 : (TL [sa, sb]).length = 2 := rfl
  generalize LL [[0, 1, 2], [3, 4]] = A at *
  generalize LL [[0, 2, 4], [1, 3]] = B at *
  generalize RsF = R at *
  refine pure_go hR Try.func11 Try.ntmps11 comp11 cres11 (by decide) (by simp) ?_
  simp (maxSteps := 4000000) [ac11, ar11, e12, e15, e17, e20a, e20b, e14a, e14b, hs1, hs2, hl1, hl2]
theorem lightT_len {l : List ByteArray} (h : lightT l = true) : l.length ≤ 40 := by
  unfold lightT at h
  simp only [Bool.and_eq_true, decide_eq_true_eq] at h
  exact h.1
theorem small_rng {l : List ByteArray} {p : Int} (hl : l.length ≤ 1000) : smallL (rngL (manyP p).toNat (srt l).length) := by
  intro r hr
  simp only [rngL, List.mem_map, List.mem_range] at hr
  obtain ⟨k, hk, rfl⟩ := hr
  have h1 := (manyP_le p).2
  have h2 := Nat.div_le_self (manyP p).toNat (srt l).length
  simp only [rowR, upto_len, shR]
  split <;> omega
theorem small_tur {l : List ByteArray} {p : Int} : smallL (turL (manyP p).toNat (srt l).length) := by
  intro r hr
  simp only [turL, List.mem_map, List.mem_range] at hr
  obtain ⟨k, hk, rfl⟩ := hr
  have h1 := (manyP_le p).2
  have h2 := turR_len (srt l).length (manyP p).toNat k
  omega
theorem small_of (l : List ByteArray) (p : Int) (k : ByteArray) (hl : l.length ≤ 1000) : (ofL l p k).length < 4611686018427387904 := by
  unfold ofL
  split
  · rename_i h
    have hlt := atK_lt h
    exact small_rng hl _ (getD_mem [] (by rw [rngL_len]; exact hlt))
  · simp
theorem law_gives (l : List ByteArray) (p : Int) (k : ByteArray) : Pure Try.prog 3 [.sl 1 (TL l), .int .i64 p, .str k] (.sv (.bool true)) := by
  have e10 := RsF_10 l
  have e11 := RsF_11
  have e12 := RsF_12 l
  have e13 := RsF_13 l
  have e15 := RsF_15 l p
  have e16 := RsF_16 l p
  have e17 := RsF_17 l p
  have e18 := RsF_18 l p
  have e20 := RsF_20 l p k
  have e21 := RsF_21 l p k
  have e14a := RsF_14 (rngL (manyP p).toNat (srt l).length) (rngL (manyP p).toNat (srt l).length)
  have e14b := RsF_14 (turL (manyP p).toNat (srt l).length) (turL (manyP p).toNat (srt l).length)
  have e19 := RsF_19 (ofL l p k) (ofL l p k)
  rw [decide_eq_true rfl] at e14a e14b e19
  have hR := RsF_ok
  have haw := awake19
  have hlo := @lightT_len l
  have hs1 := @small_rng l p
  have hs2 := @small_tur l p
  have hs3 := small_of l p k
  have hsl := srt_len l
  have hrl := rngL_len (manyP p).toNat (srt l).length
  have htl := turL_len (manyP p).toNat (srt l).length
  generalize RsF = R at *
  refine pure_go hR Try.func3 Try.ntmps3 comp3 cres3 (by decide) (by simp) ?_
  cases hL : lightT l with
  | false =>
    rw [hL] at e10
    simp (maxSteps := 4000000) [ac3, ar3, e10, e11, haw]
  | true =>
    rw [hL] at e10
    have h40 := hlo hL
    have h1000 : l.length ≤ 1000 := by omega
    have hs1 := hs1 h1000
    have hs3 := hs3 h1000
    by_cases hk : 60 < (k.size : Int)
    · have hk' : 60 < k.size := by omega
      simp (maxSteps := 4000000) [ac3, ar3, e10, e11, haw, hk, hk']
    have hk' : ¬ 60 < k.size := by omega
    generalize rngL (manyP p).toNat (srt l).length = A at *
    generalize turL (manyP p).toNat (srt l).length = B at *
    generalize ofL l p k = C at *
    generalize srt l = s at *
    have hA : A.length < 4611686018427387904 := by omega
    have hB : B.length < 4611686018427387904 := by omega
    simp (maxSteps := 4000000) [ac3, ar3, e10, e11, e12, e13, haw, hk, hk', h1000]
    refine awpR_loop (α := Nat) (fun i => i ≤ s.length) (fun i => { n := 73, sl := [(0, .sv (.sl 1 (TL l))), (1, .sv (.int .i64 p)), (2, .sv (.str k)), (7, .sv (.sl 1 (TL s))), (8, .own 1 (TL s)), (9, .sv (.int .i64 i))], bx := [], hp := fun _ => none })
      (fun i => s.length - i) 0 (by simp) (by simp) ?_
    intro i hi
    by_cases h : i < s.length
    · have hlt : (i : Int) < s.length := by omega
      have hw := wrap_succ h (show s.length < 4611686018427387904 by omega)
      have hg := TL_get s h
      have hge : (TL s)[i]'(by simpa using h) = .str (s.getD i ⟨#[]⟩) := by rw [← hg, List.getElem?_eq_getElem]; rfl
      generalize s.getD i ⟨#[]⟩ = x at *
      simp [hlt, h, hg, hge, hw]
      exact ⟨i + 1, by omega, by omega, by omega⟩
    · obtain rfl : i = s.length := by omega
      have hlt : ¬ ((s.length : Nat) : Int) < s.length := by omega
      simp (maxSteps := 4000000) [hlt, e15, e16, e17, e18, e20, e21, e14a, e14b, e19, e11, haw, h1000, hA, hB, hs1, hs2, hs3]
theorem manyP_u8 {m : Int} (h0 : 0 ≤ m) (h1 : m < 256) : manyP m = m := by unfold manyP; omega
theorem law_once (l : List ByteArray) (m : Int) (hm0 : 0 ≤ m) (hm1 : m < 256) : Pure Try.prog 4 [.sl 1 (TL l), .int .u8 m] (.sv (.bool true)) := by
  obtain ⟨P, rfl⟩ : ∃ P : Nat, m = P := ⟨m.toNat, by omega⟩
  have e10 := RsF_10 l
  have e11 := RsF_11
  have e12 := RsF_12 l
  have e15 := RsF_15 l P
  have e17 := RsF_17 l P
  rw [manyP_u8 hm0 hm1, Int.toNat_natCast] at e15 e17
  have e22a := RsF_22 (rngL P (srt l).length) P
  have e22b := RsF_22 (turL P (srt l).length) P
  rw [Int.toNat_natCast] at e22a e22b
  have hR := RsF_ok
  have haw := awake19
  have hlo := @lightT_len l
  have hsl := srt_len l
  have hsz : l.length ≠ 0 → 0 < (srt l).length := by
    intro h
    obtain ⟨_, h2⟩ := srt_ok l
    cases hs : srt l with
    | nil =>
      cases l with
      | nil => exact absurd rfl h
      | cons x l => have := (h2 (bk x)).2 (by simp); rw [hs] at this; simp at this
    | cons x s => simp
  have hrl := rngL_len P (srt l).length
  have htl := turL_len P (srt l).length
  have hfr := fun (h : 0 < (srt l).length) (h2 : (srt l).length ≤ 1000) => rng_fair h h2 (show P ≤ 500 by omega)
  have hft := fun (h : 0 < (srt l).length) (h2 : (srt l).length ≤ 1000) => tur_fair h h2 (show P ≤ 500 by omega)
  have hra : ∀ k, k < (srt l).length → ((rngL P (srt l).length).getD k []).length = shR P (srt l).length k := by
    intro k hk
    simp [rngL, List.getD_eq_getElem?_getD, hk, rowR]
  have hta : ∀ k, k < (srt l).length → ((turL P (srt l).length).getD k []).length = shR P (srt l).length k := by
    intro k hk
    simp [turL, List.getD_eq_getElem?_getD, hk, turR_lenS hk]
  have hanti := fun i j (h : i ≤ j) => shR_anti P (srt l).length h
  have hwP : IntKind.i64.wrap (P : Int) = P := by rw [IntKind.wrap_i64]; omega
  generalize RsF = R at *
  refine pure_go hR Try.func4 Try.ntmps4 comp4 cres4 (by decide) (by simp) ?_
  cases hL : lightT l with
  | false =>
    rw [hL] at e10
    simp (maxSteps := 4000000) [ac4, ar4, e10, e11, haw]
  | true =>
    rw [hL] at e10
    have h40 := hlo hL
    have h1000 : l.length ≤ 1000 := by omega
    generalize hA : rngL P (srt l).length = A at *
    generalize hB : turL P (srt l).length = B at *
    generalize hsh : shR P (srt l).length = S at *
    generalize hs : srt l = s at *
    by_cases h0 : l.length = 0
    · have h0' : (l.length : Int) = 0 := by omega
      have hsz0 : s.length = 0 := by omega
      have hA0 : A.length = 0 := by omega
      have hB0 : B.length = 0 := by omega
      have hl0 : l = [] := List.length_eq_zero_iff.1 h0
      have hw0 : IntKind.i64.wrap 0 = 0 := by decide
      subst hl0
      simp (maxSteps := 4000000) [ac4, ar4, e10, e11, e12, e15, e17, haw, hwP, hA0, hB0, hw0]
    have h0' : ¬ (l.length : Int) = 0 := by omega
    have h0b : ((l.length : Int) == 0) = false := by simpa using h0'
    have hl0 : ¬ l = [] := fun z => h0 (by rw [z]; rfl)
    have hn := hsz h0
    have hfr := hfr hn (by omega)
    have hft := hft hn (by omega)
    have q1 : ((A.length : Int) != s.length) = false := by simp; omega
    have q2 : ((B.length : Int) != A.length) = false := by simp; omega
    simp (maxSteps := 4000000) [ac4, ar4, e10, e11, e12, e15, e17, haw, h0, h0', h0b, hl0, hwP, h1000, hrl, htl]
    refine awpR_loop (α := Nat) (fun i => 1 ≤ i ∧ i ≤ s.length) (fun i => { n := 89, sl := [(0, .sv (.sl 1 (TL l))), (1, .sv (.int .u8 P)), (5, .sv (.sl 1 (LL A))), (6, .sv (.sl 1 (LL B))), (7, .sv (.int .i64 i))], bx := [], hp := fun _ => none })
      (fun i => s.length - i) 1 (by omega) (by simp) ?_
    rintro i ⟨hi0, hi⟩
    by_cases h : i < s.length
    · have hlt : (i : Int) < s.length := by omega
      have hw := wrap_succ h (show s.length < 4611686018427387904 by omega)
      have hiA : i < A.length := by omega
      have hiB : i < B.length := by omega
      have hiA' : (i : Int) < A.length := by omega
      have hiB' : (i : Int) < B.length := by omega
      have hjA : i - 1 < A.length := by omega
      have hjA' : ((i - 1 : Nat) : Int) < A.length := by omega
      have hjs : i - 1 < s.length := by omega
      have hjs' : ((i - 1 : Nat) : Int) < s.length := by omega
      have hw4 : IntKind.i64.wrap ((i : Int) - 1) = ((i - 1 : Nat) : Int) := by rw [IntKind.wrap_i64]; omega
      have hgA := LL_get A hiA
      have hgB := LL_get B hiB
      have hgj := LL_get A hjA
      have hgeA : (LL A)[i]'(by simpa using hiA) = .sl 1 (IL (A.getD i [])) := by rw [← hgA, List.getElem?_eq_getElem]; rfl
      have hgeB : (LL B)[i]'(by simpa using hiB) = .sl 1 (IL (B.getD i [])) := by rw [← hgB, List.getElem?_eq_getElem]; rfl
      have hgej : (LL A)[i - 1]'(by simpa using hjA) = .sl 1 (IL (A.getD (i - 1) [])) := by rw [← hgj, List.getElem?_eq_getElem]; rfl
      have l1 := hra i h
      have l2 := hta i h
      have l3 := hra (i - 1) hjs
      have l4 := hanti (i - 1) i (by omega)
      generalize A.getD i [] = x at *
      generalize B.getD i [] = y at *
      generalize A.getD (i - 1) [] = z at *
      have c1 : ¬ z.length < x.length := by omega
      have c2 : x.length = y.length := by omega
      simp [hlt, h, hrl, htl, hgA, hgB, hgj, hgeA, hgeB, hgej, hw, hw4, hjs, hjs', c1, c2]
      exact ⟨by omega, fun _ => ⟨i + 1, ⟨by omega, by omega⟩, by omega, by omega⟩⟩
    · obtain rfl : i = s.length := by omega
      have hlt : ¬ ((s.length : Nat) : Int) < s.length := by omega
      have hP1 : (P : Int) ≤ 1000 := by omega
      have hP2 : P ≤ 1000 := by omega
      simp (maxSteps := 4000000) [hlt, hrl, e22a, e22b, hfr, hft, hP1, hP2, hwP, e11, haw]
theorem law_order (l : List ByteArray) (m : Int) (hm0 : 0 ≤ m) (hm1 : m < 256) : Pure Try.prog 5 [.sl 1 (TL l), .int .u8 m] (.sv (.bool true)) := by
  have e10 := RsF_10 l
  have e11 := RsF_11
  have e17 := RsF_17 l m
  have e20 := RsF_20 l m
  have e17b := RsF_17 (l.reverse ++ l) m
  have e20b := RsF_20 (l.reverse ++ l) m
  have hsr : srt (l.reverse ++ l) = srt l := srt_ext (fun x => by simp)
  have hof : ∀ k, ofL (l.reverse ++ l) m k = ofL l m k := fun k => by unfold ofL; rw [hsr]
  rw [hsr] at e17b
  simp only [hof] at e20b
  have e14 := RsF_14 (turL (manyP m).toNat (srt l).length) (turL (manyP m).toNat (srt l).length)
  have e19 := fun k => RsF_19 (ofL l m k) (ofL l m k)
  simp only [decide_true] at e14 e19
  have hR := RsF_ok
  have haw := awake19
  have hlo := @lightT_len l
  have hs2 := @small_tur l m
  have hs3 := small_of l m
  have htl := turL_len (manyP m).toNat (srt l).length
  have hsl := srt_len l
  have hwm : IntKind.i64.wrap m = m := by rw [IntKind.wrap_i64]; omega
  generalize turL (manyP m).toNat (srt l).length = B at *
  generalize ofL l m = F at *
  generalize RsF = R at *
  refine pure_go hR Try.func5 Try.ntmps5 comp5 cres5 (by decide) (by simp) ?_
  cases hL : lightT l with
  | false =>
    rw [hL] at e10
    simp (maxSteps := 4000000) [ac5, ar5, e10, e11, haw]
  | true =>
    rw [hL] at e10
    have h40 := hlo hL
    have h1000 : l.length ≤ 1000 := by omega
    by_cases h20 : 20 < (l.length : Int)
    · have h20' : 20 < l.length := by omega
      simp (maxSteps := 4000000) [ac5, ar5, e10, e11, haw, h20, h20']
    have h20' : ¬ 20 < l.length := by omega
    simp (maxSteps := 4000000) [ac5, ar5, e10, e11, haw, h20, h20']
    refine awpR_loop (α := Nat) (fun i => i ≤ l.length) (fun i => { n := 73, sl := [(0, .sv (.sl 1 (TL l))), (1, .sv (.int .u8 m)), (5, .own 1 (TL (l.reverse.take i))), (6, .sv (.int .i64 i))], bx := [], hp := fun _ => none })
      (fun i => l.length - i) 0 (by simp) (by simp [TL]) ?_
    intro i hi
    by_cases h : i < l.length
    · have hlt : (i : Int) < l.length := by omega
      have hw := wrap_succ h (show l.length < 4611686018427387904 by omega)
      have hw2 : IntKind.i64.wrap ((l.length : Int) - 1) = (l.length : Int) - 1 := by rw [IntKind.wrap_i64]; omega
      have hw3 : IntKind.i64.wrap ((l.length : Int) - 1 - i) = ((l.length - 1 - i : Nat) : Int) := by rw [IntKind.wrap_i64]; omega
      have hj : l.length - 1 - i < l.length := by omega
      have hj' : ((l.length - 1 - i : Nat) : Int) < l.length := by omega
      have hg := TL_get l hj
      have hge : (TL l)[l.length - 1 - i]'(by simpa using hj) = .str (l.getD (l.length - 1 - i) ⟨#[]⟩) := by rw [← hg, List.getElem?_eq_getElem]; rfl
      have hsn : l.reverse.take (i + 1) = l.reverse.take i ++ [l.getD (l.length - 1 - i) ⟨#[]⟩] := by
        rw [List.take_succ_eq_append_getElem (by simpa using h), List.getElem_reverse, List.getD_eq_getElem?_getD, List.getElem?_eq_getElem hj]
        rfl
      have hlen : (l.reverse.take i).length = i := by simp; omega
      generalize l.getD (l.length - 1 - i) ⟨#[]⟩ = x at *
      generalize hj0 : l.length - 1 - i = j at *
      generalize hrv : l.reverse.take i = rv at *
      simp [hlt, h, hg, hge, hw, hw2, hw3, hj, hj', hlen]
      exact ⟨by omega, i + 1, by omega, by omega, by rw [hsn, TL_app]; rfl, by omega⟩
    · obtain rfl : i = l.length := by omega
      have hlt : ¬ ((l.length : Nat) : Int) < l.length := by omega
      have htk : l.reverse.take l.length = l.reverse := List.take_of_length_le (by simp)
      have hap := TL_app l.reverse l
      have hT : (TL l.reverse).length = l.length := by simp
      rw [htk]
      generalize hrv : l.reverse ++ l = rv at *
      have hrl : rv.length ≤ 1000 := by rw [← hrv]; simp; omega
      simp (maxSteps := 4000000) [hlt, ← hap]
      refine ⟨by omega, ?_⟩
      refine awpR_loop (α := Nat) (fun i => i ≤ l.length) (fun i => { n := 73, sl := [(0, .sv (.sl 1 (TL l))), (1, .sv (.int .u8 m)), (5, .own 1 (TL rv)), (7, .sv (.int .i64 i))], bx := [], hp := fun _ => none })
        (fun i => l.length - i) 0 (by simp) (by simp) ?_
      intro i hi
      by_cases h : i < l.length
      · have hlt : (i : Int) < l.length := by omega
        have hw := wrap_succ h (show l.length < 4611686018427387904 by omega)
        have hg := TL_get l h
        have hge : (TL l)[i]'(by simpa using h) = .str (l.getD i ⟨#[]⟩) := by rw [← hg, List.getElem?_eq_getElem]; rfl
        generalize l.getD i ⟨#[]⟩ = x at *
        have e20 := e20 x
        have e20b := e20b x
        have e19 := e19 x
        have hs3 := hs3 x h1000
        generalize F x = fx at *
        simp (maxSteps := 4000000) [hlt, h, hg, hge, hw, hwm, e20, e20b, e19, h1000, hrl, hs3]
        exact ⟨i + 1, by omega, by omega, by omega⟩
      · obtain rfl : i = l.length := by omega
        have hlt : ¬ ((l.length : Nat) : Int) < l.length := by omega
        have hB : B.length < 4611686018427387904 := by omega
        simp (maxSteps := 4000000) [hlt, hwm, e17, e17b, e14, e11, haw, h1000, hrl, hB, hs2]
end Go.Proofs.Ytmfkliabjfngmaa

/- Group: Sync. -/


set_option linter.unusedSimpArgs false
set_option linter.unusedVariables false
set_option maxHeartbeats 8000000
namespace Go.Proofs.Ytmfkliabjfngmaa

open Go.Av

noncomputable def RgIp (f : FuncId) (l : List SV) : Option (Prop × LV) :=
  match f with
  | 59 => row eBeat (fun p => ((p.2.2.2.2 = 53 ∨ p.2.2.2.2 = 60 ∨ p.2.2.2.2 = 61) ∧ p.1.ms.length ≤ 1000, .tup [.sv (beatG (seenF p.2.2.2.2) p.1 p.2.1 p.2.2.1 p.2.2.2.1).1.sv, .sv (.int .i64 (beatG (seenF p.2.2.2.2) p.1 p.2.1 p.2.2.1 p.2.2.2.1).2)])) l
  | 35 => row (fun g : Grp => [g.sv]) (fun g => (g.ms.length ≤ 1000, .own 1 (TL (namesP g.ms)))) l
  | 78 => row (fun g : Grp => [g.sv]) (fun g => (g.ms.length ≤ 1000, .own 1 (TL (namesP g.ms)))) l
  | 77 => row (fun g : Grp => [g.sv]) (fun g => (g.ms.length < 4611686018427387904, .sv (.bool (synP g.ms)))) l
  | 20 => row eTIS (fun p => (p.1.length ≤ 1000, .sv (.sl 1 (IL (ofL p.1 p.2.1 p.2.2))))) l
  | 21 => row eTIS (fun p => (p.1.length ≤ 1000, .sv (.sl 1 (IL (ofL p.1 p.2.1 p.2.2))))) l
  | 71 => row eGS (fun p => (p.1.ms.length < 4611686018427387904, .sv (.int .i64 (placeP p.2 p.1.ms)))) l
  | _ => none
noncomputable def RgI : Orc := { p := RgIp, fv := fun f => f == 53 || f == 60 || f == 61 }
theorem RgI_ok : RgI.ok Try.prog := by
  refine ⟨fun f l c rv h hc => ?_, fun _ _ _ _ _ _ h => (by cases h), fun _ _ _ _ h => (by cases h), fun f h => ?_, fun _ _ _ _ _ _ h => (by cases h), fun _ _ _ _ _ _ _ h => (by cases h)⟩
  · change RgIp f l = _ at h
    unfold RgIp at h
    split at h
    · exact row_ok h hc (fun x hp => beat_pure x.2.2.2.2 hp.1 x.1 x.2.1 x.2.2.1 x.2.2.2.1 hp.2)
    · exact row_ok h hc (fun x hp => names_pure x hp)
    · exact row_ok h hc (fun x hp => rnames_pure x hp)
    · exact row_ok h hc (fun x hp => synced_pure x hp)
    · exact row_ok h hc (fun x hp => of_pure x.1 x.2.1 x.2.2 hp)
    · exact row_ok h hc (fun x hp => rof_pure x.1 x.2.1 x.2.2 hp)
    · exact row_ok h hc (fun x hp => rplace_pure x.1 x.2 hp)
    · cases h
  · simp only [RgI, Bool.or_eq_true, beq_iff_eq] at h
    rcases h with (rfl | rfl) | rfl
    · exact ok53
    · exact ok60
    · exact ok61
theorem RgI_59 (g : Grp) (id : ByteArray) (gen now : Int) (F : Nat) : RgI.p 59 [.agg [.int .i64 g.ge, .int .u8 g.ph, .sl 3 (ML g.ms)], .str id, .int .i64 gen, .int .i64 now, .fn F [] []] = some ((F = 53 ∨ F = 60 ∨ F = 61) ∧ g.ms.length ≤ 1000, .tup [.sv (beatG (seenF F) g id gen now).1.sv, .sv (.int .i64 (beatG (seenF F) g id gen now).2)]) := row_eq eBeat_inj _ (g, id, gen, now, F)
theorem RgI_35 (g : Grp) : RgI.p 35 [.agg [.int .i64 g.ge, .int .u8 g.ph, .sl 3 (ML g.ms)]] = some (g.ms.length ≤ 1000, .own 1 (TL (namesP g.ms))) := row_eq (enc := fun g : Grp => [g.sv]) eG_inj _ g
theorem RgI_78 (g : Grp) : RgI.p 78 [.agg [.int .i64 g.ge, .int .u8 g.ph, .sl 3 (ML g.ms)]] = some (g.ms.length ≤ 1000, .own 1 (TL (namesP g.ms))) := row_eq (enc := fun g : Grp => [g.sv]) eG_inj _ g
theorem RgI_77 (g : Grp) : RgI.p 77 [.agg [.int .i64 g.ge, .int .u8 g.ph, .sl 3 (ML g.ms)]] = some (g.ms.length < 4611686018427387904, .sv (.bool (synP g.ms))) := row_eq (enc := fun g : Grp => [g.sv]) eG_inj _ g
theorem RgI_20 (l : List ByteArray) (p : Int) (k : ByteArray) : RgI.p 20 [.sl 1 (TL l), .int .i64 p, .str k] = some (l.length ≤ 1000, .sv (.sl 1 (IL (ofL l p k)))) := row_eq eTIS_inj _ (l, p, k)
theorem RgI_21 (l : List ByteArray) (p : Int) (k : ByteArray) : RgI.p 21 [.sl 1 (TL l), .int .i64 p, .str k] = some (l.length ≤ 1000, .sv (.sl 1 (IL (ofL l p k)))) := row_eq eTIS_inj _ (l, p, k)
theorem RgI_71 (g : Grp) (s : ByteArray) : RgI.p 71 [.agg [.int .i64 g.ge, .int .u8 g.ph, .sl 3 (ML g.ms)], .str s] = some (g.ms.length < 4611686018427387904, .sv (.int .i64 (placeP s g.ms))) := row_eq eGS_inj _ (g, s)
/-- What Sync answers. -/
def syncG (g : Grp) (id : ByteArray) (gen parts now : Int) : Grp × List Int × Int :=
  if (beatG true g id gen now).2 ≠ 0 then (grp0, [], (beatG true g id gen now).2) else ((beatG true g id gen now).1, ofL (namesP (beatG true g id gen now).1.ms) parts id, 0)
theorem beatG_len (s : Bool) (g : Grp) (id : ByteArray) (gen now : Int) : (beatG s g id gen now).1.ms.length ≤ g.ms.length := by
  unfold beatG
  split <;> try split <;> try split <;> try split
  all_goals simp [grp0, seenG]
theorem IL_nil : IL [] = [] := rfl
theorem sync_pure (g : Grp) (id : ByteArray) (gen parts now : Int) (hl : g.ms.length ≤ 1000) : Pure Try.prog 30 [g.sv, .str id, .int .i64 gen, .int .i64 parts, .int .i64 now] (.tup [.sv (syncG g id gen parts now).1.sv, .sv (.sl 1 (IL (syncG g id gen parts now).2.1)), .sv (.int .i64 (syncG g id gen parts now).2.2)]) := by
  have e59 := RgI_59 g id gen now 60
  have hbl := beatG_len true g id gen now
  have e35 := RgI_35 (beatG true g id gen now).1
  have e20 := RgI_20 (namesP (beatG true g id gen now).1.ms) parts id
  have hR := RgI_ok
  have hnf : RgI.nofz = false := rfl
  have hfv : RgI.fv 60 = true := rfl
  generalize RgI = R at hR e59 hnf hfv e35 e20
  refine pure_go hR Try.func30 Try.ntmps30 comp30 cres30 (by decide) (by simp) ?_
  have hs : seenF 60 = true := rfl
  rw [hs] at e59
  generalize hv : syncG g id gen parts now = V
  unfold syncG at hv
  generalize beatG true g id gen now = B at e59 hv hbl e35 e20 ⊢
  obtain ⟨⟨a', b', l'⟩, n⟩ := B
  obtain ⟨a, b, l⟩ := g
  simp only at *
  have hl' : l'.length ≤ 1000 := by omega
  have hnl : (namesP l').length ≤ 1000 := by simp [namesP]; exact hl'
  simp [Grp.sv, Grp.cells] at e59
  by_cases hn : n = 0
  · subst hn
    rw [if_neg (by simp)] at hv
    subst hv
    simp [ac30, ar30, Grp.sv, Grp.cells, e59, hnf, hfv, hl, hl', e35, e20, hnl]
  · have hn2 : (n == 0) = false := by simpa using hn
    rw [if_pos hn] at hv
    subst hv
    simp [ac30, ar30, Grp.sv, Grp.cells, grp0, ML_nil, IL_nil, e59, hnf, hfv, hl, hn, hn2, bne]
end Go.Proofs.Ytmfkliabjfngmaa

/- Group: the document's Sync. -/

set_option linter.unusedSimpArgs false
set_option linter.unusedVariables false
set_option maxHeartbeats 8000000
namespace Go.Proofs.Ytmfkliabjfngmaa

open Go.Av

theorem idx_ids (s : ByteArray) : ∀ (l m : List Mb) (k : Nat), l.map Mb.id = m.map Mb.id → idxM (fun x => decide (x.id = s)) l k = idxM (fun x => decide (x.id = s)) m k
  | [], [], _, _ => rfl
  | [], _ :: _, _, h => by simp at h
  | _ :: _, [], _, h => by simp at h
  | a :: l, b :: m, k, h => by
    simp only [List.map_cons, List.cons.injEq] at h
    simp only [idxM, h.1]
    rw [idx_ids s l m (k + 1) h.2]
theorem ids_set (l : List Mb) (i : Nat) (m : Mb) (h : m.id = (l.getD i mb0).id) (hi : i < l.length) : (l.set i m).map Mb.id = l.map Mb.id := by
  rw [List.map_set, h]
  refine List.ext_getElem (by simp) fun j h1 h2 => ?_
  rw [List.getElem_set]
  split
  · rename_i q; subst q
    simp [List.getD_eq_getElem?_getD, List.getElem?_eq_getElem hi]
  · rfl
noncomputable def RgJp (f : FuncId) (l : List SV) : Option (Prop × LV) :=
  match f with
  | 46 => row (fun p : Grp × ByteArray × Int × Int => [p.1.sv, .str p.2.1, .int .i64 p.2.2.1, .int .i64 p.2.2.2]) (fun p => (p.1.ms.length ≤ 1000 ∧ 0 ≤ p.1.ph, .tup [.sv (rbeatG p.1 p.2.1 p.2.2.1 p.2.2.2).1.sv, .sv (.int .i64 (rbeatG p.1 p.2.1 p.2.2.1 p.2.2.2).2)])) l
  | 75 => row eWith (fun p => (0 ≤ p.2.1 ∧ p.2.1 < p.1.ms.length ∧ p.1.ms.length ≤ 1000, .sv (Grp.sv ⟨p.1.ge, p.1.ph, p.1.ms.set p.2.1.toNat p.2.2⟩))) l
  | 71 => RgIp 71 l
  | 77 => RgIp 77 l
  | 78 => RgIp 78 l
  | 21 => RgIp 21 l
  | _ => none
noncomputable def RgJ : Orc := { p := RgJp }
theorem RgJ_ok : RgJ.ok Try.prog := by
  refine ⟨fun f l c rv h hc => ?_, fun _ _ _ _ _ _ h => (by cases h), fun _ _ _ _ h => (by cases h), fun f h => (by cases h), fun _ _ _ _ _ _ h => (by cases h), fun _ _ _ _ _ _ _ h => (by cases h)⟩
  change RgJp f l = _ at h
  unfold RgJp at h
  split at h
  · exact row_ok h hc (fun x hp => rbeat46 x.1 x.2.1 x.2.2.1 x.2.2.2 hp.1 hp.2)
  · refine row_ok h hc (fun x hp => ?_)
    obtain ⟨g, i, m⟩ := x
    obtain ⟨h2, h3, h4⟩ := hp
    simp only at h2 h3 h4
    have e : ((i.toNat : Nat) : Int) = i := Int.toNat_of_nonneg h2
    have := with_pure g i.toNat (by omega) h4 m
    rw [e] at this; exact this
  · exact RgI_ok.p 71 l c rv h hc
  · exact RgI_ok.p 77 l c rv h hc
  · exact RgI_ok.p 78 l c rv h hc
  · exact RgI_ok.p 21 l c rv h hc
  · cases h
theorem RgJ_46 (g : Grp) (id : ByteArray) (gen now : Int) : RgJ.p 46 [.agg [.int .i64 g.ge, .int .u8 g.ph, .sl 3 (ML g.ms)], .str id, .int .i64 gen, .int .i64 now] = some (g.ms.length ≤ 1000 ∧ 0 ≤ g.ph, .tup [.sv (rbeatG g id gen now).1.sv, .sv (.int .i64 (rbeatG g id gen now).2)]) :=
  row_eq (enc := fun p : Grp × ByteArray × Int × Int => [p.1.sv, .str p.2.1, .int .i64 p.2.2.1, .int .i64 p.2.2.2]) (fun a b h => by simp at h; exact Prod.ext (Grp.sv_inj _ _ h.1) (Prod.ext h.2.1 (Prod.ext h.2.2.1 h.2.2.2))) _ (g, id, gen, now)
theorem RgJ_75 (g : Grp) (i : Int) (m : Mb) : RgJ.p 75 [.agg [.int .i64 g.ge, .int .u8 g.ph, .sl 3 (ML g.ms)], .int .i64 i, .agg [.str m.id, .int .i64 m.sn, .bool m.sy]] = some (0 ≤ i ∧ i < g.ms.length ∧ g.ms.length ≤ 1000, .sv (Grp.sv ⟨g.ge, g.ph, g.ms.set i.toNat m⟩)) := row_eq eWith_inj _ (g, i, m)
end Go.Proofs.Ytmfkliabjfngmaa

/- Group: the document's Sync as a contract. -/

set_option linter.unusedSimpArgs false
set_option linter.unusedVariables false
set_option maxHeartbeats 8000000
namespace Go.Proofs.Ytmfkliabjfngmaa

open Go.Av

/-- The member at a place, synced. -/
def onM (l : List Mb) (i : Nat) : List Mb := l.set i ⟨(l.getD i mb0).id, (l.getD i mb0).sn, true⟩
def rsyncG (g : Grp) (id : ByteArray) (gen parts now : Int) : Grp × List Int × Int :=
  if (rbeatG g id gen now).2 ≠ 0 then (g, [], (rbeatG g id gen now).2)
  else (⟨(rbeatG g id gen now).1.ge, if synP (onM (rbeatG g id gen now).1.ms (placeP id (rbeatG g id gen now).1.ms).toNat) = true then 2 else (rbeatG g id gen now).1.ph, onM (rbeatG g id gen now).1.ms (placeP id (rbeatG g id gen now).1.ms).toNat⟩, ofL (namesP (onM (rbeatG g id gen now).1.ms (placeP id (rbeatG g id gen now).1.ms).toNat)) parts id, 0)
theorem rbeat_place (g : Grp) (id : ByteArray) (gen now : Int) : (rbeatG g id gen now).1.ms.length = g.ms.length ∧ ((rbeatG g id gen now).2 = 0 → 0 ≤ placeP id (rbeatG g id gen now).1.ms) := by
  unfold rbeatG
  split
  · exact ⟨rfl, fun h => by simp at h⟩
  split
  · exact ⟨rfl, fun h => by simp at h⟩
  split
  · exact ⟨rfl, fun h => by simp at h⟩
  split
  · exact ⟨rfl, fun h => by simp at h⟩
  rename_i h1 h2 h3 h4
  refine ⟨by simp, fun _ => ?_⟩
  have hp := place_range id g.ms
  have hi : (placeP id g.ms).toNat < g.ms.length := by omega
  have : placeP id (g.ms.set (placeP id g.ms).toNat ⟨(g.ms.getD (placeP id g.ms).toNat mb0).id, max (g.ms.getD (placeP id g.ms).toNat mb0).sn now, (g.ms.getD (placeP id g.ms).toNat mb0).sy⟩) = placeP id g.ms :=
    idx_ids id _ _ 0 (ids_set g.ms _ _ rfl hi)
  simp only
  rw [this]
  omega
theorem rsync_pure (g : Grp) (id : ByteArray) (gen parts now : Int) (hl : g.ms.length ≤ 1000) (hph : 0 ≤ g.ph) : Pure Try.prog 45 [g.sv, .str id, .int .i64 gen, .int .i64 parts, .int .i64 now] (.tup [.sv (rsyncG g id gen parts now).1.sv, .sv (.sl 1 (IL (rsyncG g id gen parts now).2.1)), .sv (.int .i64 (rsyncG g id gen parts now).2.2)]) := by
  have e46 := RgJ_46 g id gen now
  obtain ⟨hbl, hbp⟩ := rbeat_place g id gen now
  have e75 := fun i m => RgJ_75 (rbeatG g id gen now).1 i m
  have e71 : RgJ.p 71 _ = _ := RgI_71 (rbeatG g id gen now).1 id
  have e77 : ∀ X : Grp, RgJ.p 77 _ = _ := fun X => RgI_77 X
  have e78 : ∀ X : Grp, RgJ.p 78 _ = _ := fun X => RgI_78 X
  have e21 : ∀ X : List ByteArray, RgJ.p 21 _ = _ := fun X => RgI_21 X parts id
  have hR := RgJ_ok
  have hnf : RgJ.nofz = false := rfl
  generalize RgJ = R at hR e46 hnf e75 e71 e77 e78 e21
  refine pure_go hR Try.func45 Try.ntmps45 comp45 cres45 (by decide) (by simp) ?_
  generalize hv : rsyncG g id gen parts now = V
  unfold rsyncG at hv
  generalize rbeatG g id gen now = B at e46 hv hbl hbp e75 e71 ⊢
  obtain ⟨⟨a', b', l'⟩, n⟩ := B
  obtain ⟨a, b, l⟩ := g
  simp only at *
  have hl' : l'.length ≤ 1000 := by omega
  simp [Grp.sv, Grp.cells] at e46
  by_cases hn : n = 0
  · subst hn
    rw [if_neg (by simp)] at hv
    have hpr := place_range id l'
    have hp0 := hbp rfl
    obtain ⟨i, hi⟩ : ∃ i : Nat, placeP id l' = i := ⟨(placeP id l').toNat, by omega⟩
    rw [hi] at hpr hp0 e71 hv
    have h : i < l'.length := by omega
    have hti : ((i : Nat) : Int).toNat = i := by omega
    rw [hti] at hv
    have hg := ML_get l' h
    have hiA : i < (ML l').length := by simpa using h
    have hg2 : (ML l')[i] = (l'.getD i mb0).sv := by rw [← hg, List.getElem?_eq_getElem hiA]; rfl
    have e75i := e75 i ⟨(l'.getD i mb0).id, (l'.getD i mb0).sn, true⟩
    rw [hti] at e75i
    have hol : (onM l' i).length = l'.length := by simp [onM]
    change R.p 75 _ = some (_, .sv (Grp.sv ⟨a', b', onM l' i⟩)) at e75i
    generalize onM l' i = y at *
    generalize l'.getD i mb0 = r at *
    have e77y := e77 ⟨a', b', y⟩
    have e78a := e78 ⟨a', 2, y⟩
    have e78b := e78 ⟨a', b', y⟩
    have e21y := e21 (namesP y)
    have hnl : (namesP y).length ≤ 1000 := by simp [namesP]; omega
    have hy4 : y.length < 4611686018427387904 := by omega
    have hy3 : y.length ≤ 1000 := by omega
    have hl4 : l'.length < 4611686018427387904 := by omega
    simp only at e77y e78a e78b
    cases hs : synP y with
    | true =>
      rw [hs] at e77y hv
      rw [if_pos rfl] at hv
      subst hv
      simp [ac45, ar45, Grp.sv, Grp.cells, Mb.sv, Mb.cells, e46, hnf, hl, hph, hl', e71, hg, hg2, h, hpr, e75i, e77y, e78a, e21y, hnl, hy4, hy3, hl4]
    | false =>
      rw [hs] at e77y hv
      rw [if_neg (by simp)] at hv
      subst hv
      simp [ac45, ar45, Grp.sv, Grp.cells, Mb.sv, Mb.cells, e46, hnf, hl, hph, hl', e71, hg, hg2, h, hpr, e75i, e77y, e78b, e21y, hnl, hy4, hy3, hl4]
  · have hn2 : (n == 0) = false := by simpa using hn
    rw [if_pos hn] at hv
    subst hv
    simp [ac45, ar45, Grp.sv, Grp.cells, ML_nil, IL_nil, e46, hnf, hl, hph, hn, hn2, bne]
end Go.Proofs.Ytmfkliabjfngmaa

/- Group: the document's Join. -/


set_option linter.unusedSimpArgs false
set_option linter.unusedVariables false
set_option maxHeartbeats 8000000
namespace Go.Proofs.Ytmfkliabjfngmaa

open Go.Av

/-- How many members at the beginning have lesser names. -/
def posM (s : ByteArray) : List Mb → Nat
  | [] => 0
  | m :: l => if lts m.id s = true then posM s l + 1 else 0
theorem posM_le (s : ByteArray) : ∀ l, posM s l ≤ l.length
  | [] => Nat.le_refl _
  | m :: l => by
    have := posM_le s l
    simp only [posM, List.length_cons]
    split <;> omega
theorem posM_lt (s : ByteArray) : ∀ (l : List Mb) (i : Nat), i < posM s l → lts (l.getD i mb0).id s = true
  | [], _, h => by simp [posM] at h
  | m :: l, i, h => by
    simp only [posM] at h
    split at h
    · rename_i q
      cases i with
      | zero => exact q
      | succ i => simpa using posM_lt s l i (by omega)
    · omega
theorem posM_at (s : ByteArray) : ∀ (l : List Mb), posM s l < l.length → lts (l.getD (posM s l) mb0).id s = false
  | [], h => by simp [posM] at h
  | m :: l, h => by
    by_cases q : lts m.id s = true
    · have e : posM s (m :: l) = posM s l + 1 := by simp [posM, q]
      rw [e] at h ⊢
      have := posM_at s l (by simpa using h)
      simpa using this
    · have e : posM s (m :: l) = 0 := by simp [posM, q]
      rw [e]
      simpa using q
def rjoinG (g : Grp) (id : ByteArray) (now : Int) : Grp × Int :=
  if chkG g ≠ 0 then (g, 4) else if nameB id = false then (g, 6) else if timeB now = false then (g, 11)
  else if 0 ≤ placeP id g.ms then (⟨g.ge, g.ph, g.ms.set (placeP id g.ms).toNat ⟨(g.ms.getD (placeP id g.ms).toNat mb0).id, max (g.ms.getD (placeP id g.ms).toNat mb0).sn now, (g.ms.getD (placeP id g.ms).toNat mb0).sy⟩⟩, 0)
  else if 16 ≤ g.ms.length then (g, 9) else if 1099511627776 ≤ g.ge then (g, 11) else (turnG g (insM g.ms (posM id g.ms) ⟨id, now, false⟩), 0)
theorem rjoin44 (g : Grp) (id : ByteArray) (now : Int) (hl : g.ms.length ≤ 1000) (hph : 0 ≤ g.ph) : Pure Try.prog 44 [g.sv, .str id, .int .i64 now] (.tup [.sv (rjoinG g id now).1.sv, .sv (.int .i64 (rjoinG g id now).2)]) := by
  have e72 := RgG_72 g
  have e71 := RgG_71 g id
  have e73 := RgG_73 id
  have e74 := RgG_74 now
  have e75 := fun m => RgG_75 g (placeP id g.ms) m
  have e76 := RgG_76 g (insM g.ms (posM id g.ms) ⟨id, now, false⟩)
  have hR := RgG_ok
  have hnf := RgG_nofz
  generalize RgG = R at hR e72 e71 e73 e74 e75 e76 hnf
  have hpr := place_range id g.ms
  refine pure_go hR Try.func44 Try.ntmps44 comp44 cres44 (by decide) (by simp) ?_
  have hl4 : g.ms.length < 4611686018427387904 := by omega
  generalize hv : rjoinG g id now = V
  unfold rjoinG at hv
  obtain ⟨a, b, l⟩ := g
  simp only at *
  rcases chk_or ⟨a, b, l⟩ with h1 | h1
  · rw [h1] at e72 hv
    rw [if_neg (by simp)] at hv
    cases hn : nameB id with
    | false =>
      rw [hn, if_pos rfl] at hv
      rw [hn] at e73
      subst hv
      simp [ac44, ar44, Grp.sv, Grp.cells, e72, e71, e73, hl4, hph, hnf]
    | true =>
    rw [hn, if_neg (by simp)] at hv
    rw [hn] at e73
    cases ht : timeB now with
    | false =>
      rw [ht, if_pos rfl] at hv
      rw [ht] at e74
      subst hv
      simp [ac44, ar44, Grp.sv, Grp.cells, e72, e71, e73, e74, hl4, hph, hnf]
    | true =>
      rw [ht, if_neg (by simp)] at hv
      rw [ht] at e74
      by_cases hp : 0 ≤ placeP id l
      · rw [if_pos hp] at hv
        obtain ⟨i, hi⟩ : ∃ i : Nat, placeP id l = i := ⟨(placeP id l).toNat, by omega⟩
        rw [hi] at hpr hp e71 e75 hv
        have h : i < l.length := by omega
        have hti : ((i : Nat) : Int).toNat = i := by omega
        rw [hti] at hv
        simp only [hti] at e75
        have hgl := ML_get l h
        have hiA : i < (ML l).length := by simpa using h
        have hg2 : (ML l)[i] = (l.getD i mb0).sv := by rw [← hgl, List.getElem?_eq_getElem hiA]; rfl
        have h0 : ¬ (i : Int) < 0 := by omega
        generalize l.getD i mb0 = r at *
        have e75m := e75 ⟨r.id, max r.sn now, r.sy⟩
        subst hv
        have hmx : (if r.sn < now then now else r.sn) = max r.sn now := by split <;> omega
        have hmx2 : (if r.sn ≤ now then now else r.sn) = max r.sn now := by split <;> omega
        have hmx3 : (if now > r.sn then now else r.sn) = max r.sn now := by split <;> omega
        simp [ac44, ar44, Grp.sv, Grp.cells, Mb.sv, Mb.cells, e72, e71, e73, e74, e75m, hl4, hl, hph, hnf, hp, hgl, hg2, h, h0, hpr, hmx, hmx2, hmx3]
      · rw [if_neg hp] at hv
        by_cases hf : 16 ≤ l.length
        · rw [if_pos hf] at hv
          have hf2 : (16 : Int) ≤ (l.length : Int) := by omega
          subst hv
          simp [ac44, ar44, Grp.sv, Grp.cells, e72, e71, e73, e74, hl4, hph, hnf, hp, hf, hf2]
        · rw [if_neg hf] at hv
          have hf2 : ¬ (16 : Int) ≤ (l.length : Int) := by omega
          by_cases hg : 1099511627776 ≤ a
          · rw [if_pos hg] at hv
            subst hv
            simp [ac44, ar44, Grp.sv, Grp.cells, e72, e71, e73, e74, hl4, hph, hnf, hp, hf, hf2, hg]
          · rw [if_neg hg] at hv
            have hA := posM_lt id l
            have hB := posM_at id l
            have hple := posM_le id l
            generalize posM id l = q at *
            simp [ac44, ar44, Grp.sv, Grp.cells, e72, e71, e73, e74, hl4, hph, hnf, hp, hf, hf2, hg]
            refine awpR_loop (α := Nat) (fun i => i ≤ q) (fun i => { n := 94, sl := [(10, .sv (.int .i64 i)), (6, .lptr 6 0), (3, .lptr 3 0), (1, .sv (.str id)), (2, .sv (.int .i64 now))], bx := [(6, [.sv (.int .i64 0), .sv (.int .u8 0), .sv .nils]), (3, [.sv (.int .i64 a), .sv (.int .u8 b), .sv (.sl 3 (ML l))])], hp := fun _ => none })
              (fun i => q - i) 0 (by omega) (by simp) ?_
            intro i hi
            have hlen : ∀ (x y : ByteArray), Op.bytesLess x.toList y.toList = lts x y := fun _ _ => rfl
            by_cases h : i < l.length
            · have h1' : (i : Int) < l.length := by omega
              have hw := wrap_succ h hl4
              have hg1 := ML_get l h
              have hiA : i < (ML l).length := by simpa using h
              have hg2 : (ML l)[i] = (l.getD i mb0).sv := by rw [← hg1, List.getElem?_eq_getElem hiA]; rfl
              by_cases hiq : i < q
              · have hlt := hA i hiq
                generalize l.getD i mb0 = r at *
                simp [h1', hg1, hg2, h, Mb.sv, Mb.cells, hw, hlen, hlt]
                exact ⟨i + 1, by omega, by omega, by omega⟩
              · obtain rfl : i = q := by omega
                have hlt := hB h
                have htl : i ≤ l.length := by omega
                have htk : List.take (l.length - i) (List.drop i (ML l)) = List.drop i (ML l) := List.take_of_length_le (by simp)
                have hins : (insM l i ⟨id, now, false⟩).length ≤ 1000 := by rw [insM_length l i _ htl]; omega
                have hml : ML (insM l i ⟨id, now, false⟩) = (ML l).take i ++ (.agg [.str id, .int .i64 now, .bool false]) :: (ML l).drop i := by rw [insM, ML_app, ML_take]; simp [ML, Mb.sv, Mb.cells]
                rw [hml] at e76
                generalize turnG ⟨a, b, l⟩ (insM l i ⟨id, now, false⟩) = W at e76 hv
                subst hv
                generalize l.getD i mb0 = r at *
                simp [h1', hg1, hg2, h, Mb.sv, Mb.cells, Grp.sv, Grp.cells, hw, hlen, hlt, htl, htk, hins, e76, hl4]
                omega
            · obtain rfl : i = q := by omega
              obtain rfl : i = l.length := by omega
              have h1' : ¬ (l.length : Int) < l.length := by omega
              have hins : (insM l l.length ⟨id, now, false⟩).length ≤ 1000 := by rw [insM_length l l.length _ (Nat.le_refl _)]; omega
              have hml : ML (insM l l.length ⟨id, now, false⟩) = ML l ++ [.agg [.str id, .int .i64 now, .bool false]] := by rw [insM_end, ML_app]; rfl
              rw [hml] at e76
              generalize turnG ⟨a, b, l⟩ (insM l l.length ⟨id, now, false⟩) = W at e76 hv
              subst hv
              have htA : (ML l).take l.length = ML l := List.take_of_length_le (by simp)
              simp [h1', htA, Grp.sv, Grp.cells, hins, e76, hl4]
              omega
  · rw [h1] at e72 hv
    rw [if_pos (by simp)] at hv
    subst hv
    simp [ac44, ar44, Grp.sv, Grp.cells, e72, e71, hl4, hph, hnf]
end Go.Proofs.Ytmfkliabjfngmaa
