import Derived.Test.YtmfkliabjfngmaaMGaG

set_option linter.unusedVariables false
set_option linter.unusedSimpArgs false

/- Assign: in turns; the document's. -/

set_option linter.unusedSimpArgs false
set_option linter.unusedVariables false
set_option maxHeartbeats 8000000
namespace Go.Proofs.Ytmfkliabjfngmaa

open Go.Av

def turR (n P k : Nat) : List Int := ((List.range P).filter fun x => decide (x % n = k)).map fun (x : Nat) => (x : Int)
def turL (P n : Nat) : List (List Int) := (List.range n).map (turR n P)
theorem turR_succ (n p k : Nat) : turR n (p + 1) k = turR n p k ++ if p % n = k then [(p : Int)] else [] := by
  unfold turR
  rw [List.range_succ, List.filter_append, List.map_append]
  congr 1
  by_cases h : p % n = k <;> simp [h]
theorem turR_len (n P k : Nat) : (turR n P k).length ≤ P := by
  unfold turR
  rw [List.length_map]
  exact Nat.le_trans (List.length_filter_le _ _) (by simp)
theorem turns_pure (l : List ByteArray) (p : Int) (hl : l.length ≤ 1000) : Pure Try.prog 17 [.sl 1 (TL l), .int .i64 p] (.sv (.sl 1 (LL (turL (manyP p).toNat (srt l).length)))) := by
  have e12 := RsD_12 11 l
  have e40 := RsD_40 11 p
  have hR := RsD_ok 11
  have harr : (RsD 11).arr = fun x => x == 11 := rfl
  have hnofz : (RsD 11).nofz = false := rfl
  generalize RsD 11 = R at *
  refine pure_goF 11 hR Try.func17 Try.ntmps17 comp17 cres17 (by decide) (by simp) ?_
  have hsl := srt_len l
  obtain ⟨n, hn⟩ : ∃ n, n = (srt l).length := ⟨_, rfl⟩
  obtain ⟨hP0, hP1⟩ := manyP_le p
  obtain ⟨P, hP⟩ : ∃ P : Nat, manyP p = P := ⟨(manyP p).toNat, by omega⟩
  rw [hP] at e40
  rw [hP, Int.toNat_natCast, ← hn]
  have hb1 : (n : Int) * 24 ≤ 281474976710656 := by omega
  have hb2 : (n : Int) ≤ 9223372036854775807 := by omega
  by_cases h0 : n = 0
  · have h0' : (n : Int) = 0 := by omega
    rw [h0] at hn hb1 hb2 ⊢
    simp [ac17, ar17, e12, hl, harr, ← hn, hb1, hb2, turL, LL, e40]
  have h0' : ¬ (n : Int) = 0 := by omega
  have h0b : ((n : Int) == 0) = false := by simpa using h0'
  simp [ac17, ar17, e12, hl, harr, ← hn, hb1, hb2, h0', h0, h0b, e40]
  refine awpR_loop (α := Nat × (Nat → List Int)) (fun q => q.1 ≤ P ∧ ∀ i, i < n → q.2 i = turR n q.1 i) (fun q => { n := 37, sl := [(0, .sv (.sl 1 (TL l))), (1, .sv (.int .i64 p)), (5, .lsl 11 1 0 n n), (17, .sv (.int .i64 P)), (18, .sv (.int .i64 q.1))], bx := [(11, cellsF q.2 n)], hp := fun _ => none })
    (fun q => P - q.1) (0, fun _ => []) ⟨by simp, by simp [turR]⟩ (by simp; exact cellsF_nils n _ (fun _ => rfl)) ?_
  rintro ⟨k, f⟩ ⟨hk, hf⟩
  simp only at hk hf
  by_cases h : k < P
  · have hlt : (k : Int) < P := by omega
    have hw := wrap_succ h (show P < 4611686018427387904 by omega)
    obtain ⟨c, hc⟩ : ∃ c, c = k % n := ⟨_, rfl⟩
    have hcn : c < n := by rw [hc]; exact Nat.mod_lt _ (by omega)
    have hcn' : (c : Int) < n := by omega
    have hrem : (k : Int).tmod n = c := by rw [Int.tmod_eq_emod_of_nonneg (by omega), hc]; rfl
    have hget := cellsF_get f hcn
    have hgee : (cellsF f n)[c]'(by simpa using hcn) = .own 1 (IL (f c)) := by rw [← hget, List.getElem?_eq_getElem]; rfl
    have hset := cellsF_set f (fun i => turR n (k + 1) i) (n := n) (k := c) (x := IL (f c) ++ [.int .i64 (k : Int)]) (by
      rw [turR_succ, if_pos hc.symm, hf c hcn, IL_app]; rfl) (fun i hi hne => by
      rw [turR_succ, if_neg (fun z => hne (by omega)), hf i hi, List.append_nil])
    have hlen : (f c).length ≤ k := by rw [hf c hcn]; exact turR_len n k c
    simp [-Bool.exists_bool, hlt, h, hrem, hcn, hcn', hget, hgee, hset, hw, h0, h0']
    exact ⟨by omega, k + 1, _, ⟨by omega, fun i hi => rfl⟩, by omega, by omega, WkRs_refl _⟩
  · obtain rfl : k = P := by omega
    have hlt : ¬ ((k : Nat) : Int) < k := by omega
    have hsh := cellsF_share f n
    have hfr : (List.range n).map f = turL k n := by
      unfold turL
      refine List.map_congr_left fun i hi => ?_
      exact hf i (List.mem_range.1 hi)
    rw [hfr] at hsh
    have hlr : (turL k n).length = n := by simp [turL]
    have htk : List.take n (LL (turL k n)) = LL (turL k n) := List.take_of_length_le (by simp [hlr])
    simp [-Bool.exists_bool, hlt, hsh, hlr, htk]
    intro x hx
    exact List.all_eq_true.1 (LL_cell _) x hx

/-! ### the document's -/
theorem fromL_upto (e : Int) : ∀ (m a : Nat), (a + m : Int) ≤ e → fromL 1 e m a = upto a m
  | 0, a, _ => by simp [fromL, upto]
  | m + 1, a, h => by
    rw [fromL, if_pos (by omega)]
    have ih := fromL_upto e m (a + 1) (by omega)
    rw [show ((a : Int) + 1) = ((a + 1 : Nat) : Int) by omega, ih]
    simp only [upto]
    rw [List.range_succ_eq_map]
    simp only [List.map_cons, List.map_map, Nat.add_zero]
    congr 1
    refine List.map_congr_left fun i _ => ?_
    simp only [Function.comp]
    congr 1
    omega
theorem fromL_tur (n P : Nat) (hn : 0 < n) : ∀ (m k : Nat), P ≤ k + m → fromL n P m k = ((List.range' k (P - k)).filter fun x => decide (x % n = k % n)).map fun (x : Nat) => (x : Int)
  | 0, k, h => by
    have : P - k = 0 := by omega
    simp [fromL, this]
  | m + 1, k, h => by
    rw [fromL]
    by_cases q : k < P
    · rw [if_pos (by omega)]
      have ih := fromL_tur n P hn m (k + n) (by omega)
      rw [show ((k : Int) + n) = ((k + n : Nat) : Int) by omega, ih]
      simp only [Nat.add_mod_right]
      have hsplit : List.range' k (P - k) = k :: (List.range' (k + 1) (min (n - 1) (P - k - 1)) ++ List.range' (k + n) (P - (k + n))) := by
        have e1 : P - k = (P - k - 1) + 1 := by omega
        conv => lhs; rw [e1, List.range'_succ]
        congr 1
        by_cases q2 : k + n ≤ P
        · have e2 : min (n - 1) (P - k - 1) = n - 1 := by omega
          have h5 := @List.range'_append (k + 1) (n - 1) (P - (k + n)) 1
          rw [show k + 1 + 1 * (n - 1) = k + n by omega] at h5
          rw [e2, h5]
          congr 1
          omega
        · have e2 : min (n - 1) (P - k - 1) = P - k - 1 := by omega
          have e3 : P - (k + n) = 0 := by omega
          rw [e2, e3]; simp
      rw [hsplit, List.filter_cons_of_pos (by simp), List.filter_append]
      have hnone : (List.range' (k + 1) (min (n - 1) (P - k - 1))).filter (fun x => decide (x % n = k % n)) = [] := by
        rw [List.filter_eq_nil_iff]
        intro x hx
        rw [List.mem_range'_1] at hx
        simp only [decide_eq_true_eq]
        intro hmod
        have h1 := Nat.div_add_mod x n
        have h2 := Nat.div_add_mod k n
        have h3 : n * (x / n) = n * (k / n) + (x - k) := by omega
        have h4 : x / n = k / n ∨ k / n + 1 ≤ x / n := by
          have : k / n ≤ x / n := Nat.div_le_div_right (by omega)
          omega
        rcases h4 with h4 | h4
        · rw [h4] at h3; omega
        · have := Nat.mul_le_mul_left n h4
          rw [Nat.mul_add] at this
          omega
      rw [hnone]
      simp
    · rw [if_neg (by omega)]
      have : P - k = 0 := by omega
      rw [this]; simp
theorem rrange_pure (l : List ByteArray) (p : Int) (hl : l.length ≤ 1000) : Pure Try.prog 16 [.sl 1 (TL l), .int .i64 p] (.own 1 (LL (rngL (manyP p).toNat (srt l).length))) := by
  have e13 := RsD_13 99 l
  have e41 := RsD_41 99
  have hR := RsD_ok 99
  generalize RsD 99 = R at *
  refine pure_go hR Try.func16 Try.ntmps16 comp16 cres16 (by decide) (by simp) ?_
  have hsl := srt_len l
  obtain ⟨n, hn⟩ : ∃ n, n = (srt l).length := ⟨_, rfl⟩
  obtain ⟨hP0, hP1⟩ := manyP_le p
  obtain ⟨P, hP⟩ : ∃ P : Nat, manyP p = P := ⟨(manyP p).toNat, by omega⟩
  have hmm : (if (if (1000 : Int) < p then 1000 else p) > 0 then (if (1000 : Int) < p then 1000 else p) else 0) = P := by
    rw [← hP]; unfold manyP; split <;> split <;> omega
  rw [hP, Int.toNat_natCast, ← hn]
  simp [ac16, ar16, e13, hl, ← hn]
  refine awpR_loop (α := Nat) (fun k => k ≤ n) (fun k => { n := 43, sl := [(0, .sv (.sl 1 (TL l))), (1, .sv (.int .i64 p)), (5, .sv (.int .i64 n)), (6, .sv (.int .i64 P)), (7, .own 1 (LL ((List.range k).map (rowR P n)))), (8, .sv (.int .i64 (atR P n k))), (9, .sv (.int .i64 k))], bx := [], hp := fun _ => none })
    (fun k => n - k) 0 (by simp) (by simp [atR, LL]; simpa using hmm) ?_
  intro k hk
  by_cases h : k < n
  · have hlt : (k : Int) < n := by omega
    have hw := wrap_succ h (show n < 4611686018427387904 by omega)
    have hn0 : ¬ (n : Int) = 0 := by omega
    have hn00 : ¬ n = 0 := by omega
    have hq : (P : Int).tdiv n = (P / n : Nat) := by rw [Int.tdiv_eq_ediv_of_nonneg (by omega)]; rfl
    have hr : (P : Int).tmod n = (P % n : Nat) := by rw [Int.tmod_eq_emod_of_nonneg (by omega)]; rfl
    have hqP : P / n ≤ P := Nat.div_le_self P n
    have hwx : ∀ x : Nat, x ≤ 2000 → IntKind.i64.wrap (x : Int) = x := fun x hx => by rw [IntKind.wrap_i64]; omega
    have hw1 := hwx (P / n) (by omega)
    have hle : atR P n (k + 1) ≤ P := atR_le (by omega) (by omega)
    have hsuc := atR_succ P n k
    have hro : (List.range (k + 1)).map (rowR P n) = (List.range k).map (rowR P n) ++ [rowR P n k] := by simp [List.range_succ]
    have hrow : fromL 1 P (shR P n k) (atR P n k) = rowR P n k := fromL_upto P (shR P n k) (atR P n k) (by omega)
    have e41 := e41 (atR P n k) 1 P (shR P n k)
    rw [Int.toNat_natCast, hrow] at e41
    have hlk : ((List.range k).map (rowR P n)).length = k := by simp
    have hwa : IntKind.i64.wrap ((atR P n k : Int) + shR P n k) = atR P n (k + 1) := by rw [IntKind.wrap_i64]; omega
    have c1 : (shR P n k : Int) ≤ 100000 := by omega
    have c2 : (atR P n k : Int) ≤ 100000 := by omega
    have c3 : (P : Int) ≤ 100000 := by omega
    have c2' : atR P n k ≤ 100000 := by omega
    have c1' : shR P n k ≤ 100000 := by omega
    have c3' : P ≤ 100000 := by omega
    by_cases hb : k < P % n
    · have hb' : (k : Int) < (P % n : Nat) := by omega
      have hsh : shR P n k = P / n + 1 := by unfold shR; rw [if_pos hb]
      rw [hsh] at e41 hwa c1 c1'
      have hw2 : IntKind.i64.wrap (((P / n : Nat) : Int) + 1) = ((P / n + 1 : Nat) : Int) := by rw [IntKind.wrap_i64]; omega
      generalize hro2 : (List.range k).map (rowR P n) = rows at *
      generalize rowR P n k = row at *
      generalize atR P n k = a0 at *
      generalize hq1 : P / n = q1 at *
      generalize hr1 : P % n = r1 at *
      simp [-Int.natCast_add, hlt, h, hn0, hn00, hq, hr, hw1, hb, hb', hw2, e41, hw, hwa, hlk, c1, c2, c3, c1', c2', c3']
      exact ⟨by omega, k + 1, by omega, by omega, by rw [hro, LL_app]; rfl, rfl, rfl⟩
    · have hb' : ¬ (k : Int) < (P % n : Nat) := by omega
      have hsh : shR P n k = P / n := by unfold shR; rw [if_neg hb, Nat.add_zero]
      rw [hsh] at e41 hwa c1 c1'
      generalize hro2 : (List.range k).map (rowR P n) = rows at *
      generalize rowR P n k = row at *
      generalize atR P n k = a0 at *
      generalize hq1 : P / n = q1 at *
      generalize hr1 : P % n = r1 at *
      simp [-Int.natCast_add, hlt, h, hn0, hn00, hq, hr, hw1, hb, hb', e41, hw, hwa, hlk, c1, c2, c3, c1', c2', c3']
      exact ⟨by omega, k + 1, by omega, by omega, by rw [hro, LL_app]; rfl, rfl, rfl⟩
  · obtain rfl : k = n := by omega
    have hlt : ¬ ((k : Nat) : Int) < k := by omega
    simp [hlt, rngL]
theorem rturns_pure (l : List ByteArray) (p : Int) (hl : l.length ≤ 1000) : Pure Try.prog 18 [.sl 1 (TL l), .int .i64 p] (.own 1 (LL (turL (manyP p).toNat (srt l).length))) := by
  have e13 := RsD_13 99 l
  have e41 := RsD_41 99
  have hR := RsD_ok 99
  generalize RsD 99 = R at *
  refine pure_go hR Try.func18 Try.ntmps18 comp18 cres18 (by decide) (by simp) ?_
  have hsl := srt_len l
  obtain ⟨n, hn⟩ : ∃ n, n = (srt l).length := ⟨_, rfl⟩
  obtain ⟨hP0, hP1⟩ := manyP_le p
  obtain ⟨P, hP⟩ : ∃ P : Nat, manyP p = P := ⟨(manyP p).toNat, by omega⟩
  have hmm : (if (if (1000 : Int) < p then 1000 else p) > 0 then (if (1000 : Int) < p then 1000 else p) else 0) = P := by
    rw [← hP]; unfold manyP; split <;> split <;> omega
  rw [hP, Int.toNat_natCast, ← hn]
  simp [ac18, ar18, e13, hl, ← hn]
  refine awpR_loop (α := Nat) (fun k => k ≤ n) (fun k => { n := 29, sl := [(0, .sv (.sl 1 (TL l))), (1, .sv (.int .i64 p)), (5, .sv (.int .i64 n)), (6, .sv (.int .i64 P)), (7, .own 1 (LL ((List.range k).map (turR n P)))), (8, .sv (.int .i64 k))], bx := [], hp := fun _ => none })
    (fun k => n - k) 0 (by simp) (by simp [LL]; simpa using hmm) ?_
  intro k hk
  by_cases h : k < n
  · have hlt : (k : Int) < n := by omega
    have hw := wrap_succ h (show n < 4611686018427387904 by omega)
    have hro : (List.range (k + 1)).map (turR n P) = (List.range k).map (turR n P) ++ [turR n P k] := by simp [List.range_succ]
    have hrow : fromL n P P k = turR n P k := by
      rw [fromL_tur n P (by omega) P k (by omega), Nat.mod_eq_of_lt h]
      unfold turR
      by_cases q : k ≤ P
      · have e1 : List.range P = List.range k ++ List.range' k (P - k) := by
          rw [List.range_eq_range', List.range_eq_range', show (List.range' k (P - k)) = List.range' (0 + 1 * k) (P - k) by simp, List.range'_append]
          congr 1; omega
        rw [e1, List.filter_append]
        have : (List.range k).filter (fun x => decide (x % n = k)) = [] := by
          rw [List.filter_eq_nil_iff]
          intro x hx
          have := List.mem_range.1 hx
          simp only [decide_eq_true_eq]
          intro z
          have := Nat.mod_le x n
          omega
        rw [this]; rfl
      · have : P - k = 0 := by omega
        rw [this]
        have : (List.range P).filter (fun x => decide (x % n = k)) = [] := by
          rw [List.filter_eq_nil_iff]
          intro x hx
          have := List.mem_range.1 hx
          simp only [decide_eq_true_eq]
          intro z
          have := Nat.mod_le x n
          omega
        rw [this]; simp
    have e41 := e41 k n P P
    rw [Int.toNat_natCast, hrow] at e41
    have hlk : ((List.range k).map (turR n P)).length = k := by simp
    have c1 : (k : Int) ≤ 100000 := by omega
    have c2 : (n : Int) ≤ 1000 := by omega
    have c3 : (P : Int) ≤ 100000 := by omega
    have c1' : k ≤ 100000 := by omega
    have c2' : n ≤ 1000 := by omega
    have c3' : P ≤ 100000 := by omega
    generalize hro2 : (List.range k).map (turR n P) = rows at *
    generalize turR n P k = row at *
    simp [hlt, h, e41, hw, hlk, c1, c2, c3, c1', c2', c3']
    exact ⟨by omega, k + 1, by omega, by omega, by rw [hro, LL_app]; rfl, by omega⟩
  · obtain rfl : k = n := by omega
    have hlt : ¬ ((k : Nat) : Int) < k := by omega
    simp [hlt, turL]
end Go.Proofs.Ytmfkliabjfngmaa

/- Assign: a member's parts; what is fair. -/

set_option linter.unusedSimpArgs false
set_option linter.unusedVariables false
set_option maxHeartbeats 8000000
namespace Go.Proofs.Ytmfkliabjfngmaa

open Go.Av

/-- A member's parts. -/
def ofL (l : List ByteArray) (p : Int) (k : ByteArray) : List Int := if atK k (srt l) (posK k (srt l)) = true then (rngL (manyP p).toNat (srt l).length).getD (posK k (srt l)) [] else []
def eTI (p : List ByteArray × Int) : List SV := [.sl 1 (TL p.1), .int .i64 p.2]
theorem eTI_inj (a b : List ByteArray × Int) (h : eTI a = eTI b) : a = b := by simp [eTI] at h; exact Prod.ext (TL_inj _ _ h.1) h.2
def eTS (p : List ByteArray × ByteArray) : List SV := [.sl 1 (TL p.1), .str p.2]
theorem eTS_inj (a b : List ByteArray × ByteArray) (h : eTS a = eTS b) : a = b := by simp [eTS] at h; exact Prod.ext (TL_inj _ _ h.1) h.2
noncomputable def RsEp (f : FuncId) (l : List SV) : Option (Prop × LV) :=
  match f with
  | 12 => row eTL (fun a => (a.length ≤ 1000, .sv (.sl 1 (TL (srt a))))) l
  | 13 => row eTL (fun a => (a.length ≤ 1000, .own 1 (TL (srt a)))) l
  | 15 => row eTI (fun p => (p.1.length ≤ 1000, .sv (.sl 1 (LL (rngL (manyP p.2).toNat (srt p.1).length))))) l
  | 16 => row eTI (fun p => (p.1.length ≤ 1000, .own 1 (LL (rngL (manyP p.2).toNat (srt p.1).length)))) l
  | 42 => row eTS (fun p => (p.1.length ≤ 1000 ∧ Mono p.2 p.1, .tup [.sv (.int .i64 (posK p.2 p.1)), .sv (.bool (atK p.2 p.1 (posK p.2 p.1)))])) l
  | _ => none
noncomputable def RsE : Orc := { p := RsEp }
theorem RsE_ok : RsE.ok Try.prog := by
  refine ⟨fun f l c rv h hc => ?_, fun _ _ _ _ _ _ h => (by cases h), fun _ _ _ _ h => (by cases h), fun _ h => (by cases h), fun _ _ _ _ _ _ h => (by cases h), fun _ _ _ _ _ _ _ h => (by cases h)⟩
  change RsEp f l = _ at h
  unfold RsEp at h
  split at h
  · exact row_ok h hc (fun x hp => sorted_pure x hp)
  · exact row_ok h hc (fun x hp => rsorted x hp)
  · exact row_ok h hc (fun x hp => range_pure x.1 x.2 hp)
  · exact row_ok h hc (fun x hp => rrange_pure x.1 x.2 hp)
  · exact row_ok h hc (fun x hp => search_pure x.1 x.2 hp.1 hp.2)
  · cases h
theorem RsE_12 (l : List ByteArray) : RsE.p 12 [.sl 1 (TL l)] = some (l.length ≤ 1000, .sv (.sl 1 (TL (srt l)))) := row_eq eTL_inj _ l
theorem RsE_13 (l : List ByteArray) : RsE.p 13 [.sl 1 (TL l)] = some (l.length ≤ 1000, .own 1 (TL (srt l))) := row_eq eTL_inj _ l
theorem RsE_15 (l : List ByteArray) (p : Int) : RsE.p 15 [.sl 1 (TL l), .int .i64 p] = some (l.length ≤ 1000, .sv (.sl 1 (LL (rngL (manyP p).toNat (srt l).length)))) := row_eq eTI_inj _ (l, p)
theorem RsE_16 (l : List ByteArray) (p : Int) : RsE.p 16 [.sl 1 (TL l), .int .i64 p] = some (l.length ≤ 1000, .own 1 (LL (rngL (manyP p).toNat (srt l).length))) := row_eq eTI_inj _ (l, p)
theorem RsE_42 (l : List ByteArray) (k : ByteArray) : RsE.p 42 [.sl 1 (TL l), .str k] = some (l.length ≤ 1000 ∧ Mono k l, .tup [.sv (.int .i64 (posK k l)), .sv (.bool (atK k l (posK k l)))]) := row_eq eTS_inj _ (l, k)
theorem rngL_len (P n : Nat) : (rngL P n).length = n := by simp [rngL]
theorem atK_lt {k : ByteArray} {l : List ByteArray} {i : Nat} (h : atK k l i = true) : i < l.length := by
  unfold atK at h
  simp only [Bool.and_eq_true, decide_eq_true_eq] at h
  exact h.1
theorem of_pure (l : List ByteArray) (p : Int) (k : ByteArray) (hl : l.length ≤ 1000) : Pure Try.prog 20 [.sl 1 (TL l), .int .i64 p, .str k] (.sv (.sl 1 (IL (ofL l p k)))) := by
  have e12 := RsE_12 l
  have e15 := RsE_15 l p
  have e42 := RsE_42 (srt l) k
  have hR := RsE_ok
  generalize RsE = R at *
  refine pure_go hR Try.func20 Try.ntmps20 comp20 cres20 (by decide) (by simp) ?_
  have hsl := srt_len l
  have hl2 : (srt l).length ≤ 1000 := by omega
  have hm := srt_mono l k
  unfold ofL
  cases q : atK k (srt l) (posK k (srt l)) with
  | false =>
    rw [q] at e42
    simp [ac20, ar20, e12, e42, hl, hl2, hm, IL]
  | true =>
    rw [q] at e42
    have hlt := atK_lt q
    have hrl := rngL_len (manyP p).toNat (srt l).length
    generalize rngL (manyP p).toNat (srt l).length = rows at *
    generalize posK k (srt l) = i at *
    have hi : i < rows.length := by omega
    have hi' : (i : Int) < rows.length := by omega
    have hg := LL_get rows hi
    have hge : (LL rows)[i]'(by simpa using hi) = .sl 1 (IL (rows.getD i [])) := by rw [← hg, List.getElem?_eq_getElem]; rfl
    simp [ac20, ar20, e12, e42, e15, hl, hl2, hm, hi, hi', hg, hge]
theorem lts_irrefl (k : ByteArray) : ¬ lts k k = true := fun h => List.lt_irrefl _ ((lts_iff k k).1 h)
theorem srt_lt (l : List ByteArray) {i j : Nat} (hij : i < j) (hj : j < (srt l).length) : lts ((srt l).getD i ⟨#[]⟩) ((srt l).getD j ⟨#[]⟩) = true := by
  obtain ⟨h1, _⟩ := srt_ok l
  rw [lts_iff]
  rw [List.pairwise_iff_getElem] at h1
  have := h1 i j (by simp; omega) (by simpa using hj) hij
  simp only [List.getElem_map] at this
  simpa [List.getD_eq_getElem?_getD, List.getElem?_eq_getElem hj, List.getElem?_eq_getElem (show i < (srt l).length by omega)] using this
theorem toList_bk (a b : ByteArray) : a.toList = b.toList ↔ a = b := by
  rw [ByteArray.toList_eq, ByteArray.toList_eq]
  exact ⟨fun h => bk_inj h, fun h => by rw [h]⟩
theorem rof_pure (l : List ByteArray) (p : Int) (k : ByteArray) (hl : l.length ≤ 1000) : Pure Try.prog 21 [.sl 1 (TL l), .int .i64 p, .str k] (.sv (.sl 1 (IL (ofL l p k)))) := by
  have e13 := RsE_13 l
  have e16 := RsE_16 l p
  have hR := RsE_ok
  generalize RsE = R at *
  refine pure_go hR Try.func21 Try.ntmps21 comp21 cres21 (by decide) (by simp) ?_
  have hsl := srt_len l
  have hl2 : (srt l).length ≤ 1000 := by omega
  have hpi := posK_iff k (srt l) (srt_mono l k)
  have hst := fun i j => @srt_lt l i j
  unfold ofL
  have hrl := rngL_len (manyP p).toNat (srt l).length
  generalize rngL (manyP p).toNat (srt l).length = rows at *
  simp [ac21, ar21, e13, hl]
  obtain ⟨s, hs⟩ : ∃ s, s = srt l := ⟨_, rfl⟩
  rw [← hs] at hsl hl2 hpi hst hrl ⊢
  refine awpR_loop (α := Nat) (fun i => i ≤ s.length ∧ ∀ j, j < i → s.getD j ⟨#[]⟩ ≠ k) (fun i => { n := 29, sl := [(0, .sv (.sl 1 (TL l))), (1, .sv (.int .i64 p)), (2, .sv (.str k)), (7, .own 1 (TL s)), (8, .sv (.int .i64 i))], bx := [], hp := fun _ => none })
    (fun i => s.length - i) 0 ⟨by simp, by simp⟩ (by simp) ?_
  rintro i ⟨hi, ha⟩
  by_cases h : i < s.length
  · have hlt : (i : Int) < s.length := by omega
    have hw := wrap_succ h (show s.length < 4611686018427387904 by omega)
    have hg := TL_get s h
    have hge : (TL s)[i]'(by simpa using h) = .str (s.getD i ⟨#[]⟩) := by rw [← hg, List.getElem?_eq_getElem]; rfl
    by_cases q : s.getD i ⟨#[]⟩ = k
    · have hpos : posK k s = i := by
        have h1 : ¬ i < posK k s := fun z => by
          have := (hpi i h).2 z
          rw [q] at this
          exact lts_irrefl k this
        by_cases h2 : posK k s < i
        · have h3 := hst (posK k s) i h2 h
          rw [q] at h3
          have := (hpi (posK k s) (by omega)).1 h3
          omega
        · omega
      have hat : atK k s i = true := by
        unfold atK
        rw [q]
        simp [h]
      rw [hpos, hat, if_pos rfl]
      have hi2 : i < rows.length := by omega
      have hi2' : (i : Int) < rows.length := by omega
      have hg2 := LL_get rows hi2
      have hge2 : (LL rows)[i]'(by simpa using hi2) = .sl 1 (IL (rows.getD i [])) := by rw [← hg2, List.getElem?_eq_getElem]; rfl
      rw [q] at hg hge
      simp [hlt, h, hg, hge, hw, e16, hl, hi2, hi2', hg2, hge2]
    · have q2 : ((s.getD i ⟨#[]⟩).toList == k.toList) = false := by
        simp only [beq_eq_false_iff_ne, ne_eq]
        exact fun z => q ((toList_bk _ _).1 z)
      have q3 : ¬ (s.getD i ⟨#[]⟩).toList = k.toList := fun z => q ((toList_bk _ _).1 z)
      generalize hz : s.getD i ⟨#[]⟩ = z at *
      simp [hlt, h, hg, hge, hw, e16, hl, q2, q3]
      refine ⟨i + 1, ⟨by omega, fun j hj => ?_⟩, by omega, by omega⟩
      by_cases hji : j = i
      · subst hji
        have := hz
        rw [List.getD_eq_getElem?_getD] at this
        rw [this]; exact q
      · have := ha j (by omega)
        rwa [List.getD_eq_getElem?_getD] at this
  · obtain rfl : i = s.length := by omega
    have hlt : ¬ ((s.length : Nat) : Int) < s.length := by omega
    have hat : atK k s (posK k s) = false := by
      cases q : atK k s (posK k s) with
      | false => rfl
      | true =>
        have h1 := atK_lt q
        unfold atK at q
        simp only [Bool.and_eq_true, decide_eq_true_eq, beq_iff_eq] at q
        exact absurd ((toList_bk _ _).1 q.2) (ha _ h1)
    rw [hat]
    simp [hlt, IL]

/-! ### fair -/
structure Fair (rows : List (List Int)) (P : Nat) : Prop where
  few : rows.length ≤ 1000
  len : ∀ r ∈ rows, r.length ≤ 1000 ∧ r.length ≤ (rows.getD 0 []).length ∧ (rows.getD 0 []).length ≤ r.length + 1
  rise : ∀ r ∈ rows, r.Pairwise (· < ·)
  inn : ∀ r ∈ rows, ∀ x ∈ r, 0 ≤ x ∧ x < P
  once : ∀ p : Nat, p < P → rows.flatten.count (p : Int) = 1
def cellsC (c : Nat → Nat) (n : Nat) : List RV := (List.range n).map fun i => .sv (.int .i64 (c i))
@[simp] theorem cellsC_len (f : Nat → Nat) (n : Nat) : (cellsC f n).length = n := by simp [cellsC]
theorem cellsC_get (f : Nat → Nat) {n k : Nat} (h : k < n) : (cellsC f n)[k]?.getD (.sv .undef) = .sv (.int .i64 (f k)) := by simp [cellsC, h]
theorem cellsC_set (f g : Nat → Nat) {n k : Nat} {x : Int} (hx : x = g k) (h : ∀ i, i < n → i ≠ k → g i = f i) : (cellsC f n).set k (.sv (.int .i64 x)) = cellsC g n := by
  subst hx
  apply List.ext_getElem
  · simp
  · intro i h1 h2
    have hi : i < n := by simpa using h2
    simp only [List.getElem_set, cellsC, List.getElem_map, List.getElem_range]
    split
    · rename_i q; subst q; rfl
    · rename_i q; rw [h i hi (fun z => q z.symm)]
theorem cellsC_zero (n : Nat) : List.replicate n (.sv (.int .i64 0)) = cellsC (fun _ => 0) n := by
  apply List.ext_getElem
  · simp
  · intro i h1 h2
    simp [cellsC]
theorem fair_pure (rows : List (List Int)) (P : Nat) (hP : P ≤ 1000) (hF : Fair rows P) : Pure Try.prog 22 [.sl 1 (LL rows), .int .i64 P] (.sv (.bool true)) := by
  have hR : ({ p := fun _ _ => none, arr := fun x => x == 11 } : Orc).ok Try.prog := ⟨fun _ _ _ _ h => (by cases h), fun _ _ _ _ _ _ h => (by cases h), fun _ _ _ _ h => (by cases h), fun _ h => (by cases h), fun _ _ _ _ _ _ h => (by cases h), fun _ _ _ _ _ _ _ h => (by cases h)⟩
  have harr : ({ p := fun _ _ => none, arr := fun x => x == 11 } : Orc).arr = fun x => x == 11 := rfl
  generalize ({ p := fun _ _ => none, arr := fun x => x == 11 } : Orc) = R at *
  refine pure_go hR Try.func22 Try.ntmps22 comp22 cres22 (by decide) (by simp) ?_
  obtain ⟨hfew, hlen, hrise, hinn, honce⟩ := hF
  have hb1 : (P : Int) * 8 ≤ 281474976710656 := by omega
  have hb2 : (P : Int) ≤ 9223372036854775807 := by omega
  have hz := cellsC_zero P
  simp [ac22, ar22, harr, hb1, hb2, hz]
  refine awpR_loop (α := Nat × (Nat → Nat)) (fun q => q.1 ≤ rows.length ∧ ∀ p, p < P → q.2 p = (rows.take q.1).flatten.count (p : Int)) (fun q => { n := 96, sl := [(0, .sv (.sl 1 (LL rows))), (1, .sv (.int .i64 P)), (5, .lsl 11 1 0 P P), (6, .sv (.int .i64 q.1))], bx := [(11, cellsC q.2 P)], hp := fun _ => none })
    (fun q => rows.length - q.1) (0, fun _ => 0) ⟨by simp, by simp⟩ (by simp [WkRs_refl]) ?_
  rintro ⟨i, c⟩ ⟨hi, hc⟩
  simp only at hi hc
  by_cases h : i < rows.length
  · have hlt : (i : Int) < rows.length := by omega
    have hw := wrap_succ h (show rows.length < 4611686018427387904 by omega)
    have hg := LL_get rows h
    have hge : (LL rows)[i]'(by simpa using h) = .sl 1 (IL (rows.getD i [])) := by rw [← hg, List.getElem?_eq_getElem]; rfl
    have hmem : rows.getD i [] ∈ rows := getD_mem [] h
    have h00 : 0 < rows.length := by omega
    have h00' : (0 : Int) < rows.length := by omega
    have hg0 := LL_get rows h00
    have hge0 : (LL rows)[0]'(by simpa using h00) = .sl 1 (IL (rows.getD 0 [])) := by rw [← hg0, List.getElem?_eq_getElem]; rfl
    obtain ⟨hl1, hl2, hl3⟩ := hlen _ hmem
    have hri := hrise _ hmem
    have hin := hinn _ hmem
    have hsnoc : (rows.take (i + 1)).flatten = (rows.take i).flatten ++ rows.getD i [] := by
      rw [List.take_succ_eq_append_getElem h, List.getD_eq_getElem?_getD, List.getElem?_eq_getElem h, List.flatten_append]
      simp
    generalize rows.getD 0 [] = r0 at *
    generalize rows.getD i [] = r at *
    simp [-Bool.exists_bool, hlt, h]
    refine awpR_loop (α := Nat × (Nat → Nat)) (fun q => q.1 ≤ r.length ∧ ∀ p, p < P → q.2 p = (rows.take i).flatten.count (p : Int) + (r.take q.1).count (p : Int)) (fun q => { n := 96, sl := [(0, .sv (.sl 1 (LL rows))), (1, .sv (.int .i64 P)), (5, .lsl 11 1 0 P P), (6, .sv (.int .i64 i)), (7, .sv (.int .i64 q.1))], bx := [(11, cellsC q.2 P)], hp := fun _ => none })
      (fun q => r.length - q.1) (0, c) ⟨by simp, by simpa using hc⟩ (by simp [WkRs_refl]) ?_
    rintro ⟨k, d⟩ ⟨hk, hd⟩
    simp only at hk hd
    by_cases h2 : k < r.length
    · have hlt2 : (k : Int) < r.length := by omega
      have hw2 := wrap_succ h2 (show r.length < 4611686018427387904 by omega)
      have hg2 := IL_get r h2
      have hge2 : (IL r)[k]'(by simpa using h2) = .int .i64 (r.getD k 0) := by rw [← hg2, List.getElem?_eq_getElem]; rfl
      obtain ⟨hx0, hx1⟩ := hin _ (getD_mem 0 h2)
      obtain ⟨x, hx⟩ : ∃ x : Nat, r.getD k 0 = x := ⟨(r.getD k 0).toNat, by omega⟩
      have hxP : x < P := by omega
      have hxP' : (x : Int) < P := by omega
      have hprev : 0 < k → r.getD (k - 1) 0 < x := by
        intro hk0
        rw [← hx, List.pairwise_iff_getElem] at *
        have := hri (k - 1) k (by omega) h2 (by omega)
        simpa [List.getD_eq_getElem?_getD, List.getElem?_eq_getElem h2, List.getElem?_eq_getElem (show k - 1 < r.length by omega)] using this
      have hsn2 : (r.take (k + 1)) = r.take k ++ [(x : Int)] := by
        rw [List.take_succ_eq_append_getElem h2, ← hx, List.getD_eq_getElem?_getD, List.getElem?_eq_getElem h2]; rfl
      rw [hx] at hg2 hge2
      have hget := cellsC_get d hxP
      have hgee : (cellsC d P)[x]'(by simpa using hxP) = .sv (.int .i64 (d x)) := by rw [← hget, List.getElem?_eq_getElem]; rfl
      have hdx : d x ≤ 2000 := by
        rw [hd x hxP]
        have h1 := honce x hxP
        rw [← List.take_append_drop i rows, List.flatten_append, List.count_append] at h1
        have h2 : List.count (x : Int) (r.take k) ≤ (r.take k).length := List.count_le_length
        have h3 : (r.take k).length ≤ r.length := List.length_take_le' _ _
        omega
      have hw3 : IntKind.i64.wrap ((d x : Int) + 1) = (d x : Int) + 1 := by rw [IntKind.wrap_i64]; omega
      have hset := cellsC_set d (fun p => (rows.take i).flatten.count (p : Int) + (r.take (k + 1)).count (p : Int)) (n := P) (k := x) (x := (d x : Int) + 1) (by
        rw [hsn2, List.count_append, hd x hxP]; simp; omega) (fun p hp hne => by
        rw [hsn2, List.count_append, hd p hp]
        have : List.count (p : Int) [(x : Int)] = 0 := by
          rw [List.count_eq_zero]
          simp; omega
        rw [this]; omega)
      by_cases hk0 : 0 < k
      · have hk0' : (0 : Int) < k := by omega
        have hpr := hprev hk0
        have h3 : k - 1 < r.length := by omega
        have h3' : ((k - 1 : Nat) : Int) < r.length := by omega
        have hg3 := IL_get r h3
        have hge3 : (IL r)[k - 1]'(by simpa using h3) = .int .i64 (r.getD (k - 1) 0) := by rw [← hg3, List.getElem?_eq_getElem]; rfl
        have hw4 : IntKind.i64.wrap ((k : Int) - 1) = ((k - 1 : Nat) : Int) := by rw [IntKind.wrap_i64]; omega
        generalize r.getD (k - 1) 0 = y at *
        have hny : ¬ (x : Int) ≤ y := by omega
        have hx0 : ¬ (x : Int) < 0 := by omega
        have hxP2 : ¬ (P : Int) ≤ x := by omega
        have hxP3 : ¬ P ≤ x := by omega
        simp [-Bool.exists_bool, hlt, h, hg, hge, hlt2, h2, hg2, hge2, hk0, hk0', h3, h3', hg3, hge3, hw4, hny, hx0, hxP, hxP', hxP2, hxP3, hget, hgee, hset, hw2, hw3]
        exact ⟨by omega, k + 1, _, ⟨by omega, fun p hp => rfl⟩, by omega, by omega, WkRs_refl _⟩
      · obtain rfl : k = 0 := by omega
        have hwm : IntKind.i64.wrap (-1) = -1 := by decide
        have hx0 : ¬ (x : Int) < 0 := by omega
        have hxP2 : ¬ (P : Int) ≤ x := by omega
        have hxP3 : ¬ P ≤ x := by omega
        simp [-Bool.exists_bool, hlt, h, hg, hge, hlt2, h2, hg2, hge2, hx0, hxP, hxP', hxP2, hxP3, hget, hgee, hset, hw2, hw3, hwm]
        have hwo : IntKind.i64.wrap 1 = 1 := by decide
        exact ⟨by omega, 1, _, ⟨by omega, fun p hp => rfl⟩, by omega, by first | omega | exact hwo | simpa using hwo, WkRs_refl _⟩
    · obtain rfl : k = r.length := by omega
      have hlt2 : ¬ ((r.length : Nat) : Int) < r.length := by omega
      have c1 : ¬ (r0.length : Int) < r.length := by omega
      have c1' : ¬ r0.length < r.length := by omega
      have c2 : ¬ ((r.length : Int) + 1 < r0.length) := by omega
      have c2' : ¬ (r.length + 1 < r0.length) := by omega
      have hw5 : IntKind.i64.wrap ((r.length : Int) + 1) = (r.length : Int) + 1 := by rw [IntKind.wrap_i64]; omega
      rw [List.take_length] at hd
      simp [-Bool.exists_bool, hlt, h, hg, hge, hlt2, h00, h00', hg0, hge0, c1, c1', c2, c2', hw, hw5]
      exact ⟨i + 1, d, ⟨by omega, fun p hp => by rw [hd p hp, hsnoc, List.count_append]⟩, by omega, by omega, WkRs_refl _⟩
  · obtain rfl : i = rows.length := by omega
    have hlt : ¬ ((rows.length : Nat) : Int) < rows.length := by omega
    rw [List.take_length] at hc
    have hc1 : cellsC c P = cellsC (fun _ => 1) P := by
      unfold cellsC
      refine List.map_congr_left fun p hp => ?_
      rw [hc p (List.mem_range.1 hp), honce p (List.mem_range.1 hp)]
    rw [hc1]
    simp [-Bool.exists_bool, hlt]
    refine awpR_loop (α := Nat) (fun p => p ≤ P) (fun p => { n := 96, sl := [(1, .sv (.int .i64 P)), (5, .lsl 11 1 0 P P), (9, .sv (.int .i64 p))], bx := [(11, cellsC (fun _ => 1) P)], hp := fun _ => none })
      (fun p => P - p) 0 (by simp) (by simp [WkRs_refl]) ?_
    intro p hp
    by_cases h3 : p < P
    · have hlt3 : (p : Int) < P := by omega
      have hw3 := wrap_succ h3 (show P < 4611686018427387904 by omega)
      have hget := cellsC_get (fun _ => 1) h3
      have hgee : (cellsC (fun _ => 1) P)[p]'(by simpa using h3) = .sv (.int .i64 1) := by simp [cellsC]
      simp [hlt3, h3, hget, hgee, hw3]
      exact ⟨by omega, p + 1, by omega, by omega, by omega, WkRs_refl _⟩
    · obtain rfl : p = P := by omega
      have hlt3 : ¬ ((p : Nat) : Int) < p := by omega
      simp [hlt3]
end Go.Proofs.Ytmfkliabjfngmaa

/- Assign: what is told is fair. -/

set_option linter.unusedSimpArgs false
set_option linter.unusedVariables false
set_option maxHeartbeats 4000000
namespace Go.Proofs.Ytmfkliabjfngmaa

open Go.Av

theorem upto_app (a s t : Nat) : upto a s ++ upto (a + s) t = upto a (s + t) := by
  induction t with
  | zero => simp [upto]
  | succ t ih => rw [upto_succ, ← List.append_assoc, ih, ← Nat.add_assoc, upto_succ, Nat.add_assoc]
theorem upto_rise (a : Nat) : ∀ s, (upto a s).Pairwise (· < ·) := by
  intro s
  unfold upto
  rw [List.pairwise_map]
  exact List.pairwise_lt_range.imp (fun {x y} h => by omega)
theorem upto_mem {a s : Nat} {x : Int} (h : x ∈ upto a s) : (a : Int) ≤ x ∧ x < a + s := by
  unfold upto at h
  rw [List.mem_map] at h
  obtain ⟨i, hi, rfl⟩ := h
  have := List.mem_range.1 hi
  omega
theorem count_upto (s : Nat) (p : Nat) : (upto 0 s).count (p : Int) = if p < s then 1 else 0 := by
  induction s with
  | zero => simp [upto]
  | succ s ih =>
    rw [upto_succ, List.count_append, ih]
    by_cases h : p = s
    · subst h; simp
    · have : List.count (p : Int) [((0 + s : Nat) : Int)] = 0 := by
        rw [List.count_eq_zero]; simp; omega
      rw [this]
      split <;> split <;> omega
theorem rng_flat (P n : Nat) : ∀ k, ((List.range k).map (rowR P n)).flatten = upto 0 (atR P n k)
  | 0 => by simp [atR, upto]
  | k + 1 => by
    rw [List.range_succ, List.map_append, List.flatten_append, rng_flat P n k, atR_succ, ← upto_app]
    simp [rowR]
theorem shR_le (P n k : Nat) : shR P n k ≤ shR P n 0 ∧ shR P n 0 ≤ shR P n k + 1 := by
  unfold shR
  split <;> split <;> omega
theorem shR_anti (P n : Nat) {i j : Nat} (h : i ≤ j) : shR P n j ≤ shR P n i := by
  unfold shR
  split <;> split <;> omega
theorem rng_fair {P n : Nat} (hn : 0 < n) (hn2 : n ≤ 1000) (hP : P ≤ 500) : Fair (rngL P n) P := by
  have h0 : (rngL P n).getD 0 [] = rowR P n 0 := by simp [rngL, List.getD_eq_getElem?_getD, hn]
  have hlen : ∀ k, (rowR P n k).length = shR P n k := fun k => by simp [rowR]
  have hsP : ∀ k, shR P n k ≤ P + 1 := fun k => by
    unfold shR
    have := Nat.div_le_self P n
    split <;> omega
  refine ⟨by rw [rngL_len]; exact hn2, ?_, ?_, ?_, ?_⟩
  · intro r hr
    simp only [rngL, List.mem_map, List.mem_range] at hr
    obtain ⟨k, hk, rfl⟩ := hr
    rw [h0, hlen, hlen]
    have := shR_le P n k
    have := hsP k
    exact ⟨by omega, by omega, by omega⟩
  · intro r hr
    simp only [rngL, List.mem_map, List.mem_range] at hr
    obtain ⟨k, hk, rfl⟩ := hr
    exact upto_rise _ _
  · intro r hr x hx
    simp only [rngL, List.mem_map, List.mem_range] at hr
    obtain ⟨k, hk, rfl⟩ := hr
    have := upto_mem hx
    have h2 := atR_le (P := P) hn (k := k + 1) (by omega)
    rw [atR_succ] at h2
    omega
  · intro p hp
    unfold rngL
    rw [rng_flat, atR_end hn, count_upto, if_pos hp]
theorem turR_lenS {n k : Nat} (hk : k < n) : ∀ P, (turR n P k).length = shR P n k
  | 0 => by simp [turR, shR]
  | P + 1 => by
    rw [turR_succ, List.length_append, turR_lenS hk P]
    unfold shR
    have h1 := Nat.div_add_mod P n
    have h2 := Nat.mod_lt P (show 0 < n by omega)
    generalize hq : P / n = q at *
    generalize hr : P % n = r at *
    by_cases c : r + 1 < n
    · have e1 : (P + 1) / n = q := by
        rw [Nat.div_eq_iff (by omega)]
        rw [Nat.mul_comm] at h1
        omega
      have e2 : (P + 1) % n = r + 1 := by
        have := Nat.div_add_mod (P + 1) n
        rw [e1] at this
        omega
      rw [e1, e2]
      split <;> split <;> (try split) <;> simp <;> omega
    · have e1 : (P + 1) / n = q + 1 := by
        rw [Nat.div_eq_iff (by omega)]
        rw [Nat.mul_comm] at h1
        rw [Nat.succ_mul]
        omega
      have e2 : (P + 1) % n = 0 := by
        have := Nat.div_add_mod (P + 1) n
        rw [e1, Nat.mul_succ] at this
        omega
      rw [e1, e2]
      split <;> split <;> (try split) <;> simp <;> omega
theorem count_tur (n P k p : Nat) : (turR n P k).count (p : Int) = if p < P ∧ p % n = k then 1 else 0 := by
  induction P with
  | zero => simp [turR]
  | succ P ih =>
    rw [turR_succ, List.count_append, ih]
    by_cases h : p = P
    · subst h
      by_cases q : p % n = k
      · simp [q]
      · simp [q]
    · have : List.count (p : Int) (if P % n = k then [(P : Int)] else []) = 0 := by
        rw [List.count_eq_zero]
        split
        · simp; omega
        · simp
      rw [this]
      split <;> split <;> omega
theorem tur_flat (n P p : Nat) : ∀ m, (((List.range m).map (turR n P)).flatten).count (p : Int) = if p < P ∧ p % n < m then 1 else 0
  | 0 => by simp
  | m + 1 => by
    rw [List.range_succ, List.map_append, List.flatten_append, List.count_append, tur_flat n P p m]
    simp only [List.map_cons, List.map_nil, List.flatten_cons, List.flatten_nil, List.append_nil]
    rw [count_tur]
    split <;> split <;> split <;> omega
theorem turL_len (P n : Nat) : (turL P n).length = n := by simp [turL]
theorem tur_fair {P n : Nat} (hn : 0 < n) (hn2 : n ≤ 1000) (hP : P ≤ 500) : Fair (turL P n) P := by
  have h0 : (turL P n).getD 0 [] = turR n P 0 := by simp [turL, List.getD_eq_getElem?_getD, hn]
  refine ⟨by rw [turL_len]; exact hn2, ?_, ?_, ?_, ?_⟩
  · intro r hr
    simp only [turL, List.mem_map, List.mem_range] at hr
    obtain ⟨k, hk, rfl⟩ := hr
    have h2 := turR_len n P k
    rw [h0, turR_lenS hk, turR_lenS hn]
    rw [turR_lenS hk] at h2
    have := shR_le P n k
    exact ⟨by omega, by omega, by omega⟩
  · intro r hr
    simp only [turL, List.mem_map, List.mem_range] at hr
    obtain ⟨k, hk, rfl⟩ := hr
    unfold turR
    rw [List.pairwise_map]
    exact (List.pairwise_lt_range.filter _).imp (fun {x y} h => by omega)
  · intro r hr x hx
    simp only [turL, List.mem_map, List.mem_range] at hr
    obtain ⟨k, hk, rfl⟩ := hr
    unfold turR at hx
    simp only [List.mem_map, List.mem_filter, List.mem_range] at hx
    obtain ⟨i, ⟨hi, _⟩, rfl⟩ := hx
    omega
  · intro p hp
    unfold turL
    rw [tur_flat, if_pos ⟨hp, Nat.mod_lt _ hn⟩]
end Go.Proofs.Ytmfkliabjfngmaa
