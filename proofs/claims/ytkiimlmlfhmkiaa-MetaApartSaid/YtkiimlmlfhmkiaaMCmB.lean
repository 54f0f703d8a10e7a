import Derived.Test.YtkiimlmlfhmkiaaCmA
import Derived.Test.YtkiimlmlfhmkiaaMCvM
import Derived.Test.YtkiimlmlfhmkiaaAvAA
import Derived.Test.YtkiimlmlfhmkiaaAvL3
import Derived.Laws.RangeString

set_option linter.unusedVariables false
set_option linter.unusedSimpArgs false

/- Meta: names, and which fields a kind has. -/





set_option linter.unusedSimpArgs false
set_option linter.unusedVariables false
set_option maxHeartbeats 2000000
namespace Go.Proofs.Ytkiimlmlfhmkiaa
open Go.Av

theorem mwithin_pure (n m : Int) : Pure Try.prog 58 [.int .i64 n, .int .i64 m] (.sv (.bool (decide (0 ≤ n) && decide (n ≤ m)))) := by
  refine pure_go R0_ok Try.func58 Try.ntmps58 comp58 cres58 (by decide) (by simp) ?_
  simp [ac58, ar58, R0]
/-- Which fields a kind has: made, index, count, zone, base. -/
def ofK (k : Int) : List SV := [.bool (decide (k = 0)), .bool (decide (k = 2 ∨ k = 3 ∨ k = 4 ∨ k = 5)), .bool (decide (k = 4)), .bool (decide (k = 2 ∨ k = 3 ∨ k = 4)), .bool (decide (k = 2 ∨ k = 4 ∨ k = 5))]
theorem of_pure (k : Int) : Pure Try.prog 51 [.int .u8 k] (.sv (.agg (ofK k))) := by
  refine pure_go R0_ok Try.func51 Try.ntmps51 comp51 cres51 (by decide) (by simp) ?_
  by_cases h0 : k = 0
  · subst h0; simp [ac51, ar51, R0, ofK]
  by_cases h2 : k = 2
  · subst h2; simp [ac51, ar51, R0, ofK]
  by_cases h3 : k = 3
  · subst h3; simp [ac51, ar51, R0, ofK]
  by_cases h4 : k = 4
  · subst h4; simp [ac51, ar51, R0, ofK]
  by_cases h5 : k = 5
  · subst h5; simp [ac51, ar51, R0, ofK]
  simp [ac51, ar51, R0, ofK, h0, h2, h3, h4, h5]

/-! ### names -/
def nmC (c : Int) : Bool := (((((decide (97 ≤ c) && decide (c ≤ 122)) || (decide (65 ≤ c) && decide (c ≤ 90))) || (decide (48 ≤ c) && decide (c ≤ 57))) || (c == 46)) || (c == 95)) || (c == 45)
def nmAll (s : ByteArray) (n : Nat) : Bool := (List.range n).all fun i => nmC ((s.get! i).toNat : Nat)
def nameB (s : ByteArray) : Bool := decide (1 ≤ s.size) && (decide (s.size ≤ 32) && nmAll s s.size)
theorem get_getD (s : ByteArray) (i : Nat) : s.get! i = s.data.toList.getD i 0 := by
  show s.data[i]! = _
  rw [List.getD_eq_getElem?_getD]
  by_cases h : i < s.data.size
  · rw [getElem!_pos s.data i h, Array.getElem?_toList, Array.getElem?_eq_getElem h]; rfl
  · rw [getElem!_neg s.data i h, Array.getElem?_toList, Array.getElem?_eq_none (by omega)]; rfl
theorem nmAll_succ (s : ByteArray) (n : Nat) : nmAll s (n + 1) = (nmAll s n && nmC ((s.get! n).toNat : Nat)) := by
  simp [nmAll, List.range_succ]
theorem nmAll_not {s : ByteArray} {i n : Nat} (hi : i < n) (h : nmC ((s.get! i).toNat : Nat) = false) : nmAll s n = false := by
  cases q : nmAll s n with
  | false => rfl
  | true =>
    have := List.all_eq_true.1 q i (List.mem_range.2 hi)
    rw [h] at this; cases this
theorem get_get {s : ByteArray} {i : Nat} (h : i < s.size) : s.get! i = s[i] := by
  simp [ByteArray.get!, getElem!_pos, h]
  rfl
theorem decode_lo {s : ByteArray} {i : Nat} (h : i < s.size) (ha : (s.get! i).toNat < 128) : Utf8.decode s i = ((s.get! i).toNat, 1) := by
  rw [get_get h] at ha ⊢
  exact decode_ascii s i h ha
theorem decode_hi {s : ByteArray} {i : Nat} (ha : ¬ (s.get! i).toNat < 128) : 128 ≤ (Utf8.decode s i).1 := by
  unfold Utf8.decode
  simp only [Nat.add_zero, Utf8.runeError]
  rw [if_neg ha]
  repeat' split
  all_goals first | omega | (simp only; omega) | skip
  all_goals (rename_i q; simp at q; omega)
theorem nmC_hi {c : Int} (h : 128 ≤ c) : nmC c = false := by
  simp [nmC]; omega
theorem name_pure (s : ByteArray) : Pure Try.prog 20 [.str s] (.sv (.bool (nameB s))) := by
  refine pure_go R0_ok Try.func20 Try.ntmps20 comp20 cres20 (by decide) (by simp) ?_
  simp [ac20, ar20]
  refine awpR_loop (α := Nat) (fun i => i ≤ s.size ∧ nmAll s i = true) (fun i => { n := 42, sl := [(0, .sv (.str s)), (6, .siter s i)], bx := [], hp := fun _ => none })
    (fun i => s.size - i) 0 ⟨by omega, rfl⟩ (by simp) ?_
  rintro i ⟨hi, ha⟩
  by_cases h : i < s.size
  · have key : ∀ c : Int, nmC c = nmC ((s.get! i).toNat : Nat) → ((Utf8.decode s i).1 : Int) = c → (nmC c = true → (Utf8.decode s i).2 = 1) → nmC c = false ∨ nmC c = true := fun c _ _ _ => by cases nmC c <;> simp
    have hd : nmC ((Utf8.decode s i).1 : Nat) = nmC ((s.get! i).toNat : Nat) ∧ (nmC ((s.get! i).toNat : Nat) = true → (Utf8.decode s i).2 = 1) := by
      by_cases hlo : (s.get! i).toNat < 128
      · rw [decode_lo h hlo]; exact ⟨rfl, fun _ => rfl⟩
      · have h1 := decode_hi hlo
        have e1 : nmC ((Utf8.decode s i).1 : Nat) = false := nmC_hi (by omega)
        have e2 : nmC ((s.get! i).toNat : Nat) = false := nmC_hi (by omega)
        exact ⟨e1.trans e2.symm, fun q => by rw [e2] at q; cases q⟩
    obtain ⟨hd1, hd2⟩ := hd
    clear key
    have hv : nxtV s i = .tup [.sv (.bool true), .sv (.int .i64 i), .sv (.int .i32 (Utf8.decode s i).1)] := if_pos h
    have hp : nxtP s i = i + (Utf8.decode s i).2 := if_pos h
    cases hq : nmC ((s.get! i).toNat : Nat) with
    | true =>
      rw [hq] at hd1
      rw [hd2 hq] at hp
      have hs := nmAll_succ s i
      rw [ha, hq] at hs
      generalize ((Utf8.decode s i).1 : Int) = c at hd1 hv
      have fin : (i + 1 ≤ s.size ∧ nmAll s (i + 1) = true) ∧ s.size - (i + 1) < s.size - i := ⟨⟨by omega, hs⟩, by omega⟩
      simp only [nmC, Bool.or_eq_true, Bool.and_eq_true, decide_eq_true_eq, beq_iff_eq] at hd1
      rcases hd1 with ((((⟨c1, c2⟩ | ⟨c1, c2⟩) | ⟨c1, c2⟩) | rfl) | rfl) | rfl
      · simp [hv, hp, c1, c2]; exact fin
      · have c3 : ¬ (97 : Int) ≤ c := by omega
        simp [hv, hp, c1, c2, c3]; exact fin
      · have c3 : ¬ (97 : Int) ≤ c := by omega
        have c4 : ¬ (65 : Int) ≤ c := by omega
        simp [hv, hp, c1, c2, c3, c4]; exact fin
      · simp [hv, hp]; exact fin
      · simp [hv, hp]; exact fin
      · simp [hv, hp]; exact fin
    | false =>
      rw [hq] at hd1
      have hn : nameB s = false := by simp [nameB, nmAll_not h hq]
      generalize ((Utf8.decode s i).1 : Int) = c at hd1 hv
      generalize nxtP s i = p
      have d1 : c ≠ 46 := fun q => by subst q; simp [nmC] at hd1
      have d2 : c ≠ 95 := fun q => by subst q; simp [nmC] at hd1
      have d3 : c ≠ 45 := fun q => by subst q; simp [nmC] at hd1
      have d4 : ¬ ((97 : Int) ≤ c ∧ c ≤ 122) := fun q => by simp [nmC, q.1, q.2] at hd1
      have d5 : ¬ ((65 : Int) ≤ c ∧ c ≤ 90) := fun q => by simp [nmC, q.1, q.2] at hd1
      have d6 : ¬ ((48 : Int) ≤ c ∧ c ≤ 57) := fun q => by simp [nmC, q.1, q.2] at hd1
      by_cases e1 : (97 : Int) ≤ c
      · have f1 : ¬ c ≤ 122 := fun q => d4 ⟨e1, q⟩
        have f2 : (65 : Int) ≤ c := by omega
        have f3 : ¬ c ≤ 90 := by omega
        have f4 : (48 : Int) ≤ c := by omega
        have f5 : ¬ c ≤ 57 := by omega
        simp [hv, e1, f1, f2, f3, f4, f5, d1, d2, d3, hn]
      · by_cases e2 : (65 : Int) ≤ c
        · have f3 : ¬ c ≤ 90 := fun q => d5 ⟨e2, q⟩
          have f4 : (48 : Int) ≤ c := by omega
          have f5 : ¬ c ≤ 57 := by omega
          simp [hv, e1, e2, f3, f4, f5, d1, d2, d3, hn]
        · by_cases e3 : (48 : Int) ≤ c
          · have f5 : ¬ c ≤ 57 := fun q => d6 ⟨e3, q⟩
            simp [hv, e1, e2, e3, f5, d1, d2, d3, hn]
          · simp [hv, e1, e2, e3, d1, d2, d3, hn]
  · obtain rfl : i = s.size := by omega
    have hv : nxtV s s.size = .tup [.sv (.bool false)] := if_neg h
    have hp : nxtP s s.size = s.size := if_neg h
    simp [hv, hp, nameB, ha]
    have e : (1 ≤ s.size) = (¬ s.toList = []) := by
      rw [ByteArray.toList_eq]
      have hz : s.data.toList.length = s.size := rfl
      cases q : s.data.toList with
      | nil => rw [q] at hz; simp at hz; simp [← hz]
      | cons x l => rw [q] at hz; simp at hz; simp; omega
    have e3 : (((s.size : Int) ≤ 32) = (s.size ≤ 32)) := by apply propext; omega
    simp only [e, e3]
    cases q : s.toList <;> simp
end Go.Proofs.Ytkiimlmlfhmkiaa

set_option linter.unusedSimpArgs false
set_option linter.unusedVariables false
set_option maxHeartbeats 2000000
namespace Go.Proofs.Ytkiimlmlfhmkiaa
open Go.Av
theorem rname_pure (s : ByteArray) : Pure Try.prog 21 [.str s] (.sv (.bool (nameB s))) := by
  refine pure_go R0_ok Try.func21 Try.ntmps21 comp21 cres21 (by decide) (by simp) ?_
  by_cases h1 : (s.size : Int) < 1
  · have : ¬ 1 ≤ s.size := by omega
    simp [ac21, ar21, h1, nameB, this]
  by_cases h2 : (32 : Int) < s.size
  · have e1 : 1 ≤ s.size := by omega
    have e2 : ¬ s.size ≤ 32 := by omega
    simp [ac21, ar21, h1, h2, nameB, e1, e2]
  have e1 : 1 ≤ s.size := by omega
  have e2 : s.size ≤ 32 := by omega
  simp [ac21, ar21, h1, h2]
  refine awpR_loop (α := Nat) (fun i => i ≤ s.size ∧ nmAll s i = true) (fun i => { n := 57, sl := [(0, .sv (.str s)), (3, .sv (.int .i64 i))], bx := [], hp := fun _ => none })
    (fun i => s.size - i) 0 ⟨by omega, rfl⟩ (by simp) ?_
  rintro i ⟨hi, ha⟩
  by_cases h : i < s.size
  · have hlt : (i : Int) < s.size := by omega
    have hw : IntKind.i64.wrap ((i : Int) + 1) = ((i + 1 : Nat) : Int) := by rw [IntKind.wrap_i64]; omega
    have hs := nmAll_succ s i
    rw [ha, Bool.true_and, get_getD] at hs
    have hsz : i < s.data.size := h
    obtain ⟨B, hB⟩ : ∃ B, s.data.toList.getD i 0 = B := ⟨_, rfl⟩
    have hB2 : s.data[i] = B := by rw [← hB, List.getD_eq_getElem?_getD, Array.getElem?_toList, Array.getElem?_eq_getElem hsz]; rfl
    have hB3 : s.data[i]?.getD 0 = B := by rw [Array.getElem?_eq_getElem hsz]; exact hB2
    have hB4 : s[i] = B := hB2
    rw [hB] at hs
    have hn0 : nmC (B.toNat : Nat) = false → nameB s = false := fun q => by simp [nameB, nmAll_not h (by rw [get_getD, hB]; exact q)]
    generalize hc : (B.toNat : Int) = c at hs hn0
    cases hq : nmC c with
    | true =>
      rw [hq] at hs
      have fin : ∃ a', (a' ≤ s.size ∧ nmAll s a' = true) ∧ s.size - a' < s.size - i ∧ (i : Int) + 1 = a' := ⟨i + 1, ⟨by omega, hs⟩, by omega, by omega⟩
      have fin2 : (i + 1 ≤ s.size ∧ nmAll s (i + 1) = true) ∧ s.size - (i + 1) < s.size - i := ⟨⟨by omega, hs⟩, by omega⟩
      simp only [nmC, Bool.or_eq_true, Bool.and_eq_true, decide_eq_true_eq, beq_iff_eq] at hq
      rcases hq with ((((⟨c1, c2⟩ | ⟨c1, c2⟩) | ⟨c1, c2⟩) | rfl) | rfl) | rfl
      · simp [hlt, hw, hB2, hB3, hB4, hc, c1, c2]; first | exact fin | exact fin2
      · have c3 : ¬ (97 : Int) ≤ c := by omega
        simp [hlt, hw, hB2, hB3, hB4, hc, c1, c2, c3]; first | exact fin | exact fin2
      · have c3 : ¬ (97 : Int) ≤ c := by omega
        have c4 : ¬ (65 : Int) ≤ c := by omega
        simp [hlt, hw, hB2, hB3, hB4, hc, c1, c2, c3, c4]; first | exact fin | exact fin2
      · simp [hlt, hw, hB2, hB3, hB4, hc]; first | exact fin | exact fin2
      · simp [hlt, hw, hB2, hB3, hB4, hc]; first | exact fin | exact fin2
      · simp [hlt, hw, hB2, hB3, hB4, hc]; first | exact fin | exact fin2
    | false =>
      have hn := hn0 hq
      have d1 : c ≠ 46 := fun q => by subst q; simp [nmC] at hq
      have d2 : c ≠ 95 := fun q => by subst q; simp [nmC] at hq
      have d3 : c ≠ 45 := fun q => by subst q; simp [nmC] at hq
      have d4 : ¬ ((97 : Int) ≤ c ∧ c ≤ 122) := fun q => by simp [nmC, q.1, q.2] at hq
      have d5 : ¬ ((65 : Int) ≤ c ∧ c ≤ 90) := fun q => by simp [nmC, q.1, q.2] at hq
      have d6 : ¬ ((48 : Int) ≤ c ∧ c ≤ 57) := fun q => by simp [nmC, q.1, q.2] at hq
      by_cases e1 : (97 : Int) ≤ c
      · have f1 : ¬ c ≤ 122 := fun q => d4 ⟨e1, q⟩
        have f2 : (65 : Int) ≤ c := by omega
        have f3 : ¬ c ≤ 90 := by omega
        have f4 : (48 : Int) ≤ c := by omega
        have f5 : ¬ c ≤ 57 := by omega
        simp [hlt, hw, hB2, hB3, hB4, hc, e1, f1, f2, f3, f4, f5, d1, d2, d3, hn]
      · by_cases e2 : (65 : Int) ≤ c
        · have f3 : ¬ c ≤ 90 := fun q => d5 ⟨e2, q⟩
          have f4 : (48 : Int) ≤ c := by omega
          have f5 : ¬ c ≤ 57 := by omega
          simp [hlt, hw, hB2, hB3, hB4, hc, e1, e2, f3, f4, f5, d1, d2, d3, hn]
        · by_cases e3 : (48 : Int) ≤ c
          · have f5 : ¬ c ≤ 57 := fun q => d6 ⟨e3, q⟩
            simp [hlt, hw, hB2, hB3, hB4, hc, e1, e2, e3, f5, d1, d2, d3, hn]
          · simp [hlt, hw, hB2, hB3, hB4, hc, e1, e2, e3, d1, d2, d3, hn]
  · have hlt : ¬ (i : Int) < s.size := by omega
    obtain rfl : i = s.size := by omega
    simp [hlt, nameB, ha, e1, e2]
end Go.Proofs.Ytkiimlmlfhmkiaa

/- Meta: what may be. -/

set_option linter.unusedSimpArgs false
set_option linter.unusedVariables false
set_option maxHeartbeats 2000000
namespace Go.Proofs.Ytkiimlmlfhmkiaa
open Go.Av

/-- A meta: kind, topic, index, name, parts, compact, zone, base, count. -/
structure Met where
  kd : Int
  tp : Int
  ix : Int
  nm : ByteArray
  pa : Int
  co : Bool
  zo : Int
  ba : Int
  cn : Int
def Met.cells (m : Met) : List SV := [.int .u8 m.kd, .int .i64 m.tp, .int .i64 m.ix, .str m.nm, .int .i64 m.pa, .bool m.co, .int .i64 m.zo, .int .i64 m.ba, .int .i64 m.cn]
def Met.sv (m : Met) : SV := .agg m.cells
theorem Met.sv_inj (a b : Met) (h : a.sv = b.sv) : a = b := by
  obtain ⟨a1, a2, a3, a4, a5, a6, a7, a8, a9⟩ := a
  obtain ⟨b1, b2, b3, b4, b5, b6, b7, b8, b9⟩ := b
  simpa [Met.sv, Met.cells] using h
def noN (s : ByteArray) : Bool := s.toList == (ByteArray.mk #[]).toList
/-- Has it a field that its kind has not? -/
def strg (m : Met) : Bool := ((((!decide (m.kd = 0) && ((!noN m.nm || m.pa != 0) || m.co)) || (!decide (m.kd = 2 ∨ m.kd = 3 ∨ m.kd = 4 ∨ m.kd = 5) && m.ix != 0)) || (!decide (m.kd = 4) && m.cn != 0)) || (!decide (m.kd = 2 ∨ m.kd = 3 ∨ m.kd = 4) && m.zo != 0)) || (!decide (m.kd = 2 ∨ m.kd = 4 ∨ m.kd = 5) && m.ba != 0)
def RmA : Orc := { p := fun f l => match f, l with
  | 51, [.int .u8 k] => some (True, .sv (.agg (ofK k)))
  | 58, [.int .i64 n, .int .i64 m] => some (True, .sv (.bool (decide (0 ≤ n) && decide (n ≤ m))))
  | 20, [.str s] => some (True, .sv (.bool (nameB s)))
  | 21, [.str s] => some (True, .sv (.bool (nameB s)))
  | _, _ => none }
theorem RmA_ok : RmA.ok Try.prog := by
  refine ⟨fun f l c rv h hc => ?_, fun _ _ _ _ _ _ h => (by cases h), fun _ _ _ _ h => (by cases h), fun _ h => (by cases h), fun _ _ _ _ _ _ h => (by cases h), fun _ _ _ _ _ _ _ h => (by cases h)⟩
  simp only [RmA] at h
  split at h <;> cases h
  · exact of_pure _
  · exact mwithin_pure _ _
  · exact name_pure _
  · exact rname_pure _
theorem RmA_51 (k : Int) : RmA.p 51 [.int .u8 k] = some (True, .sv (.agg (ofK k))) := rfl
theorem RmA_58 (n m : Int) : RmA.p 58 [.int .i64 n, .int .i64 m] = some (True, .sv (.bool (decide (0 ≤ n) && decide (n ≤ m)))) := rfl
theorem RmA_20 (s : ByteArray) : RmA.p 20 [.str s] = some (True, .sv (.bool (nameB s))) := rfl
theorem RmA_21 (s : ByteArray) : RmA.p 21 [.str s] = some (True, .sv (.bool (nameB s))) := rfl

theorem strange_pure (m : Met) : Pure Try.prog 57 [m.sv] (.sv (.bool (strg m))) := by
  refine pure_go RmA_ok Try.func57 Try.ntmps57 comp57 cres57 (by decide) (by simp) ?_
  obtain ⟨k, tp, ix, nm, pa, co, zo, ba, cn⟩ := m
  have e := RmA_51 k
  unfold ofK at e
  unfold strg noN
  generalize decide (k = 0) = f1 at e
  generalize decide (k = 2 ∨ k = 3 ∨ k = 4 ∨ k = 5) = f2 at e
  generalize decide (k = 4) = f3 at e
  generalize decide (k = 2 ∨ k = 3 ∨ k = 4) = f4 at e
  generalize decide (k = 2 ∨ k = 4 ∨ k = 5) = f5 at e
  simp (maxSteps := 400000) [ac57, ar57, Met.sv, Met.cells, e]
  grind (splits := 60)

end Go.Proofs.Ytkiimlmlfhmkiaa
