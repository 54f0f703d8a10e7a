import Derived.Test.YtomlhaekhammkaaIxC

set_option linter.unusedSimpArgs false
set_option linter.unusedVariables false
set_option maxHeartbeats 2000000
namespace Go.Proofs.Ytomlhaekhammkaa
open Go.Av

theorem rfind_pure (x : Idx) (time : Int) (hl : x.2.2.length ≤ 1000000) : Pure Try.prog 41 [ixV x, iV time] (.tup [.sv (eV (lastP (fun e => decide (e.1 ≤ time)) x.2.2).1), .sv (.bool (lastP (fun e => decide (e.1 ≤ time)) x.2.2).2)]) := by
  obtain ⟨a, b, l⟩ := x
  simp only at hl
  refine pure_go R0_ok Try.func41 Try.ntmps41 comp41 cres41 (by decide) (by simp) ?_
  have hw0 : IntKind.i64.wrap ((l.length : Int) - 1) = (l.length : Int) - 1 := by rw [IntKind.wrap_i64]; omega
  simp [ac41, ar41, iV, ixV, xV, hw0]
  refine awpR_loop (α := Nat) (fun k => k ≤ l.length ∧ ∀ j, k ≤ j → j < l.length → decide ((l.getD j (0, 0, 0)).1 ≤ time) = false) (fun k => { n := 29, sl := [(1, .sv (.int .i64 time)), (2, .lptr 2 0), (4, .lptr 4 0), (6, .sv (.int .i64 ((k : Int) - 1)))], bx := [(2, [.sv (.int .i64 a), .sv (.int .i64 b), .sv (.sl 3 (EL l))]), (4, [.sv (.int .i64 0), .sv (.int .i64 0), .sv (.int .i64 0)])], hp := fun _ => none })
    (fun k => k) l.length ⟨by omega, fun j h1 h2 => by omega⟩ (by simp) ?_
  rintro k ⟨hk, hall⟩
  by_cases h : 0 < k
  · obtain ⟨m, rfl⟩ : ∃ m, k = m + 1 := ⟨k - 1, by omega⟩
    have e1 : ((m + 1 : Nat) : Int) - 1 = m := by omega
    have hm : m < l.length := by omega
    have hm1 : (m : Int) < l.length := by omega
    have hg := EL_get l hm
    have hw : IntKind.i64.wrap ((m : Int) - 1) = (m : Int) - 1 := by rw [IntKind.wrap_i64]; omega
    have key : decide ((l.getD m (0, 0, 0)).1 ≤ time) = true → lastP (fun e => decide (e.1 ≤ time)) l = (l.getD m (0, 0, 0), true) := fun q => lastP_some hm (fun j h1 h2 => hall j (by omega) h2) q
    have key2 : decide ((l.getD m (0, 0, 0)).1 ≤ time) = false → ∀ j, m ≤ j → j < l.length → decide ((l.getD j (0, 0, 0)).1 ≤ time) = false := by
      intro q j h1 h2
      by_cases e : j = m
      · subst e; exact q
      · exact hall j (by omega) h2
    generalize l.getD m (0, 0, 0) = s at hg key key2
    obtain ⟨s1, s2, s3⟩ := s
    rw [e1]
    by_cases q : s1 ≤ time
    · have hk1 := key (by simpa using q)
      rw [hk1]
      have q' : ¬ time < s1 := by omega
      simp [hm1, hg, eV, iV, hw, q, q']
    · have q' : time < s1 := by omega
      have hk2 := key2 (by simpa using q)
      simp [hm1, hg, eV, iV, hw, q, q']
      exact ⟨m, ⟨by omega, by simpa using hk2⟩, by omega, rfl⟩
  · obtain rfl : k = 0 := by omega
    have := lastP_none (p := fun e => decide (e.1 ≤ time)) (l := l) (fun j hj => hall j (by omega) hj)
    simp [this, eV, iV]

/-! ### sort.Search -/
def gtAt (l : List Ent) (off : Int) (i : Nat) : Bool := decide (off < (l.getD i (0, 0, 0)).1)
theorem f60_pure (x : Idx) (off : Int) (i : Nat) (hi : i < x.2.2.length) : Pure Try.prog 60 [iV i, .eptr (ixV x) 0, .eptr (.agg [iV off]) 0] (.sv (.bool (gtAt x.2.2 off i))) := by
  obtain ⟨a, b, l⟩ := x
  simp only at hi
  refine pure_go R0_ok Try.func60 Try.ntmps60 comp60 cres60 (by decide) (by simp) ?_
  have hi' : (i : Int) < l.length := by omega
  have hg := EL_get l hi
  unfold gtAt
  generalize l.getD i (0, 0, 0) = s at hg
  simp [ac60, ar60, ixV, xV, iV, eV, hg, hi']

def searchG (f : Nat → Bool) : Nat → Nat → Nat → Nat
  | 0, lo, _ => lo
  | fuel + 1, lo, hi => if lo < hi then (if f ((lo + hi) / 2) then searchG f fuel lo ((lo + hi) / 2) else searchG f fuel ((lo + hi) / 2 + 1) hi) else lo
theorem searchG_more (f : Nat → Bool) : ∀ (fuel lo hi : Nat), hi - lo ≤ fuel → searchG f (fuel + 1) lo hi = searchG f fuel lo hi
  | 0, lo, hi, h => by simp only [searchG]; rw [if_neg (by omega)]
  | fuel + 1, lo, hi, h => by
    rw [searchG]
    by_cases q : lo < hi
    · rw [if_pos q, searchG_more f fuel _ _ (by omega), searchG_more f fuel _ _ (by omega)]
      rw [searchG, if_pos q]
    · rw [if_neg q, searchG, if_neg q]
theorem searchG_fuel (f : Nat → Bool) (n lo hi : Nat) (h : hi - lo ≤ n) : searchG f n lo hi = searchG f (hi - lo) lo hi := by
  induction n with
  | zero => have : hi - lo = 0 := by omega
            rw [this]
  | succ n ih =>
    by_cases q : hi - lo ≤ n
    · rw [searchG_more f n lo hi q, ih q]
    · have : hi - lo = n + 1 := by omega
      rw [this]
theorem searchG_step (f : Nat → Bool) (lo hi : Nat) (h : lo < hi) : searchG f (hi - lo) lo hi = if f ((lo + hi) / 2) then searchG f ((lo + hi) / 2 - lo) lo ((lo + hi) / 2) else searchG f (hi - ((lo + hi) / 2 + 1)) ((lo + hi) / 2 + 1) hi := by
  obtain ⟨d, hd⟩ : ∃ d, hi - lo = d + 1 := ⟨hi - lo - 1, by omega⟩
  rw [hd, searchG, if_pos h, searchG_fuel f d _ _ (by omega), searchG_fuel f d _ _ (by omega)]
def fnV (x : Idx) (off : Int) : SV := .fn 60 [] [.eptr (ixV x) 0, .eptr (.agg [iV off]) 0]
def searchN (x : Idx) (off : Int) : Nat := searchG (gtAt x.2.2 off) x.2.2.length 0 x.2.2.length

def R60 : Orc := {
  p := fun f l => match f, l with
  | 60, [.int .i64 i, .eptr (.agg [.int .i64 a, .int .i64 b, .sl 3 xs]) 0, .eptr (.agg [.int .i64 off]) 0] => some (xs = EL (unEL xs) ∧ 0 ≤ i ∧ i < xs.length, .sv (.bool (gtAt (unEL xs) off i.toNat)))
  | _, _ => none
  fv := fun f => f == 60 }
theorem R60_ok : R60.ok Try.prog := by
  refine ⟨fun f l c rv h hc => ?_, fun _ _ _ _ _ _ h => (by cases h), fun _ _ _ _ h => (by cases h), fun f h => ?_⟩
  · simp only [R60] at h
    split at h <;> cases h
    rename_i i a b xs off
    obtain ⟨h1, h2, h3⟩ := hc
    obtain ⟨m, rfl⟩ := Int.eq_ofNat_of_zero_le h2
    have := f60_pure (a, b, unEL xs) off m (by simp [unEL]; omega)
    simp only [ixV, xV] at this
    rw [← h1] at this
    exact this
  · have : f = 60 := by simpa [R60] using h
    subst this
    exact ⟨_, Try.func60, rfl, rfl⟩
theorem R60_60 (i : Int) (a b : Int) (l : List Ent) (off : Int) : R60.p 60 [.int .i64 i, .eptr (.agg [.int .i64 a, .int .i64 b, .sl 3 (EL l)]) 0, .eptr (.agg [.int .i64 off]) 0] = some (EL l = EL l ∧ 0 ≤ i ∧ i < l.length, .sv (.bool (gtAt l off i.toNat))) := by
  show some (EL l = EL (unEL (EL l)) ∧ 0 ≤ i ∧ i < (EL l).length, LV.sv (.bool (gtAt (unEL (EL l)) off i.toNat))) = _
  rw [unEL_EL, EL_length]
theorem R60_fv : R60.fv 60 = true := rfl

theorem search_pure (x : Idx) (off : Int) (hl : x.2.2.length ≤ 1000000) : Pure Try.prog 59 [iV x.2.2.length, fnV x off] (.sv (iV (searchN x off))) := by
  obtain ⟨a, b, l⟩ := x
  simp only at hl
  refine pure_go R60_ok Try.func59 Try.ntmps59 comp59 cres59 (by decide) (by simp) ?_
  simp [ac59, ar59, iV, fnV, ixV, xV]
  refine awpR_loop (α := Nat × Nat) (fun p => p.1 ≤ p.2 ∧ p.2 ≤ l.length ∧ searchN (a, b, l) off = searchG (gtAt l off) (p.2 - p.1) p.1 p.2) (fun p => { n := 26, sl := [(1, .sv (.fn 60 [] [.eptr (.agg [.int .i64 a, .int .i64 b, .sl 3 (EL l)]) 0, .eptr (.agg [.int .i64 off]) 0])), (5, .sv (.int .i64 p.1)), (6, .sv (.int .i64 p.2))], bx := [], hp := fun _ => none })
    (fun p => p.2 - p.1) (0, l.length) ⟨by simp, by simp, by simp [searchN]⟩ (by simp) ?_
  rintro ⟨lo, hi⟩ ⟨h1, h2, h3⟩
  simp only at h1 h2 h3
  by_cases h : lo < hi
  · have hlt : (lo : Int) < hi := by omega
    have hm : (lo + hi) / 2 < l.length := by omega
    rw [searchG_step _ _ _ h] at h3
    have hw : IntKind.i64.wrap ((IntKind.u64.wrap (IntKind.i64.wrap ((lo : Int) + hi))).fdiv (2 ^ min 1 IntKind.u64.bits)) = (((lo + hi) / 2 : Nat) : Int) := by
      have e0 : ((2 : Int) ^ min 1 IntKind.u64.bits) = 2 := rfl
      have e1 : IntKind.i64.wrap ((lo : Int) + hi) = ((lo + hi : Nat) : Int) := by rw [IntKind.wrap_i64]; omega
      have e2 : IntKind.u64.wrap ((lo + hi : Nat) : Int) = ((lo + hi : Nat) : Int) := by rw [IntKind.wrap_u64]; omega
      have e3 : (((lo + hi : Nat) : Int)).fdiv 2 = (((lo + hi) / 2 : Nat) : Int) := by rw [Int.fdiv_eq_ediv_of_nonneg _ (by omega)]; omega
      rw [e0, e1, e2, e3, IntKind.wrap_i64]; omega
    have hm1 : lo ≤ (lo + hi) / 2 := by omega
    have hm2 : (lo + hi) / 2 < hi := by omega
    generalize (lo + hi) / 2 = m at hm h3 hw hm1 hm2
    simp [hlt, R60_60, R60_fv, hw]
    refine ⟨by omega, fun q => ⟨m + 1, hi, ⟨by omega, by omega, ?_⟩, by omega, ?_, rfl⟩, fun q => ⟨lo, m, ⟨by omega, by omega, ?_⟩, by omega, rfl, rfl⟩⟩
    · rw [h3, if_neg (by simp [q])]
    · rw [IntKind.wrap_i64]; omega
    · rw [h3, if_pos q]
  · have hlt : ¬ (lo : Int) < hi := by omega
    obtain rfl : lo = hi := by omega
    simp [hlt]
    simp [searchG] at h3
    rw [h3]

theorem searchG_le (f : Nat → Bool) : ∀ (fuel lo hi : Nat), lo ≤ hi → lo ≤ searchG f fuel lo hi ∧ searchG f fuel lo hi ≤ hi
  | 0, lo, hi, h => by simp only [searchG]; omega
  | fuel + 1, lo, hi, h => by
    simp only [searchG]
    split
    · split
      · have := searchG_le f fuel lo ((lo + hi) / 2) (by omega); omega
      · have := searchG_le f fuel ((lo + hi) / 2 + 1) hi (by omega); omega
    · omega
/-- Where a rising answer turns. -/
theorem searchG_turn (f : Nat → Bool) (hf : ∀ i j, i ≤ j → f i = true → f j = true) : ∀ (fuel lo hi : Nat), hi - lo ≤ fuel → lo ≤ hi →
    (∀ i, lo ≤ i → i < searchG f fuel lo hi → f i = false) ∧ (searchG f fuel lo hi < hi → f (searchG f fuel lo hi) = true)
  | 0, lo, hi, h, h2 => by
    simp only [searchG]
    exact ⟨fun i h3 h4 => by omega, fun h3 => by omega⟩
  | fuel + 1, lo, hi, h, h2 => by
    simp only [searchG]
    split
    · rename_i hlt
      split
      · rename_i q
        obtain ⟨k1, k2⟩ := searchG_turn f hf fuel lo ((lo + hi) / 2) (by omega) (by omega)
        refine ⟨k1, fun h3 => ?_⟩
        have hle := searchG_le f fuel lo ((lo + hi) / 2) (by omega)
        by_cases e : searchG f fuel lo ((lo + hi) / 2) = (lo + hi) / 2
        · rw [e]; exact q
        · exact k2 (by omega)
      · rename_i q
        obtain ⟨k1, k2⟩ := searchG_turn f hf fuel ((lo + hi) / 2 + 1) hi (by omega) (by omega)
        refine ⟨fun i h3 h4 => ?_, k2⟩
        by_cases e : (lo + hi) / 2 + 1 ≤ i
        · exact k1 i e h4
        · cases hi2 : f i with
          | false => rfl
          | true => exact absurd (hf i ((lo + hi) / 2) (by omega) hi2) q
    · exact ⟨fun i h3 h4 => by omega, fun h3 => by omega⟩

def findX (x : Idx) (off : Int) : Ent × Bool := if searchN x off = 0 then ((0, 0, 0), false) else (x.2.2.getD (searchN x off - 1) (0, 0, 0), true)
def R59 : Orc := { p := fun f l => match f, l with
  | 59, [.int .i64 n, .fn 60 [] [.eptr (.agg [.int .i64 a, .int .i64 b, .sl 3 xs]) 0, .eptr (.agg [.int .i64 off]) 0]] => some (xs = EL (unEL xs) ∧ n = xs.length ∧ xs.length ≤ 1000000, .sv (.int .i64 (searchN (a, b, unEL xs) off)))
  | _, _ => none }
theorem R59_ok : R59.ok Try.prog := by
  refine ⟨fun f l c rv h hc => ?_, fun _ _ _ _ _ _ h => (by cases h), fun _ _ _ _ h => (by cases h), fun f h => (by cases h)⟩
  simp only [R59] at h
  split at h <;> cases h
  rename_i n a b xs off
  obtain ⟨h1, rfl, h3⟩ := hc
  have := search_pure (a, b, unEL xs) off (by simpa [unEL] using h3)
  simp only [fnV, ixV, xV] at this
  rw [← h1] at this
  have hl : (unEL xs).length = xs.length := by simp [unEL]
  rw [hl] at this
  exact this
theorem R59_59 (n : Int) (a b : Int) (l : List Ent) (off : Int) : R59.p 59 [.int .i64 n, .fn 60 [] [.eptr (.agg [.int .i64 a, .int .i64 b, .sl 3 (EL l)]) 0, .eptr (.agg [.int .i64 off]) 0]] = some (EL l = EL l ∧ n = l.length ∧ l.length ≤ 1000000, .sv (.int .i64 (searchN (a, b, l) off))) := by
  show some (EL l = EL (unEL (EL l)) ∧ n = (EL l).length ∧ (EL l).length ≤ 1000000, LV.sv (.int .i64 (searchN (a, b, unEL (EL l)) off))) = _
  rw [unEL_EL, EL_length]

theorem find_pure (x : Idx) (off : Int) (hl : x.2.2.length ≤ 1000000) : Pure Try.prog 39 [ixV x, iV off] (.tup [.sv (eV (findX x off).1), .sv (.bool (findX x off).2)]) := by
  obtain ⟨a, b, l⟩ := x
  simp only at hl
  refine pure_go R59_ok Try.func39 Try.ntmps39 comp39 cres39 (by decide) (by simp) ?_
  have hle := searchG_le (gtAt l off) l.length 0 l.length (by omega)
  have hn : searchN (a, b, l) off ≤ l.length := hle.2
  unfold findX
  have hR := R59_59 l.length a b l off
  have hz : R59.nofz = false := rfl
  generalize searchN (a, b, l) off = n at hn hR ⊢
  by_cases h0 : n = 0
  · subst h0
    simp [ac39, ar39, ixV, xV, iV, eV, hR, hl, hz]
  · have hb : n - 1 < l.length := by omega
    have hb1 : ((n - 1 : Nat) : Int) < l.length := by omega
    have hg := EL_get l hb
    have hw : IntKind.i64.wrap ((n : Int) - 1) = ((n - 1 : Nat) : Int) := by rw [IntKind.wrap_i64]; omega
    rw [if_neg h0]
    generalize l.getD (n - 1) (0, 0, 0) = s at hg
    simp [ac39, ar39, ixV, xV, iV, eV, hR, hl, h0, hb1, hg, hw, hz]
end Go.Proofs.Ytomlhaekhammkaa
