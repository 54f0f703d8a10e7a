import Derived.Test.YtkiimlmlfhmkiaaMCrC
import Derived.Test.YtkiimlmlfhmkiaaMCvM

set_option linter.unusedVariables false
set_option linter.unusedSimpArgs false

set_option linter.unusedSimpArgs false
set_option linter.unusedVariables false
set_option maxHeartbeats 2000000
namespace Go.Proofs.Ytkiimlmlfhmkiaa
open Go.Av

def rec0 : Rec := ⟨0, 0, false, ByteArray.mk #[], false, ByteArray.mk #[]⟩
def recG5 (f : Nat) (dl tm : Int) (l3 : List Nat) (e3 : Int) : Rec × Int × List Nat × Int :=
  let k := if f % 2 = 1 then rText l3 e3 64 else ([], l3, e3)
  let v := if f / 2 % 2 = 1 then ([], k.2) else rText k.2.1 k.2.2 512
  let r : Rec := ⟨dl, tm, decide (f % 2 = 1), sOf k.1, decide (f / 2 % 2 = 1), sOf v.1⟩
  if v.2.2 = 0 then (if 4 ≤ f ∨ recE r ≠ 0 then (rec0, 4, v.2) else (r, 0, v.2)) else (rec0, v.2.2, v.2)
def recG (l : List Nat) (e : Int) : Rec × Int × List Nat × Int :=
  let f := rFixed l e 1
  let d := rNum f.2.1 f.2.2
  let t := rNum d.2.1 d.2.2
  recG5 f.1 d.1 t.1 t.2.1 t.2.2

def RG : Orc := { p := RP.p, e := RT.e }
theorem RG_ok : RG.ok Try.prog := ⟨RP_ok.p, RT_ok.e, fun _ _ _ _ h => (by cases h), fun _ h => (by cases h), fun _ _ _ _ _ _ h => (by cases h), fun _ _ _ _ _ _ _ h => (by cases h)⟩
@[simp] theorem RG_74 (dl tm kd key dd val) : RG.p 74 [.agg [.int .i64 dl, .int .i64 tm, .bool kd, .str key, .bool dd, .str val]] = some (True, .sv (.int .i64 (recE ⟨dl, tm, kd, key, dd, val⟩))) := rfl
@[simp] theorem RG_62 (xs : List SV) (e : Int) : RG.e 62 [.sl 1 xs, .int .i64 e] [] = some (IsBs xs ∧ xs.length < 4611686018427387904, .sv (.int .i64 (rNum (nsOf xs) e).1), [.sl 1 (bs (rNum (nsOf xs) e).2.1), .int .i64 (rNum (nsOf xs) e).2.2]) := rfl
@[simp] theorem RG_60 (xs : List SV) (e w : Int) : RG.e 60 [.sl 1 xs, .int .i64 e] [.int .i64 w] = some (IsBs xs ∧ xs.length < 4611686018427387904, .sv (.int .u64 (rFixed (nsOf xs) e w).1), [.sl 1 (bs (rFixed (nsOf xs) e w).2.1), .int .i64 (rFixed (nsOf xs) e w).2.2]) := rfl
@[simp] theorem RG_63 (xs : List SV) (e m : Int) : RG.e 63 [.sl 1 xs, .int .i64 e] [.int .i64 m] = some (IsBs xs ∧ xs.length < 4611686018427387904, .sv (.str (sOf (rText (nsOf xs) e m).1)), [.sl 1 (bs (rText (nsOf xs) e m).2.1), .int .i64 (rText (nsOf xs) e m).2.2]) := rfl
@[simp] theorem RG_67 (b : SV) (e : Int) : RG.e 67 [b, .int .i64 e] [] = some (True, .sv (.int .i64 e), [b, .int .i64 e]) := rfl

theorem sOf_nil : sOf [] = ByteArray.mk #[] := rfl
theorem u64_and1 (f : Nat) : IntKind.u64.wrap ((f % 2 ^ IntKind.u64.bits &&& 1 % 2 ^ IntKind.u64.bits : Nat) : Int) = ((f % 2 : Nat) : Int) := by
  rw [show 1 % 2 ^ IntKind.u64.bits = 1 from rfl, Nat.and_one_is_mod, IntKind.wrap_u64]; simp [IntKind.bits]; omega
theorem u64_and2 (f : Nat) (h : f < 256) : IntKind.u64.wrap ((f % 2 ^ IntKind.u64.bits &&& 2 % 2 ^ IntKind.u64.bits : Nat) : Int) = ((f / 2 % 2 * 2 : Nat) : Int) := by
  have e : f % 2 ^ IntKind.u64.bits = f := by simp [IntKind.bits]; omega
  have : ∀ x : Fin 256, x.val &&& 2 = x.val / 2 % 2 * 2 := by decide +kernel
  rw [e, show 2 % 2 ^ IntKind.u64.bits = 2 from rfl, show f &&& 2 = f / 2 % 2 * 2 from this ⟨f, h⟩, IntKind.wrap_u64]; omega
theorem rFixed1_lt (l : List Nat) (hl : Bytes l) (e : Int) : (rFixed l e 1).1 < 256 := by
  unfold rFixed
  split
  · have hb := rTake_bytes hl e (wid 1)
    have hln : (rTake l e (wid 1)).1.length ≤ 1 := by
      unfold rTake; split
      · simp
      · simp [wid]; omega
    generalize (rTake l e (wid 1)).1 = t at hb hln
    cases t with
    | nil => simp [unF, unL]
    | cons c t =>
      have : t = [] := by cases t with | nil => rfl | cons _ _ => simp at hln
      subst this
      have := hb c (by simp)
      simp [unF, unL]; omega
  · simp
theorem rText_bytes {l : List Nat} (hl : Bytes l) (e m : Int) : Bytes (rText l e m).2.1 := by
  unfold rText
  have := rNum_bytes hl e
  generalize rNum l e = p at this
  obtain ⟨n, l', e'⟩ := p
  simp only at this ⊢
  generalize (if m > 0 then m else 0) = q
  split
  · split
    · exact this
    · exact rTake_bytes2 this _ _
  · exact this
theorem rText_le (l : List Nat) (e m : Int) : (rText l e m).2.1.length ≤ l.length := by
  unfold rText
  have := rNum_le l e
  generalize rNum l e = p at this
  obtain ⟨n, l', e'⟩ := p
  simp only at this ⊢
  generalize (if m > 0 then m else 0) = q
  split
  · split
    · exact this
    · exact Nat.le_trans (rTake_le2 _ _ _) this
  · exact this

theorem get_rec (l : List Nat) (e : Int) (hl : Bytes l) (hn : l.length < 4611686018427387904) : Eff1 Try.prog 77 [.sl 1 (bs l), .int .i64 e] [] (.tup [.sv (recG l e).1.sv, .sv (.int .i64 (recG l e).2.1)]) [.sl 1 (bs (recG l e).2.2.1), .int .i64 (recG l e).2.2.2] := by
  refine eff_go RG_ok Try.func77 Try.ntmps77 comp77 cres77 (by decide) (by simp) ?_
  unfold recG
  have f1 := rFixed1_lt l hl e
  have f2 := rFixed_bytes hl e 1
  have f3 := rFixed_le l e 1
  generalize h1 : rFixed l e 1 = p1 at f1 f2 f3 ⊢
  obtain ⟨f, l1, e1⟩ := p1
  simp only at f1 f2 f3 ⊢
  have d2 := rNum_bytes f2 e1
  have d3 := rNum_le l1 e1
  generalize h2 : rNum l1 e1 = p2 at d2 d3 ⊢
  obtain ⟨dl, l2, e2⟩ := p2
  simp only at d2 d3 ⊢
  have t2 := rNum_bytes d2 e2
  have t3 := rNum_le l2 e2
  generalize h3 : rNum l2 e2 = p3 at t2 t3 ⊢
  obtain ⟨tm, l3, e3⟩ := p3
  simp only at t2 t3 ⊢
  have k2 := rText_bytes t2 e3 64
  have k3 := rText_le l3 e3 64
  have n1 : l1.length < 4611686018427387904 := by omega
  have n2 : l2.length < 4611686018427387904 := by omega
  have n3 : l3.length < 4611686018427387904 := by omega
  generalize h4 : rText l3 e3 64 = p4 at k2 k3
  obtain ⟨key, l4, e4⟩ := p4
  simp only at k2 k3
  have n4 : l4.length < 4611686018427387904 := by omega
  have a1 := u64_and1 f
  have a2 := u64_and2 f f1
  unfold recG5
  rw [h4]
  by_cases hk : f % 2 = 1
  · by_cases hd : f / 2 % 2 = 1
    · simp only [hk, hd, if_true, decide_true]
      by_cases he : e4 = 0
      · by_cases h4f : 4 ≤ f
        · have h4f' : (4 : Int) ≤ f := by omega
          simp [ac77, ar77, h1, h2, h3, h4, k2, n4, isBs_bs, hl, f2, d2, t2, hn, n1, n2, n3, a1, a2, rec0, Rec.sv, Rec.cells, sOf_nil, hk, hd, he, h4f, h4f']
        · have h4f' : ¬ (4 : Int) ≤ f := by omega
          by_cases hr : recE ⟨dl, tm, true, sOf key, true, ByteArray.mk #[]⟩ = 0
          · simp [ac77, ar77, h1, h2, h3, h4, k2, n4, isBs_bs, hl, f2, d2, t2, hn, n1, n2, n3, a1, a2, rec0, Rec.sv, Rec.cells, sOf_nil, hk, hd, he, h4f, h4f', hr]
          · simp [ac77, ar77, h1, h2, h3, h4, k2, n4, isBs_bs, hl, f2, d2, t2, hn, n1, n2, n3, a1, a2, rec0, Rec.sv, Rec.cells, sOf_nil, hk, hd, he, h4f, h4f', hr]
      · simp [ac77, ar77, h1, h2, h3, h4, k2, n4, isBs_bs, hl, f2, d2, t2, hn, n1, n2, n3, a1, a2, rec0, Rec.sv, Rec.cells, sOf_nil, hk, hd, he]
    · have hd' : f / 2 % 2 = 0 := by omega
      have v2 := rText_bytes k2 e4 512
      have v3 := rText_le l4 e4 512
      simp only [hk, hd, if_true, if_false, decide_true]
      generalize h5 : rText l4 e4 512 = p5 at v2 v3 ⊢
      obtain ⟨val, l5, e5⟩ := p5
      simp only at v2 v3 ⊢
      have n5 : l5.length < 4611686018427387904 := by omega
      by_cases he : e5 = 0
      · by_cases h4f : 4 ≤ f
        · have h4f' : (4 : Int) ≤ f := by omega
          simp [ac77, ar77, h1, h2, h3, h4, k2, n4, h5, v2, n5, hd', isBs_bs, hl, f2, d2, t2, hn, n1, n2, n3, a1, a2, rec0, Rec.sv, Rec.cells, sOf_nil, hk, hd, he, h4f, h4f']
        · have h4f' : ¬ (4 : Int) ≤ f := by omega
          by_cases hr : recE ⟨dl, tm, true, sOf key, false, sOf val⟩ = 0
          · simp [ac77, ar77, h1, h2, h3, h4, k2, n4, h5, v2, n5, hd', isBs_bs, hl, f2, d2, t2, hn, n1, n2, n3, a1, a2, rec0, Rec.sv, Rec.cells, sOf_nil, hk, hd, he, h4f, h4f', hr]
          · simp [ac77, ar77, h1, h2, h3, h4, k2, n4, h5, v2, n5, hd', isBs_bs, hl, f2, d2, t2, hn, n1, n2, n3, a1, a2, rec0, Rec.sv, Rec.cells, sOf_nil, hk, hd, he, h4f, h4f', hr]
      · simp [ac77, ar77, h1, h2, h3, h4, k2, n4, h5, v2, n5, hd', isBs_bs, hl, f2, d2, t2, hn, n1, n2, n3, a1, a2, rec0, Rec.sv, Rec.cells, sOf_nil, hk, hd, he]
  · have hk' : f % 2 = 0 := by omega
    by_cases hd : f / 2 % 2 = 1
    · simp only [hk, hd, if_true, if_false, decide_true]
      by_cases he : e3 = 0
      · by_cases h4f : 4 ≤ f
        · have h4f' : (4 : Int) ≤ f := by omega
          simp [ac77, ar77, h1, h2, h3, hk', isBs_bs, hl, f2, d2, t2, hn, n1, n2, n3, a1, a2, rec0, Rec.sv, Rec.cells, sOf_nil, hk, hd, he, h4f, h4f']
        · have h4f' : ¬ (4 : Int) ≤ f := by omega
          by_cases hr : recE ⟨dl, tm, false, ByteArray.mk #[], true, ByteArray.mk #[]⟩ = 0
          · simp [ac77, ar77, h1, h2, h3, hk', isBs_bs, hl, f2, d2, t2, hn, n1, n2, n3, a1, a2, rec0, Rec.sv, Rec.cells, sOf_nil, hk, hd, he, h4f, h4f', hr]
          · simp [ac77, ar77, h1, h2, h3, hk', isBs_bs, hl, f2, d2, t2, hn, n1, n2, n3, a1, a2, rec0, Rec.sv, Rec.cells, sOf_nil, hk, hd, he, h4f, h4f', hr]
      · simp [ac77, ar77, h1, h2, h3, hk', isBs_bs, hl, f2, d2, t2, hn, n1, n2, n3, a1, a2, rec0, Rec.sv, Rec.cells, sOf_nil, hk, hd, he]
    · have hd' : f / 2 % 2 = 0 := by omega
      have v2 := rText_bytes t2 e3 512
      have v3 := rText_le l3 e3 512
      simp only [hk, hd, if_true, if_false, decide_true]
      generalize h5 : rText l3 e3 512 = p5 at v2 v3 ⊢
      obtain ⟨val, l5, e5⟩ := p5
      simp only at v2 v3 ⊢
      have n5 : l5.length < 4611686018427387904 := by omega
      by_cases he : e5 = 0
      · by_cases h4f : 4 ≤ f
        · have h4f' : (4 : Int) ≤ f := by omega
          simp [ac77, ar77, h1, h2, h3, h5, v2, n5, hk', hd', isBs_bs, hl, f2, d2, t2, hn, n1, n2, n3, a1, a2, rec0, Rec.sv, Rec.cells, sOf_nil, hk, hd, he, h4f, h4f']
        · have h4f' : ¬ (4 : Int) ≤ f := by omega
          by_cases hr : recE ⟨dl, tm, false, ByteArray.mk #[], false, sOf val⟩ = 0
          · simp [ac77, ar77, h1, h2, h3, h5, v2, n5, hk', hd', isBs_bs, hl, f2, d2, t2, hn, n1, n2, n3, a1, a2, rec0, Rec.sv, Rec.cells, sOf_nil, hk, hd, he, h4f, h4f', hr]
          · simp [ac77, ar77, h1, h2, h3, h5, v2, n5, hk', hd', isBs_bs, hl, f2, d2, t2, hn, n1, n2, n3, a1, a2, rec0, Rec.sv, Rec.cells, sOf_nil, hk, hd, he, h4f, h4f', hr]
      · simp [ac77, ar77, h1, h2, h3, h5, v2, n5, hk', hd', isBs_bs, hl, f2, d2, t2, hn, n1, n2, n3, a1, a2, rec0, Rec.sv, Rec.cells, sOf_nil, hk, hd, he]
end Go.Proofs.Ytkiimlmlfhmkiaa

set_option linter.unusedSimpArgs false
set_option linter.unusedVariables false
set_option maxHeartbeats 2000000
namespace Go.Proofs.Ytkiimlmlfhmkiaa
open Go.Av

theorem sOf_bytesNat (s : ByteArray) : sOf (bytesNat s) = s := by
  simp [sOf, bytesNat, Function.comp_def]
theorem bytesNat_bytes (s : ByteArray) : Bytes (bytesNat s) := by
  intro c hc
  simp only [bytesNat, List.mem_map] at hc
  obtain ⟨x, _, rfl⟩ := hc
  exact x.toNat_lt
theorem rNum_lay {n : Int} (h : I64 n) (l : List Nat) : rNum (layN (zig n) ++ l) 0 = (n, l, 0) := by
  simp [rNum, getN_lay _ (zig_lt h.1 h.2), zag_zig]
theorem rText_lay (s : ByteArray) (m : Int) (h : I64 (s.size : Int)) (hm : (s.size : Int) ≤ m) (l : List Nat) : rText (layN (zig s.size) ++ (bytesNat s ++ l)) 0 m = (bytesNat s, l, 0) := by
  have hl := bytesNat_length s
  have h1 : ¬ ((s.size : Int) < 0 ∨ (s.size : Int) > if m > 0 then m else 0) := by split <;> omega
  simp only [rText, rNum_lay h, if_true, if_neg h1, rTake]
  rw [if_neg (by simp [hl]; omega)]
  simp [← hl]
theorem rText_cut (s : ByteArray) (m : Int) (h : I64 (s.size : Int)) (hm : (s.size : Int) ≤ m) : (rText (layN (zig s.size) ++ bytesNat s).dropLast 0 m).2.2 = 3 := by
  have hl := bytesNat_length s
  by_cases hs : bytesNat s = []
  · rw [hs] at hl
    have : s.size = 0 := by simpa using hl.symm
    rw [hs, List.append_nil]
    have e : (layN (zig s.size)).dropLast = [] := by
      rw [this, show zig ((0 : Nat) : Int) = 0 from rfl, layN_small (by decide)]; rfl
    rw [e]
    have : getN [] = (0, 0, 3) := by rw [getN_none (fun j h => by simp at h)]; rfl
    simp [rText, rNum, this]
  · rw [List.dropLast_append_of_ne_nil hs]
    have h1 : ¬ ((s.size : Int) < 0 ∨ (s.size : Int) > if m > 0 then m else 0) := by split <;> omega
    have hp : 0 < (bytesNat s).length := List.length_pos_iff.2 hs
    simp only [rText, rNum_lay h, if_true, if_neg h1, rTake]
    rw [if_pos (by simp [hl]; omega)]
theorem rFixed_1 (c : Nat) (h : c < 256) (l : List Nat) : rFixed (c :: l) 0 1 = (c, l, 0) := by
  have hw : wid 1 = 1 := rfl
  simp [rFixed, rTake, hw, unF, unL]
  rw [if_neg (by omega)]
  simp; omega

theorem recE_form {r : Rec} (h : recE r = 0) : (r.kd = false → r.key = ByteArray.mk #[] ∧ r.dd = false) ∧ (r.dd = true → r.val = ByteArray.mk #[]) := by
  have em : ∀ s : ByteArray, isE s = true → s = ByteArray.mk #[] := fun s hs => by
    simp [isE, ByteArray.toList_eq] at hs
    obtain ⟨⟨d⟩⟩ := s
    simp at hs
    subst hs; rfl
  unfold recE at h
  split at h
  · cases h
  split at h
  · cases h
  split at h
  · cases h
  rename_i hq
  simp only [Bool.not_eq_true, Bool.or_eq_false_iff, Bool.and_eq_false_iff, Bool.not_eq_false'] at hq
  obtain ⟨q1, q2⟩ := hq
  refine ⟨fun hk => ?_, fun hd => ?_⟩
  · rcases q1 with q | q
    · rw [hk] at q; cases q
    · exact ⟨em _ (by simpa using q.1), q.2⟩
  · rcases q2 with q | q
    · rw [hd] at q; cases q
    · exact em _ (by simpa using q)

def flagR (r : Rec) : Nat := (if r.kd then 1 else 0) + (if r.dd then 2 else 0)
theorem recG_put (r : Rec) (h : recE r = 0) (l : List Nat) : recG (recP r ++ l) 0 = (r, 0, l, 0) := by
  obtain ⟨a1, a2, a3, a4, a5, a6⟩ := recE_small h
  obtain ⟨b1, b2⟩ := recE_form h
  obtain ⟨dl, tm, kd, key, dd, val⟩ := r
  simp only at a1 a2 a3 a4 a5 a6 b1 b2
  have i1 : I64 dl := ⟨by omega, by omega⟩
  have i2 : I64 tm := ⟨by omega, by omega⟩
  have i3 : I64 (key.size : Int) := ⟨by omega, by omega⟩
  have i4 : I64 (val.size : Int) := ⟨by omega, by omega⟩
  cases kd
  · obtain ⟨rfl, rfl⟩ := b1 rfl
    have e1 : recP ⟨dl, tm, false, ByteArray.mk #[], false, val⟩ ++ l = 0 :: (layN (zig dl) ++ (layN (zig tm) ++ (layN (zig val.size) ++ (bytesNat val ++ l)))) := by simp [recP]
    rw [e1]
    simp only [recG, rFixed_1 0 (by decide), rNum_lay i1, rNum_lay i2, recG5]
    simp [rText_lay val 512 i4 (by omega), sOf_bytesNat, sOf_nil, h]
  · cases dd
    · have e1 : recP ⟨dl, tm, true, key, false, val⟩ ++ l = 1 :: (layN (zig dl) ++ (layN (zig tm) ++ (layN (zig key.size) ++ (bytesNat key ++ (layN (zig val.size) ++ (bytesNat val ++ l)))))) := by simp [recP]
      rw [e1]
      simp only [recG, rFixed_1 1 (by decide), rNum_lay i1, rNum_lay i2, recG5]
      simp only [if_true, rText_lay key 64 i3 (by omega), rText_lay val 512 i4 (by omega)]
      simp [rText_lay val 512 i4 (by omega), sOf_bytesNat, sOf_nil, h]
    · obtain rfl := b2 rfl
      have e1 : recP ⟨dl, tm, true, key, true, ByteArray.mk #[]⟩ ++ l = 3 :: (layN (zig dl) ++ (layN (zig tm) ++ (layN (zig key.size) ++ (bytesNat key ++ l)))) := by simp [recP]
      rw [e1]
      simp only [recG, rFixed_1 3 (by decide), rNum_lay i1, rNum_lay i2, recG5]
      simp [rText_lay key 64 i3 (by omega), sOf_bytesNat, sOf_nil, h]
theorem recG_cut (r : Rec) (h : recE r = 0) : (recG (recP r).dropLast 0).2.1 = 3 := by
  obtain ⟨a1, a2, a3, a4, a5, a6⟩ := recE_small h
  obtain ⟨b1, b2⟩ := recE_form h
  obtain ⟨dl, tm, kd, key, dd, val⟩ := r
  simp only at a1 a2 a3 a4 a5 a6 b1 b2
  have i1 : I64 dl := ⟨by omega, by omega⟩
  have i2 : I64 tm := ⟨by omega, by omega⟩
  have i3 : I64 (key.size : Int) := ⟨by omega, by omega⟩
  have i4 : I64 (val.size : Int) := ⟨by omega, by omega⟩
  have ne : ∀ s : ByteArray, layN (zig s.size) ++ bytesNat s ≠ [] := fun s q => by
    have := layN_pos (zig s.size)
    have := congrArg List.length q
    simp only [List.length_append, List.length_nil] at this; omega
  cases kd
  · obtain ⟨rfl, rfl⟩ := b1 rfl
    have e1 : (recP ⟨dl, tm, false, ByteArray.mk #[], false, val⟩).dropLast = 0 :: (layN (zig dl) ++ (layN (zig tm) ++ (layN (zig val.size) ++ bytesNat val).dropLast)) := by
      have : recP ⟨dl, tm, false, ByteArray.mk #[], false, val⟩ = (0 :: (layN (zig dl) ++ layN (zig tm))) ++ (layN (zig val.size) ++ bytesNat val) := by simp [recP]
      rw [this, List.dropLast_append_of_ne_nil (ne val)]; simp
    rw [e1]
    have hc := rText_cut val 512 i4 (by omega)
    simp only [recG, rFixed_1 0 (by decide), rNum_lay i1, rNum_lay i2, recG5]
    simp [hc]
  · cases dd
    · have e1 : (recP ⟨dl, tm, true, key, false, val⟩).dropLast = 1 :: (layN (zig dl) ++ (layN (zig tm) ++ (layN (zig key.size) ++ (bytesNat key ++ (layN (zig val.size) ++ bytesNat val).dropLast)))) := by
        have : recP ⟨dl, tm, true, key, false, val⟩ = (1 :: (layN (zig dl) ++ layN (zig tm) ++ (layN (zig key.size) ++ bytesNat key))) ++ (layN (zig val.size) ++ bytesNat val) := by simp [recP]
        rw [this, List.dropLast_append_of_ne_nil (ne val)]; simp
      rw [e1]
      have hc := rText_cut val 512 i4 (by omega)
      simp only [recG, rFixed_1 1 (by decide), rNum_lay i1, rNum_lay i2, recG5]
      simp only [if_true, rText_lay key 64 i3 (by omega)]
      simp [hc]
    · obtain rfl := b2 rfl
      have e1 : (recP ⟨dl, tm, true, key, true, ByteArray.mk #[]⟩).dropLast = 3 :: (layN (zig dl) ++ (layN (zig tm) ++ (layN (zig key.size) ++ bytesNat key).dropLast)) := by
        have : recP ⟨dl, tm, true, key, true, ByteArray.mk #[]⟩ = (3 :: (layN (zig dl) ++ layN (zig tm))) ++ (layN (zig key.size) ++ bytesNat key) := by simp [recP]
        rw [this, List.dropLast_append_of_ne_nil (ne key)]; simp
      rw [e1]
      have hc := rText_cut key 64 i3 (by omega)
      simp only [recG, rFixed_1 3 (by decide), rNum_lay i1, rNum_lay i2, recG5]
      simp [hc]

theorem recS_iff (r s : Rec) : recS r s = true ↔ r = s := by
  obtain ⟨dl, tm, kd, key, dd, val⟩ := r
  obtain ⟨dl', tm', kd', key', dd', val'⟩ := s
  have ba : ∀ a b : ByteArray, a.toList = b.toList → a = b := fun a b h => by
    rw [ByteArray.toList_eq, ByteArray.toList_eq] at h
    obtain ⟨⟨x⟩⟩ := a
    obtain ⟨⟨y⟩⟩ := b
    simp at h; subst h; rfl
  simp only [recS, Bool.and_eq_true, beq_iff_eq, Rec.mk.injEq]
  constructor
  · rintro ⟨h1, h2, h3, h4, h5, h6⟩; exact ⟨h1, h2, h3, ba _ _ h4, h5, ba _ _ h6⟩
  · rintro ⟨h1, h2, h3, h4, h5, h6⟩; exact ⟨h1, h2, h3, by rw [h4], h5, by rw [h6]⟩
theorem rec_prefix {r s : Rec} (hr : recE r = 0) (hs : recE s = 0) {t : List Nat} (h : recP s = recP r ++ t) : r = s := by
  have h1 := recG_put s hs []
  rw [List.append_nil, h, recG_put r hr t] at h1
  exact congrArg Prod.fst h1
theorem recP_bytes (r : Rec) : Bytes (recP r) := by
  have h0 : Bytes [(if r.kd = true then 1 else 0) + (if r.dd = true then 2 else 0)] := fun c hc => by
    simp at hc; subst hc; split <;> split <;> omega
  have : recP r = [(if r.kd = true then 1 else 0) + (if r.dd = true then 2 else 0)] ++ (layN (zig r.dl) ++ layN (zig r.tm)) ++ (if r.kd then layN (zig r.key.size) ++ bytesNat r.key else []) ++ (if r.dd then [] else layN (zig r.val.size) ++ bytesNat r.val) := by simp [recP]
  rw [this]
  refine ((h0.append ((layN_bytes _).append (layN_bytes _))).append ?_).append ?_
  · split
    · exact (layN_bytes _).append (bytesNat_bytes _)
    · exact fun c h => by simp at h
  · split
    · exact fun c h => by simp at h
    · exact (layN_bytes _).append (bytesNat_bytes _)
end Go.Proofs.Ytkiimlmlfhmkiaa
