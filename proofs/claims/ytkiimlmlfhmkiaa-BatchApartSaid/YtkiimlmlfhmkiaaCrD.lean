import Derived.Test.YtkiimlmlfhmkiaaCrC

set_option linter.unusedSimpArgs false
set_option linter.unusedVariables false
set_option maxHeartbeats 2000000
namespace Go.Proofs.Ytkiimlmlfhmkiaa
open Go.Av

def rec0 : Rec := ⟨0, 0, false, ByteArray.mk #[], false, ByteArray.mk #[]⟩
def recG5 (f : Nat) (dl tm : Int) (l3 : List Nat) (e3 : Int) : Rec × Int × List Nat × Int :=
  let k := if f % 2 = 1 then rText l3 e3 64 else ([], l3, e3)
  let v := if f / 2 % 2 = 1 then ([], k.2) else rText k.2.1 k.2.2 512
  let r : Rec := ⟨dl, tm, decide (f % 2 = 1), sOf k.1, decide (f / 2 % 2 = 1), sOf v.1⟩
  if v.2.2 = 0 then (if 4 ≤ f ∨ recE r ≠ 0 then (rec0, 4, v.2) else (r, 0, v.2)) else (rec0, v.2.2, v.2)
def recG (l : List Nat) (e : Int) : Rec × Int × List Nat × Int :=
  let f := rFixed l e 1
  let d := rNum f.2.1 f.2.2
  let t := rNum d.2.1 d.2.2
  recG5 f.1 d.1 t.1 t.2.1 t.2.2

def RG : Orc := { p := RP.p, e := RT.e }
theorem RG_ok : RG.ok Try.prog := ⟨RP_ok.p, RT_ok.e, fun _ _ _ _ h => (by cases h), fun _ h => (by cases h), fun _ _ _ _ _ _ h => (by cases h)⟩
@[simp] theorem RG_74 (dl tm kd key dd val) : RG.p 74 [.agg [.int .i64 dl, .int .i64 tm, .bool kd, .str key, .bool dd, .str val]] = some (True, .sv (.int .i64 (recE ⟨dl, tm, kd, key, dd, val⟩))) := rfl
@[simp] theorem RG_62 (xs : List SV) (e : Int) : RG.e 62 [.sl 1 xs, .int .i64 e] [] = some (IsBs xs ∧ xs.length < 4611686018427387904, .sv (.int .i64 (rNum (nsOf xs) e).1), [.sl 1 (bs (rNum (nsOf xs) e).2.1), .int .i64 (rNum (nsOf xs) e).2.2]) := rfl
@[simp] theorem RG_60 (xs : List SV) (e w : Int) : RG.e 60 [.sl 1 xs, .int .i64 e] [.int .i64 w] = some (IsBs xs ∧ xs.length < 4611686018427387904, .sv (.int .u64 (rFixed (nsOf xs) e w).1), [.sl 1 (bs (rFixed (nsOf xs) e w).2.1), .int .i64 (rFixed (nsOf xs) e w).2.2]) := rfl
@[simp] theorem RG_63 (xs : List SV) (e m : Int) : RG.e 63 [.sl 1 xs, .int .i64 e] [.int .i64 m] = some (IsBs xs ∧ xs.length < 4611686018427387904, .sv (.str (sOf (rText (nsOf xs) e m).1)), [.sl 1 (bs (rText (nsOf xs) e m).2.1), .int .i64 (rText (nsOf xs) e m).2.2]) := rfl
@[simp] theorem RG_67 (b : SV) (e : Int) : RG.e 67 [b, .int .i64 e] [] = some (True, .sv (.int .i64 e), [b, .int .i64 e]) := rfl

theorem sOf_nil : sOf [] = ByteArray.mk #[] := rfl
theorem u64_and1 (f : Nat) : IntKind.u64.wrap ((f % 2 ^ IntKind.u64.bits &&& 1 % 2 ^ IntKind.u64.bits : Nat) : Int) = ((f % 2 : Nat) : Int) := by
  rw [show 1 % 2 ^ IntKind.u64.bits = 1 from rfl, Nat.and_one_is_mod, IntKind.wrap_u64]; simp [IntKind.bits]; omega
theorem u64_and2 (f : Nat) (h : f < 256) : IntKind.u64.wrap ((f % 2 ^ IntKind.u64.bits &&& 2 % 2 ^ IntKind.u64.bits : Nat) : Int) = ((f / 2 % 2 * 2 : Nat) : Int) := by
  have e : f % 2 ^ IntKind.u64.bits = f := by simp [IntKind.bits]; omega
  have : ∀ x : Fin 256, x.val &&& 2 = x.val / 2 % 2 * 2 := by decide +kernel
  rw [e, show 2 % 2 ^ IntKind.u64.bits = 2 from rfl, show f &&& 2 = f / 2 % 2 * 2 from this ⟨f, h⟩, IntKind.wrap_u64]; omega
theorem rFixed1_lt (l : List Nat) (hl : Bytes l) (e : Int) : (rFixed l e 1).1 < 256 := by
  unfold rFixed
  split
  · have hb := rTake_bytes hl e (wid 1)
    have hln : (rTake l e (wid 1)).1.length ≤ 1 := by
      unfold rTake; split
      · simp
      · simp [wid]; omega
    generalize (rTake l e (wid 1)).1 = t at hb hln
    cases t with
    | nil => simp [unF, unL]
    | cons c t =>
      have : t = [] := by cases t with | nil => rfl | cons _ _ => simp at hln
      subst this
      have := hb c (by simp)
      simp [unF, unL]; omega
  · simp
theorem rText_bytes {l : List Nat} (hl : Bytes l) (e m : Int) : Bytes (rText l e m).2.1 := by
  unfold rText
  have := rNum_bytes hl e
  generalize rNum l e = p at this
  obtain ⟨n, l', e'⟩ := p
  simp only at this ⊢
  generalize (if m > 0 then m else 0) = q
  split
  · split
    · exact this
    · exact rTake_bytes2 this _ _
  · exact this
theorem rText_le (l : List Nat) (e m : Int) : (rText l e m).2.1.length ≤ l.length := by
  unfold rText
  have := rNum_le l e
  generalize rNum l e = p at this
  obtain ⟨n, l', e'⟩ := p
  simp only at this ⊢
  generalize (if m > 0 then m else 0) = q
  split
  · split
    · exact this
    · exact Nat.le_trans (rTake_le2 _ _ _) this
  · exact this

theorem get_rec (l : List Nat) (e : Int) (hl : Bytes l) (hn : l.length < 4611686018427387904) : Eff1 Try.prog 77 [.sl 1 (bs l), .int .i64 e] [] (.tup [.sv (recG l e).1.sv, .sv (.int .i64 (recG l e).2.1)]) [.sl 1 (bs (recG l e).2.2.1), .int .i64 (recG l e).2.2.2] := by
  refine eff_go RG_ok Try.func77 Try.ntmps77 comp77 cres77 (by decide) (by simp) ?_
  unfold recG
  have f1 := rFixed1_lt l hl e
  have f2 := rFixed_bytes hl e 1
  have f3 := rFixed_le l e 1
  generalize h1 : rFixed l e 1 = p1 at f1 f2 f3 ⊢
  obtain ⟨f, l1, e1⟩ := p1
  simp only at f1 f2 f3 ⊢
  have d2 := rNum_bytes f2 e1
  have d3 := rNum_le l1 e1
  generalize h2 : rNum l1 e1 = p2 at d2 d3 ⊢
  obtain ⟨dl, l2, e2⟩ := p2
  simp only at d2 d3 ⊢
  have t2 := rNum_bytes d2 e2
  have t3 := rNum_le l2 e2
  generalize h3 : rNum l2 e2 = p3 at t2 t3 ⊢
  obtain ⟨tm, l3, e3⟩ := p3
  simp only at t2 t3 ⊢
  have k2 := rText_bytes t2 e3 64
  have k3 := rText_le l3 e3 64
  have n1 : l1.length < 4611686018427387904 := by omega
  have n2 : l2.length < 4611686018427387904 := by omega
  have n3 : l3.length < 4611686018427387904 := by omega
  generalize h4 : rText l3 e3 64 = p4 at k2 k3
  obtain ⟨key, l4, e4⟩ := p4
  simp only at k2 k3
  have n4 : l4.length < 4611686018427387904 := by omega
  have a1 := u64_and1 f
  have a2 := u64_and2 f f1
  unfold recG5
  rw [h4]
  by_cases hk : f % 2 = 1
  · by_cases hd : f / 2 % 2 = 1
    · simp only [hk, hd, if_true, decide_true]
      by_cases he : e4 = 0
      · by_cases h4f : 4 ≤ f
        · have h4f' : (4 : Int) ≤ f := by omega
          simp [ac77, ar77, h1, h2, h3, h4, k2, n4, isBs_bs, hl, f2, d2, t2, hn, n1, n2, n3, a1, a2, rec0, Rec.sv, Rec.cells, sOf_nil, hk, hd, he, h4f, h4f']
        · have h4f' : ¬ (4 : Int) ≤ f := by omega
          by_cases hr : recE ⟨dl, tm, true, sOf key, true, ByteArray.mk #[]⟩ = 0
          · simp [ac77, ar77, h1, h2, h3, h4, k2, n4, isBs_bs, hl, f2, d2, t2, hn, n1, n2, n3, a1, a2, rec0, Rec.sv, Rec.cells, sOf_nil, hk, hd, he, h4f, h4f', hr]
          · simp [ac77, ar77, h1, h2, h3, h4, k2, n4, isBs_bs, hl, f2, d2, t2, hn, n1, n2, n3, a1, a2, rec0, Rec.sv, Rec.cells, sOf_nil, hk, hd, he, h4f, h4f', hr]
      · simp [ac77, ar77, h1, h2, h3, h4, k2, n4, isBs_bs, hl, f2, d2, t2, hn, n1, n2, n3, a1, a2, rec0, Rec.sv, Rec.cells, sOf_nil, hk, hd, he]
    · have hd' : f / 2 % 2 = 0 := by omega
      have v2 := rText_bytes k2 e4 512
      have v3 := rText_le l4 e4 512
      simp only [hk, hd, if_true, if_false, decide_true]
      generalize h5 : rText l4 e4 512 = p5 at v2 v3 ⊢
      obtain ⟨val, l5, e5⟩ := p5
      simp only at v2 v3 ⊢
      have n5 : l5.length < 4611686018427387904 := by omega
      by_cases he : e5 = 0
      · by_cases h4f : 4 ≤ f
        · have h4f' : (4 : Int) ≤ f := by omega
          simp [ac77, ar77, h1, h2, h3, h4, k2, n4, h5, v2, n5, hd', isBs_bs, hl, f2, d2, t2, hn, n1, n2, n3, a1, a2, rec0, Rec.sv, Rec.cells, sOf_nil, hk, hd, he, h4f, h4f']
        · have h4f' : ¬ (4 : Int) ≤ f := by omega
          by_cases hr : recE ⟨dl, tm, true, sOf key, false, sOf val⟩ = 0
          · simp [ac77, ar77, h1, h2, h3, h4, k2, n4, h5, v2, n5, hd', isBs_bs, hl, f2, d2, t2, hn, n1, n2, n3, a1, a2, rec0, Rec.sv, Rec.cells, sOf_nil, hk, hd, he, h4f, h4f', hr]
          · simp [ac77, ar77, h1, h2, h3, h4, k2, n4, h5, v2, n5, hd', isBs_bs, hl, f2, d2, t2, hn, n1, n2, n3, a1, a2, rec0, Rec.sv, Rec.cells, sOf_nil, hk, hd, he, h4f, h4f', hr]
      · simp [ac77, ar77, h1, h2, h3, h4, k2, n4, h5, v2, n5, hd', isBs_bs, hl, f2, d2, t2, hn, n1, n2, n3, a1, a2, rec0, Rec.sv, Rec.cells, sOf_nil, hk, hd, he]
  · have hk' : f % 2 = 0 := by omega
    by_cases hd : f / 2 % 2 = 1
    · simp only [hk, hd, if_true, if_false, decide_true]
      by_cases he : e3 = 0
      · by_cases h4f : 4 ≤ f
        · have h4f' : (4 : Int) ≤ f := by omega
          simp [ac77, ar77, h1, h2, h3, hk', isBs_bs, hl, f2, d2, t2, hn, n1, n2, n3, a1, a2, rec0, Rec.sv, Rec.cells, sOf_nil, hk, hd, he, h4f, h4f']
        · have h4f' : ¬ (4 : Int) ≤ f := by omega
          by_cases hr : recE ⟨dl, tm, false, ByteArray.mk #[], true, ByteArray.mk #[]⟩ = 0
          · simp [ac77, ar77, h1, h2, h3, hk', isBs_bs, hl, f2, d2, t2, hn, n1, n2, n3, a1, a2, rec0, Rec.sv, Rec.cells, sOf_nil, hk, hd, he, h4f, h4f', hr]
          · simp [ac77, ar77, h1, h2, h3, hk', isBs_bs, hl, f2, d2, t2, hn, n1, n2, n3, a1, a2, rec0, Rec.sv, Rec.cells, sOf_nil, hk, hd, he, h4f, h4f', hr]
      · simp [ac77, ar77, h1, h2, h3, hk', isBs_bs, hl, f2, d2, t2, hn, n1, n2, n3, a1, a2, rec0, Rec.sv, Rec.cells, sOf_nil, hk, hd, he]
    · have hd' : f / 2 % 2 = 0 := by omega
      have v2 := rText_bytes t2 e3 512
      have v3 := rText_le l3 e3 512
      simp only [hk, hd, if_true, if_false, decide_true]
      generalize h5 : rText l3 e3 512 = p5 at v2 v3 ⊢
      obtain ⟨val, l5, e5⟩ := p5
      simp only at v2 v3 ⊢
      have n5 : l5.length < 4611686018427387904 := by omega
      by_cases he : e5 = 0
      · by_cases h4f : 4 ≤ f
        · have h4f' : (4 : Int) ≤ f := by omega
          simp [ac77, ar77, h1, h2, h3, h5, v2, n5, hk', hd', isBs_bs, hl, f2, d2, t2, hn, n1, n2, n3, a1, a2, rec0, Rec.sv, Rec.cells, sOf_nil, hk, hd, he, h4f, h4f']
        · have h4f' : ¬ (4 : Int) ≤ f := by omega
          by_cases hr : recE ⟨dl, tm, false, ByteArray.mk #[], false, sOf val⟩ = 0
          · simp [ac77, ar77, h1, h2, h3, h5, v2, n5, hk', hd', isBs_bs, hl, f2, d2, t2, hn, n1, n2, n3, a1, a2, rec0, Rec.sv, Rec.cells, sOf_nil, hk, hd, he, h4f, h4f', hr]
          · simp [ac77, ar77, h1, h2, h3, h5, v2, n5, hk', hd', isBs_bs, hl, f2, d2, t2, hn, n1, n2, n3, a1, a2, rec0, Rec.sv, Rec.cells, sOf_nil, hk, hd, he, h4f, h4f', hr]
      · simp [ac77, ar77, h1, h2, h3, h5, v2, n5, hk', hd', isBs_bs, hl, f2, d2, t2, hn, n1, n2, n3, a1, a2, rec0, Rec.sv, Rec.cells, sOf_nil, hk, hd, he]
end Go.Proofs.Ytkiimlmlfhmkiaa
