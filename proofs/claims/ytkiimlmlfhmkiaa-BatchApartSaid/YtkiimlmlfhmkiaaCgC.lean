import Derived.Test.YtkiimlmlfhmkiaaCgB

set_option linter.unusedSimpArgs false
set_option linter.unusedVariables false
set_option maxHeartbeats 40000000
namespace Go.Proofs.Ytkiimlmlfhmkiaa
open Go.Av

def RW : Orc := {
  p := fun f l => match f, l with
  | 68, [.agg [.sl 1 xs, .int .i64 e]] => some (IsBs xs ∧ xs.length < 4611686018427387904, .tup [.sv (rd' (rNum (nsOf xs) e).2.1 (rNum (nsOf xs) e).2.2), .sv (.int .i64 (rNum (nsOf xs) e).1)])
  | 96, [.agg [.sl 1 xs, .int .i64 e], .int .i64 w] => some (IsBs xs ∧ xs.length < 4611686018427387904, .tup [.sv (rd' (rFixed (nsOf xs) e w).2.1 (rFixed (nsOf xs) e w).2.2), .sv (.int .u64 (rFixed (nsOf xs) e w).1)])
  | 69, [.agg [.sl 1 xs, .int .i64 e], .int .i64 m] => some (IsBs xs ∧ xs.length < 4611686018427387904, .tup [.sv (rd' (rText (nsOf xs) e m).2.1 (rText (nsOf xs) e m).2.2), .sv (.str (sOf (rText (nsOf xs) e m).1))])
  | 80, [.agg [.int .i64 dl, .int .i64 tm, .bool kd, .str key, .bool dd, .str val]] => some (True, .sv (.int .i64 (recE ⟨dl, tm, kd, key, dd, val⟩)))
  | _, _ => none }
theorem RW_ok : RW.ok Try.prog := by
  refine ⟨fun f l c rv h hc => ?_, fun _ _ _ _ _ _ h => (by cases h), fun _ _ _ _ h => (by cases h), fun _ h => (by cases h), fun _ _ _ _ _ _ h => (by cases h)⟩
  simp only [RW] at h
  split at h <;> cases h
  · rename_i xs e
    obtain ⟨⟨e1, h1⟩, h2⟩ := hc
    have := refnum (nsOf xs) e h1 (by rw [e1] at h2; simpa using h2)
    rw [rd', ← e1] at this
    exact this
  · rename_i xs e w
    obtain ⟨⟨e1, h1⟩, h2⟩ := hc
    have := reffix (nsOf xs) e w h1 (by rw [e1] at h2; simpa using h2)
    rw [rd', ← e1] at this
    exact this
  · rename_i xs e m
    obtain ⟨⟨e1, h1⟩, h2⟩ := hc
    have := reftext (nsOf xs) e m h1 (by rw [e1] at h2; simpa using h2)
    rw [rd', ← e1] at this
    exact this
  · exact rcheck_pure ⟨_, _, _, _, _, _⟩

theorem refget (l : List Nat) (e : Int) (hl : Bytes l) (hn : l.length < 4611686018427387904) : Pure Try.prog 79 [rd' l e] (.tup [.sv (rd' (recG l e).2.2.1 (recG l e).2.2.2), .sv (recG l e).1.sv, .sv (.int .i64 (recG l e).2.1)]) := by
  refine pure_go RW_ok Try.func79 Try.ntmps79 comp79 cres79 (by decide) (by simp [rd']) ?_
  unfold recG
  simp only [rd']
  have f1 := rFixed1_lt l hl e
  have f2 := rFixed_bytes hl e 1
  have f3 := rFixed_le l e 1
  generalize h1 : rFixed l e 1 = p1 at f1 f2 f3 ⊢
  obtain ⟨f, l1, e1⟩ := p1
  simp only at f1 f2 f3 ⊢
  have d2 := rNum_bytes f2 e1
  have d3 := rNum_le l1 e1
  generalize h2 : rNum l1 e1 = p2 at d2 d3 ⊢
  obtain ⟨dl, l2, e2⟩ := p2
  simp only at d2 d3 ⊢
  have t2 := rNum_bytes d2 e2
  have t3 := rNum_le l2 e2
  generalize h3 : rNum l2 e2 = p3 at t2 t3 ⊢
  obtain ⟨tm, l3, e3⟩ := p3
  simp only at t2 t3 ⊢
  have k2 := rText_bytes t2 e3 64
  have k3 := rText_le l3 e3 64
  have n1 : l1.length < 4611686018427387904 := by omega
  have n2 : l2.length < 4611686018427387904 := by omega
  have n3 : l3.length < 4611686018427387904 := by omega
  generalize h4 : rText l3 e3 64 = p4 at k2 k3
  obtain ⟨key, l4, e4⟩ := p4
  simp only at k2 k3
  have n4 : l4.length < 4611686018427387904 := by omega
  have a1 : (f : Int).tmod 2 = ((f % 2 : Nat) : Int) := tmod_nat f 2
  have a2 : (IntKind.u64.wrap ((f : Int) / 2)).tmod 2 = ((f / 2 % 2 : Nat) : Int) := by
    have : IntKind.u64.wrap ((f : Int) / 2) = ((f / 2 : Nat) : Int) := by rw [IntKind.wrap_u64]; omega
    rw [this]; exact tmod_nat (f / 2) 2
  unfold recG5
  rw [h4]
  by_cases hk : f % 2 = 1
  · by_cases hd : f / 2 % 2 = 1
    · simp only [hk, hd, if_true, decide_true]
      by_cases he : e4 = 0
      · by_cases h4f : 4 ≤ f
        · have h4f' : (3 : Int) < f := by omega
          simp [ac79, ar79, RW, h1, h2, h3, h4, k2, n4, isBs_bs, hl, f2, d2, t2, hn, n1, n2, n3, a1, a2, rec0, Rec.sv, Rec.cells, sOf_nil, rd', hk, hd, he, h4f, h4f']
        · have h4f' : ¬ (3 : Int) < f := by omega
          by_cases hr : recE ⟨dl, tm, true, sOf key, true, ByteArray.mk #[]⟩ = 0
          · simp [ac79, ar79, RW, h1, h2, h3, h4, k2, n4, isBs_bs, hl, f2, d2, t2, hn, n1, n2, n3, a1, a2, rec0, Rec.sv, Rec.cells, sOf_nil, rd', hk, hd, he, h4f, h4f', hr]
          · simp [ac79, ar79, RW, h1, h2, h3, h4, k2, n4, isBs_bs, hl, f2, d2, t2, hn, n1, n2, n3, a1, a2, rec0, Rec.sv, Rec.cells, sOf_nil, rd', hk, hd, he, h4f, h4f', hr]
      · simp [ac79, ar79, RW, h1, h2, h3, h4, k2, n4, isBs_bs, hl, f2, d2, t2, hn, n1, n2, n3, a1, a2, rec0, Rec.sv, Rec.cells, sOf_nil, rd', hk, hd, he]
    · have hd' : f / 2 % 2 = 0 := by omega
      have v2 := rText_bytes k2 e4 512
      have v3 := rText_le l4 e4 512
      simp only [hk, hd, if_true, if_false, decide_true]
      generalize h5 : rText l4 e4 512 = p5 at v2 v3 ⊢
      obtain ⟨val, l5, e5⟩ := p5
      simp only at v2 v3 ⊢
      have n5 : l5.length < 4611686018427387904 := by omega
      by_cases he : e5 = 0
      · by_cases h4f : 4 ≤ f
        · have h4f' : (3 : Int) < f := by omega
          simp [ac79, ar79, RW, h1, h2, h3, h4, k2, n4, h5, v2, n5, hd', isBs_bs, hl, f2, d2, t2, hn, n1, n2, n3, a1, a2, rec0, Rec.sv, Rec.cells, sOf_nil, rd', hk, hd, he, h4f, h4f']
        · have h4f' : ¬ (3 : Int) < f := by omega
          by_cases hr : recE ⟨dl, tm, true, sOf key, false, sOf val⟩ = 0
          · simp [ac79, ar79, RW, h1, h2, h3, h4, k2, n4, h5, v2, n5, hd', isBs_bs, hl, f2, d2, t2, hn, n1, n2, n3, a1, a2, rec0, Rec.sv, Rec.cells, sOf_nil, rd', hk, hd, he, h4f, h4f', hr]
          · simp [ac79, ar79, RW, h1, h2, h3, h4, k2, n4, h5, v2, n5, hd', isBs_bs, hl, f2, d2, t2, hn, n1, n2, n3, a1, a2, rec0, Rec.sv, Rec.cells, sOf_nil, rd', hk, hd, he, h4f, h4f', hr]
      · simp [ac79, ar79, RW, h1, h2, h3, h4, k2, n4, h5, v2, n5, hd', isBs_bs, hl, f2, d2, t2, hn, n1, n2, n3, a1, a2, rec0, Rec.sv, Rec.cells, sOf_nil, rd', hk, hd, he]
  · have hk' : f % 2 = 0 := by omega
    by_cases hd : f / 2 % 2 = 1
    · simp only [hk, hd, if_true, if_false, decide_true]
      by_cases he : e3 = 0
      · by_cases h4f : 4 ≤ f
        · have h4f' : (3 : Int) < f := by omega
          simp [ac79, ar79, RW, h1, h2, h3, hk', isBs_bs, hl, f2, d2, t2, hn, n1, n2, n3, a1, a2, rec0, Rec.sv, Rec.cells, sOf_nil, rd', hk, hd, he, h4f, h4f']
        · have h4f' : ¬ (3 : Int) < f := by omega
          by_cases hr : recE ⟨dl, tm, false, ByteArray.mk #[], true, ByteArray.mk #[]⟩ = 0
          · simp [ac79, ar79, RW, h1, h2, h3, hk', isBs_bs, hl, f2, d2, t2, hn, n1, n2, n3, a1, a2, rec0, Rec.sv, Rec.cells, sOf_nil, rd', hk, hd, he, h4f, h4f', hr]
          · simp [ac79, ar79, RW, h1, h2, h3, hk', isBs_bs, hl, f2, d2, t2, hn, n1, n2, n3, a1, a2, rec0, Rec.sv, Rec.cells, sOf_nil, rd', hk, hd, he, h4f, h4f', hr]
      · simp [ac79, ar79, RW, h1, h2, h3, hk', isBs_bs, hl, f2, d2, t2, hn, n1, n2, n3, a1, a2, rec0, Rec.sv, Rec.cells, sOf_nil, rd', hk, hd, he]
    · have hd' : f / 2 % 2 = 0 := by omega
      have v2 := rText_bytes t2 e3 512
      have v3 := rText_le l3 e3 512
      simp only [hk, hd, if_true, if_false, decide_true]
      generalize h5 : rText l3 e3 512 = p5 at v2 v3 ⊢
      obtain ⟨val, l5, e5⟩ := p5
      simp only at v2 v3 ⊢
      have n5 : l5.length < 4611686018427387904 := by omega
      by_cases he : e5 = 0
      · by_cases h4f : 4 ≤ f
        · have h4f' : (3 : Int) < f := by omega
          simp [ac79, ar79, RW, h1, h2, h3, h5, v2, n5, hk', hd', isBs_bs, hl, f2, d2, t2, hn, n1, n2, n3, a1, a2, rec0, Rec.sv, Rec.cells, sOf_nil, rd', hk, hd, he, h4f, h4f']
        · have h4f' : ¬ (3 : Int) < f := by omega
          by_cases hr : recE ⟨dl, tm, false, ByteArray.mk #[], false, sOf val⟩ = 0
          · simp [ac79, ar79, RW, h1, h2, h3, h5, v2, n5, hk', hd', isBs_bs, hl, f2, d2, t2, hn, n1, n2, n3, a1, a2, rec0, Rec.sv, Rec.cells, sOf_nil, rd', hk, hd, he, h4f, h4f', hr]
          · simp [ac79, ar79, RW, h1, h2, h3, h5, v2, n5, hk', hd', isBs_bs, hl, f2, d2, t2, hn, n1, n2, n3, a1, a2, rec0, Rec.sv, Rec.cells, sOf_nil, rd', hk, hd, he, h4f, h4f', hr]
      · simp [ac79, ar79, RW, h1, h2, h3, h5, v2, n5, hk', hd', isBs_bs, hl, f2, d2, t2, hn, n1, n2, n3, a1, a2, rec0, Rec.sv, Rec.cells, sOf_nil, rd', hk, hd, he]
end Go.Proofs.Ytkiimlmlfhmkiaa
