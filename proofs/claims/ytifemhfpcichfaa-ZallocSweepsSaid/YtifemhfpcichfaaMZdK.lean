import Derived.Test.YtifemhfpcichfaaMZdF

set_option linter.unusedVariables false
set_option linter.unusedSimpArgs false

/- Zone: Append. -/

set_option linter.unusedSimpArgs false
set_option linter.unusedVariables false
set_option maxHeartbeats 4000000
set_option maxRecDepth 1000000
namespace Go.Proofs.Ytifemhfpcichfaa
open Go.RowKit
open Go.Av Go.Maps

def appendD (d : Dv) (z : Int) (n : Nat) (cs : List Value) : Dv × Int × Int :=
  if atD d z ≠ 0 then (d, 0, atD d z) else if n ≠ 64 then (d, 0, 2) else if stD d z = 2 then (d, 0, 15) else if stD d z = 0 ∧ 14 ≤ openN d.nb d.zs then (d, 0, 14)
  else if (stepD d (putD (tick1 d) z.toNat cs)).2 ≠ 0 then ((stepD d (putD (tick1 d) z.toNat cs)).1, 0, (stepD d (putD (tick1 d) z.toNat cs)).2)
  else ((stepD d (putD (tick1 d) z.toNat cs)).1, (d.zs.getD z.toNat z0).wr, 0)
theorem BoxV.ext {w W : World} {b : Nat} {v : Value} (h : BoxV w b v) (k : Ext (fun _ => False) w W) : BoxV W b v := by
  obtain ⟨te, fr, h1, h2⟩ := h
  exact ⟨te, fr, (k.block b (Array.getElem?_eq_some_iff.1 h1).1 id).trans h1, h2⟩
theorem BoxV.new (w : World) (v : Value) (t : TypeId) : BoxV (w.alloc (.cells #[v] t)) w.heap.size v := ⟨t, (0, 0), by rw [alloc_get, if_pos rfl], rfl⟩
theorem BoxV.lt {w : World} {b : Nat} {v : Value} (h : BoxV w b v) : b < w.heap.size := by
  obtain ⟨te, fr, h1, h2⟩ := h
  exact (Array.getElem?_eq_some_iff.1 h1).1
theorem BoxV.fro {w : World} {b : Nat} {v : Value} (h : BoxV w b v) : w.frozen? ⟨b, 0, none⟩ = false := by
  obtain ⟨te, fr, h1, h2⟩ := h
  simp [World.frozen?, h1]; omega
/-- The bytes of a block that is to be written. -/
def BytesV (W : World) (q : Dp) (pa : Option Addr) (n : Nat) (cs : List Value) : Prop := n = 64 → ∃ vb off, pa = some ⟨vb, off, none⟩ ∧ ¬ EQ q vb ∧ W.rangeAt vb off cs ∧ cs.length = 64
theorem BytesV.ext {w W : World} {q : Dp} {pa : Option Addr} {n : Nat} {cs : List Value} (h : BytesV w q pa n cs) (k : Ext (EQ q) w W) : BytesV W q pa n cs := fun hn => by
  obtain ⟨vb, off, h1, h2, h3, h4⟩ := h hn
  exact ⟨vb, off, h1, h2, fun j v hv => by
    rw [← h3 j v hv]
    exact World.cell?_of_block (k.block vb (World.block_lt_of_cell? w ⟨vb, off + j, none⟩ (h3 j v hv)) h2), h4⟩
theorem append_tail {w w4 W5 : World} {q : Dp} {d : Dv} {i : Nat} {vb off cap : Nat} {cs : List Value} {X : Zn} (hX : X = d.zs.getD i z0) (hD : DevAt w4 q d) (c0 : BoxV w4 w.heap.size (.pointer (some ⟨q.p, 0, none⟩))) (c1 : BoxV w4 (w.heap.size + 1) (.int .i64 i)) (c2 : BoxV w4 (w.heap.size + 1 + 1) (.slice (some ⟨vb, off, none⟩) 64 cap))
    (n0 : ¬ EQ q w.heap.size) (n1 : ¬ EQ q (w.heap.size + 1)) (n2 : ¬ EQ q (w.heap.size + 1 + 1)) (hi : i < d.zs.length) (hn : d.n < 100000) (hw : 0 ≤ X.wr ∧ X.wr ≤ 100000 ∧ 0 ≤ X.lo ∧ X.lo ≤ 100000) (nv : ¬ EQ q vb) (hrg : w4.rangeAt vb off cs) (hcl : cs.length = 64)
    (hE : Ext (fun _ => False) w4 W5) (b3 : BoxV W5 (w4.heap.size + 1) (.int .i64 X.wr)) (b4 : BoxV W5 w4.heap.size (.pointer (some ⟨q.za, i * 3, none⟩))) :
    Calls Try.prog 47 #[.pointer (some ⟨q.p, 0, none⟩), .func (.func 51) #[] #[.pointer (some ⟨w.heap.size + 1 + 1, 0, none⟩), .pointer (some ⟨w.heap.size, 0, none⟩), .pointer (some ⟨w.heap.size + 1, 0, none⟩), .pointer (some ⟨w4.heap.size + 1, 0, none⟩), .pointer (some ⟨w4.heap.size, 0, none⟩)]] W5
      fun e w' => e = .returned (.int .i64 (stepD d (putD (tick1 d) i cs)).2) ∧ EffD q w4 w' (stepD d (putD (tick1 d) i cs)).1 ∧ w'.cell? ⟨w4.heap.size + 1, 0, none⟩ = some (.int .i64 X.wr) := by
  have m3 : ¬ EQ q (w4.heap.size + 1) := notEQ hD (by omega)
  have m4 : ¬ EQ q w4.heap.size := notEQ hD (Nat.le_refl _)
  have hr5 : W5.rangeAt vb off cs := fun j v hv => by
    rw [← hrg j v hv]
    exact World.cell?_of_block (hE.block vb (World.block_lt_of_cell? w4 ⟨vb, off + j, none⟩ (hrg j v hv)) id)
  refine (step_51 (hD.ext hE) _ _ _ _ _ (putD (tick1 d) i cs) (fun W hW hE2 => ?_)).mono ?_
  · subst hX
    refine clo51 hW ((c2.ext hE).keeps n2 hE2) ((c0.ext hE).keeps n0 hE2) ((c1.ext hE).keeps n1 hE2) (b3.keeps m3 hE2) (b4.keeps m4 hE2) n2 n0 n1 m3 m4 hi hn ⟨hw.1, hw.2.1⟩ ⟨hw.2.2.1, hw.2.2.2⟩ nv (fun j v hv => ?_) hcl
    rw [← hr5 j v hv]
    exact World.cell?_of_block (hE2.block vb (World.block_lt_of_cell? W5 ⟨vb, off + j, none⟩ (hr5 j v hv)) nv)
  · rintro e w' ⟨rfl, hx⟩
    exact ⟨rfl, ⟨hx.1, (extQ hE).trans hx.2⟩, (b3.keeps m3 hx.2).cell⟩
theorem append_raw {w : World} {q : Dp} {d : Dv} (h : DevAt w q d) (z : Int) {pa : Option Addr} {n cap : Nat} {cs : List Value} (hb : BytesV w q pa n cs) (hn : d.n < 100000)
    (hw : ∀ i, i < d.zs.length → 0 ≤ (d.zs.getD i z0).wr ∧ (d.zs.getD i z0).wr ≤ 100000 ∧ 0 ≤ (d.zs.getD i z0).lo ∧ (d.zs.getD i z0).lo ≤ 100000) :
    Calls Try.prog 15 #[.pointer (some ⟨q.p, 0, none⟩), .int .i64 z, .slice pa n cap] w fun e w' => e = .returned (.tuple #[.int .i64 (appendD d z n cs).2.1, .int .i64 (appendD d z n cs).2.2]) ∧ EffD q w w' (appendD d z n cs).1 := by
  obtain ⟨w1, hw1⟩ : ∃ w1, w1 = ((w.alloc (.cells #[.pointer (some ⟨q.p, 0, none⟩)] 26)).alloc (.cells #[.int .i64 z] 3)).alloc (.cells #[.slice pa n cap] 24) := ⟨_, rfl⟩
  obtain ⟨c0, c1⟩ := boxV1 w (.pointer (some ⟨q.p, 0, none⟩)) (.int .i64 z) 26 3
  have c2 := BoxV.new ((w.alloc (.cells #[.pointer (some ⟨q.p, 0, none⟩)] 26)).alloc (.cells #[.int .i64 z] 3)) (.slice pa n cap) 24
  have hsz : ((w.alloc (.cells #[.pointer (some ⟨q.p, 0, none⟩)] 26)).alloc (.cells #[.int .i64 z] 3)).heap.size = w.heap.size + 1 + 1 := by simp
  rw [hsz] at c2
  replace c0 := c0.ext (ext_alloc1 _ (.cells #[.slice pa n cap] 24))
  replace c1 := c1.ext (ext_alloc1 _ (.cells #[.slice pa n cap] 24))
  rw [← hw1] at c0 c1 c2
  have hx : Ext (fun _ => False) w w1 := by rw [hw1]; exact ((ext_alloc1 _ _).trans (ext_alloc1 _ _)).trans (ext_alloc1 _ _)
  have h1 := h.ext hx
  have n0 := notEQ h (Nat.le_refl w.heap.size)
  have n1 := notEQ h (Nat.le_succ w.heap.size)
  have n2 : ¬ EQ q (w.heap.size + 1 + 1) := notEQ h (by omega)
  have hb1 := hb.ext (extQ hx)
  have HA := asideI (at_raw h1 z)
  have HH := asideI (And.intro h1 hx)
  have HB := asideI (And.intro c0 (And.intro c1 c2))
  have HY := asideI hb1
  have x0 := c0.cell
  have x1 := c1.cell
  have x2 := c2.cell
  have y0 := c0.fro
  have hlen := h.len
  unfold appendD
  have HW1 := asideI hw1
  clear h hb hb1 c0 c1 c2 hw1
  rcases at_cases d z with ⟨hd, e1⟩ | ⟨hd, hz, e1⟩ | ⟨hd, hz, e1⟩
  · rw [e1] at HA ⊢
    rw [if_pos (by simp)]
    clear h1 hx hd e1
    go_enter Try.func15, Try.ntmps15
    go_wp2_with (first
      | (go_at_call 46; rw [← HW1.out]; refine HA.out.mono ?_; rintro e w2 ⟨rfl, h2⟩; obtain rfl := h2.symm; simp only [])
      | go_in)
    go_ret2
    exact ⟨rfl, HH.out.1, extQ HH.out.2⟩
  · rw [e1] at HA ⊢
    rw [if_pos (by simp)]
    clear h1 hx hd e1 hz
    go_enter Try.func15, Try.ntmps15
    go_wp2_with (first
      | (go_at_call 46; rw [← HW1.out]; refine HA.out.mono ?_; rintro e w2 ⟨rfl, h2⟩; obtain rfl := h2.symm; simp only [])
      | go_in)
    go_ret2
    exact ⟨rfl, HH.out.1, extQ HH.out.2⟩
  · rw [e1] at HA ⊢
    rw [if_neg (by simp)]
    obtain ⟨hz0, hz1⟩ := hasZ_iff hz
    obtain ⟨i, rfl⟩ : ∃ i : Nat, z = i := ⟨z.toNat, by omega⟩
    have hi : i < d.zs.length := by omega
    rw [show ((i : Nat) : Int).toNat = i by omega]
    have HST := asideI (state_raw h1 i)
    by_cases h64 : n = 64
    · subst h64
      obtain ⟨vb, off, rfl, nv, hrg, hcl⟩ := HY.out rfl
      have HR := asideI (And.intro nv (And.intro hrg hcl))
      obtain ⟨X, hX⟩ : ∃ X, X = d.zs.getD i z0 := ⟨_, rfl⟩
      have HX0 := asideI hX
      have hwi := hw i hi
      rw [← hX] at hwi ⊢
      clear nv hrg hcl
      rw [if_neg (by simp)]
      have hs : stD d i = 2 ∨ stD d i = 0 ∨ stD d i = 1 := by
        unfold stD stZ
        split <;> try split <;> try split
        all_goals simp
      clear hw h1 hx hd hz e1
      rcases hs with hs | hs | hs
      · rw [hs] at HST ⊢
        rw [if_pos rfl]
        clear hs hX
        go_enter Try.func15, Try.ntmps15
        go_wp2_with (first
          | (go_at_call 46; rw [← HW1.out]; refine HA.out.mono ?_; rintro e w2 ⟨rfl, h2⟩; obtain rfl := h2.symm; simp only [])
          | (go_at_call 21; refine HST.out.mono ?_; rintro e w3 ⟨rfl, hx3⟩; have HX3 := asideI hx3; have x0' := (HB.out.1.ext hx3).cell; have x1' := (HB.out.2.1.ext hx3).cell; have x2' := (HB.out.2.2.ext hx3).cell; clear hx3 x0 x1 x2; simp only [])
          | go_in)
        go_ret2
        exact ⟨rfl, HH.out.1.ext HX3.out, extQ (HH.out.2.trans HX3.out)⟩
      · rw [hs] at HST ⊢
        rw [if_neg (by simp)]
        clear hs hX
        by_cases ho : 14 ≤ openN d.nb d.zs
        · have ho2 : (14 : Int) ≤ (openN d.nb d.zs : Int) := by omega
          rw [if_pos ⟨rfl, ho⟩]
          have HO := asideI ho
          clear ho
          go_enter Try.func15, Try.ntmps15
          go_wp2_with (first
            | (go_at_call 46; rw [← HW1.out]; refine HA.out.mono ?_; rintro e w2 ⟨rfl, h2⟩; obtain rfl := h2.symm; simp only [])
            | (go_at_call 21; refine HST.out.mono ?_; rintro e w3 ⟨rfl, hx3⟩; have HX3 := asideI hx3; have x0' := (HB.out.1.ext hx3).cell; have x1' := (HB.out.2.1.ext hx3).cell; have x2' := (HB.out.2.2.ext hx3).cell; clear hx3 x0 x1 x2; simp only [])
            | (go_at_call 50; refine (opened_raw (HH.out.1.ext HX3.out)).mono ?_; rintro e w4 ⟨rfl, hx4⟩; have HX4 := asideI (Ext.trans HX3.out hx4); have x0'' := (HB.out.1.ext HX4.out).cell; have x1'' := (HB.out.2.1.ext HX4.out).cell; have x2'' := (HB.out.2.2.ext HX4.out).cell; clear hx4 x0' x1' x2'; simp only [])
            | go_in)
          go_ret2
          exact ⟨rfl, HH.out.1.ext HX4.out, extQ (HH.out.2.trans HX4.out)⟩
        · have ho2 : ¬ (14 : Int) ≤ (openN d.nb d.zs : Int) := by omega
          rw [if_neg (fun e => ho e.2)]
          have HO := asideI ho
          clear ho
          obtain ⟨r, hr⟩ : ∃ r, r = stepD d (putD (tick1 d) i cs) := ⟨_, rfl⟩
          rw [← hr]
          have HRR := asideI hr
          clear hr
          obtain ⟨r, m⟩ := r
          simp only
          by_cases hm : m = 0
          · subst hm
            rw [if_neg (by simp)]
            go_enter Try.func15, Try.ntmps15
            go_wp2_with (first
              | (go_at_call 46; rw [← HW1.out]; refine HA.out.mono ?_; rintro e w2 ⟨rfl, h2⟩; obtain rfl := h2.symm; simp only [])
              | (go_at_call 21; refine HST.out.mono ?_; rintro e w3 ⟨rfl, hx3⟩; have HX3 := asideI hx3; have x0' := (HB.out.1.ext hx3).cell; have x1' := (HB.out.2.1.ext hx3).cell; have x2' := (HB.out.2.2.ext hx3).cell; clear hx3 x0 x1 x2; simp only [])
              | (go_at_call 50; refine (opened_raw (HH.out.1.ext HX3.out)).mono ?_; rintro e w4 ⟨rfl, hx4⟩; have HX4 := asideI (Ext.trans HX3.out hx4); have x0'' := (HB.out.1.ext HX4.out).cell; have x1'' := (HB.out.2.1.ext HX4.out).cell; have x2'' := (HB.out.2.2.ext HX4.out).cell; clear hx4 x0' x1' x2'; simp only [])
              | go_in)
            have hD3 := HH.out.1.ext HX4.out
            obtain ⟨⟨a0, a1, a2, a3, a4, a5, a6⟩, e0, e1, e2, e3, e4, e5, e6⟩ := hD3.cells
            obtain ⟨⟨u0, u1, u2⟩, v0, v1, v2⟩ := hD3.zcells (i := i) hi
            rw [← HX0.out] at u0 u1 u2
            have m0 := World.new_ne w4 _ a0
            have k0 := World.new_ne w4 _ (HB.out.1.ext HX4.out).cell
            have k1 := World.new_ne w4 _ (HB.out.2.1.ext HX4.out).cell
            have HD3 := asideI hD3
            clear hD3
            go_region_held (fun W2 => W2.cell? ⟨w.heap.size, 0, none⟩ = some (.pointer (some ⟨q.p, 0, none⟩)) ∧ W2.cell? ⟨w.heap.size + 1, 0, none⟩ = some (.int .i64 i) ∧ W2.cell? ⟨q.p, 0, none⟩ = some (.slice (some ⟨q.za, 0, none⟩) d.zs.length q.cap)) (go_keep) (fail)
            obtain ⟨ql1, ql2, ql3⟩ := HD3.out.lt
            have mz : ¬ (q.za = w4.heap.size) := by omega
            have mp : ¬ (q.p = w4.heap.size) := by omega
            have kl0 := (HB.out.1.ext HX4.out).lt
            have kl1 := (HB.out.2.1.ext HX4.out).lt
            have kn0 : ¬ (w.heap.size = w4.heap.size) := by omega
            have kn1 : ¬ (w.heap.size + 1 = w4.heap.size) := by omega
            have HX4' := asideI (And.intro (HB.out.1.ext HX4.out) (And.intro (HB.out.2.1.ext HX4.out) (HB.out.2.2.ext HX4.out)))
            have HRG := asideI (fun j v hv => (World.cell?_of_block (HX4.out.block vb (World.block_lt_of_cell? w1 ⟨vb, off + j, none⟩ (HR.out.2.1 j v hv)) id)).trans (HR.out.2.1 j v hv) : w4.rangeAt vb off cs)
            have hT := fun (W5 : World) => append_tail (W5 := W5) HX0.out HD3.out HX4'.out.1 HX4'.out.2.1 HX4'.out.2.2 n0 n1 n2 hi hn hwi HR.out.1 HRG.out HR.out.2.2
            rw [← HRR.out] at hT
            have HT := asideI hT
            clear hT
            go_wp2_with (first
              | (go_at_call 47
                 refine (HT.out _ (by exact (ext_alloc1 _ _).trans ((ext_drew _).trans (ext_alloc1 _ _))) (by exact (boxV1 w4 _ _ 91 3).2) (by exact (boxV1 w4 _ _ 91 3).1)).mono ?_
                 rintro e w6 ⟨rfl, hx6, hc6⟩
                 have HX6 := asideI hx6
                 clear hx6
                 simp only [])
              | go_in)
            go_ret2
            exact ⟨rfl, HX6.out.1, (extQ (HH.out.2.trans HX4.out)).trans HX6.out.2⟩
          · rw [if_pos hm]
            have hmb : (m == 0) = false := by simpa using hm
            have hmc : (m != 0) = true := by simpa using hm
            go_enter Try.func15, Try.ntmps15
            go_wp2_with (first
              | (go_at_call 46; rw [← HW1.out]; refine HA.out.mono ?_; rintro e w2 ⟨rfl, h2⟩; obtain rfl := h2.symm; simp only [])
              | (go_at_call 21; refine HST.out.mono ?_; rintro e w3 ⟨rfl, hx3⟩; have HX3 := asideI hx3; have x0' := (HB.out.1.ext hx3).cell; have x1' := (HB.out.2.1.ext hx3).cell; have x2' := (HB.out.2.2.ext hx3).cell; clear hx3 x0 x1 x2; simp only [])
              | (go_at_call 50; refine (opened_raw (HH.out.1.ext HX3.out)).mono ?_; rintro e w4 ⟨rfl, hx4⟩; have HX4 := asideI (Ext.trans HX3.out hx4); have x0'' := (HB.out.1.ext HX4.out).cell; have x1'' := (HB.out.2.1.ext HX4.out).cell; have x2'' := (HB.out.2.2.ext HX4.out).cell; clear hx4 x0' x1' x2'; simp only [])
              | go_in)
            have hD3 := HH.out.1.ext HX4.out
            obtain ⟨⟨a0, a1, a2, a3, a4, a5, a6⟩, e0, e1, e2, e3, e4, e5, e6⟩ := hD3.cells
            obtain ⟨⟨u0, u1, u2⟩, v0, v1, v2⟩ := hD3.zcells (i := i) hi
            rw [← HX0.out] at u0 u1 u2
            have m0 := World.new_ne w4 _ a0
            have k0 := World.new_ne w4 _ (HB.out.1.ext HX4.out).cell
            have k1 := World.new_ne w4 _ (HB.out.2.1.ext HX4.out).cell
            have HD3 := asideI hD3
            clear hD3
            go_region_held (fun W2 => W2.cell? ⟨w.heap.size, 0, none⟩ = some (.pointer (some ⟨q.p, 0, none⟩)) ∧ W2.cell? ⟨w.heap.size + 1, 0, none⟩ = some (.int .i64 i) ∧ W2.cell? ⟨q.p, 0, none⟩ = some (.slice (some ⟨q.za, 0, none⟩) d.zs.length q.cap)) (go_keep) (fail)
            obtain ⟨ql1, ql2, ql3⟩ := HD3.out.lt
            have mz : ¬ (q.za = w4.heap.size) := by omega
            have mp : ¬ (q.p = w4.heap.size) := by omega
            have kl0 := (HB.out.1.ext HX4.out).lt
            have kl1 := (HB.out.2.1.ext HX4.out).lt
            have kn0 : ¬ (w.heap.size = w4.heap.size) := by omega
            have kn1 : ¬ (w.heap.size + 1 = w4.heap.size) := by omega
            have HX4' := asideI (And.intro (HB.out.1.ext HX4.out) (And.intro (HB.out.2.1.ext HX4.out) (HB.out.2.2.ext HX4.out)))
            have HRG := asideI (fun j v hv => (World.cell?_of_block (HX4.out.block vb (World.block_lt_of_cell? w1 ⟨vb, off + j, none⟩ (HR.out.2.1 j v hv)) id)).trans (HR.out.2.1 j v hv) : w4.rangeAt vb off cs)
            have hT := fun (W5 : World) => append_tail (W5 := W5) HX0.out HD3.out HX4'.out.1 HX4'.out.2.1 HX4'.out.2.2 n0 n1 n2 hi hn hwi HR.out.1 HRG.out HR.out.2.2
            rw [← HRR.out] at hT
            have HT := asideI hT
            clear hT
            go_wp2_with (first
              | (go_at_call 47
                 refine (HT.out _ (by exact (ext_alloc1 _ _).trans ((ext_drew _).trans (ext_alloc1 _ _))) (by exact (boxV1 w4 _ _ 91 3).2) (by exact (boxV1 w4 _ _ 91 3).1)).mono ?_
                 rintro e w6 ⟨rfl, hx6, hc6⟩
                 have HX6 := asideI hx6
                 clear hx6
                 simp only [])
              | go_in)
            go_ret2
            exact ⟨rfl, HX6.out.1, (extQ (HH.out.2.trans HX4.out)).trans HX6.out.2⟩
      · rw [hs] at HST ⊢
        rw [if_neg (by simp), if_neg (by simp)]
        clear hs hX
        obtain ⟨r, hr⟩ : ∃ r, r = stepD d (putD (tick1 d) i cs) := ⟨_, rfl⟩
        rw [← hr]
        have HRR := asideI hr
        clear hr
        obtain ⟨r, m⟩ := r
        simp only
        by_cases hm : m = 0
        · subst hm
          rw [if_neg (by simp)]
          go_enter Try.func15, Try.ntmps15
          go_wp2_with (first
            | (go_at_call 46; rw [← HW1.out]; refine HA.out.mono ?_; rintro e w2 ⟨rfl, h2⟩; obtain rfl := h2.symm; simp only [])
            | (go_at_call 21; refine HST.out.mono ?_; rintro e w3 ⟨rfl, hx3⟩; have HX3 := asideI hx3; have x0' := (HB.out.1.ext hx3).cell; have x1' := (HB.out.2.1.ext hx3).cell; have x2' := (HB.out.2.2.ext hx3).cell; clear hx3 x0 x1 x2; simp only [])
            | go_in)
          have hD3 := HH.out.1.ext HX3.out
          obtain ⟨⟨a0, a1, a2, a3, a4, a5, a6⟩, e0, e1, e2, e3, e4, e5, e6⟩ := hD3.cells
          obtain ⟨⟨u0, u1, u2⟩, v0, v1, v2⟩ := hD3.zcells (i := i) hi
          rw [← HX0.out] at u0 u1 u2
          have m0 := World.new_ne w3 _ a0
          have k0 := World.new_ne w3 _ (HB.out.1.ext HX3.out).cell
          have k1 := World.new_ne w3 _ (HB.out.2.1.ext HX3.out).cell
          have HD3 := asideI hD3
          clear hD3
          go_region_held (fun W2 => W2.cell? ⟨w.heap.size, 0, none⟩ = some (.pointer (some ⟨q.p, 0, none⟩)) ∧ W2.cell? ⟨w.heap.size + 1, 0, none⟩ = some (.int .i64 i) ∧ W2.cell? ⟨q.p, 0, none⟩ = some (.slice (some ⟨q.za, 0, none⟩) d.zs.length q.cap)) (go_keep) (fail)
          obtain ⟨ql1, ql2, ql3⟩ := HD3.out.lt
          have mz : ¬ (q.za = w3.heap.size) := by omega
          have mp : ¬ (q.p = w3.heap.size) := by omega
          have kl0 := (HB.out.1.ext HX3.out).lt
          have kl1 := (HB.out.2.1.ext HX3.out).lt
          have kn0 : ¬ (w.heap.size = w3.heap.size) := by omega
          have kn1 : ¬ (w.heap.size + 1 = w3.heap.size) := by omega
          have HX4' := asideI (And.intro (HB.out.1.ext HX3.out) (And.intro (HB.out.2.1.ext HX3.out) (HB.out.2.2.ext HX3.out)))
          have HRG := asideI (fun j v hv => (World.cell?_of_block (HX3.out.block vb (World.block_lt_of_cell? w1 ⟨vb, off + j, none⟩ (HR.out.2.1 j v hv)) id)).trans (HR.out.2.1 j v hv) : w3.rangeAt vb off cs)
          have hT := fun (W5 : World) => append_tail (W5 := W5) HX0.out HD3.out HX4'.out.1 HX4'.out.2.1 HX4'.out.2.2 n0 n1 n2 hi hn hwi HR.out.1 HRG.out HR.out.2.2
          rw [← HRR.out] at hT
          have HT := asideI hT
          clear hT
          go_wp2_with (first
            | (go_at_call 47
               refine (HT.out _ (by exact (ext_alloc1 _ _).trans ((ext_drew _).trans (ext_alloc1 _ _))) (by exact (boxV1 w3 _ _ 91 3).2) (by exact (boxV1 w3 _ _ 91 3).1)).mono ?_
               rintro e w6 ⟨rfl, hx6, hc6⟩
               have HX6 := asideI hx6
               clear hx6
               simp only [])
            | go_in)
          go_ret2
          exact ⟨rfl, HX6.out.1, (extQ (HH.out.2.trans HX3.out)).trans HX6.out.2⟩
        · rw [if_pos hm]
          have hmb : (m == 0) = false := by simpa using hm
          have hmc : (m != 0) = true := by simpa using hm
          go_enter Try.func15, Try.ntmps15
          go_wp2_with (first
            | (go_at_call 46; rw [← HW1.out]; refine HA.out.mono ?_; rintro e w2 ⟨rfl, h2⟩; obtain rfl := h2.symm; simp only [])
            | (go_at_call 21; refine HST.out.mono ?_; rintro e w3 ⟨rfl, hx3⟩; have HX3 := asideI hx3; have x0' := (HB.out.1.ext hx3).cell; have x1' := (HB.out.2.1.ext hx3).cell; have x2' := (HB.out.2.2.ext hx3).cell; clear hx3 x0 x1 x2; simp only [])
            | go_in)
          have hD3 := HH.out.1.ext HX3.out
          obtain ⟨⟨a0, a1, a2, a3, a4, a5, a6⟩, e0, e1, e2, e3, e4, e5, e6⟩ := hD3.cells
          obtain ⟨⟨u0, u1, u2⟩, v0, v1, v2⟩ := hD3.zcells (i := i) hi
          rw [← HX0.out] at u0 u1 u2
          have m0 := World.new_ne w3 _ a0
          have k0 := World.new_ne w3 _ (HB.out.1.ext HX3.out).cell
          have k1 := World.new_ne w3 _ (HB.out.2.1.ext HX3.out).cell
          have HD3 := asideI hD3
          clear hD3
          go_region_held (fun W2 => W2.cell? ⟨w.heap.size, 0, none⟩ = some (.pointer (some ⟨q.p, 0, none⟩)) ∧ W2.cell? ⟨w.heap.size + 1, 0, none⟩ = some (.int .i64 i) ∧ W2.cell? ⟨q.p, 0, none⟩ = some (.slice (some ⟨q.za, 0, none⟩) d.zs.length q.cap)) (go_keep) (fail)
          obtain ⟨ql1, ql2, ql3⟩ := HD3.out.lt
          have mz : ¬ (q.za = w3.heap.size) := by omega
          have mp : ¬ (q.p = w3.heap.size) := by omega
          have kl0 := (HB.out.1.ext HX3.out).lt
          have kl1 := (HB.out.2.1.ext HX3.out).lt
          have kn0 : ¬ (w.heap.size = w3.heap.size) := by omega
          have kn1 : ¬ (w.heap.size + 1 = w3.heap.size) := by omega
          have HX4' := asideI (And.intro (HB.out.1.ext HX3.out) (And.intro (HB.out.2.1.ext HX3.out) (HB.out.2.2.ext HX3.out)))
          have HRG := asideI (fun j v hv => (World.cell?_of_block (HX3.out.block vb (World.block_lt_of_cell? w1 ⟨vb, off + j, none⟩ (HR.out.2.1 j v hv)) id)).trans (HR.out.2.1 j v hv) : w3.rangeAt vb off cs)
          have hT := fun (W5 : World) => append_tail (W5 := W5) HX0.out HD3.out HX4'.out.1 HX4'.out.2.1 HX4'.out.2.2 n0 n1 n2 hi hn hwi HR.out.1 HRG.out HR.out.2.2
          rw [← HRR.out] at hT
          have HT := asideI hT
          clear hT
          go_wp2_with (first
            | (go_at_call 47
               refine (HT.out _ (by exact (ext_alloc1 _ _).trans ((ext_drew _).trans (ext_alloc1 _ _))) (by exact (boxV1 w3 _ _ 91 3).2) (by exact (boxV1 w3 _ _ 91 3).1)).mono ?_
               rintro e w6 ⟨rfl, hx6, hc6⟩
               have HX6 := asideI hx6
               clear hx6
               simp only [])
            | go_in)
          go_ret2
          exact ⟨rfl, HX6.out.1, (extQ (HH.out.2.trans HX3.out)).trans HX6.out.2⟩
    · rw [if_pos h64]
      have h64b : ((n : Int) == 64) = false := by rw [beq_eq_false_iff_ne]; omega
      have h64c : ¬ (n : Int) = 64 := by omega
      generalize stD d i = s at HST
      clear h1 hx hd e1 hz
      go_enter Try.func15, Try.ntmps15
      go_wp2_with (first
        | (go_at_call 46; rw [← HW1.out]; refine HA.out.mono ?_; rintro e w2 ⟨rfl, h2⟩; obtain rfl := h2.symm; simp only [])
        | (go_at_call 21; refine HST.out.mono ?_; rintro e w3 ⟨rfl, hx3⟩; have HX3 := asideI hx3; have x0' := (HB.out.1.ext hx3).cell; have x1' := (HB.out.2.1.ext hx3).cell; have x2' := (HB.out.2.2.ext hx3).cell; clear hx3 x0 x1 x2; simp only [])
        | go_in)
      go_ret2
      exact ⟨rfl, HH.out.1.ext HX3.out, extQ (HH.out.2.trans HX3.out)⟩
end Go.Proofs.Ytifemhfpcichfaa

/- Zone: Read. -/

set_option linter.unusedSimpArgs false
set_option linter.unusedVariables false
set_option maxHeartbeats 4000000
set_option maxRecDepth 1000000
namespace Go.Proofs.Ytifemhfpcichfaa
open Go.RowKit
open Go.Av Go.Maps

def u8s (bs : List UInt8) : List Value := bs.map fun b => .int .u8 b.toNat
@[simp] theorem u8s_len (bs : List UInt8) : (u8s bs).length = bs.length := by simp [u8s]
theorem u8s_one (bs : List UInt8) : ∀ v ∈ u8s bs, v.oneCell' = true := by
  intro v hv
  obtain ⟨b, _, rfl⟩ := List.mem_map.1 hv
  rfl
def zb : Value := .agg (u8s (List.replicate 64 0)).toArray
theorem zero86 (w : World) : (zeroValue 86).run Try.prog w = .ok zb w := by kernel_rfl
/-- What a block of a device holds. -/
def BlkIs (d : Dv) (z i : Int) (bs : List UInt8) : Prop := d.D.atKey (kl z i) (.held zb) = .held (.agg (u8s bs).toArray) ∧ bs.length = 64
def readE (d : Dv) (z i : Int) : Int := if atD d z ≠ 0 then atD d z else if i < 0 ∨ (d.zs.getD z.toNat z0).wr ≤ i then 11 else 0
theorem there_new (w : World) (c : Array Value) (t : TypeId) (n : Nat) (h : c.size = n) : (w.alloc (.cells c t)).there w.heap.size 0 n := by
  intro j hj
  have hb : (w.alloc (.cells c t)).heap[w.heap.size]? = some (.cells c t (0, 0)) := by rw [alloc_get, if_pos rfl]
  refine ⟨?_, ?_⟩
  · rw [cell_of_block hb, Array.getElem?_eq_getElem (by omega)]; rfl
  · simp only [World.frozen?, hb]; simp
theorem stored_new (w : World) (c : Array Value) (t : TypeId) (cs : List Value) (h : c.size = cs.length) (h1 : ∀ v ∈ cs, v.oneCell' = true) :
    ((w.alloc (.cells c t)).setCells w.heap.size 0 cs).heap[w.heap.size]? = some (.cells cs.toArray t (0, 0)) ∧ Ext (fun _ => False) w ((w.alloc (.cells c t)).setCells w.heap.size 0 cs) := by
  have hb : (w.alloc (.cells c t)).heap[w.heap.size]? = some (.cells c t (0, 0)) := by rw [alloc_get, if_pos rfl]
  obtain ⟨_, c', k1, k2, k3, k4⟩ := setCells_at (P := Try.prog) (o := 0) (vs := cs) hb (.inl rfl) (by omega) h1
  obtain ⟨g1, g2, g3, g4, g5, _⟩ := setCells_heap w.heap.size cs 0 (w.alloc (.cells c t))
  refine ⟨?_, ⟨g1, g2, g3, by rw [g4]; simp, fun k hk _ => (g5 k (by omega)).trans (by rw [alloc_get, if_neg (by omega)])⟩⟩
  rw [k1]
  congr 2
  refine Array.ext (by rw [k2, h]; simp) fun j h1 h2 => ?_
  have := k4 j
  rw [if_pos ⟨by omega, by simp at h2; omega⟩, Array.getD_eq_getD_getElem?, Array.getElem?_eq_getElem h1, Nat.sub_zero, List.getD_eq_getElem?_getD, List.getElem?_eq_getElem (by simpa using h2)] at this
  simpa using this
def ReadP (w : World) (r : Int) (bs : List UInt8) (e : Ending) (w' : World) : Prop :=
  Ext (fun _ => False) w w' ∧ ((r ≠ 0 ∧ e = .returned (.tuple #[.slice none 0 0, .int .i64 r])) ∨
    (r = 0 ∧ ∃ b te, e = .returned (.tuple #[.slice (some ⟨b, 0, none⟩) 64 64, .int .i64 0]) ∧ w.heap.size ≤ b ∧ w'.heap[b]? = some (.cells (u8s bs).toArray te (0, 0))))
theorem read_raw {w : World} {q : Dp} {d : Dv} (h : DevAt w q d) (z i : Int) (bs : List UInt8) (hb : readE d z i = 0 → BlkIs d z i bs) (hi : I64 i) :
    Calls Try.prog 19 #[.pointer (some ⟨q.p, 0, none⟩), .int .i64 z, .int .i64 i] w (ReadP w (readE d z i) bs) := by
  have HA := asideI (at_raw h z)
  have HD := asideI h
  obtain ⟨⟨a0, a1, a2, a3, a4, a5, a6⟩, e0, e1, e2, e3, e4, e5, e6⟩ := h.cells
  have hlen := h.len
  rcases at_cases d z with ⟨hd, e1⟩ | ⟨hd, hz, e1⟩ | ⟨hd, hz, e1⟩
  · have hr : readE d z i = 10 := by unfold readE; rw [e1]; simp
    rw [e1] at HA
    rw [hr]
    clear h hd e1 hr hb
    go_enter Try.func19, Try.ntmps19
    go_wp2_with (first
      | (go_at_call 46; refine HA.out.mono ?_; rintro e w2 ⟨rfl, h2⟩; obtain rfl := h2.symm; simp only [])
      | go_in)
    go_ret2
    exact ⟨Ext.refl _ _, .inl ⟨by simp, rfl⟩⟩
  · have hr : readE d z i = 11 := by unfold readE; rw [e1]; simp
    rw [e1] at HA
    rw [hr]
    clear h hd e1 hr hb hz
    go_enter Try.func19, Try.ntmps19
    go_wp2_with (first
      | (go_at_call 46; refine HA.out.mono ?_; rintro e w2 ⟨rfl, h2⟩; obtain rfl := h2.symm; simp only [])
      | go_in)
    go_ret2
    exact ⟨Ext.refl _ _, .inl ⟨by simp, rfl⟩⟩
  · obtain ⟨hz0, hz1⟩ := hasZ_iff hz
    obtain ⟨m, rfl⟩ : ∃ m : Nat, z = m := ⟨z.toNat, by omega⟩
    have hm : m < d.zs.length := by omega
    obtain ⟨⟨u0, u1, u2⟩, v0, v1, v2⟩ := h.zcells (i := m) hm
    have hre : readE d m i = if i < 0 ∨ (d.zs.getD m z0).wr ≤ i then 11 else 0 := by
      unfold readE
      rw [e1, show ((m : Nat) : Int).toNat = m by omega]
      simp
    obtain ⟨X, hX⟩ : ∃ X, X = d.zs.getD m z0 := ⟨_, rfl⟩
    rw [← hX] at u0 u1 u2 hre
    rw [e1] at HA
    have HR := asideI hre
    by_cases h1 : i < 0
    · have hr : readE d m i = 11 := by rw [hre, if_pos (.inl h1)]
      rw [hr]
      clear h hd e1 hr hb hz hre hX
      go_enter Try.func19, Try.ntmps19
      go_wp2_with (first
        | (go_at_call 46; refine HA.out.mono ?_; rintro e w2 ⟨rfl, h2⟩; obtain rfl := h2.symm; simp only [])
        | go_in)
      go_ret2
      exact ⟨Ext.refl _ _, .inl ⟨by simp, rfl⟩⟩
    · by_cases h2 : X.wr ≤ i
      · have hr : readE d m i = 11 := by rw [hre, if_pos (.inr h2)]
        rw [hr]
        clear h hd e1 hr hb hz hre hX
        go_enter Try.func19, Try.ntmps19
        go_wp2_with (first
          | (go_at_call 46; refine HA.out.mono ?_; rintro e w2 ⟨rfl, h2⟩; obtain rfl := h2.symm; simp only [])
          | go_in)
        go_ret2
        exact ⟨Ext.refl _ _, .inl ⟨by simp, rfl⟩⟩
      · have hr : readE d m i = 0 := by rw [hre, if_neg (by rintro (q | q); exact h1 q; exact h2 q)]
        obtain ⟨hb1, hb2⟩ := hb hr
        obtain ⟨v, ps, hrun, hv⟩ := h.bm.lookup (t := 81) (e := 86) K88 (by kernel_rfl) (zero86 w) (zd := .held zb) (zp := []) rfl (key := kv m i) (kl := kl m i) (key88 ⟨by omega, by omega⟩ hi)
        rw [hb1] at hv
        obtain rfl : v = .agg (u8s bs).toArray := by
          simp only [RH, Option.some.injEq, Prod.mk.injEq, DataW.held.injEq] at hv
          exact hv.1
        have hk : (Instr.lookup 81 (.map (some q.mb)) (.agg #[.int .i64 m, .int .i64 i]) false).run Try.prog w = .ok (.agg (u8s bs).toArray) w := hrun
        rw [hr]
        have HB := asideI hb2
        have hi86 : (Try.prog.info? 86).map (·.size) = some (u8s bs).toArray.size := by rw [show (u8s bs).toArray.size = 64 by simp [hb2]]; kernel_rfl
        have HI := asideI hi86
        have H1 := asideI (all_oneCell_toArray (u8s_one bs))
        obtain ⟨CS, hCS⟩ : ∃ CS, CS = (u8s bs).toArray := ⟨_, rfl⟩
        rw [← hCS] at hk
        have HCS := asideI hCS
        have HSZ := asideI (show CS.size = 64 by rw [hCS]; simp [hb2])
        clear h hd e1 hr hb hz hre hX hrun hv hi86 hb2 hb1 hCS
        go_enter Try.func19, Try.ntmps19
        go_wp2_with (first
          | (go_at_call 46; refine HA.out.mono ?_; rintro e w2 ⟨rfl, h2⟩; obtain rfl := h2.symm; simp only [])
          | (refine wpList_store_mid rfl 86 _ _ rfl w.heap.size 0 CS rfl rfl (there_new _ _ _ _ (by rw [HSZ.out]; rfl)) (by rw [HCS.out]; exact HI.out) (by rw [HCS.out]; exact H1.out) ?_)
          | go_in)
        go_ret2
        have e : CS.toList = u8s bs := by rw [HCS.out]
        rw [e]
        have hs := fun (c : Array Value) (hc : c.size = 64) => stored_new w c 86 (u8s bs) (by simp [HB.out, hc]) (u8s_one bs)
        exact ⟨(hs _ rfl).2, .inr ⟨rfl, w.heap.size, 86, rfl, Nat.le_refl _, (hs _ rfl).1⟩⟩
end Go.Proofs.Ytifemhfpcichfaa

/- Zone: a fate's next byte. -/

set_option linter.unusedSimpArgs false
set_option linter.unusedVariables false
set_option maxHeartbeats 4000000
set_option maxRecDepth 1000000
namespace Go.Proofs.Ytifemhfpcichfaa
open Go.RowKit
open Go.Av Go.Maps

/-- Bytes that may be read. -/
def FateV (W : World) (N : Nat → Prop) (v : Value) (fs : List UInt8) : Prop := ∃ pa cap, v = .slice pa fs.length cap ∧ fs.length ≤ cap ∧ (fs ≠ [] → ∃ fb off, pa = some ⟨fb, off, none⟩ ∧ ¬ N fb ∧ W.rangeAt fb off (u8s fs))
theorem FateV.keeps {w W : World} {N T : Nat → Prop} {v : Value} {fs : List UInt8} (h : FateV w N v fs) (hT : ∀ k, T k → k < w.heap.size → N k) (k : Ext T w W) : FateV W N v fs := by
  obtain ⟨pa, cap, h1, h2, h3⟩ := h
  refine ⟨pa, cap, h1, h2, fun hn => ?_⟩
  obtain ⟨fb, off, k1, k2, k3⟩ := h3 hn
  refine ⟨fb, off, k1, k2, fun j u hu => ?_⟩
  rw [← k3 j u hu]
  have hlt := World.block_lt_of_cell? w ⟨fb, off + j, none⟩ (k3 j u hu)
  exact World.cell?_of_block (k.block fb hlt (fun q => k2 (hT fb q hlt)))
def nextF : List UInt8 → Int × List UInt8
  | [] => (0, [])
  | b :: r => (b.toNat, r)
/-- What a fate's next byte leaves: the box alone may have changed. -/
def NextP (W : World) (N : Nat → Prop) (b0 : Nat) (fs : List UInt8) (e : Ending) (W' : World) : Prop :=
  e = .returned (.int .i64 (nextF fs).1) ∧ ∃ v', FateV W' N v' (nextF fs).2 ∧ BoxV W' b0 v' ∧ Ext (fun k => k = b0) W W'
theorem BoxV.set {w : World} {b : Nat} {v : Value} (h : BoxV w b v) (u : Value) : BoxV (w.setCell ⟨b, 0, none⟩ u) b u := by
  obtain ⟨te, fr, h1, h2⟩ := h
  exact ⟨te, fr, by rw [blk_same h1]; rfl, h2⟩
theorem ext_set1 (w : World) (b j : Nat) (v : Value) : Ext (fun k => k = b) w (w.setCell ⟨b, j, none⟩ v) := ⟨rfl, rfl, rfl, by simp [World.setCell], fun k hk ht => blk_other ht v⟩
theorem next_raw {W : World} {N : Nat → Prop} {b0 : Nat} {v : Value} {fs : List UInt8} (hb : BoxV W b0 v) (hf : FateV W N v fs) (hN : N b0) : Calls Try.prog 43 #[.pointer (some ⟨b0, 0, none⟩)] W (NextP W N b0 fs) := by
  obtain ⟨pa, cap, rfl, hcap, hr⟩ := hf
  have c0 := hb.cell
  have c1 := hb.fro
  have HB := asideI hb
  have HR := asideI hr
  cases fs with
  | nil =>
    simp only [List.length_nil] at c0 hb HB
    clear hb hr
    go_enter Try.func43, Try.ntmps43
    go_wp2
    go_ret
    exact ⟨rfl, _, ⟨pa, cap, rfl, Nat.zero_le _, fun q => absurd rfl q⟩, HB.out, Ext.refl _ _⟩
  | cons b r =>
    obtain ⟨fb, off, rfl, hn, hrg⟩ := hr (by simp)
    have r0 : W.cell? ⟨fb, off, none⟩ = some (.int .u8 b.toNat) := by have := hrg 0 (.int .u8 b.toNat) rfl; simpa using this
    simp only [List.length_cons] at c0 hb HB hcap
    have h1 : ((r.length + 1 : Nat) : Int) = (r.length : Int) + 1 := by simp
    have h2 : ¬ ((r.length : Int) + 1 = 0) := by omega
    have h3 : (0 : Int) < (r.length : Int) + 1 := by omega
    have h4 : (1 : Int) ≤ (r.length : Int) + 1 := by omega
    have hbt : b.toNat < 256 := b.toNat_lt
    have hw : IntKind.i64.wrap (b.toNat : Int) = b.toNat := by rw [IntKind.wrap_i64]; omega
    have HRG := asideI (And.intro hn hrg)
    have HW := asideI hw
    clear hb hr hn hrg
    by_cases hc1 : cap = 1
    · subst hc1
      have hr0 : r = [] := List.eq_nil_of_length_eq_zero (by omega)
      subst hr0
      go_enter Try.func43, Try.ntmps43
      go_wp2
      go_ret
      refine ⟨?_, _, ⟨_, _, rfl, Nat.zero_le _, fun q => absurd rfl q⟩, HB.out.set _, ext_set1 _ _ _ _⟩
      first | rfl | (show Ending.returned (.int .i64 (IntKind.i64.wrap (b.toNat : Int))) = _; rw [HW.out]; rfl)
    · have hc2 : ¬ (cap = 0) := by omega
      go_enter Try.func43, Try.ntmps43
      go_wp2
      go_ret
      refine ⟨?_, _, ⟨_, _, rfl, (show r.length ≤ cap - 1 by omega), fun q => ⟨fb, off + 1, rfl, HRG.out.1, fun j u hu => ?_⟩⟩, HB.out.set _, ext_set1 _ _ _ _⟩
      · first | rfl | (show Ending.returned (.int .i64 (IntKind.i64.wrap (b.toNat : Int))) = _; rw [HW.out]; rfl)
      · have hne : fb ≠ b0 := fun e => HRG.out.1 (by rw [e]; exact hN)
        have := HRG.out.2 (j + 1) u hu
        rw [show off + (j + 1) = off + 1 + j by omega] at this
        rw [← this]
        exact World.cell?_of_block (blk_other hne _)
end Go.Proofs.Ytifemhfpcichfaa

/- Zone: devices that may be (plain). -/

set_option linter.unusedSimpArgs false
set_option linter.unusedVariables false
set_option maxHeartbeats 4000000
set_option maxRecDepth 1000000
namespace Go.Proofs.Ytifemhfpcichfaa
open Go.RowKit
open Go.Av Go.Maps

def byteV : Value → UInt8
  | .int _ n => UInt8.ofNat n.toNat
  | _ => 0
theorem byteV_u8s (bs : List UInt8) : (u8s bs).map byteV = bs := by
  induction bs with
  | nil => rfl
  | cons b r ih =>
    have : byteV (.int .u8 b.toNat) = b := by simp [byteV]
    simp only [u8s, List.map_cons] at ih ⊢
    rw [ih, this]
/-- A block's bytes. -/
def blkB (d : Dv) (z i : Int) : List UInt8 := match d.D.atKey (kl z i) (.held zb) with
  | .held (.agg cs) => cs.toList.map byteV
  | _ => []
theorem blkB_of {d : Dv} {z i : Int} {bs : List UInt8} (h : BlkIs d z i bs) : blkB d z i = bs := by
  unfold blkB
  rw [h.1]
  simp [byteV_u8s]
theorem u8s_inj {a b : List UInt8} (h : u8s a = u8s b) : a = b := by rw [← byteV_u8s a, h, byteV_u8s]
def zAt (d : Dv) (z : Nat) : Zn := d.zs.getD z z0
/-- A device that may be; of the zones ahead of k what is loose is not asked. -/
structure OkD (k : Nat) (d : Dv) : Prop where
  len : d.zs.length ≤ 64
  isM : IsMap d.D
  nb : 0 ≤ d.nb ∧ d.nb ≤ 1000
  wr : ∀ z, z < d.zs.length → 0 ≤ (zAt d z).wr ∧ (zAt d z).wr ≤ d.nb
  lo : ∀ z, k ≤ z → z < d.zs.length → 0 ≤ (zAt d z).lo ∧ (zAt d z).lo ≤ (zAt d z).wr
  b : ∀ z, z < d.zs.length → ∀ i : Nat, (i : Int) < (zAt d z).wr → ∃ bs, BlkIs d z i bs
theorem OkD.mono {k m : Nat} {d : Dv} (h : OkD k d) (hm : k ≤ m) : OkD m d := ⟨h.len, h.isM, h.nb, h.wr, fun z hz => h.lo z (by omega), h.b⟩
/-- What lies in zones and blocks alone counts. -/
theorem OkD.same {k : Nat} {d e : Dv} (h : OkD k d) (h1 : e.zs = d.zs) (h2 : e.nb = d.nb) (h3 : e.D = d.D) : OkD k e := by
  refine ⟨by rw [h1]; exact h.len, by rw [h3]; exact h.isM, by rw [h2]; exact h.nb, ?_, ?_, ?_⟩
  · intro z hz; rw [h1] at hz; unfold zAt; rw [h1, h2]; exact h.wr z hz
  · intro z hk hz; rw [h1] at hz; unfold zAt; rw [h1]; exact h.lo z hk hz
  · intro z hz i hi
    rw [h1] at hz
    unfold zAt at hi
    rw [h1] at hi
    obtain ⟨bs, k1, k2⟩ := h.b z hz i hi
    exact ⟨bs, by rw [h3]; exact k1, k2⟩
theorem zAt_set (d : Dv) (z : Nat) (x : Zn) (n : Nat) (D : DataW Value) (m : Nat) (hz : z < d.zs.length) : (({ d with zs := d.zs.set z x, n := n, D := D } : Dv).zs.getD m z0) = if m = z then x else zAt d m := by
  simp only [zAt]
  rw [List.getD_eq_getElem?_getD, List.getD_eq_getElem?_getD]
  by_cases e : m = z
  · subst e; rw [List.getElem?_set_self hz, if_pos rfl]; rfl
  · rw [List.getElem?_set_ne (fun q => e q.symm), if_neg e]
theorem OkD.tick {k : Nat} {d : Dv} (h : OkD k d) : OkD k (tick1 d) := h.same rfl rfl rfl
theorem OkD.down {k : Nat} {d : Dv} (h : OkD k d) (b : Bool) : OkD k { d with down := b } := h.same rfl rfl rfl
theorem OkD.step {k : Nat} {d x : Dv} (h : OkD k d) (hx : OkD k x) : OkD k (stepD d x).1 := by
  unfold stepD
  split
  · split
    · exact hx.down _
    · exact h.tick.down _
  · exact hx
theorem OkD.safe {k : Nat} {d : Dv} (h : OkD k d) : OkD 0 (safeD d) := by
  have hg : ∀ z, z < d.zs.length → zAt (safeD d) z = safeZ (zAt d z) := fun z hz => by simp [zAt, safeD, List.getD_eq_getElem?_getD, hz]
  have hl : (safeD d).zs.length = d.zs.length := by simp [safeD]
  refine ⟨by rw [hl]; exact h.len, h.isM, h.nb, fun z hz => ?_, fun z _ hz => ?_, fun z hz i hi => ?_⟩
  · rw [hl] at hz; rw [hg z hz]; exact h.wr z hz
  · rw [hl] at hz; rw [hg z hz]; exact ⟨Int.le_refl _, (h.wr z hz).1⟩
  · rw [hl] at hz; rw [hg z hz] at hi; exact h.b z hz i hi
theorem i64_nat {n : Nat} (h : n ≤ 1000000) : I64 (n : Int) := ⟨by omega, by omega⟩
theorem kl_ne {a b a' b' : Nat} (ha : a ≤ 1000000) (hb : b ≤ 1000000) (ha' : a' ≤ 1000000) (hb' : b' ≤ 1000000) (h : ¬ (a = a' ∧ b = b')) : kl (a : Int) (b : Int) ≠ kl (a' : Int) (b' : Int) := fun e => by
  obtain ⟨h1, h2⟩ := kl_inj (i64_nat ha) (i64_nat hb) (i64_nat ha') (i64_nat hb') e
  exact h ⟨by omega, by omega⟩
theorem blk_put_same {d : Dv} {z i : Nat} {bs : List UInt8} (hm : IsMap d.D) (hl : bs.length = 64) {e : Dv} (he : e.D = d.D.put (kl z i) (.held (.agg (u8s bs).toArray))) : BlkIs e z i bs :=
  ⟨by rw [he]; exact atKey_put_same hm (kl_key _ _) _ _, hl⟩
theorem blk_put_other {d : Dv} {z i z' i' : Nat} {x : DataW Value} (h1 : z ≤ 1000) (h2 : i ≤ 1000) (h3 : z' ≤ 1000) (h4 : i' ≤ 1000) (hne : ¬ (z' = z ∧ i' = i)) {e : Dv} (he : e.D = d.D.put (kl z i) x) {bs : List UInt8} (h : BlkIs d z' i' bs) : BlkIs e z' i' bs :=
  ⟨by rw [he, atKey_put_other (kl_ne (by omega) (by omega) (by omega) (by omega) hne)]; exact h.1, h.2⟩
theorem dels_other (D : DataW Value) {z z' i' : Nat} (i : Nat) (zd : DataW Value) (h1 : z ≤ 1000) (h3 : z' ≤ 1000) (h4 : i' ≤ 1000) : ∀ k, i + k ≤ 3000 → ¬ (z' = z ∧ i ≤ i' ∧ i' < i + k) → (dels D z i k).atKey (kl z' i') zd = D.atKey (kl z' i') zd
  | 0, _, _ => rfl
  | k + 1, hk, hne => by
    rw [dels, atKey_del_other (kl_ne (by omega) (by omega) (by omega) (by omega) (by rintro ⟨e1, e2⟩; exact hne ⟨e1, by omega, by omega⟩))]
    exact dels_other D i zd h1 h3 h4 k (by omega) (by rintro ⟨e1, e2, e3⟩; exact hne ⟨e1, e2, by omega⟩)
theorem isMap_del {D : DataW Value} (h : IsMap D) (k : Lit) : IsMap (D.del k) := by
  obtain ⟨es, rfl⟩ := h
  exact ⟨_, rfl⟩
theorem isMap_put {D : DataW Value} (h : IsMap D) (k : Lit) (x : DataW Value) : IsMap (D.put k x) := by
  obtain ⟨es, rfl⟩ := h
  exact ⟨_, rfl⟩
theorem isMap_dels {D : DataW Value} (h : IsMap D) (z : Int) (i : Nat) : ∀ k, IsMap (dels D z i k)
  | 0 => h
  | k + 1 => isMap_del (isMap_dels h z i k) _
/-- A zone is cut. -/
theorem OkD.cut {k : Nat} {d : Dv} (h : OkD k d) {z n : Nat} (hz : z < d.zs.length) (hk : z < k) (hn : (n : Int) ≤ (zAt d z).wr) : OkD k (cutD d z n) := by
  have hlen := h.len
  have hnb := h.nb
  have hg : ∀ m, zAt (cutD d z n) m = if m = z then ⟨n, (zAt d z).lo, (zAt d z).fin⟩ else zAt d m := fun m => zAt_set d z _ d.n _ m hz
  have hl : (cutD d z n).zs.length = d.zs.length := by simp [cutD]
  refine ⟨by rw [hl]; exact hlen, isMap_dels h.isM _ _ _, hnb, fun m hm => ?_, fun m hkm hm => ?_, fun m hm i hi => ?_⟩
  · rw [hl] at hm; rw [hg m]
    split
    · have := h.wr z hz; exact ⟨by simp, by simp only [cutD]; omega⟩
    · exact h.wr m hm
  · rw [hl] at hm; rw [hg m, if_neg (by omega)]; exact h.lo m hkm hm
  · rw [hl] at hm; rw [hg m] at hi
    have hw := h.wr z hz
    have hwm := h.wr m hm
    have hi2 : (i : Int) < (zAt d m).wr := by
      split at hi
      · rename_i e; subst e; simp only at hi; omega
      · exact hi
    obtain ⟨bs, k1, k2⟩ := h.b m hm i hi2
    refine ⟨bs, ?_, k2⟩
    rw [← k1]
    have hw2 : (d.zs.getD z z0).wr = (zAt d z).wr := rfl
    refine dels_other d.D n _ (by omega) (by omega) (by omega) _ (by rw [hw2]; omega) ?_
    rintro ⟨e1, e2, e3⟩
    subst e1
    rw [if_pos rfl] at hi
    simp only at hi
    omega
/-- A block is written behind the others of a zone. -/
theorem OkD.put {k : Nat} {d e : Dv} (h : OkD k d) {z : Nat} (hz : z < d.zs.length) (hw : (zAt d z).wr < d.nb) {bs : List UInt8} (hl : bs.length = 64) {x : Zn} (hx : x.wr = (zAt d z).wr + 1) (hlo : k ≤ z → 0 ≤ x.lo ∧ x.lo ≤ x.wr) {n : Nat}
    (he : e = { d with zs := d.zs.set z x, n := n, D := d.D.put (kl z (zAt d z).wr) (.held (.agg (u8s bs).toArray)) }) : OkD k e := by
  have hlen := h.len
  have hnb := h.nb
  have hwz := h.wr z hz
  obtain ⟨m0, hm0⟩ : ∃ m0 : Nat, (zAt d z).wr = m0 := ⟨(zAt d z).wr.toNat, by omega⟩
  have hg : ∀ m, zAt e m = if m = z then x else zAt d m := fun m => by subst he; exact zAt_set d z x n _ m hz
  have hll : e.zs.length = d.zs.length := by subst he; simp
  have hD : e.D = d.D.put (kl z m0) (.held (.agg (u8s bs).toArray)) := by subst he; simp only [hm0]
  have hnbe : e.nb = d.nb := by subst he; rfl
  refine ⟨by rw [hll]; exact hlen, by rw [hD]; exact isMap_put h.isM _ _, by rw [hnbe]; exact hnb, fun m hm => ?_, fun m hkm hm => ?_, fun m hm i hi => ?_⟩
  · rw [hll] at hm; rw [hg m, hnbe]
    split
    · omega
    · exact h.wr m hm
  · rw [hll] at hm; rw [hg m]
    split
    · rename_i q; subst q; exact hlo hkm
    · exact h.lo m hkm hm
  · rw [hll] at hm; rw [hg m] at hi
    have hwm := h.wr m hm
    by_cases e1 : m = z ∧ i = m0
    · obtain ⟨rfl, rfl⟩ := e1
      exact ⟨bs, blk_put_same h.isM hl hD⟩
    · have hi2 : (i : Int) < (zAt d m).wr := by
        split at hi
        · rename_i q; subst q
          rw [hx] at hi
          have : i ≠ m0 := fun q => e1 ⟨rfl, q⟩
          omega
        · exact hi
      obtain ⟨bs', k1⟩ := h.b m hm i hi2
      exact ⟨bs', blk_put_other (by omega) (by omega) (by omega) (by omega) e1 hD k1⟩
end Go.Proofs.Ytifemhfpcichfaa

/- Zone: a crash (plain). -/

set_option linter.unusedSimpArgs false
set_option linter.unusedVariables false
set_option maxHeartbeats 4000000
set_option maxRecDepth 1000000
namespace Go.Proofs.Ytifemhfpcichfaa
open Go.RowKit
open Go.Av Go.Maps

def tornB (t : Nat) (bs : List UInt8) : List UInt8 := bs.take t ++ List.replicate (64 - t) 0
theorem tornB_len {t : Nat} {bs : List UInt8} (h : bs.length = 64) (ht : t ≤ 64) : (tornB t bs).length = 64 := by simp [tornB]; omega
/-- A torn block behind those that are kept. -/
def tornD (d : Dv) (z keep : Nat) (bs : List UInt8) : Dv :=
  { d with zs := d.zs.set z ⟨(d.zs.getD z z0).wr + 1, (d.zs.getD z z0).lo, (d.zs.getD z z0).fin⟩, n := d.n + 1, D := d.D.put (kl z keep) (.held (.agg (u8s bs).toArray)) }
def kOf (d : Dv) (fs : List UInt8) (z : Nat) : Int := (nextF fs).1 % ((zAt d z).lo + 1)
def keepOf (d : Dv) (fs : List UInt8) (z : Nat) : Nat := ((zAt d z).wr - (zAt d z).lo + kOf d fs z).toNat
def tOf (fs : List UInt8) : Nat := ((nextF (nextF fs).2).1 % 64).toNat
def crash1 (s : Dv × List UInt8) (z : Nat) : Dv × List UInt8 :=
  if (zAt s.1 z).lo = 0 then s
  else if kOf s.1 s.2 z = (zAt s.1 z).lo then (s.1, (nextF s.2).2)
  else if tOf s.2 = 0 then (cutD s.1 z (keepOf s.1 s.2 z), (nextF (nextF s.2).2).2)
  else (tornD (cutD s.1 z (keepOf s.1 s.2 z)) z (keepOf s.1 s.2 z) (tornB (tOf s.2) (blkB s.1 z (keepOf s.1 s.2 z))), (nextF (nextF s.2).2).2)
def crashTo (s : Dv × List UInt8) : Nat → Dv × List UInt8
  | 0 => s
  | k + 1 => crash1 (crashTo s k) k
def crashD (d : Dv) (fs : List UInt8) : Dv := { safeD (crashTo (d, fs) d.zs.length).1 with down := false, fails := -1, done := false }
theorem nextF_rng (fs : List UInt8) : 0 ≤ (nextF fs).1 ∧ (nextF fs).1 < 256 := by
  cases fs with
  | nil => simp [nextF]
  | cons b r => have := b.toNat_lt; simp [nextF]; omega
theorem cut_at (d : Dv) (z n : Nat) (hz : z < d.zs.length) : zAt (cutD d z n) z = ⟨n, (zAt d z).lo, (zAt d z).fin⟩ := by
  have := zAt_set d z ⟨n, (zAt d z).lo, (zAt d z).fin⟩ d.n (dels d.D z n ((d.zs.getD z z0).wr - n).toNat) z hz
  rw [if_pos rfl] at this
  exact this
theorem crash1_len (s : Dv × List UInt8) (z : Nat) : (crash1 s z).1.zs.length = s.1.zs.length ∧ (crash1 s z).1.nb = s.1.nb ∧ (crash1 s z).1.n ≤ s.1.n + 1 ∧ (crash1 s z).1.down = s.1.down ∧ (crash1 s z).1.ops = s.1.ops ∧ (crash1 s z).1.fails = s.1.fails ∧ (crash1 s z).1.done = s.1.done := by
  unfold crash1
  split
  · simp
  · split
    · simp
    · split
      · simp [cutD]
      · simp [cutD, tornD]
theorem crashTo_len (s : Dv × List UInt8) : ∀ k, (crashTo s k).1.zs.length = s.1.zs.length ∧ (crashTo s k).1.nb = s.1.nb ∧ (crashTo s k).1.n ≤ s.1.n + k ∧ (crashTo s k).1.down = s.1.down ∧ (crashTo s k).1.ops = s.1.ops ∧ (crashTo s k).1.fails = s.1.fails ∧ (crashTo s k).1.done = s.1.done
  | 0 => by simp [crashTo]
  | k + 1 => by
    obtain ⟨h1, h2, h3, h4, h5, h6, h7⟩ := crashTo_len s k
    obtain ⟨k1, k2, k3, k4, k5, k6, k7⟩ := crash1_len (crashTo s k) k
    simp only [crashTo]
    refine ⟨k1.trans h1, k2.trans h2, by omega, k4.trans h4, k5.trans h5, k6.trans h6, k7.trans h7⟩
/-- What is kept of a zone is fewer than what was written. -/
theorem keep_rng {k : Nat} {d : Dv} (h : OkD k d) {z : Nat} (hk : k ≤ z) (hz : z < d.zs.length) (fs : List UInt8) (h0 : ¬ (zAt d z).lo = 0) : 0 ≤ kOf d fs z ∧ kOf d fs z ≤ (zAt d z).lo ∧ ((keepOf d fs z : Nat) : Int) = (zAt d z).wr - (zAt d z).lo + kOf d fs z := by
  have h1 := h.lo z hk hz
  have h2 := Int.emod_nonneg (nextF fs).1 (show (zAt d z).lo + 1 ≠ 0 by omega)
  have h3 := Int.emod_lt_of_pos (nextF fs).1 (show 0 < (zAt d z).lo + 1 by omega)
  have h4 : kOf d fs z = (nextF fs).1 % ((zAt d z).lo + 1) := rfl
  refine ⟨by omega, by omega, ?_⟩
  unfold keepOf
  omega
theorem tOf_lt (fs : List UInt8) : tOf fs < 64 := by
  unfold tOf
  have h2 := Int.emod_nonneg (nextF (nextF fs).2).1 (show (64 : Int) ≠ 0 by omega)
  have h3 := Int.emod_lt_of_pos (nextF (nextF fs).2).1 (show (0 : Int) < 64 by omega)
  omega
theorem OkD.blk {k : Nat} {d : Dv} (h : OkD k d) {z i : Nat} (hz : z < d.zs.length) (hi : (i : Int) < (zAt d z).wr) : BlkIs d z i (blkB d z i) := by
  obtain ⟨bs, hb⟩ := h.b z hz i hi
  rw [blkB_of hb]
  exact hb
theorem OkD.crash1 {z : Nat} {s : Dv × List UInt8} (h : OkD z s.1) (hz : z < s.1.zs.length) : OkD (z + 1) (crash1 s z).1 := by
  obtain ⟨d, fs⟩ := s
  simp only at h hz
  unfold Ytifemhfpcichfaa.crash1
  have hM := h.mono (Nat.le_succ z)
  simp only
  split
  · exact hM
  · rename_i h0
    obtain ⟨r1, r2, r3⟩ := keep_rng h (Nat.le_refl z) hz fs h0
    split
    · exact hM
    · rename_i h1
      have hw := h.wr z hz
      have hC : OkD (z + 1) (cutD d z (keepOf d fs z)) := hM.cut hz (Nat.lt_succ_self z) (by omega)
      split
      · exact hC
      · have hcl : (cutD d z (keepOf d fs z)).zs.length = d.zs.length := by simp [cutD]
        have hat := cut_at d z (keepOf d fs z) hz
        refine hC.put (z := z) (by rw [hcl]; exact hz) (by rw [hat]; simp only [cutD]; omega) (tornB_len (h.blk hz (show ((keepOf d fs z : Nat) : Int) < _ by omega)).2 (Nat.le_of_lt (tOf_lt fs))) (x := ⟨(zAt (cutD d z (keepOf d fs z)) z).wr + 1, (zAt (cutD d z (keepOf d fs z)) z).lo, (zAt (cutD d z (keepOf d fs z)) z).fin⟩) (n := d.n + 1) rfl (by omega) ?_
        unfold tornD
        rw [show (zAt (cutD d z (keepOf d fs z)) z).wr = (keepOf d fs z : Nat) by rw [hat]]
        have : (cutD d z (keepOf d fs z)).zs.getD z z0 = zAt (cutD d z (keepOf d fs z)) z := rfl
        rw [this, hat]
        rfl
theorem OkD.crashTo {s : Dv × List UInt8} (h : OkD 0 s.1) : ∀ k, k ≤ s.1.zs.length → OkD k (crashTo s k).1
  | 0, _ => h
  | k + 1, hk => (OkD.crashTo h k (by omega)).crash1 (by rw [(crashTo_len s k).1]; omega)
theorem OkD.crash {d : Dv} (h : OkD 0 d) (fs : List UInt8) : OkD 0 (crashD d fs) :=
  (OkD.crashTo (s := (d, fs)) h d.zs.length (Nat.le_refl _)).safe.same rfl rfl rfl
end Go.Proofs.Ytifemhfpcichfaa
