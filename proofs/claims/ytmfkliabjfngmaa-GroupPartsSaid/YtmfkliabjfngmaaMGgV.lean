import Derived.Test.YtmfkliabjfngmaaMHgG

set_option linter.unusedVariables false
set_option linter.unusedSimpArgs false

/- Group: Tick, walked raw over its calls' contracts. -/

set_option linter.unusedSimpArgs false
set_option linter.unusedVariables false
set_option maxHeartbeats 4000000
set_option maxRecDepth 1000000
namespace Go.Proofs.Ytmfkliabjfngmaa

open Go.Av Go.RowKit Go.Lib

/-- What Tick answers. -/
def tickG (g : Grp) (now pat : Int) : Grp :=
  if chkG g ≠ 0 ∨ 1099511627776 ≤ g.ge ∨ now < 0 then g else if (g.ms.filter fun m => !lateM now pat m).length = g.ms.length then g
  else ⟨IntKind.i64.wrap (g.ge + 1), phaseP (offM (g.ms.filter fun m => !lateM now pat m)), offM (g.ms.filter fun m => !lateM now pat m)⟩
structure Bx5 (w W : World) (x y z u : Value) : Prop where
  ext : Ext (fun _ => False) w W
  b0 : W.heap[w.heap.size]? = some (.cells #[x, y, z] 43)
  b3 : W.heap[w.heap.size + 1 + 1 + 1]? = some (.cells #[.int .i64 0, .int .u8 0, .slice none 0 0] 43)
  b4 : W.heap[w.heap.size + 1 + 1 + 1 + 1]? = some (.cells #[x, y, u] 43)
  sz : w.heap.size + 5 ≤ W.heap.size
theorem Bx5.step {w W W' : World} {x y z u : Value} (h : Bx5 w W x y z u) (k : Ext (fun _ => False) W W') : Bx5 w W' x y z u :=
  ⟨h.ext.trans k, (k.block _ (Array.getElem?_eq_some_iff.1 h.b0).1 id).trans h.b0, (k.block _ (Array.getElem?_eq_some_iff.1 h.b3).1 id).trans h.b3, (k.block _ (Array.getElem?_eq_some_iff.1 h.b4).1 id).trans h.b4, Nat.le_trans h.sz k.size⟩
theorem Bx5.step2 {w W W' : World} {x y z u : Value} (h : Bx5 w W x y z u) (k : ∀ j, j < w.heap.size + 5 → W'.heap[j]? = W.heap[j]?) (h1 : W'.os = W.os) (h2 : W'.tape = W.tape) (h3 : W'.output = W.output) (h4 : W.heap.size ≤ W'.heap.size) : Bx5 w W' x y z u :=
  ⟨⟨h1.trans h.ext.os, h2.trans h.ext.tape, h3.trans h.ext.output, Nat.le_trans h.ext.size h4, fun j hj ht => (k j (by omega)).trans (h.ext.block j hj ht)⟩, (k _ (by omega)).trans h.b0, (k _ (by omega)).trans h.b3, (k _ (by omega)).trans h.b4, Nat.le_trans h.sz h4⟩
theorem Bx5.cells {w W : World} {x y z u : Value} (h : Bx5 w W x y z u) : (W.cell? ⟨w.heap.size, 0, none⟩ = some x ∧ W.cell? ⟨w.heap.size, 1, none⟩ = some y ∧ W.cell? ⟨w.heap.size, 2, none⟩ = some z) ∧
    (W.cell? ⟨w.heap.size + 1 + 1 + 1, 0, none⟩ = some (.int .i64 0) ∧ W.cell? ⟨w.heap.size + 1 + 1 + 1, 1, none⟩ = some (.int .u8 0) ∧ W.cell? ⟨w.heap.size + 1 + 1 + 1, 2, none⟩ = some (.slice none 0 0)) ∧
    (W.frozen? ⟨w.heap.size + 1 + 1 + 1, 0, none⟩ = false ∧ W.frozen? ⟨w.heap.size + 1 + 1 + 1, 1, none⟩ = false ∧ W.frozen? ⟨w.heap.size + 1 + 1 + 1, 2, none⟩ = false) ∧
    (W.cell? ⟨w.heap.size + 1 + 1 + 1 + 1, 0, none⟩ = some x ∧ W.cell? ⟨w.heap.size + 1 + 1 + 1 + 1, 1, none⟩ = some y ∧ W.cell? ⟨w.heap.size + 1 + 1 + 1 + 1, 2, none⟩ = some u) ∧ W.frozen? ⟨w.heap.size + 1 + 1 + 1 + 1, 2, none⟩ = false := by
  refine ⟨⟨?_, ?_, ?_⟩, ⟨?_, ?_, ?_⟩, ⟨?_, ?_, ?_⟩, ⟨?_, ?_, ?_⟩, ?_⟩ <;> simp [World.cell?, World.frozen?, h.b0, h.b3, h.b4]
theorem ext_box5 {w w1 w2 : World} {A B C D E : Obj} (h1 : w1 = ((((w.alloc A).alloc B).alloc C).alloc D).alloc E) (h : Ext (fun _ => False) w1 w2) :
    Ext (fun _ => False) w w2 ∧ w2.heap[w.heap.size]? = some A ∧ w2.heap[w.heap.size + 1]? = some B ∧ w2.heap[w.heap.size + 1 + 1]? = some C ∧ w2.heap[w.heap.size + 1 + 1 + 1]? = some D ∧ w2.heap[w.heap.size + 1 + 1 + 1 + 1]? = some E ∧ w.heap.size + 5 ≤ w2.heap.size := by
  subst h1
  have hs : ((((w.alloc A).alloc B).alloc C).alloc D).heap.size = w.heap.size + 1 + 1 + 1 + 1 := by simp
  have hs2 : (((w.alloc A).alloc B).alloc C).heap.size = w.heap.size + 1 + 1 + 1 := by simp
  have hs3 : ((w.alloc A).alloc B).heap.size = w.heap.size + 1 + 1 := by simp
  have hs4 : (w.alloc A).heap.size = w.heap.size + 1 := by simp
  have hz := h.size
  rw [World.size_alloc, hs] at hz
  have key : ∀ k, k < w.heap.size + 5 → w2.heap[k]? = (((((w.alloc A).alloc B).alloc C).alloc D).alloc E).heap[k]? := fun k hk => h.block k (by rw [World.size_alloc, hs]; omega) id
  refine ⟨⟨h.os, h.tape, h.output, by omega, fun k hk _ => ?_⟩, ?_, ?_, ?_, ?_, ?_, by omega⟩
  · rw [key k (by omega), alloc_get, hs, if_neg (by omega), alloc_get, hs2, if_neg (by omega), alloc_get, hs3, if_neg (by omega), alloc_get, hs4, if_neg (by omega), alloc_get, if_neg (by omega)]
  · rw [key _ (by omega), alloc_get, hs, if_neg (by omega), alloc_get, hs2, if_neg (by omega), alloc_get, hs3, if_neg (by omega), alloc_get, hs4, if_neg (by omega), alloc_get, if_pos rfl]
  · rw [key _ (by omega), alloc_get, hs, if_neg (by omega), alloc_get, hs2, if_neg (by omega), alloc_get, hs3, if_neg (by omega), alloc_get, hs4, if_pos rfl]
  · rw [key _ (by omega), alloc_get, hs, if_neg (by omega), alloc_get, hs2, if_neg (by omega), alloc_get, hs3, if_pos rfl]
  · rw [key _ (by omega), alloc_get, hs, if_neg (by omega), alloc_get, hs2, if_pos rfl]
  · rw [key _ (by omega), alloc_get, hs, if_pos rfl]
theorem rep_sliceL {mu : Mem} {z : Nat} {xs : List SV} {v : Value} (h : Rep mu (.sl z xs) v) : ∃ p c, v = .slice p xs.length c := by
  rcases h.inv_sl with ⟨⟨p, cap, rfl, _⟩, hx⟩ | ⟨b, off, cap, vals, rfl, _⟩
  · subst hx; exact ⟨_, _, rfl⟩
  · exact ⟨_, _, rfl⟩
theorem clone_sh {mu : Mem} {W : World} (hm : MemOK mu W) {l : List Mb} {v : Value} (hv : Rep mu (.sl 3 (ML l)) v) (hl : l.length ≤ 1000) :
    Calls Try.prog 58 #[v] W fun e W' => ∃ p c mu', e = .returned (.slice p l.length c) ∧ Ext (fun _ => False) W W' ∧ Gr W.heap.size mu mu' W' ∧ Rep mu' (.sl 3 (ML l)) (.slice p l.length c) := by
  refine (clone_pure l hl mu W [v] hm (repArgs1 hv)).mono ?_
  rintro e w' ⟨val, mu', rfl, q1, q2, q3, q4, x, q5, q6⟩
  have hr : Rep mu' (.sl 3 (ML l)) val := OwnAt.share q5
  obtain ⟨p, c, rfl⟩ := rep_sliceL hr
  rw [ML_length] at hr ⊢
  exact ⟨p, c, mu', rfl, q1, ⟨q2, q3, q4⟩, hr⟩
theorem ret_grp1 {mu m : Mem} {w W : World} {g : Grp} {v : Value} (hle : mu.le m) (hok : MemOK m W) (hlo : ∀ b j, b < w.heap.size → m b j = mu b j) (hn : ∀ j, m (w.heap.size + 1 + 1 + 1) j = none) (hx : Ext (fun _ => False) w W) {W2 : World}
    (h0 : ∀ k, k ≠ w.heap.size + 1 + 1 + 1 → W2.heap[k]? = W.heap[k]?) (ho : W2.os = W.os) (ht : W2.tape = W.tape) (hp : W2.output = W.output) (hs : W2.heap.size = W.heap.size) (hv : Rep m (.sl 3 (ML g.ms)) v) :
    PostR mu w (.sv g.sv) (.returned (.agg #[.int .i64 g.ge, .int .u8 g.ph, v])) W2 := by
  refine ⟨_, m, rfl, ⟨ho.trans hx.os, ht.trans hx.tape, hp.trans hx.output, by rw [hs]; exact hx.size, fun k hk hf => (h0 k (by omega)).trans (hx.block k hk hf)⟩, hle, fun b' j' v' hv' => ?_, hlo, fun _ => none, ?_, fun _ _ q => by cases q⟩
  · obtain ⟨t1, t2⟩ := hok b' j' v' hv'
    have hne : b' ≠ w.heap.size + 1 + 1 + 1 := fun q => by subst q; rw [hn] at hv'; cases hv'
    exact ⟨by rw [← t1]; exact World.cell?_of_block (h0 b' hne), t2⟩
  · exact (.agg _ [.int .i64 g.ge, .int .u8 g.ph, v] rfl (fun j hj => by
        match j, hj with
        | 0, _ => exact .int _ _
        | 1, _ => exact .int _ _
        | 2, _ => exact hv) : Rep m g.sv _)
theorem clo_rep {m : Mem} {b c : Nat} {now pat : Int} (h1 : m b 0 = some (.int .i64 now)) (h2 : m c 0 = some (.int .i64 pat)) : Rep m (.fn 64 [] [intC now, intC pat]) (.func (.func 64) #[] #[.pointer (some ⟨b, 0, none⟩), .pointer (some ⟨c, 0, none⟩)]) := by
  have one : ∀ (b : Nat) (n : Int), m b 0 = some (.int .i64 n) → Rep m (intC n) (.pointer (some ⟨b, 0, none⟩)) := fun b n h => by
    refine .eptr (.agg [.int .i64 n]) 0 b 0 (fun _ => .int .i64 n) (fun j hj => ?_) (fun j hj => ?_)
    · have : j = 0 := by have : (SV.agg [.int .i64 n]).nc = 1 := rfl; omega
      subst this; exact h
    · have : j = 0 := by have : (SV.agg [.int .i64 n]).nc = 1 := rfl; omega
      subst this; exact .int _ _
  exact .fn 64 [] [intC now, intC pat] [] [.pointer (some ⟨b, 0, none⟩), .pointer (some ⟨c, 0, none⟩)] rfl rfl (fun j hj => by simp at hj) (fun j hj => by
    match j, hj with
    | 0, _ => exact one b now h1
    | 1, _ => exact one c pat h2)
theorem tick_pure (g : Grp) (now pat : Int) (hl : g.ms.length ≤ 1000) : Pure Try.prog 33 [g.sv, .int .i64 now, .int .i64 pat] (.sv (tickG g now pat).sv) := by
  intro mu w vs hm hra
  obtain ⟨x, a, b, rfl⟩ : ∃ x a b, vs = [x, a, b] := by
    match vs, hra.1 with
    | [x, a, b], _ => exact ⟨x, a, b, rfl⟩
  obtain ⟨v, rfl, hv⟩ := rep_grp (hra.2 0 (by simp))
  obtain rfl : a = .int .i64 now := Rep.inv_int (hra.2 1 (by simp))
  obtain rfl : b = .int .i64 pat := Rep.inv_int (hra.2 2 (by simp))
  have hgr : Rep mu g.sv (.agg #[.int .i64 g.ge, .int .u8 g.ph, v]) := hra.2 0 (by simp)
  obtain ⟨vp, vn, vc, rfl⟩ := rep_slice hv
  have HCHK : Aside (∀ (mu' : Mem) W, mu.le mu' → MemOK mu' W → Calls Try.prog 34 #[.agg #[.int .i64 g.ge, .int .u8 g.ph, .slice vp vn vc]] W fun e w' => e = .returned (.int .i64 (chkG g)) ∧ Ext (fun _ => False) W w' ∧ MemOK mu' w') :=
    fun mu' W hle hW => pint (chk_pure g (by omega)) hW (repArgs1 (hgr.mono hle))
  have HM : Aside (MemOK mu w) := hm
  have HV : Aside (Rep mu (.sl 3 (ML g.ms)) (.slice vp vn vc)) := hv
  show Calls _ _ _ _ (PostR mu w _)
  clear hgr hm hv hra
  unfold tickG
  generalize chkG g = z at HCHK ⊢
  obtain ⟨ge, ph, l⟩ := g
  simp only at *
  obtain ⟨m0, hm0⟩ : ∃ m0 : Mem, m0 = fun b j => if b = w.heap.size + 1 ∧ j = 0 then some (.int .i64 now) else if b = w.heap.size + 1 + 1 ∧ j = 0 then some (.int .i64 pat) else mu b j := ⟨_, rfl⟩
  have hn : ∀ b j, w.heap.size ≤ b → mu b j = none := fun b j hb => by
    cases q : mu b j with
    | none => rfl
    | some v => have := HM.out.lt q; omega
  have hm0le : mu.le m0 := fun b j v h => by
    have := HM.out.lt h
    rw [hm0]
    simp only
    rw [if_neg (by omega), if_neg (by omega)]
    exact h
  have hm0lo : ∀ b j, b < w.heap.size → m0 b j = mu b j := fun b j hb => by
    rw [hm0]
    simp only
    rw [if_neg (by omega), if_neg (by omega)]
  have hm0hi : ∀ b j, w.heap.size ≤ b → b ≠ w.heap.size + 1 → b ≠ w.heap.size + 1 + 1 → m0 b j = none := fun b j hb h1 h2 => by
    rw [hm0]
    simp only
    rw [if_neg (by omega), if_neg (by omega)]
    exact hn b j hb
  have hm01 : m0 (w.heap.size + 1) 0 = some (.int .i64 now) := by rw [hm0]; simp
  have hm02 : m0 (w.heap.size + 1 + 1) 0 = some (.int .i64 pat) := by rw [hm0]; simp
  have hm0ok : MemOK m0 (((((w.alloc (.cells #[.int .i64 ge, .int .u8 ph, .slice vp vn vc] 43)).alloc (.cells #[.int .i64 now] 3)).alloc (.cells #[.int .i64 pat] 3)).alloc (.cells #[.int .i64 0, .int .u8 0, .slice none 0 0] 43)).alloc (.cells #[.int .i64 ge, .int .u8 ph, .slice vp vn vc] 43)) := by
    obtain ⟨k0, k1, k2, k3, k4, k5, k6⟩ := ext_box5 (w2 := ((((w.alloc (.cells #[.int .i64 ge, .int .u8 ph, .slice vp vn vc] 43)).alloc (.cells #[.int .i64 now] 3)).alloc (.cells #[.int .i64 pat] 3)).alloc (.cells #[.int .i64 0, .int .u8 0, .slice none 0 0] 43)).alloc (.cells #[.int .i64 ge, .int .u8 ph, .slice vp vn vc] 43)) rfl (Ext.refl _ _)
    intro b j v h
    rw [hm0] at h
    simp only at h
    split at h
    · rename_i q
      obtain ⟨rfl, rfl⟩ := q
      cases h
      exact ⟨by rw [cell_of_block k2]; rfl, rfl⟩
    · split at h
      · rename_i q
        obtain ⟨rfl, rfl⟩ := q
        cases h
        exact ⟨by rw [cell_of_block k3]; rfl, rfl⟩
      · exact (((((HM.out.alloc _).alloc _).alloc _).alloc _).alloc _) b j v h
  have M0 : Aside (mu.le m0 ∧ (∀ b j, b < w.heap.size → m0 b j = mu b j) ∧ (∀ b j, w.heap.size ≤ b → b ≠ w.heap.size + 1 → b ≠ w.heap.size + 1 + 1 → m0 b j = none) ∧ m0 (w.heap.size + 1) 0 = some (.int .i64 now) ∧ m0 (w.heap.size + 1 + 1) 0 = some (.int .i64 pat)) := ⟨hm0le, hm0lo, hm0hi, hm01, hm02⟩
  have M1 : Aside (MemOK m0 _) := hm0ok
  clear hm0 hn hm0le hm0lo hm0hi hm01 hm02 hm0ok
  by_cases h1 : z = 0
  · subst h1
    by_cases h2 : 1099511627776 ≤ ge
    · rw [if_pos (.inr (.inl h2))]
      go_enter Try.func33, Try.ntmps33
      go_wp2_with (first
        | (go_at_call 58
           refine (clone_sh M1.out (HV.out.mono M0.out.1) hl).mono ?_
           rintro e w2 ⟨p2, c2, m2, rfl, hx, hgr, hrep⟩
           obtain ⟨k0, k1, k2, k3, k4, k5, k6⟩ := ext_box5 rfl hx
           have hB : Bx5 w w2 (.int .i64 ge) (.int .u8 ph) (.slice vp vn vc) (.slice vp vn vc) := ⟨k0, k1, k4, k5, k6⟩
           obtain ⟨⟨a0, a1, a2⟩, ⟨b0, b1, b2⟩, ⟨f0, f1, f2⟩, ⟨g0, g1, g2⟩, g3⟩ := hB.cells
           have hlow : ∀ b j, b < w.heap.size + 5 → m2 b j = m0 b j := fun b j hb => hgr.low b j (by simp; omega)
           have HB : Aside (Bx5 w w2 (.int .i64 ge) (.int .u8 ph) (.slice vp vn vc) (.slice vp vn vc)) := hB
           have HG : Aside (m0.le m2 ∧ MemOK m2 w2 ∧ (∀ b j, b < w.heap.size + 5 → m2 b j = m0 b j) ∧ Rep m2 (.sl 3 (ML l)) (.slice p2 l.length c2)) := ⟨hgr.le, hgr.ok, hlow, hrep⟩
           clear k0 k1 k2 k3 k4 k5 k6 hB hx hgr hrep hlow
           simp only [])
        | (go_at_call 34
           have hB3 : Bx5 w (w2.setCell ⟨w.heap.size + 1 + 1 + 1 + 1, 2, none⟩ (.slice p2 l.length c2)) (.int .i64 ge) (.int .u8 ph) (.slice vp vn vc) (.slice p2 l.length c2) :=
             ⟨ext_set HB.out.ext (by omega) _ _, (blk_other (by omega) _).trans HB.out.b0, (blk_other (by omega) _).trans HB.out.b3, blk_same HB.out.b4 _, by have := HB.out.sz; simpa [World.setCell] using this⟩
           have hm3 : MemOK m2 (w2.setCell ⟨w.heap.size + 1 + 1 + 1 + 1, 2, none⟩ (.slice p2 l.length c2)) := fun b' j' v' hv' => by
             obtain ⟨t1, t2⟩ := HG.out.2.1 b' j' v' hv'
             have hne : b' ≠ w.heap.size + 1 + 1 + 1 + 1 := fun q => by
               subst q
               rw [HG.out.2.2.1 _ _ (by omega), M0.out.2.2.1 _ _ (by omega) (by omega) (by omega)] at hv'
               cases hv'
             exact ⟨by rw [← t1]; exact World.cell?_of_block (blk_other hne _), t2⟩
           refine (HCHK.out m2 _ (Mem.le_trans M0.out.1 HG.out.1) hm3).mono ?_
           rintro e w4 ⟨rfl, hx, hm4⟩
           have hB4 := hB3.step hx
           obtain ⟨⟨a0', a1', a2'⟩, ⟨b0', b1', b2'⟩, ⟨f0', f1', f2'⟩, ⟨g0', g1', g2'⟩, g3'⟩ := hB4.cells
           have n0 : w4.cell? ⟨w.heap.size + 1, 0, none⟩ = some (.int .i64 now) := (hm4 _ _ _ (by rw [HG.out.2.2.1 _ _ (by omega)]; exact M0.out.2.2.2.1)).1
           have HB4 : Aside (Bx5 w w4 (.int .i64 ge) (.int .u8 ph) (.slice vp vn vc) (.slice p2 l.length c2)) := hB4
           have HM4 : Aside (MemOK m2 w4) := hm4
           clear hB3 hm3 hx hm4 hB4 a0 a1 a2 b0 b1 b2 f0 f1 f2 g0 g1 g2 g3
           simp only [])
        | go_in)
      have G1 := blk_same (j := 2) (blk_same (j := 1) (blk_same (j := 0) HB4.out.b3 (.int .i64 ge)) (.int .u8 ph)) (.slice p2 l.length c2)
      refine bodyPost_ret (results_cell_row rfl _ _ (w.heap.size + 1 + 1 + 1) _ _ _ _ rfl G1 (show Try.prog.underlying 43 = some (Try.prog.underlying 43).get! by kernel_rfl) (by kernel_rfl) (by kernel_rfl)) rfl ?_
      exact ret_grp1 (g := ⟨ge, ph, l⟩) (Mem.le_trans M0.out.1 HG.out.1) HM4.out (fun b j hb => (HG.out.2.2.1 b j (by omega)).trans (M0.out.2.1 b j hb)) (fun j => (HG.out.2.2.1 _ _ (by omega)).trans (M0.out.2.2.1 _ _ (by omega) (by omega) (by omega))) HB4.out.ext (fun k hk => (blk_other hk _).trans ((blk_other hk _).trans (blk_other hk _))) rfl rfl rfl (by simp [World.setCell]) HG.out.2.2.2
    · by_cases h3 : now < 0
      · rw [if_pos (.inr (.inr h3))]
        go_enter Try.func33, Try.ntmps33
        go_wp2_with (first
          | (go_at_call 58
             refine (clone_sh M1.out (HV.out.mono M0.out.1) hl).mono ?_
             rintro e w2 ⟨p2, c2, m2, rfl, hx, hgr, hrep⟩
             obtain ⟨k0, k1, k2, k3, k4, k5, k6⟩ := ext_box5 rfl hx
             have hB : Bx5 w w2 (.int .i64 ge) (.int .u8 ph) (.slice vp vn vc) (.slice vp vn vc) := ⟨k0, k1, k4, k5, k6⟩
             obtain ⟨⟨a0, a1, a2⟩, ⟨b0, b1, b2⟩, ⟨f0, f1, f2⟩, ⟨g0, g1, g2⟩, g3⟩ := hB.cells
             have hlow : ∀ b j, b < w.heap.size + 5 → m2 b j = m0 b j := fun b j hb => hgr.low b j (by simp; omega)
             have HB : Aside (Bx5 w w2 (.int .i64 ge) (.int .u8 ph) (.slice vp vn vc) (.slice vp vn vc)) := hB
             have HG : Aside (m0.le m2 ∧ MemOK m2 w2 ∧ (∀ b j, b < w.heap.size + 5 → m2 b j = m0 b j) ∧ Rep m2 (.sl 3 (ML l)) (.slice p2 l.length c2)) := ⟨hgr.le, hgr.ok, hlow, hrep⟩
             clear k0 k1 k2 k3 k4 k5 k6 hB hx hgr hrep hlow
             simp only [])
          | (go_at_call 34
             have hB3 : Bx5 w (w2.setCell ⟨w.heap.size + 1 + 1 + 1 + 1, 2, none⟩ (.slice p2 l.length c2)) (.int .i64 ge) (.int .u8 ph) (.slice vp vn vc) (.slice p2 l.length c2) :=
               ⟨ext_set HB.out.ext (by omega) _ _, (blk_other (by omega) _).trans HB.out.b0, (blk_other (by omega) _).trans HB.out.b3, blk_same HB.out.b4 _, by have := HB.out.sz; simpa [World.setCell] using this⟩
             have hm3 : MemOK m2 (w2.setCell ⟨w.heap.size + 1 + 1 + 1 + 1, 2, none⟩ (.slice p2 l.length c2)) := fun b' j' v' hv' => by
               obtain ⟨t1, t2⟩ := HG.out.2.1 b' j' v' hv'
               have hne : b' ≠ w.heap.size + 1 + 1 + 1 + 1 := fun q => by
                 subst q
                 rw [HG.out.2.2.1 _ _ (by omega), M0.out.2.2.1 _ _ (by omega) (by omega) (by omega)] at hv'
                 cases hv'
               exact ⟨by rw [← t1]; exact World.cell?_of_block (blk_other hne _), t2⟩
             refine (HCHK.out m2 _ (Mem.le_trans M0.out.1 HG.out.1) hm3).mono ?_
             rintro e w4 ⟨rfl, hx, hm4⟩
             have hB4 := hB3.step hx
             obtain ⟨⟨a0', a1', a2'⟩, ⟨b0', b1', b2'⟩, ⟨f0', f1', f2'⟩, ⟨g0', g1', g2'⟩, g3'⟩ := hB4.cells
             have n0 : w4.cell? ⟨w.heap.size + 1, 0, none⟩ = some (.int .i64 now) := (hm4 _ _ _ (by rw [HG.out.2.2.1 _ _ (by omega)]; exact M0.out.2.2.2.1)).1
             have HB4 : Aside (Bx5 w w4 (.int .i64 ge) (.int .u8 ph) (.slice vp vn vc) (.slice p2 l.length c2)) := hB4
             have HM4 : Aside (MemOK m2 w4) := hm4
             clear hB3 hm3 hx hm4 hB4 a0 a1 a2 b0 b1 b2 f0 f1 f2 g0 g1 g2 g3
             simp only [])
          | go_in)
        have G1 := blk_same (j := 2) (blk_same (j := 1) (blk_same (j := 0) HB4.out.b3 (.int .i64 ge)) (.int .u8 ph)) (.slice p2 l.length c2)
        refine bodyPost_ret (results_cell_row rfl _ _ (w.heap.size + 1 + 1 + 1) _ _ _ _ rfl G1 (show Try.prog.underlying 43 = some (Try.prog.underlying 43).get! by kernel_rfl) (by kernel_rfl) (by kernel_rfl)) rfl ?_
        exact ret_grp1 (g := ⟨ge, ph, l⟩) (Mem.le_trans M0.out.1 HG.out.1) HM4.out (fun b j hb => (HG.out.2.2.1 b j (by omega)).trans (M0.out.2.1 b j hb)) (fun j => (HG.out.2.2.1 _ _ (by omega)).trans (M0.out.2.2.1 _ _ (by omega) (by omega) (by omega))) HB4.out.ext (fun k hk => (blk_other hk _).trans ((blk_other hk _).trans (blk_other hk _))) rfl rfl rfl (by simp [World.setCell]) HG.out.2.2.2
      · rw [if_neg (by rintro (q | q | q) <;> first | exact q rfl | exact h2 q | exact h3 q)]
        have HDEL : Aside _ := del_pure 64 [intC now, intC pat] (lateM now pat) ok64 (fun m => clo64 now pat m) l hl
        have hF : (l.filter fun m => !lateM now pat m).length ≤ 1000 := Nat.le_trans (List.length_filter_le _ _) hl
        obtain ⟨rvn, hvn⟩ : ∃ p c, (Value.slice vp vn vc) = .slice p l.length c := by have := rep_sliceL HV.out; rwa [ML_length] at this
        obtain ⟨_, hvn⟩ := hvn
        obtain rfl : vn = l.length := by cases hvn; rfl
        clear hvn
        generalize (l.filter fun m => !lateM now pat m) = F at HDEL hF ⊢
        by_cases h4 : F.length = l.length
        · rw [if_pos h4]
          have h4b : ((F.length : Int) == (l.length : Int)) = true := by rw [h4]; simp
          go_enter Try.func33, Try.ntmps33
          go_wp2_with (first
            | (go_at_call 58
               refine (clone_sh M1.out (HV.out.mono M0.out.1) hl).mono ?_
               rintro e w2 ⟨p2, c2, m2, rfl, hx, hgr, hrep⟩
               obtain ⟨k0, k1, k2, k3, k4, k5, k6⟩ := ext_box5 rfl hx
               have hB : Bx5 w w2 (.int .i64 ge) (.int .u8 ph) (.slice vp l.length vc) (.slice vp l.length vc) := ⟨k0, k1, k4, k5, k6⟩
               obtain ⟨⟨a0, a1, a2⟩, ⟨b0, b1, b2⟩, ⟨f0, f1, f2⟩, ⟨g0, g1, g2⟩, g3⟩ := hB.cells
               have hlow : ∀ b j, b < w.heap.size + 5 → m2 b j = m0 b j := fun b j hb => hgr.low b j (by simp; omega)
               have HB : Aside (Bx5 w w2 (.int .i64 ge) (.int .u8 ph) (.slice vp l.length vc) (.slice vp l.length vc)) := hB
               have HG : Aside (m0.le m2 ∧ MemOK m2 w2 ∧ (∀ b j, b < w.heap.size + 5 → m2 b j = m0 b j) ∧ Rep m2 (.sl 3 (ML l)) (.slice p2 l.length c2)) := ⟨hgr.le, hgr.ok, hlow, hrep⟩
               clear k0 k1 k2 k3 k4 k5 k6 hB hx hgr hrep hlow
               simp only [])
            | (go_at_call 34
               have hB3 : Bx5 w (w2.setCell ⟨w.heap.size + 1 + 1 + 1 + 1, 2, none⟩ (.slice p2 l.length c2)) (.int .i64 ge) (.int .u8 ph) (.slice vp l.length vc) (.slice p2 l.length c2) :=
                 ⟨ext_set HB.out.ext (by omega) _ _, (blk_other (by omega) _).trans HB.out.b0, (blk_other (by omega) _).trans HB.out.b3, blk_same HB.out.b4 _, by have := HB.out.sz; simpa [World.setCell] using this⟩
               have hm3 : MemOK m2 (w2.setCell ⟨w.heap.size + 1 + 1 + 1 + 1, 2, none⟩ (.slice p2 l.length c2)) := fun b' j' v' hv' => by
                 obtain ⟨t1, t2⟩ := HG.out.2.1 b' j' v' hv'
                 have hne : b' ≠ w.heap.size + 1 + 1 + 1 + 1 := fun q => by
                   subst q
                   rw [HG.out.2.2.1 _ _ (by omega), M0.out.2.2.1 _ _ (by omega) (by omega) (by omega)] at hv'
                   cases hv'
                 exact ⟨by rw [← t1]; exact World.cell?_of_block (blk_other hne _), t2⟩
               refine (HCHK.out m2 _ (Mem.le_trans M0.out.1 HG.out.1) hm3).mono ?_
               rintro e w4 ⟨rfl, hx, hm4⟩
               have hB4 := hB3.step hx
               obtain ⟨⟨a0', a1', a2'⟩, ⟨b0', b1', b2'⟩, ⟨f0', f1', f2'⟩, ⟨g0', g1', g2'⟩, g3'⟩ := hB4.cells
               have n0 : w4.cell? ⟨w.heap.size + 1, 0, none⟩ = some (.int .i64 now) := (hm4 _ _ _ (by rw [HG.out.2.2.1 _ _ (by omega)]; exact M0.out.2.2.2.1)).1
               have HB4 : Aside (Bx5 w w4 (.int .i64 ge) (.int .u8 ph) (.slice vp l.length vc) (.slice p2 l.length c2)) := hB4
               have HM4 : Aside (MemOK m2 w4) := hm4
               clear hB3 hm3 hx hm4 hB4 a0 a1 a2 b0 b1 b2 f0 f1 f2 g0 g1 g2 g3
               simp only [])
            | (go_at_call 58
               refine (clone_arr (W := w4) HM4.out (HV.out.mono (Mem.le_trans M0.out.1 HG.out.1)) hl).mono ?_
               rintro e w5 ⟨val5, m5, ob, rfl, hx, hgr, harr, hob⟩
               have hs4 : w.heap.size + 5 ≤ w4.heap.size := HB4.out.sz
               have hB := HB4.out.step hx
               have HB5 : Aside (Bx5 w w5 (.int .i64 ge) (.int .u8 ph) (.slice vp l.length vc) (.slice p2 l.length c2)) := hB
               have HG5 : Aside (Gr w4.heap.size m2 m5 w5 ∧ ArrV m5 w5 3 (ML l) val5 ob ∧ (∀ b, ob = some b → w4.heap.size ≤ b) ∧ w4.heap.size ≤ w5.heap.size) := ⟨hgr, harr, hob, hx.size⟩
               clear hB hx hgr harr hob
               simp only [])
            | (go_at_call 63
               have hs5 : w.heap.size + 5 ≤ w4.heap.size := HB4.out.sz
               have hclo : Rep m5 (.fn 64 [] [intC now, intC pat]) (.func (.func 64) #[] #[.pointer (some ⟨w.heap.size + 1, 0, none⟩), .pointer (some ⟨w.heap.size + 1 + 1, 0, none⟩)]) :=
                 clo_rep (by rw [HG5.out.1.low _ _ (by omega), HG.out.2.2.1 _ _ (by omega)]; exact M0.out.2.2.2.1) (by rw [HG5.out.1.low _ _ (by omega), HG.out.2.2.1 _ _ (by omega)]; exact M0.out.2.2.2.2)
               refine (own_step HDEL.out (W := w5) HG5.out.1.ok HG5.out.2.1 (repArgs1 hclo) (B := w4.heap.size) HG5.out.2.2.1 HG5.out.2.2.2).mono ?_
               rintro e w6 ⟨val6, m6, rfl, g1, g2, g3, g4, g5, hgr, hrep⟩
               obtain ⟨p6, c6, rfl⟩ := rep_sliceL hrep
               rw [ML_length] at hrep ⊢
               have hB : Bx5 w w6 (.int .i64 ge) (.int .u8 ph) (.slice vp l.length vc) (.slice p2 l.length c2) := HB5.out.step2 (fun j hj => g1 j (by omega)) g2 g3 g4 g5
               obtain ⟨⟨a0, a1, a2⟩, ⟨b0, b1, b2⟩, ⟨f0, f1, f2⟩, ⟨g0, gg1, gg2⟩, gg3⟩ := hB.cells
               have HB6 : Aside (Bx5 w w6 (.int .i64 ge) (.int .u8 ph) (.slice vp l.length vc) (.slice p2 l.length c2)) := hB
               have HG6 : Aside (Gr w4.heap.size m2 m6 w6 ∧ Rep m6 (.sl 3 (ML F)) (.slice p6 F.length c6) ∧ w4.heap.size ≤ w6.heap.size) :=
                 ⟨⟨Mem.le_trans HG5.out.1.le hgr.le, hgr.ok, fun b j hb => (hgr.low b j hb).trans (HG5.out.1.low b j hb)⟩, hrep, Nat.le_trans HG5.out.2.2.2 g5⟩
               clear hB g1 g2 g3 g4 g5 hgr hrep hclo a0' a1' a2' b0' b1' b2' f0' f1' f2' g0' g1' g2' g3' n0
               simp only [])
            | go_in)
          have G1 := blk_same (j := 2) (blk_same (j := 1) (blk_same (j := 0) HB6.out.b3 (.int .i64 ge)) (.int .u8 ph)) (.slice p2 l.length c2)
          refine bodyPost_ret (results_cell_row rfl _ _ (w.heap.size + 1 + 1 + 1) _ _ _ _ rfl G1 (show Try.prog.underlying 43 = some (Try.prog.underlying 43).get! by kernel_rfl) (by kernel_rfl) (by kernel_rfl)) rfl ?_
          exact ret_grp1 (g := ⟨ge, ph, l⟩) (Mem.le_trans (Mem.le_trans M0.out.1 HG.out.1) HG6.out.1.le) HG6.out.1.ok (fun b j hb => (HG6.out.1.low b j (by have := HB4.out.sz; omega)).trans ((HG.out.2.2.1 b j (by omega)).trans (M0.out.2.1 b j hb))) (fun j => (HG6.out.1.low _ j (by have := HB4.out.sz; omega)).trans ((HG.out.2.2.1 _ _ (by omega)).trans (M0.out.2.2.1 _ _ (by omega) (by omega) (by omega)))) HB6.out.ext (fun k hk => (blk_other hk _).trans ((blk_other hk _).trans (blk_other hk _))) rfl rfl rfl (by simp [World.setCell]) (HG.out.2.2.2.mono HG6.out.1.le)
        · rw [if_neg h4]
          have h4b : ((F.length : Int) == (l.length : Int)) = false := by simp; omega
          have h4c : ¬ (F.length : Int) = (l.length : Int) := by omega
          go_enter Try.func33, Try.ntmps33
          go_wp2_with (first
            | (go_at_call 58
               refine (clone_sh M1.out (HV.out.mono M0.out.1) hl).mono ?_
               rintro e w2 ⟨p2, c2, m2, rfl, hx, hgr, hrep⟩
               obtain ⟨k0, k1, k2, k3, k4, k5, k6⟩ := ext_box5 rfl hx
               have hB : Bx5 w w2 (.int .i64 ge) (.int .u8 ph) (.slice vp l.length vc) (.slice vp l.length vc) := ⟨k0, k1, k4, k5, k6⟩
               obtain ⟨⟨a0, a1, a2⟩, ⟨b0, b1, b2⟩, ⟨f0, f1, f2⟩, ⟨g0, g1, g2⟩, g3⟩ := hB.cells
               have hlow : ∀ b j, b < w.heap.size + 5 → m2 b j = m0 b j := fun b j hb => hgr.low b j (by simp; omega)
               have HB : Aside (Bx5 w w2 (.int .i64 ge) (.int .u8 ph) (.slice vp l.length vc) (.slice vp l.length vc)) := hB
               have HG : Aside (m0.le m2 ∧ MemOK m2 w2 ∧ (∀ b j, b < w.heap.size + 5 → m2 b j = m0 b j) ∧ Rep m2 (.sl 3 (ML l)) (.slice p2 l.length c2)) := ⟨hgr.le, hgr.ok, hlow, hrep⟩
               clear k0 k1 k2 k3 k4 k5 k6 hB hx hgr hrep hlow
               simp only [])
            | (go_at_call 34
               have hB3 : Bx5 w (w2.setCell ⟨w.heap.size + 1 + 1 + 1 + 1, 2, none⟩ (.slice p2 l.length c2)) (.int .i64 ge) (.int .u8 ph) (.slice vp l.length vc) (.slice p2 l.length c2) :=
                 ⟨ext_set HB.out.ext (by omega) _ _, (blk_other (by omega) _).trans HB.out.b0, (blk_other (by omega) _).trans HB.out.b3, blk_same HB.out.b4 _, by have := HB.out.sz; simpa [World.setCell] using this⟩
               have hm3 : MemOK m2 (w2.setCell ⟨w.heap.size + 1 + 1 + 1 + 1, 2, none⟩ (.slice p2 l.length c2)) := fun b' j' v' hv' => by
                 obtain ⟨t1, t2⟩ := HG.out.2.1 b' j' v' hv'
                 have hne : b' ≠ w.heap.size + 1 + 1 + 1 + 1 := fun q => by
                   subst q
                   rw [HG.out.2.2.1 _ _ (by omega), M0.out.2.2.1 _ _ (by omega) (by omega) (by omega)] at hv'
                   cases hv'
                 exact ⟨by rw [← t1]; exact World.cell?_of_block (blk_other hne _), t2⟩
               refine (HCHK.out m2 _ (Mem.le_trans M0.out.1 HG.out.1) hm3).mono ?_
               rintro e w4 ⟨rfl, hx, hm4⟩
               have hB4 := hB3.step hx
               obtain ⟨⟨a0', a1', a2'⟩, ⟨b0', b1', b2'⟩, ⟨f0', f1', f2'⟩, ⟨g0', g1', g2'⟩, g3'⟩ := hB4.cells
               have n0 : w4.cell? ⟨w.heap.size + 1, 0, none⟩ = some (.int .i64 now) := (hm4 _ _ _ (by rw [HG.out.2.2.1 _ _ (by omega)]; exact M0.out.2.2.2.1)).1
               have HB4 : Aside (Bx5 w w4 (.int .i64 ge) (.int .u8 ph) (.slice vp l.length vc) (.slice p2 l.length c2)) := hB4
               have HM4 : Aside (MemOK m2 w4) := hm4
               clear hB3 hm3 hx hm4 hB4 a0 a1 a2 b0 b1 b2 f0 f1 f2 g0 g1 g2 g3
               simp only [])
            | (go_at_call 58
               refine (clone_arr (W := w4) HM4.out (HV.out.mono (Mem.le_trans M0.out.1 HG.out.1)) hl).mono ?_
               rintro e w5 ⟨val5, m5, ob, rfl, hx, hgr, harr, hob⟩
               have hs4 : w.heap.size + 5 ≤ w4.heap.size := HB4.out.sz
               have hB := HB4.out.step hx
               have HB5 : Aside (Bx5 w w5 (.int .i64 ge) (.int .u8 ph) (.slice vp l.length vc) (.slice p2 l.length c2)) := hB
               have HG5 : Aside (Gr w4.heap.size m2 m5 w5 ∧ ArrV m5 w5 3 (ML l) val5 ob ∧ (∀ b, ob = some b → w4.heap.size ≤ b) ∧ w4.heap.size ≤ w5.heap.size) := ⟨hgr, harr, hob, hx.size⟩
               clear hB hx hgr harr hob
               simp only [])
            | (go_at_call 63
               have hs5 : w.heap.size + 5 ≤ w4.heap.size := HB4.out.sz
               have hclo : Rep m5 (.fn 64 [] [intC now, intC pat]) (.func (.func 64) #[] #[.pointer (some ⟨w.heap.size + 1, 0, none⟩), .pointer (some ⟨w.heap.size + 1 + 1, 0, none⟩)]) :=
                 clo_rep (by rw [HG5.out.1.low _ _ (by omega), HG.out.2.2.1 _ _ (by omega)]; exact M0.out.2.2.2.1) (by rw [HG5.out.1.low _ _ (by omega), HG.out.2.2.1 _ _ (by omega)]; exact M0.out.2.2.2.2)
               refine (own_step HDEL.out (W := w5) HG5.out.1.ok HG5.out.2.1 (repArgs1 hclo) (B := w4.heap.size) HG5.out.2.2.1 HG5.out.2.2.2).mono ?_
               rintro e w6 ⟨val6, m6, rfl, g1, g2, g3, g4, g5, hgr, hrep⟩
               obtain ⟨p6, c6, rfl⟩ := rep_sliceL hrep
               rw [ML_length] at hrep ⊢
               have hB : Bx5 w w6 (.int .i64 ge) (.int .u8 ph) (.slice vp l.length vc) (.slice p2 l.length c2) := HB5.out.step2 (fun j hj => g1 j (by omega)) g2 g3 g4 g5
               obtain ⟨⟨a0, a1, a2⟩, ⟨b0, b1, b2⟩, ⟨f0, f1, f2⟩, ⟨g0, gg1, gg2⟩, gg3⟩ := hB.cells
               have HB6 : Aside (Bx5 w w6 (.int .i64 ge) (.int .u8 ph) (.slice vp l.length vc) (.slice p2 l.length c2)) := hB
               have HG6 : Aside (Gr w4.heap.size m2 m6 w6 ∧ Rep m6 (.sl 3 (ML F)) (.slice p6 F.length c6) ∧ w4.heap.size ≤ w6.heap.size) :=
                 ⟨⟨Mem.le_trans HG5.out.1.le hgr.le, hgr.ok, fun b j hb => (hgr.low b j hb).trans (HG5.out.1.low b j hb)⟩, hrep, Nat.le_trans HG5.out.2.2.2 g5⟩
               clear hB g1 g2 g3 g4 g5 hgr hrep hclo a0' a1' a2' b0' b1' b2' f0' f1' f2' g0' g1' g2' g3' n0
               simp only [])
            | (go_at_call 56
               refine (turn_step (g := ⟨ge, ph, l⟩) (l := F) hF (W := w6) HG6.out.1.ok (HV.out.mono (Mem.le_trans (Mem.le_trans M0.out.1 HG.out.1) HG6.out.1.le)) HG6.out.2.1).mono ?_
               rintro e w7 ⟨v7, m7, rfl, hx, hgr, hrep⟩
               obtain ⟨p7, n7, c7, rfl⟩ := rep_slice hrep
               have hB := HB6.out.step hx
               obtain ⟨⟨y0, y1, y2⟩, ⟨z0, z1, z2⟩, ⟨u0, u1, u2⟩, _⟩ := hB.cells
               have HB7 : Aside (Bx5 w w7 (.int .i64 ge) (.int .u8 ph) (.slice vp l.length vc) (.slice p2 l.length c2)) := hB
               have HG7 : Aside (m2.le m7 ∧ MemOK m7 w7 ∧ (∀ b j, b < w4.heap.size → m7 b j = m2 b j) ∧ Rep m7 (.sl 3 (ML (offM F))) (.slice p7 n7 c7)) :=
                 ⟨Mem.le_trans HG6.out.1.le hgr.le, hgr.ok, fun b j hb => (hgr.low b j (by have := HG6.out.2.2; omega)).trans (HG6.out.1.low b j hb), hrep⟩
               clear hB hx hgr hrep a0 a1 a2 b0 b1 b2 f0 f1 f2 g0 gg1 gg2 gg3
               simp only [])
            | go_in)
          have hwr : IntKind.i64.wrap (ge + 1) = wrap64 (ge + 1) := by first | exact IntWalk.i64_left _ | exact Go.IntWalk.i64_left _ | exact i64_left _ | exact PlainAid.i64_is _
          rw [hwr]
          have G1 := blk_same (j := 2) (blk_same (j := 1) (blk_same (j := 0) HB7.out.b3 (.int .i64 (wrap64 (ge + 1)))) (.int .u8 (phaseP (offM F)))) (.slice p7 n7 c7)
          refine bodyPost_ret (results_cell_row rfl _ _ (w.heap.size + 1 + 1 + 1) _ _ _ _ rfl G1 (show Try.prog.underlying 43 = some (Try.prog.underlying 43).get! by kernel_rfl) (by kernel_rfl) (by kernel_rfl)) rfl ?_
          exact ret_grp1 (g := ⟨(wrap64 (ge + 1)), (phaseP (offM F)), offM F⟩) (Mem.le_trans (Mem.le_trans M0.out.1 HG.out.1) HG7.out.1) HG7.out.2.1 (fun b j hb => (HG7.out.2.2.1 b j (by have := HB4.out.sz; omega)).trans ((HG.out.2.2.1 b j (by omega)).trans (M0.out.2.1 b j hb))) (fun j => (HG7.out.2.2.1 _ j (by have := HB4.out.sz; omega)).trans ((HG.out.2.2.1 _ _ (by omega)).trans (M0.out.2.2.1 _ _ (by omega) (by omega) (by omega)))) HB7.out.ext (fun k hk => (blk_other hk _).trans ((blk_other hk _).trans (blk_other hk _))) rfl rfl rfl (by simp [World.setCell]) HG7.out.2.2.2
  · rw [if_pos (.inl h1)]
    have h1b : (z == 0) = false := by simpa using h1
    have h1c : (z != 0) = true := by simpa using h1
    go_enter Try.func33, Try.ntmps33
    go_wp2_with (first
      | (go_at_call 58
         refine (clone_sh M1.out (HV.out.mono M0.out.1) hl).mono ?_
         rintro e w2 ⟨p2, c2, m2, rfl, hx, hgr, hrep⟩
         obtain ⟨k0, k1, k2, k3, k4, k5, k6⟩ := ext_box5 rfl hx
         have hB : Bx5 w w2 (.int .i64 ge) (.int .u8 ph) (.slice vp vn vc) (.slice vp vn vc) := ⟨k0, k1, k4, k5, k6⟩
         obtain ⟨⟨a0, a1, a2⟩, ⟨b0, b1, b2⟩, ⟨f0, f1, f2⟩, ⟨g0, g1, g2⟩, g3⟩ := hB.cells
         have hlow : ∀ b j, b < w.heap.size + 5 → m2 b j = m0 b j := fun b j hb => hgr.low b j (by simp; omega)
         have HB : Aside (Bx5 w w2 (.int .i64 ge) (.int .u8 ph) (.slice vp vn vc) (.slice vp vn vc)) := hB
         have HG : Aside (m0.le m2 ∧ MemOK m2 w2 ∧ (∀ b j, b < w.heap.size + 5 → m2 b j = m0 b j) ∧ Rep m2 (.sl 3 (ML l)) (.slice p2 l.length c2)) := ⟨hgr.le, hgr.ok, hlow, hrep⟩
         clear k0 k1 k2 k3 k4 k5 k6 hB hx hgr hrep hlow
         simp only [])
      | (go_at_call 34
         have hB3 : Bx5 w (w2.setCell ⟨w.heap.size + 1 + 1 + 1 + 1, 2, none⟩ (.slice p2 l.length c2)) (.int .i64 ge) (.int .u8 ph) (.slice vp vn vc) (.slice p2 l.length c2) :=
           ⟨ext_set HB.out.ext (by omega) _ _, (blk_other (by omega) _).trans HB.out.b0, (blk_other (by omega) _).trans HB.out.b3, blk_same HB.out.b4 _, by have := HB.out.sz; simpa [World.setCell] using this⟩
         have hm3 : MemOK m2 (w2.setCell ⟨w.heap.size + 1 + 1 + 1 + 1, 2, none⟩ (.slice p2 l.length c2)) := fun b' j' v' hv' => by
           obtain ⟨t1, t2⟩ := HG.out.2.1 b' j' v' hv'
           have hne : b' ≠ w.heap.size + 1 + 1 + 1 + 1 := fun q => by
             subst q
             rw [HG.out.2.2.1 _ _ (by omega), M0.out.2.2.1 _ _ (by omega) (by omega) (by omega)] at hv'
             cases hv'
           exact ⟨by rw [← t1]; exact World.cell?_of_block (blk_other hne _), t2⟩
         refine (HCHK.out m2 _ (Mem.le_trans M0.out.1 HG.out.1) hm3).mono ?_
         rintro e w4 ⟨rfl, hx, hm4⟩
         have hB4 := hB3.step hx
         obtain ⟨⟨a0', a1', a2'⟩, ⟨b0', b1', b2'⟩, ⟨f0', f1', f2'⟩, ⟨g0', g1', g2'⟩, g3'⟩ := hB4.cells
         have n0 : w4.cell? ⟨w.heap.size + 1, 0, none⟩ = some (.int .i64 now) := (hm4 _ _ _ (by rw [HG.out.2.2.1 _ _ (by omega)]; exact M0.out.2.2.2.1)).1
         have HB4 : Aside (Bx5 w w4 (.int .i64 ge) (.int .u8 ph) (.slice vp vn vc) (.slice p2 l.length c2)) := hB4
         have HM4 : Aside (MemOK m2 w4) := hm4
         clear hB3 hm3 hx hm4 hB4 a0 a1 a2 b0 b1 b2 f0 f1 f2 g0 g1 g2 g3
         simp only [])
      | go_in)
    have G1 := blk_same (j := 2) (blk_same (j := 1) (blk_same (j := 0) HB4.out.b3 (.int .i64 ge)) (.int .u8 ph)) (.slice p2 l.length c2)
    refine bodyPost_ret (results_cell_row rfl _ _ (w.heap.size + 1 + 1 + 1) _ _ _ _ rfl G1 (show Try.prog.underlying 43 = some (Try.prog.underlying 43).get! by kernel_rfl) (by kernel_rfl) (by kernel_rfl)) rfl ?_
    exact ret_grp1 (g := ⟨ge, ph, l⟩) (Mem.le_trans M0.out.1 HG.out.1) HM4.out (fun b j hb => (HG.out.2.2.1 b j (by omega)).trans (M0.out.2.1 b j hb)) (fun j => (HG.out.2.2.1 _ _ (by omega)).trans (M0.out.2.2.1 _ _ (by omega) (by omega) (by omega))) HB4.out.ext (fun k hk => (blk_other hk _).trans ((blk_other hk _).trans (blk_other hk _))) rfl rfl rfl (by simp [World.setCell]) HG.out.2.2.2
end Go.Proofs.Ytmfkliabjfngmaa

/- Group: Find, Beat; the document's Beat. -/

set_option linter.unusedSimpArgs false
set_option linter.unusedVariables false
set_option maxHeartbeats 4000000
namespace Go.Proofs.Ytmfkliabjfngmaa

open Go.Av

def findG (g : Grp) (id : ByteArray) : Mb × Bool := if placeP id g.ms < 0 then (mb0, false) else (g.ms.getD (placeP id g.ms).toNat mb0, true)
theorem find_pure (g : Grp) (id : ByteArray) (hl : g.ms.length ≤ 1000) : Pure Try.prog 36 [g.sv, .str id] (.tup [.sv (findG g id).1.sv, .sv (.bool (findG g id).2)]) := by
  have e49 := RgG_49 g id
  have hR := RgG_ok
  have hnf := RgG_nofz
  generalize RgG = R at hR e49 hnf
  have hpr := place_range id g.ms
  refine pure_go hR Try.func36 Try.ntmps36 comp36 cres36 (by decide) (by simp) ?_
  have hl4 : g.ms.length < 4611686018427387904 := by omega
  generalize hv : findG g id = V
  unfold findG at hv
  obtain ⟨a, b, l⟩ := g
  simp only at *
  by_cases hp : placeP id l < 0
  · rw [if_pos hp] at hv
    subst hv
    simp [ac36, ar36, Grp.sv, Grp.cells, Mb.sv, Mb.cells, mb0, e49, hl4, hnf, hp]
  · rw [if_neg hp] at hv
    subst hv
    obtain ⟨i, hi⟩ : ∃ i : Nat, placeP id l = i := ⟨(placeP id l).toNat, by omega⟩
    rw [hi] at hpr hp e49 ⊢
    have h : i < l.length := by omega
    have hti : ((i : Nat) : Int).toNat = i := by omega
    have hg := ML_get l h
    have hiA : i < (ML l).length := by simpa using h
    have hg2 : (ML l)[i] = (l.getD i mb0).sv := by rw [← hg, List.getElem?_eq_getElem hiA]; rfl
    have h0 : ¬ (i : Int) < 0 := by omega
    simp only [hti]
    generalize l.getD i mb0 = r at *
    simp [ac36, ar36, Grp.sv, Grp.cells, Mb.sv, Mb.cells, e49, hl4, hnf, hp, hg, hg2, h, h0, hpr]
def eBeat (p : Grp × ByteArray × Int × Int × Nat) : List SV := [p.1.sv, .str p.2.1, .int .i64 p.2.2.1, .int .i64 p.2.2.2.1, .fn p.2.2.2.2 [] []]
theorem eBeat_inj (a b : Grp × ByteArray × Int × Int × Nat) (h : eBeat a = eBeat b) : a = b := by
  simp [eBeat] at h
  exact Prod.ext (Grp.sv_inj _ _ h.1) (Prod.ext h.2.1 (Prod.ext h.2.2.1 (Prod.ext h.2.2.2.1 h.2.2.2.2)))
noncomputable def RgHp (f : FuncId) (l : List SV) : Option (Prop × LV) :=
  match f with
  | 59 => row eBeat (fun p => ((p.2.2.2.2 = 53 ∨ p.2.2.2.2 = 60 ∨ p.2.2.2.2 = 61) ∧ p.1.ms.length ≤ 1000, .tup [.sv (beatG (seenF p.2.2.2.2) p.1 p.2.1 p.2.2.1 p.2.2.2.1).1.sv, .sv (.int .i64 (beatG (seenF p.2.2.2.2) p.1 p.2.1 p.2.2.1 p.2.2.2.1).2)])) l
  | _ => none
noncomputable def RgH : Orc := { p := RgHp, fv := fun f => f == 53 || f == 60 || f == 61 }
theorem RgH_ok : RgH.ok Try.prog := by
  refine ⟨fun f l c rv h hc => ?_, fun _ _ _ _ _ _ h => (by cases h), fun _ _ _ _ h => (by cases h), fun f h => ?_, fun _ _ _ _ _ _ h => (by cases h), fun _ _ _ _ _ _ _ h => (by cases h)⟩
  · change RgHp f l = _ at h
    unfold RgHp at h
    split at h
    · exact row_ok h hc (fun x hp => beat_pure x.2.2.2.2 hp.1 x.1 x.2.1 x.2.2.1 x.2.2.2.1 hp.2)
    · cases h
  · simp only [RgH, Bool.or_eq_true, beq_iff_eq] at h
    rcases h with (rfl | rfl) | rfl
    · exact ok53
    · exact ok60
    · exact ok61
theorem RgH_59 (g : Grp) (id : ByteArray) (gen now : Int) (F : Nat) : RgH.p 59 [.agg [.int .i64 g.ge, .int .u8 g.ph, .sl 3 (ML g.ms)], .str id, .int .i64 gen, .int .i64 now, .fn F [] []] = some ((F = 53 ∨ F = 60 ∨ F = 61) ∧ g.ms.length ≤ 1000, .tup [.sv (beatG (seenF F) g id gen now).1.sv, .sv (.int .i64 (beatG (seenF F) g id gen now).2)]) := row_eq eBeat_inj _ (g, id, gen, now, F)
theorem beat31 (g : Grp) (id : ByteArray) (gen now : Int) (hl : g.ms.length ≤ 1000) : Pure Try.prog 31 [g.sv, .str id, .int .i64 gen, .int .i64 now] (.tup [.sv (beatG false g id gen now).1.sv, .sv (.int .i64 (beatG false g id gen now).2)]) := by
  have e59 := RgH_59 g id gen now 61
  have hR := RgH_ok
  have hnf : RgH.nofz = false := rfl
  have hfv : RgH.fv 61 = true := rfl
  generalize RgH = R at hR e59 hnf hfv
  refine pure_go hR Try.func31 Try.ntmps31 comp31 cres31 (by decide) (by simp) ?_
  have hs : seenF 61 = false := rfl
  rw [hs] at e59
  generalize beatG false g id gen now = V at e59 ⊢
  obtain ⟨⟨a', b', l'⟩, n⟩ := V
  obtain ⟨a, b, l⟩ := g
  simp only at *
  simp [Grp.sv, Grp.cells] at e59
  simp [ac31, ar31, Grp.sv, Grp.cells, e59, hnf, hfv, hl]
end Go.Proofs.Ytmfkliabjfngmaa

/- Group: the document's Beat. -/

set_option linter.unusedSimpArgs false
set_option linter.unusedVariables false
set_option maxHeartbeats 4000000
namespace Go.Proofs.Ytmfkliabjfngmaa

open Go.Av

def rbeatG (g : Grp) (id : ByteArray) (gen now : Int) : Grp × Int :=
  if chkG g ≠ 0 then (g, 4) else if timeB now = false then (g, 11) else if placeP id g.ms < 0 then (g, 20) else if gen ≠ g.ge then (g, 19)
  else (⟨g.ge, g.ph, g.ms.set (placeP id g.ms).toNat ⟨(g.ms.getD (placeP id g.ms).toNat mb0).id, max (g.ms.getD (placeP id g.ms).toNat mb0).sn now, (g.ms.getD (placeP id g.ms).toNat mb0).sy⟩⟩, 0)
theorem chk_or (g : Grp) : chkG g = 0 ∨ chkG g = 4 := by
  unfold chkG
  split
  · exact .inr rfl
  · exact .inl rfl
theorem rbeat46 (g : Grp) (id : ByteArray) (gen now : Int) (hl : g.ms.length ≤ 1000) (hph : 0 ≤ g.ph) : Pure Try.prog 46 [g.sv, .str id, .int .i64 gen, .int .i64 now] (.tup [.sv (rbeatG g id gen now).1.sv, .sv (.int .i64 (rbeatG g id gen now).2)]) := by
  have e72 := RgG_72 g
  have e71 := RgG_71 g id
  have e74 := RgG_74 now
  have e75 := fun m => RgG_75 g (placeP id g.ms) m
  have hR := RgG_ok
  have hnf := RgG_nofz
  generalize RgG = R at hR e72 e71 e74 e75 hnf
  have hpr := place_range id g.ms
  refine pure_go hR Try.func46 Try.ntmps46 comp46 cres46 (by decide) (by simp) ?_
  have hl4 : g.ms.length < 4611686018427387904 := by omega
  generalize hv : rbeatG g id gen now = V
  unfold rbeatG at hv
  obtain ⟨a, b, l⟩ := g
  simp only at *
  rcases chk_or ⟨a, b, l⟩ with h1 | h1
  · rw [h1] at e72 hv
    rw [if_neg (by simp)] at hv
    cases ht : timeB now with
    | false =>
      rw [ht, if_pos rfl] at hv
      rw [ht] at e74
      subst hv
      simp [ac46, ar46, Grp.sv, Grp.cells, e72, e71, e74, hl4, hph, hnf]
    | true =>
      rw [ht, if_neg (by simp)] at hv
      rw [ht] at e74
      by_cases hp : placeP id l < 0
      · rw [if_pos hp] at hv
        subst hv
        simp [ac46, ar46, Grp.sv, Grp.cells, e72, e71, e74, hl4, hph, hnf, hp]
      · rw [if_neg hp] at hv
        obtain ⟨i, hi⟩ : ∃ i : Nat, placeP id l = i := ⟨(placeP id l).toNat, by omega⟩
        rw [hi] at hpr hp e71 e75 hv
        have h : i < l.length := by omega
        have hti : ((i : Nat) : Int).toNat = i := by omega
        rw [hti] at hv
        simp only [hti] at e75
        by_cases hg : gen = a
        · subst hg
          rw [if_neg (by simp)] at hv
          have hgl := ML_get l h
          have hiA : i < (ML l).length := by simpa using h
          have hg2 : (ML l)[i] = (l.getD i mb0).sv := by rw [← hgl, List.getElem?_eq_getElem hiA]; rfl
          have h0 : ¬ (i : Int) < 0 := by omega
          generalize l.getD i mb0 = r at *
          have e75m := e75 ⟨r.id, max r.sn now, r.sy⟩
          subst hv
          have hmx : (if r.sn < now then now else r.sn) = max r.sn now := by split <;> omega
          have hmx2 : (if r.sn ≤ now then now else r.sn) = max r.sn now := by split <;> omega
          have hmx3 : (if now > r.sn then now else r.sn) = max r.sn now := by split <;> omega
          simp [ac46, ar46, Grp.sv, Grp.cells, Mb.sv, Mb.cells, e72, e71, e74, e75m, hl4, hl, hph, hnf, hp, hgl, hg2, h, h0, hpr, hmx, hmx2, hmx3]
        · have hg2 : (gen == a) = false := by simpa using hg
          rw [if_pos hg] at hv
          subst hv
          simp [ac46, ar46, Grp.sv, Grp.cells, e72, e71, e74, hl4, hph, hnf, hp, hg, hg2, bne]
  · rw [h1] at e72 hv
    rw [if_pos (by simp)] at hv
    subst hv
    simp [ac46, ar46, Grp.sv, Grp.cells, e72, e71, hl4, hph, hnf]
end Go.Proofs.Ytmfkliabjfngmaa

/- Group: the document's Leave. -/

set_option linter.unusedSimpArgs false
set_option linter.unusedVariables false
set_option maxHeartbeats 4000000
namespace Go.Proofs.Ytmfkliabjfngmaa

open Go.Av

def rleaveG (g : Grp) (id : ByteArray) : Grp × Int :=
  if chkG g ≠ 0 then (g, 4) else if placeP id g.ms < 0 then (g, 20) else if 1099511627776 ≤ g.ge then (g, 11)
  else (turnG g (g.ms.take (placeP id g.ms).toNat ++ g.ms.drop ((placeP id g.ms).toNat + 1)), 0)
theorem rleave47 (g : Grp) (id : ByteArray) (hl : g.ms.length ≤ 1000) (hph : 0 ≤ g.ph) : Pure Try.prog 47 [g.sv, .str id] (.tup [.sv (rleaveG g id).1.sv, .sv (.int .i64 (rleaveG g id).2)]) := by
  have e72 := RgG_72 g
  have e71 := RgG_71 g id
  have e76 := fun l => RgG_76 g l
  have hR := RgG_ok
  have hnf := RgG_nofz
  generalize RgG = R at hR e72 e71 e76 hnf
  have hpr := place_range id g.ms
  refine pure_go hR Try.func47 Try.ntmps47 comp47 cres47 (by decide) (by simp) ?_
  have hl4 : g.ms.length < 4611686018427387904 := by omega
  generalize hv : rleaveG g id = V
  unfold rleaveG at hv
  obtain ⟨a, b, l⟩ := g
  simp only at *
  rcases chk_or ⟨a, b, l⟩ with h1 | h1
  · rw [h1] at e72 hv
    rw [if_neg (by simp)] at hv
    by_cases hp : placeP id l < 0
    · rw [if_pos hp] at hv
      subst hv
      simp [ac47, ar47, Grp.sv, Grp.cells, e72, e71, hl4, hph, hnf, hp]
    · rw [if_neg hp] at hv
      by_cases hg : 1099511627776 ≤ a
      · rw [if_pos hg] at hv
        subst hv
        simp [ac47, ar47, Grp.sv, Grp.cells, e72, e71, hl4, hph, hnf, hp, hg]
      · rw [if_neg hg] at hv
        obtain ⟨i, hi⟩ : ∃ i : Nat, placeP id l = i := ⟨(placeP id l).toNat, by omega⟩
        rw [hi] at hpr hp e71 hv
        have h : i < l.length := by omega
        have hti : ((i : Nat) : Int).toNat = i := by omega
        rw [hti] at hv
        have e := e76 (l.take i ++ l.drop (i + 1))
        generalize turnG ⟨a, b, l⟩ (l.take i ++ l.drop (i + 1)) = W at e hv
        subst hv
        have h0 : ¬ (i : Int) < 0 := by omega
        have hw : IntKind.i64.wrap ((i : Int) + 1) = ((i + 1 : Nat) : Int) := by rw [IntKind.wrap_i64]; omega
        have hw2 : ((i + 1 : Nat) : Int).toNat = i + 1 := by omega
        have h5 : i ≤ l.length := by omega
        have h6 : i + 1 ≤ l.length := by omega
        rw [ML_app, ← ML_take, ← ML_drop] at e
        have htk : List.take (l.length - (i + 1)) (List.drop (i + 1) (ML l)) = List.drop (i + 1) (ML l) := List.take_of_length_le (by simp)
        have h9 : min i l.length + (l.length - (i + 1)) ≤ 1000 := by omega
        have h7 : i + (l.length - (i + 1)) ≤ 1000 := by omega
        have h8 : (l.take i ++ l.drop (i + 1)).length ≤ 1000 := by simp; omega
        simp [ac47, ar47, Grp.sv, Grp.cells, e72, e71, e, hl4, hl, hph, hnf, hp, hg, h0, hw, hw2, h, h5, h6, h7, h8, h9, htk]
        omega
  · rw [h1] at e72 hv
    rw [if_pos (by simp)] at hv
    subst hv
    simp [ac47, ar47, Grp.sv, Grp.cells, e72, e71, hl4, hph, hnf]
end Go.Proofs.Ytmfkliabjfngmaa

/- Group: the document's Tick. -/

set_option linter.unusedSimpArgs false
set_option linter.unusedVariables false
set_option maxHeartbeats 8000000
namespace Go.Proofs.Ytmfkliabjfngmaa

open Go.Av

/-- Whether a member stays. -/
def keepM (now pat : Int) (m : Mb) : Bool := decide (now < 0) || decide (IntKind.i64.wrap (now - m.sn) ≤ max 0 pat)
def rtickG (g : Grp) (now pat : Int) : Grp :=
  if chkG g ≠ 0 ∨ 1099511627776 ≤ g.ge then g else if (g.ms.filter (keepM now pat)).length = g.ms.length then g else turnG g (g.ms.filter (keepM now pat))
theorem filter_snoc (p : Mb → Bool) (l : List Mb) {i : Nat} (h : i < l.length) : (l.take (i + 1)).filter p = (l.take i).filter p ++ (if p (l.getD i mb0) = true then [l.getD i mb0] else []) := by
  rw [List.take_succ_eq_append_getElem h, List.filter_append, List.getD_eq_getElem?_getD, List.getElem?_eq_getElem h]
  cases q : p l[i] <;> simp [q]
theorem rtick48 (g : Grp) (now pat : Int) (hl : g.ms.length ≤ 1000) (hph : 0 ≤ g.ph) : Pure Try.prog 48 [g.sv, .int .i64 now, .int .i64 pat] (.sv (rtickG g now pat).sv) := by
  have e72 := RgG_72 g
  have e76 := RgG_76 g (g.ms.filter (keepM now pat))
  have hR := RgG_ok
  have hnf := RgG_nofz
  generalize RgG = R at hR e72 e76 hnf
  refine pure_go hR Try.func48 Try.ntmps48 comp48 cres48 (by decide) (by simp) ?_
  have hl4 : g.ms.length < 4611686018427387904 := by omega
  have hfl : (g.ms.filter (keepM now pat)).length ≤ g.ms.length := List.length_filter_le _ _
  generalize hv : rtickG g now pat = V
  unfold rtickG at hv
  obtain ⟨a, b, l⟩ := g
  simp only at *
  rcases chk_or ⟨a, b, l⟩ with h1 | h1
  · rw [h1] at e72 hv
    by_cases hg : 1099511627776 ≤ a
    · rw [if_pos (.inr hg)] at hv
      subst hv
      simp [ac48, ar48, Grp.sv, Grp.cells, e72, hl4, hph, hnf, hg]
    · rw [if_neg (by rintro (q | q); exact q rfl; exact hg q)] at hv
      simp [ac48, ar48, Grp.sv, Grp.cells, e72, hl4, hph, hnf, hg]
      refine awpR_loop (α := Nat) (fun i => i ≤ l.length) (fun i => { n := 58, sl := [(7, .own 3 (ML ((l.take i).filter (keepM now pat)))), (8, .sv (.int .i64 i)), (6, .lptr 6 0), (3, .lptr 3 0), (1, .sv (.int .i64 now)), (2, .sv (.int .i64 pat))], bx := [(6, [.sv (.int .i64 0), .sv (.int .u8 0), .sv .nils]), (3, [.sv (.int .i64 a), .sv (.int .u8 b), .sv (.sl 3 (ML l))])], hp := fun _ => none })
        (fun i => l.length - i) 0 (by omega) (by simp [ML]) ?_
      intro i hi
      by_cases h : i < l.length
      · have h1' : (i : Int) < l.length := by omega
        have hw := wrap_succ h hl4
        have hg1 := ML_get l h
        have hiA : i < (ML l).length := by simpa using h
        have hg2 : (ML l)[i] = (l.getD i mb0).sv := by rw [← hg1, List.getElem?_eq_getElem hiA]; rfl
        have hs := filter_snoc (keepM now pat) l h
        have hfi : ((l.take i).filter (keepM now pat)).length ≤ i := Nat.le_trans (List.length_filter_le _ _) (by simp; omega)
        generalize l.getD i mb0 = r at *
        generalize (l.take i).filter (keepM now pat) = z at *
        by_cases hn : now < 0
        · have hk : keepM now pat r = true := by simp [keepM, hn]
          rw [hk, if_pos rfl] at hs
          simp [h1', hg1, hg2, h, Mb.sv, Mb.cells, hw, hn]
          exact ⟨by omega, i + 1, by omega, by omega, by rw [hs, ML_app]; rfl, by omega⟩
        · cases hk : decide (IntKind.i64.wrap (now - r.sn) ≤ max 0 pat) with
          | true =>
            have hk2 : keepM now pat r = true := by simp only [keepM, hk, Bool.or_true]
            have hk3 : IntKind.i64.wrap (now - r.sn) ≤ max 0 pat := by simpa using hk
            rw [hk2, if_pos rfl] at hs
            have hmx : (if 0 < pat then pat else 0) = max 0 pat := by split <;> omega
            simp [h1', hg1, hg2, h, Mb.sv, Mb.cells, hw, hn, hmx, hk3]
            exact ⟨by omega, i + 1, by omega, by omega, by rw [hs, ML_app]; rfl, by omega⟩
          | false =>
            have hk2 : keepM now pat r = false := by simp only [keepM, hk, Bool.or_false]; simpa using hn
            have hk3 : ¬ IntKind.i64.wrap (now - r.sn) ≤ max 0 pat := by simpa using hk
            have hmx : (if 0 < pat then pat else 0) = max 0 pat := by split <;> omega
            have hk4 : decide (IntKind.i64.wrap (now - r.sn) ≤ max 0 pat) = false := hk
            rw [hk2, if_neg (by simp), List.append_nil] at hs
            simp [h1', hg1, hg2, h, Mb.sv, Mb.cells, hw, hn, hmx, hk3, hk4]
            exact ⟨i + 1, by omega, by omega, by rw [hs], by omega⟩
      · have h1' : ¬ (i : Int) < l.length := by omega
        obtain rfl : i = l.length := by omega
        simp only [List.take_length]
        by_cases hq : (l.filter (keepM now pat)).length = l.length
        · rw [if_pos hq] at hv
          subst hv
          simp [h1', hq, Grp.sv, Grp.cells]
        · rw [if_neg hq] at hv
          generalize turnG ⟨a, b, l⟩ (l.filter (keepM now pat)) = W at e76 hv
          subst hv
          have hq2 : ¬ ((l.filter (keepM now pat)).length : Int) = (l.length : Int) := by omega
          have hq4 : (l.filter (keepM now pat)).length ≤ 1000 := by omega
          generalize l.filter (keepM now pat) = F at *
          have hq3 : ((F.length : Int) == (l.length : Int)) = false := by simpa using hq2
          simp [h1', hq, hq2, hq3, hq4, e76, Grp.sv, Grp.cells]
  · rw [h1] at e72 hv
    rw [if_pos (.inl (by simp))] at hv
    subst hv
    simp [ac48, ar48, Grp.sv, Grp.cells, e72, hl4, hph, hnf]
end Go.Proofs.Ytmfkliabjfngmaa
