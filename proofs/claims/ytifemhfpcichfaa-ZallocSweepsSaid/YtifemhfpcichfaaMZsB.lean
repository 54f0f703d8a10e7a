import Derived.Test.YtifemhfpcichfaaMZrK

set_option linter.unusedVariables false
set_option linter.unusedSimpArgs false

/- Zone: a call on both: what is told of it. -/

set_option linter.unusedSimpArgs false
set_option linter.unusedVariables false
set_option maxHeartbeats 4000000
set_option maxRecDepth 1000000
namespace Go.Proofs.Ytifemhfpcichfaa
open Go.RowKit
open Go.Av Go.Maps

/-- The document's device as a value. -/
def rval (v : Value) (r : RDv) : Value := .agg #[v, .int .i64 r.n, .bool r.down, .int .i64 r.ops, .int .i64 r.fails, .bool r.done]
theorem RefAt.val {w : World} {N : Nat → Prop} {r : RDv} {x : Value} (h : RefAt w N r x) : ∃ p n c, x = rval (.slice p n c) r := by
  obtain ⟨mu, _, _, _, h3⟩ := h
  obtain ⟨v, rfl, hv⟩ := rep_dev h3
  rcases hv.inv_sl with ⟨⟨p, cap, rfl, _⟩, _⟩ | ⟨b, off, cap, _, rfl, _⟩
  · exact ⟨_, _, _, rfl⟩
  · exact ⟨_, _, _, rfl⟩
theorem results_cell_tmp {P : Program} {fn : Func} {p t : Tmp} {ty : TypeId} (h : fn.results = #[.cell p ty, .tmp t]) (tmps : Array Value) (w : World) (g : Nat) (te : TypeId) (cs : Array Value) (fr : Nat × Nat) (d : TypeDesc)
    (hp : tmps.getD p Go.undef = .pointer (some ⟨g, 0, none⟩)) (hg : w.heap[g]? = some (.cells cs te fr))
    (hu : P.underlying ty = some d) (hd : (match d with | .struct _ | .array _ _ => true | _ => false) = true) (hi : (P.info? ty).map (·.size) = some cs.size) :
    (results fn tmps).run P w = .ok (.tuple #[.agg cs, tmps.getD t Go.undef]) w := by
  have hp' : tmps[p]?.getD Go.undef = .pointer (some ⟨g, 0, none⟩) := by simpa using hp
  simp [results, h, hp', asAddr, run_loadVar_row w g te ty cs fr d hg hu hd hi]
/-- A box of six cells, of seven. -/
theorem box6 {w : World} {b : Nat} {a0 a1 a2 a3 a4 a5 : Value} {t : TypeId} (h : w.heap[b]? = some (.cells #[a0, a1, a2, a3, a4, a5] t)) :
    (w.cell? ⟨b, 0, none⟩ = some a0 ∧ w.cell? ⟨b, 1, none⟩ = some a1 ∧ w.cell? ⟨b, 2, none⟩ = some a2 ∧ w.cell? ⟨b, 3, none⟩ = some a3 ∧ w.cell? ⟨b, 4, none⟩ = some a4 ∧ w.cell? ⟨b, 5, none⟩ = some a5) ∧
    (w.frozen? ⟨b, 0, none⟩ = false ∧ w.frozen? ⟨b, 1, none⟩ = false ∧ w.frozen? ⟨b, 2, none⟩ = false ∧ w.frozen? ⟨b, 3, none⟩ = false ∧ w.frozen? ⟨b, 4, none⟩ = false ∧ w.frozen? ⟨b, 5, none⟩ = false) := by
  simp [World.cell?, World.frozen?, h]
theorem box7 {w : World} {b : Nat} {a0 a1 a2 a3 a4 a5 a6 : Value} {t : TypeId} (h : w.heap[b]? = some (.cells #[a0, a1, a2, a3, a4, a5, a6] t)) :
    w.cell? ⟨b, 0, none⟩ = some a0 ∧ w.cell? ⟨b, 1, none⟩ = some a1 ∧ w.cell? ⟨b, 2, none⟩ = some a2 ∧ w.cell? ⟨b, 3, none⟩ = some a3 ∧ w.cell? ⟨b, 4, none⟩ = some a4 ∧ w.cell? ⟨b, 5, none⟩ = some a5 ∧ w.cell? ⟨b, 6, none⟩ = some a6 := by
  simp [World.cell?, h]
/-- A call, as the laws draw it. -/
structure ActD where
  k : UInt8
  z : Int
  n : Int
  c : UInt8
  cut : UInt8
  done : Bool
  fs : List UInt8
def actV (a : ActD) (v : Value) : Value := .agg #[.int .u8 a.k.toNat, .int .i64 a.z, .int .i64 a.n, .int .u8 a.c.toNat, .int .u8 a.cut.toNat, .bool a.done, v]
def QG (q : Dp) (G : Nat → Prop) (b : Nat) : Prop := EQ q b ∨ G b
/-- Both devices (and blocks that lie apart), before and behind a call. -/
structure Both (w : World) (q : Dp) (G : Nat → Prop) (L : Nat) (B : Int) (m : Nat) (d : Dv) (r : RDv) (x : Value) : Prop where
  at_ : DevAt w q d
  ok : OkN L B m d
  ref : RefAt w (QG q G) r x
  rn : RN L B r
  lt : ∀ b, G b → b < w.heap.size
def DoP (w : World) (q : Dp) (G : Nat → Prop) (L : Nat) (B : Int) (m : Nat) (d' : Dv) (e : Ending) (w' : World) : Prop := ∃ r' x' bb, e = .returned (.tuple #[x', .bool bb]) ∧ Both w' q G L B m d' r' x' ∧ Ext (EQ q) w w'
/-- The three boxes that stand ahead of the switch. -/
def B3 (w : World) (x y : Value) : World := ((w.alloc (.cells x.cells 29)).alloc (.cells y.cells 35)).alloc (.cells #[.slice none 0 0, .int .i64 0, .bool false, .int .i64 0, .int .i64 0, .bool false] 29)
theorem B3_at (w : World) (x y : Value) : (B3 w x y).heap[w.heap.size]? = some (.cells x.cells 29) ∧ (B3 w x y).heap[w.heap.size + 1]? = some (.cells y.cells 35) ∧ (B3 w x y).heap[w.heap.size + 1 + 1]? = some (.cells #[.slice none 0 0, .int .i64 0, .bool false, .int .i64 0, .int .i64 0, .bool false] 29) ∧ (B3 w x y).heap.size = w.heap.size + 1 + 1 + 1 := by
  unfold B3
  refine ⟨?_, ?_, ?_, by simp⟩
  · rw [alloc_get, if_neg (by simp; omega), alloc_get, if_neg (by simp), alloc_get, if_pos rfl]
  · rw [alloc_get, if_neg (by simp), alloc_get, if_pos (by simp)]
  · rw [alloc_get, if_pos (by simp)]
theorem B3_ext (w : World) (x y : Value) : Ext (fun _ => False) w (B3 w x y) := ((ext_alloc1 _ _).trans (ext_alloc1 _ _)).trans (ext_alloc1 _ _)
/-- The result's box is written, from the document's. -/
def set6 (w : World) (b : Nat) (v : Value) (n : Int) (dn : Bool) (o f : Int) (k : Bool) : World := (((((w.setCell ⟨b, 0, none⟩ v).setCell ⟨b, 1, none⟩ (.int .i64 n)).setCell ⟨b, 2, none⟩ (.bool dn)).setCell ⟨b, 3, none⟩ (.int .i64 o)).setCell ⟨b, 4, none⟩ (.int .i64 f)).setCell ⟨b, 5, none⟩ (.bool k)
theorem set6_other (w : World) {b k : Nat} (h : k ≠ b) (v : Value) (n : Int) (dn : Bool) (o f : Int) (kk : Bool) : (set6 w b v n dn o f kk).heap[k]? = w.heap[k]? := by
  unfold set6
  rw [blk_other h, blk_other h, blk_other h, blk_other h, blk_other h, blk_other h]
theorem set6_same (w : World) {b : Nat} {a0 a1 a2 a3 a4 a5 : Value} {t : TypeId} (h : w.heap[b]? = some (.cells #[a0, a1, a2, a3, a4, a5] t)) (v : Value) (n : Int) (dn : Bool) (o f : Int) (kk : Bool) :
    (set6 w b v n dn o f kk).heap[b]? = some (.cells #[v, .int .i64 n, .bool dn, .int .i64 o, .int .i64 f, .bool kk] t) := by
  unfold set6
  exact blk_same (blk_same (blk_same (blk_same (blk_same (blk_same h _) _) _) _) _) _
theorem set6_ext (w : World) (b : Nat) (v : Value) (n : Int) (dn : Bool) (o f : Int) (kk : Bool) : Ext (fun k => k = b) w (set6 w b v n dn o f kk) :=
  ((((((ext_set1 w b 0 _).trans (ext_set1 _ b 1 _)).trans (ext_set1 _ b 2 _)).trans (ext_set1 _ b 3 _)).trans (ext_set1 _ b 4 _)).trans (ext_set1 _ b 5 _))
/-- The document's device and what a call has boxed lie apart. -/
def NE (q : Dp) (G : Nat → Prop) (w : World) (b : Nat) : Prop := QG q G b ∨ (w.heap.size ≤ b ∧ b < w.heap.size + 1 + 1 + 1)
theorem do_end {w w5 : World} {q : Dp} {G : Nat → Prop} {L : Nat} {B : Int} {m : Nat} {d' : Dv} {r' : RDv} {p : Option Addr} {n c : Nat} (hD : DevAt w5 q d') (hO : OkN L B m d') (hR : RefAt w5 (NE q G w) r' (rval (.slice p n c) r')) (hN : RN L B r') (hG : ∀ b, G b → b < w.heap.size)
    (hx : Ext (EQ q) w w5) (n0 : ¬ EQ q w.heap.size) (n2 : ¬ EQ q (w.heap.size + 1 + 1))
    {b0 b1 b2 b3 b4 b5 : Value} {t' : TypeId} (k2 : w5.heap[w.heap.size + 1 + 1]? = some (.cells #[b0, b1, b2, b3, b4, b5] t')) (bb : Bool) {Z : World} (hZ : Z = set6 (set6 w5 w.heap.size (.slice p n c) r'.n r'.down r'.ops r'.fails r'.done) (w.heap.size + 1 + 1) (.slice p n c) r'.n r'.down r'.ops r'.fails r'.done) :
    Z.heap[w.heap.size + 1 + 1]? = some (.cells #[.slice p n c, .int .i64 r'.n, .bool r'.down, .int .i64 r'.ops, .int .i64 r'.fails, .bool r'.done] t') ∧ DoP w q G L B m d' (.returned (.tuple #[rval (.slice p n c) r', .bool bb])) Z := by
  subst hZ
  have h1 := set6_ext w5 w.heap.size (.slice p n c) r'.n r'.down r'.ops r'.fails r'.done
  have h2 := set6_ext (set6 w5 w.heap.size (.slice p n c) r'.n r'.down r'.ops r'.fails r'.done) (w.heap.size + 1 + 1) (.slice p n c) r'.n r'.down r'.ops r'.fails r'.done
  have h3 := (h1.mono (T' := fun k => k = w.heap.size ∨ k = w.heap.size + 1 + 1) fun _ e => .inl e).trans (h2.mono fun _ e => .inr e)
  refine ⟨set6_same _ (by rw [set6_other _ (by omega)]; exact k2) _ _ _ _ _ _, r', _, bb, rfl, ⟨hD.keep h3 ?_, hO, (hR.keepT h3 ?_).sub fun b e => .inl e, hN, fun b e => by have := hG b e; have := hx.size; have := h3.size; omega⟩, extB hx h3 (by rintro b (rfl | rfl) <;> right <;> omega)⟩
  · rintro b e (rfl | rfl)
    · exact n0 e
    · exact n2 e
  · intro b _ e
    refine .inl (.inr ?_)
    omega
end Go.Proofs.Ytifemhfpcichfaa

/- Zone: a call on both: Flush. -/

set_option linter.unusedSimpArgs false
set_option linter.unusedVariables false
set_option maxHeartbeats 4000000
set_option maxRecDepth 1000000
namespace Go.Proofs.Ytifemhfpcichfaa
open Go.RowKit
open Go.Av Go.Maps

theorem kmod {k : UInt8} {j : Nat} (h : k.toNat % 9 = j) : IntKind.u8.wrap ((k.toNat : Int).tmod 9) = j := by
  have h1 : ((k.toNat : Int).tmod 9) = j := by rw [Int.tmod_eq_emod_of_nonneg (by omega)]; omega
  rw [h1]
  have := k.toNat_lt
  simp [IntKind.wrap, IntKind.bits, IntKind.signed]
  omega
theorem ne_lt {q : Dp} {G : Nat → Prop} {w w4 : World} (h : ∀ b, EQ q b → b < w.heap.size) (hG : ∀ b, G b → b < w.heap.size) (k : w.heap.size + 1 + 1 + 1 ≤ w4.heap.size) : ∀ b, NE q G w b → b < w4.heap.size := fun b e => by
  rcases e with (e | e) | e
  · have := h b e; omega
  · have := hG b e; omega
  · omega
theorem do_flush {w : World} {q : Dp} {G : Nat → Prop} {L : Nat} {B : Int} {m : Nat} {d : Dv} {r : RDv} {x : Value} (h : Both w q G L B m d r x) (a : ActD) (pa : Option Addr) (fn cap : Nat) (hk : a.k.toNat % 9 = 4) :
    Calls Try.prog 11 #[.pointer (some ⟨q.p, 0, none⟩), x, actV a (.slice pa fn cap)] w (DoP w q G L B m (flushD d).1) := by
  obtain ⟨px, nx, cx, rfl⟩ := h.ref.val
  have hk2 := kmod hk
  have hL : r.z.length ≤ 1000 := by have := h.ok.ok.len; have := h.ok.len; have := h.rn.len; omega
  obtain ⟨l0, l1, l2⟩ := h.at_.lt
  have hq : ∀ b, EQ q b → b < w.heap.size := fun b e => by rcases e with e | e | e <;> omega
  obtain ⟨W, hW⟩ : ∃ W, W = B3 w (rval (.slice px nx cx) r) (actV a (.slice pa fn cap)) := ⟨_, rfl⟩
  obtain ⟨k0, k1, k2, ksz⟩ := B3_at w (rval (.slice px nx cx) r) (actV a (.slice pa fn cap))
  have kx := B3_ext w (rval (.slice px nx cx) r) (actV a (.slice pa fn cap))
  have HW : Aside (W = ((w.alloc (.cells #[.slice px nx cx, .int .i64 r.n, .bool r.down, .int .i64 r.ops, .int .i64 r.fails, .bool r.done] 29)).alloc (.cells #[.int .u8 a.k.toNat, .int .i64 a.z, .int .i64 a.n, .int .u8 a.c.toNat, .int .u8 a.cut.toNat, .bool a.done, .slice pa fn cap] 35)).alloc (.cells #[.slice none 0 0, .int .i64 0, .bool false, .int .i64 0, .int .i64 0, .bool false] 29)) := hW
  rw [← hW] at k0 k1 k2 ksz kx
  have n0 : ¬ EQ q w.heap.size := fun e => by have := hq _ e; omega
  have n1 : ¬ EQ q (w.heap.size + 1) := fun e => by have := hq _ e; omega
  have n2 : ¬ EQ q (w.heap.size + 1 + 1) := fun e => by have := hq _ e; omega
  have HQ : Aside (∀ b, EQ q b → b < w.heap.size) := hq
  have HH := asideI h
  have HRF := asideI (h.ref.fresh (w.heap.size + 1 + 1 + 1))
  have KX := asideI kx
  have K0 := asideI k0
  have K2 := asideI k2
  clear h kx k0 k1 k2 hW hq
  show Calls Try.prog 11 #[.pointer (some ⟨q.p, 0, none⟩), .agg #[.slice px nx cx, .int .i64 r.n, .bool r.down, .int .i64 r.ops, .int .i64 r.fails, .bool r.done], .agg #[.int .u8 a.k.toNat, .int .i64 a.z, .int .i64 a.n, .int .u8 a.c.toNat, .int .u8 a.cut.toNat, .bool a.done, .slice pa fn cap]] w _
  go_enter Try.func11, Try.ntmps11
  go_wp2_with (first
    | (go_at_call 14; rw [← HW.out]; refine (flush_raw (HH.out.at_.ext KX.out)).mono ?_; rintro e w4 ⟨rfl, hd4, hx4⟩; have HD4 := asideI hd4; have HX4 := asideI hx4; have HR4 := asideI ((HRF.out.ext KX.out).keepT hx4 (fun _ _ e => .inl (.inl (.inl e)))); have HQ4 := asideI (ne_lt HQ.out HH.out.lt (show w.heap.size + 1 + 1 + 1 ≤ w4.heap.size by have := hx4.size; omega)); have k4 := (hx4.block w.heap.size (by omega) n0).trans K0.out; obtain ⟨⟨a0, a1, a2, a3, a4, a5⟩, _⟩ := box6 k4; clear hd4 hx4 k4; simp only [])
    | (go_at_call 36; refine (ref_call (ns := [(rflush r).2]) (args := []) (vs := []) (rflush_pure r hL) (HR4.out) (argsI []) (HQ4.out)).mono ?_
       rintro e w5 ⟨x', rfl, hr5, hx5⟩
       obtain ⟨px', nx', cx', rfl⟩ := hr5.val
       have HR5 := asideI hr5
       have HX5 := asideI hx5
       have HX45 := asideI (HX4.out.trans (extQ hx5))
       have HD5 := asideI (HD4.out.ext hx5)
       have K25 := asideI ((HX45.out.block (w.heap.size + 1 + 1) (by omega) n2).trans K2.out)
       obtain ⟨_, b0, b1, b2, b3, b4, b5⟩ := box6 ((HX45.out.block w.heap.size (by omega) n0).trans K0.out)
       obtain ⟨_, e0, e1, e2, e3, e4, e5⟩ := box6 ((HX45.out.block (w.heap.size + 1 + 1) (by omega) n2).trans K2.out)
       clear hr5 hx5 a0 a1 a2 a3 a4 a5
       simp only [List.map_cons, List.map_nil, rval])
    | go_in)
  obtain ⟨G1, G2⟩ := do_end (L := L) (B := B) (m := m) HD5.out HH.out.ok.flush HR5.out HH.out.rn.flush HH.out.lt ((extQ KX.out).trans HX45.out) n0 n2 K25.out ((flushD d).2 == (rflush r).2) rfl
  refine bodyPost_ret (results_cell_tmp rfl _ _ (w.heap.size + 1 + 1) _ _ _ _ rfl G1 (show Try.prog.underlying 29 = some (Try.prog.underlying 29).get! by kernel_rfl) (by kernel_rfl) (by kernel_rfl)) rfl ?_
  exact G2
end Go.Proofs.Ytifemhfpcichfaa

/- Zone: a call on both: Reset, Finish, Fail, Crash. -/

set_option linter.unusedSimpArgs false
set_option linter.unusedVariables false
set_option maxHeartbeats 4000000
set_option maxRecDepth 1000000
namespace Go.Proofs.Ytifemhfpcichfaa
open Go.RowKit
open Go.Av Go.Maps

theorem argsNB {w : World} {N : Nat → Prop} (n : Int) (b : Bool) : ArgsOK w N [.int .i64 n, .bool b] [.int .i64 n, .bool b] := fun mu h1 h2 => ⟨mu, Mem.le_refl _, h1, h2, RepArgs.cons (.int _ _) (RepArgs.cons (.bool _) ⟨rfl, fun j hj => by simp at hj⟩)⟩
def FtV (w : World) (N : Nat → Prop) (v : Value) (fs : List UInt8) : Prop := FateV w N v fs ∧ ∀ cap, v = .slice none 0 cap → cap = 0
theorem FtV.args {w : World} {N : Nat → Prop} {v : Value} {fs : List UInt8} (h : FtV w N v fs) : ArgsOK w N [fSV (some fs)] [v] := by
  obtain ⟨⟨pa, cap, rfl, hc, hf⟩, h0⟩ := h
  by_cases e : fs = []
  · subst e
    intro mu h1 h2
    refine ⟨mu, Mem.le_refl _, h1, h2, RepArgs.cons ?_ ⟨rfl, fun j hj => by simp at hj⟩⟩
    cases pa with
    | none => rw [h0 _ rfl]; exact .slnil _
    | some a => exact .sle _ _ _
  · obtain ⟨fb, off, rfl, hn, hr⟩ := hf e
    exact argsB (ns := []) rfl hc hr hn
theorem FtV.ne {w : World} {q : Dp} {G : Nat → Prop} {v : Value} {fs : List UInt8} (h : FtV w (QG q G) v fs) : FtV w (NE q G w) v fs := by
  obtain ⟨⟨pa, cap, rfl, hc, hf⟩, h0⟩ := h
  refine ⟨⟨pa, cap, rfl, hc, fun hn => ?_⟩, h0⟩
  obtain ⟨fb, off, rfl, hn', hr⟩ := hf hn
  refine ⟨fb, off, rfl, fun e => ?_, hr⟩
  rcases e with e | e
  · exact hn' e
  · cases fs with
    | nil => exact hn rfl
    | cons b r =>
      have := World.block_lt_of_cell? w ⟨fb, off + 0, none⟩ (hr 0 (.int .u8 b.toNat) rfl)
      simp only at this
      omega
theorem FateV.sub {w : World} {N M : Nat → Prop} {v : Value} {fs : List UInt8} (h : FateV w N v fs) (k : ∀ b, M b → N b) : FateV w M v fs := by
  obtain ⟨pa, cap, h1, h2, h3⟩ := h
  refine ⟨pa, cap, h1, h2, fun hn => ?_⟩
  obtain ⟨fb, off, k1, k2, k3⟩ := h3 hn
  exact ⟨fb, off, k1, fun e => k2 (k fb e), k3⟩
theorem FtV.keeps {w W : World} {N T : Nat → Prop} {v : Value} {fs : List UInt8} (h : FtV w N v fs) (hT : ∀ k, T k → k < w.heap.size → N k) (k : Ext T w W) : FtV W N v fs := ⟨h.1.keeps hT k, h.2⟩
theorem do_reset {w : World} {q : Dp} {G : Nat → Prop} {L : Nat} {B : Int} {m : Nat} {d : Dv} {r : RDv} {x : Value} (h : Both w q G L B m d r x) (a : ActD) (pa : Option Addr) (fn cap : Nat) (hk : a.k.toNat % 9 = 5) :
    Calls Try.prog 11 #[.pointer (some ⟨q.p, 0, none⟩), x, actV a (.slice pa fn cap)] w (DoP w q G L B m (resetD d a.z).1) := by
  obtain ⟨px, nx, cx, rfl⟩ := h.ref.val
  have hk2 := kmod hk
  have hL : r.z.length ≤ 1000 := by have := h.ok.ok.len; have := h.ok.len; have := h.rn.len; omega
  obtain ⟨l0, l1, l2⟩ := h.at_.lt
  have hq : ∀ b, EQ q b → b < w.heap.size := fun b e => by rcases e with e | e | e <;> omega
  obtain ⟨W, hW⟩ : ∃ W, W = B3 w (rval (.slice px nx cx) r) (actV a (.slice pa fn cap)) := ⟨_, rfl⟩
  obtain ⟨k0, k1, k2, ksz⟩ := B3_at w (rval (.slice px nx cx) r) (actV a (.slice pa fn cap))
  have kx := B3_ext w (rval (.slice px nx cx) r) (actV a (.slice pa fn cap))
  have HW : Aside (W = ((w.alloc (.cells #[.slice px nx cx, .int .i64 r.n, .bool r.down, .int .i64 r.ops, .int .i64 r.fails, .bool r.done] 29)).alloc (.cells #[.int .u8 a.k.toNat, .int .i64 a.z, .int .i64 a.n, .int .u8 a.c.toNat, .int .u8 a.cut.toNat, .bool a.done, .slice pa fn cap] 35)).alloc (.cells #[.slice none 0 0, .int .i64 0, .bool false, .int .i64 0, .int .i64 0, .bool false] 29)) := hW
  rw [← hW] at k0 k1 k2 ksz kx
  have n0 : ¬ EQ q w.heap.size := fun e => by have := hq _ e; omega
  have n1 : ¬ EQ q (w.heap.size + 1) := fun e => by have := hq _ e; omega
  have n2 : ¬ EQ q (w.heap.size + 1 + 1) := fun e => by have := hq _ e; omega
  have HQ : Aside (∀ b, EQ q b → b < w.heap.size) := hq
  have HH := asideI h
  have HRF := asideI (h.ref.fresh (w.heap.size + 1 + 1 + 1))
  have KX := asideI kx
  have K0 := asideI k0
  have K1 := asideI k1
  have K2 := asideI k2
  clear h kx k0 k1 k2 hW hq
  show Calls Try.prog 11 #[.pointer (some ⟨q.p, 0, none⟩), .agg #[.slice px nx cx, .int .i64 r.n, .bool r.down, .int .i64 r.ops, .int .i64 r.fails, .bool r.done], .agg #[.int .u8 a.k.toNat, .int .i64 a.z, .int .i64 a.n, .int .u8 a.c.toNat, .int .u8 a.cut.toNat, .bool a.done, .slice pa fn cap]] w _
  go_enter Try.func11, Try.ntmps11
  go_wp2_with (first
    | (go_at_call 13; rw [← HW.out]; refine (reset_raw (HH.out.at_.ext KX.out) a.z (fun i hi => by have := HH.out.ok.ok.wr i hi; have := HH.out.ok.ok.nb; unfold zAt at *; omega)).mono ?_; rintro e w4 ⟨rfl, hd4, hx4⟩; have HD4 := asideI hd4; have HX4 := asideI hx4; have HR4 := asideI ((HRF.out.ext KX.out).keepT hx4 (fun _ _ e => .inl (.inl (.inl e)))); have HQ4 := asideI (ne_lt HQ.out HH.out.lt (show w.heap.size + 1 + 1 + 1 ≤ w4.heap.size by have := hx4.size; omega)); have k4 := (hx4.block w.heap.size (by omega) n0).trans K0.out; obtain ⟨⟨a0, a1, a2, a3, a4, a5⟩, _⟩ := box6 k4; obtain ⟨s0, s1, s2, s3, s4, s5, s6⟩ := box7 ((hx4.block (w.heap.size + 1) (by omega) n1).trans K1.out); clear hd4 hx4 k4; simp only [])
    | (go_at_call 37; refine (ref_call (ns := [(rreset r a.z).2]) (args := [.int .i64 a.z]) (vs := [.int .i64 a.z]) (rreset_pure r a.z hL) (HR4.out) (argsI [a.z]) (HQ4.out)).mono ?_
       rintro e w5 ⟨x', rfl, hr5, hx5⟩
       obtain ⟨px', nx', cx', rfl⟩ := hr5.val
       have HR5 := asideI hr5
       have HX5 := asideI hx5
       have HX45 := asideI (HX4.out.trans (extQ hx5))
       have HD5 := asideI (HD4.out.ext hx5)
       have K25 := asideI ((HX45.out.block (w.heap.size + 1 + 1) (by omega) n2).trans K2.out)
       obtain ⟨_, b0, b1, b2, b3, b4, b5⟩ := box6 ((HX45.out.block w.heap.size (by omega) n0).trans K0.out)
       obtain ⟨_, e0, e1, e2, e3, e4, e5⟩ := box6 ((HX45.out.block (w.heap.size + 1 + 1) (by omega) n2).trans K2.out)
       clear hr5 hx5 a0 a1 a2 a3 a4 a5 s0 s1 s2 s3 s4 s5 s6
       simp only [List.map_cons, List.map_nil, rval])
    | go_in)
  obtain ⟨G1, G2⟩ := do_end (L := L) (B := B) (m := m) HD5.out (HH.out.ok.reset a.z) HR5.out (HH.out.rn.reset a.z) HH.out.lt ((extQ KX.out).trans HX45.out) n0 n2 K25.out ((resetD d a.z).2 == (rreset r a.z).2) rfl
  refine bodyPost_ret (results_cell_tmp rfl _ _ (w.heap.size + 1 + 1) _ _ _ _ rfl G1 (show Try.prog.underlying 29 = some (Try.prog.underlying 29).get! by kernel_rfl) (by kernel_rfl) (by kernel_rfl)) rfl ?_
  exact G2
theorem do_finish {w : World} {q : Dp} {G : Nat → Prop} {L : Nat} {B : Int} {m : Nat} {d : Dv} {r : RDv} {x : Value} (h : Both w q G L B m d r x) (a : ActD) (pa : Option Addr) (fn cap : Nat) (hk : a.k.toNat % 9 = 6) :
    Calls Try.prog 11 #[.pointer (some ⟨q.p, 0, none⟩), x, actV a (.slice pa fn cap)] w (DoP w q G L B m (finishD d a.z).1) := by
  obtain ⟨px, nx, cx, rfl⟩ := h.ref.val
  have hk2 := kmod hk
  have hL : r.z.length ≤ 1000 := by have := h.ok.ok.len; have := h.ok.len; have := h.rn.len; omega
  obtain ⟨l0, l1, l2⟩ := h.at_.lt
  have hq : ∀ b, EQ q b → b < w.heap.size := fun b e => by rcases e with e | e | e <;> omega
  obtain ⟨W, hW⟩ : ∃ W, W = B3 w (rval (.slice px nx cx) r) (actV a (.slice pa fn cap)) := ⟨_, rfl⟩
  obtain ⟨k0, k1, k2, ksz⟩ := B3_at w (rval (.slice px nx cx) r) (actV a (.slice pa fn cap))
  have kx := B3_ext w (rval (.slice px nx cx) r) (actV a (.slice pa fn cap))
  have HW : Aside (W = ((w.alloc (.cells #[.slice px nx cx, .int .i64 r.n, .bool r.down, .int .i64 r.ops, .int .i64 r.fails, .bool r.done] 29)).alloc (.cells #[.int .u8 a.k.toNat, .int .i64 a.z, .int .i64 a.n, .int .u8 a.c.toNat, .int .u8 a.cut.toNat, .bool a.done, .slice pa fn cap] 35)).alloc (.cells #[.slice none 0 0, .int .i64 0, .bool false, .int .i64 0, .int .i64 0, .bool false] 29)) := hW
  rw [← hW] at k0 k1 k2 ksz kx
  have n0 : ¬ EQ q w.heap.size := fun e => by have := hq _ e; omega
  have n1 : ¬ EQ q (w.heap.size + 1) := fun e => by have := hq _ e; omega
  have n2 : ¬ EQ q (w.heap.size + 1 + 1) := fun e => by have := hq _ e; omega
  have HQ : Aside (∀ b, EQ q b → b < w.heap.size) := hq
  have HH := asideI h
  have HRF := asideI (h.ref.fresh (w.heap.size + 1 + 1 + 1))
  have KX := asideI kx
  have K0 := asideI k0
  have K1 := asideI k1
  have K2 := asideI k2
  clear h kx k0 k1 k2 hW hq
  show Calls Try.prog 11 #[.pointer (some ⟨q.p, 0, none⟩), .agg #[.slice px nx cx, .int .i64 r.n, .bool r.down, .int .i64 r.ops, .int .i64 r.fails, .bool r.done], .agg #[.int .u8 a.k.toNat, .int .i64 a.z, .int .i64 a.n, .int .u8 a.c.toNat, .int .u8 a.cut.toNat, .bool a.done, .slice pa fn cap]] w _
  go_enter Try.func11, Try.ntmps11
  go_wp2_with (first
    | (go_at_call 28; rw [← HW.out]; refine (finish_raw (HH.out.at_.ext KX.out) a.z).mono ?_; rintro e w4 ⟨rfl, hd4, hx4⟩; have HD4 := asideI hd4; have HX4 := asideI hx4; have HR4 := asideI ((HRF.out.ext KX.out).keepT hx4 (fun _ _ e => .inl (.inl (.inl e)))); have HQ4 := asideI (ne_lt HQ.out HH.out.lt (show w.heap.size + 1 + 1 + 1 ≤ w4.heap.size by have := hx4.size; omega)); have k4 := (hx4.block w.heap.size (by omega) n0).trans K0.out; obtain ⟨⟨a0, a1, a2, a3, a4, a5⟩, _⟩ := box6 k4; obtain ⟨s0, s1, s2, s3, s4, s5, s6⟩ := box7 ((hx4.block (w.heap.size + 1) (by omega) n1).trans K1.out); clear hd4 hx4 k4; simp only [])
    | (go_at_call 38; refine (ref_call (ns := [(rfinish r a.z).2]) (args := [.int .i64 a.z]) (vs := [.int .i64 a.z]) (rfinish_pure r a.z hL) (HR4.out) (argsI [a.z]) (HQ4.out)).mono ?_
       rintro e w5 ⟨x', rfl, hr5, hx5⟩
       obtain ⟨px', nx', cx', rfl⟩ := hr5.val
       have HR5 := asideI hr5
       have HX5 := asideI hx5
       have HX45 := asideI (HX4.out.trans (extQ hx5))
       have HD5 := asideI (HD4.out.ext hx5)
       have K25 := asideI ((HX45.out.block (w.heap.size + 1 + 1) (by omega) n2).trans K2.out)
       obtain ⟨_, b0, b1, b2, b3, b4, b5⟩ := box6 ((HX45.out.block w.heap.size (by omega) n0).trans K0.out)
       obtain ⟨_, e0, e1, e2, e3, e4, e5⟩ := box6 ((HX45.out.block (w.heap.size + 1 + 1) (by omega) n2).trans K2.out)
       clear hr5 hx5 a0 a1 a2 a3 a4 a5 s0 s1 s2 s3 s4 s5 s6
       simp only [List.map_cons, List.map_nil, rval])
    | go_in)
  obtain ⟨G1, G2⟩ := do_end (L := L) (B := B) (m := m) HD5.out (HH.out.ok.finish a.z) HR5.out (HH.out.rn.finish a.z) HH.out.lt ((extQ KX.out).trans HX45.out) n0 n2 K25.out ((finishD d a.z).2 == (rfinish r a.z).2) rfl
  refine bodyPost_ret (results_cell_tmp rfl _ _ (w.heap.size + 1 + 1) _ _ _ _ rfl G1 (show Try.prog.underlying 29 = some (Try.prog.underlying 29).get! by kernel_rfl) (by kernel_rfl) (by kernel_rfl)) rfl ?_
  exact G2
theorem do_fail {w : World} {q : Dp} {G : Nat → Prop} {L : Nat} {B : Int} {m : Nat} {d : Dv} {r : RDv} {x : Value} (h : Both w q G L B m d r x) (a : ActD) (pa : Option Addr) (fn cap : Nat) (hk : a.k.toNat % 9 = 7) :
    Calls Try.prog 11 #[.pointer (some ⟨q.p, 0, none⟩), x, actV a (.slice pa fn cap)] w (DoP w q G L B m (failD d a.n a.done).1) := by
  obtain ⟨px, nx, cx, rfl⟩ := h.ref.val
  have hk2 := kmod hk
  have hL : r.z.length ≤ 1000 := by have := h.ok.ok.len; have := h.ok.len; have := h.rn.len; omega
  obtain ⟨l0, l1, l2⟩ := h.at_.lt
  have hq : ∀ b, EQ q b → b < w.heap.size := fun b e => by rcases e with e | e | e <;> omega
  obtain ⟨W, hW⟩ : ∃ W, W = B3 w (rval (.slice px nx cx) r) (actV a (.slice pa fn cap)) := ⟨_, rfl⟩
  obtain ⟨k0, k1, k2, ksz⟩ := B3_at w (rval (.slice px nx cx) r) (actV a (.slice pa fn cap))
  have kx := B3_ext w (rval (.slice px nx cx) r) (actV a (.slice pa fn cap))
  have HW : Aside (W = ((w.alloc (.cells #[.slice px nx cx, .int .i64 r.n, .bool r.down, .int .i64 r.ops, .int .i64 r.fails, .bool r.done] 29)).alloc (.cells #[.int .u8 a.k.toNat, .int .i64 a.z, .int .i64 a.n, .int .u8 a.c.toNat, .int .u8 a.cut.toNat, .bool a.done, .slice pa fn cap] 35)).alloc (.cells #[.slice none 0 0, .int .i64 0, .bool false, .int .i64 0, .int .i64 0, .bool false] 29)) := hW
  rw [← hW] at k0 k1 k2 ksz kx
  have n0 : ¬ EQ q w.heap.size := fun e => by have := hq _ e; omega
  have n1 : ¬ EQ q (w.heap.size + 1) := fun e => by have := hq _ e; omega
  have n2 : ¬ EQ q (w.heap.size + 1 + 1) := fun e => by have := hq _ e; omega
  have HQ : Aside (∀ b, EQ q b → b < w.heap.size) := hq
  have HH := asideI h
  have HRF := asideI (h.ref.fresh (w.heap.size + 1 + 1 + 1))
  have KX := asideI kx
  have K0 := asideI k0
  have K1 := asideI k1
  have K2 := asideI k2
  clear h kx k0 k1 k2 hW hq
  show Calls Try.prog 11 #[.pointer (some ⟨q.p, 0, none⟩), .agg #[.slice px nx cx, .int .i64 r.n, .bool r.down, .int .i64 r.ops, .int .i64 r.fails, .bool r.done], .agg #[.int .u8 a.k.toNat, .int .i64 a.z, .int .i64 a.n, .int .u8 a.c.toNat, .int .u8 a.cut.toNat, .bool a.done, .slice pa fn cap]] w _
  go_enter Try.func11, Try.ntmps11
  go_wp2_with (first
    | (go_at_call 39; rw [← HW.out]; refine (fail_raw (HH.out.at_.ext KX.out) a.n a.done).mono ?_; rintro e w4 ⟨rfl, hd4, hx4⟩; have HD4 := asideI hd4; have HX4 := asideI hx4; have HR4 := asideI ((HRF.out.ext KX.out).keepT hx4 (fun _ _ e => .inl (.inl (.inl e)))); have HQ4 := asideI (ne_lt HQ.out HH.out.lt (show w.heap.size + 1 + 1 + 1 ≤ w4.heap.size by have := hx4.size; omega)); have k4 := (hx4.block w.heap.size (by omega) n0).trans K0.out; obtain ⟨⟨a0, a1, a2, a3, a4, a5⟩, _⟩ := box6 k4; obtain ⟨s0, s1, s2, s3, s4, s5, s6⟩ := box7 ((hx4.block (w.heap.size + 1) (by omega) n1).trans K1.out); clear hd4 hx4 k4; simp only [])
    | (go_at_call 40; refine (ref_call (ns := [(rfail r a.n a.done).2]) (args := [.int .i64 a.n, .bool a.done]) (vs := [.int .i64 a.n, .bool a.done]) (rfail_pure r a.n a.done) (HR4.out) (argsNB a.n a.done) (HQ4.out)).mono ?_
       rintro e w5 ⟨x', rfl, hr5, hx5⟩
       obtain ⟨px', nx', cx', rfl⟩ := hr5.val
       have HR5 := asideI hr5
       have HX5 := asideI hx5
       have HX45 := asideI (HX4.out.trans (extQ hx5))
       have HD5 := asideI (HD4.out.ext hx5)
       have K25 := asideI ((HX45.out.block (w.heap.size + 1 + 1) (by omega) n2).trans K2.out)
       obtain ⟨_, b0, b1, b2, b3, b4, b5⟩ := box6 ((HX45.out.block w.heap.size (by omega) n0).trans K0.out)
       obtain ⟨_, e0, e1, e2, e3, e4, e5⟩ := box6 ((HX45.out.block (w.heap.size + 1 + 1) (by omega) n2).trans K2.out)
       clear hr5 hx5 a0 a1 a2 a3 a4 a5 s0 s1 s2 s3 s4 s5 s6
       simp only [List.map_cons, List.map_nil, rval])
    | go_in)
  obtain ⟨G1, G2⟩ := do_end (L := L) (B := B) (m := m) HD5.out (HH.out.ok.fail a.n a.done) HR5.out (HH.out.rn.fail a.n a.done) HH.out.lt ((extQ KX.out).trans HX45.out) n0 n2 K25.out ((failD d a.n a.done).2 == (rfail r a.n a.done).2) rfl
  refine bodyPost_ret (results_cell_tmp rfl _ _ (w.heap.size + 1 + 1) _ _ _ _ rfl G1 (show Try.prog.underlying 29 = some (Try.prog.underlying 29).get! by kernel_rfl) (by kernel_rfl) (by kernel_rfl)) rfl ?_
  exact G2
theorem do_crash {w : World} {q : Dp} {G : Nat → Prop} {L : Nat} {B : Int} {m : Nat} {d : Dv} {r : RDv} {x : Value} (h : Both w q G L B m d r x) (a : ActD) (pa : Option Addr) (fn cap : Nat) (hf : FtV w (QG q G) (.slice pa fn cap) a.fs) (hm : m < 90000) (hk : a.k.toNat % 9 = 8) :
    Calls Try.prog 11 #[.pointer (some ⟨q.p, 0, none⟩), x, actV a (.slice pa fn cap)] w (DoP w q G L B (m + L) (crashD d a.fs)) := by
  obtain ⟨px, nx, cx, rfl⟩ := h.ref.val
  have hk2 := kmod hk
  have hL : r.z.length ≤ 1000 := by have := h.ok.ok.len; have := h.ok.len; have := h.rn.len; omega
  obtain ⟨l0, l1, l2⟩ := h.at_.lt
  have hq : ∀ b, EQ q b → b < w.heap.size := fun b e => by rcases e with e | e | e <;> omega
  obtain ⟨W, hW⟩ : ∃ W, W = B3 w (rval (.slice px nx cx) r) (actV a (.slice pa fn cap)) := ⟨_, rfl⟩
  obtain ⟨k0, k1, k2, ksz⟩ := B3_at w (rval (.slice px nx cx) r) (actV a (.slice pa fn cap))
  have kx := B3_ext w (rval (.slice px nx cx) r) (actV a (.slice pa fn cap))
  have HW : Aside (W = ((w.alloc (.cells #[.slice px nx cx, .int .i64 r.n, .bool r.down, .int .i64 r.ops, .int .i64 r.fails, .bool r.done] 29)).alloc (.cells #[.int .u8 a.k.toNat, .int .i64 a.z, .int .i64 a.n, .int .u8 a.c.toNat, .int .u8 a.cut.toNat, .bool a.done, .slice pa fn cap] 35)).alloc (.cells #[.slice none 0 0, .int .i64 0, .bool false, .int .i64 0, .int .i64 0, .bool false] 29)) := hW
  rw [← hW] at k0 k1 k2 ksz kx
  have n0 : ¬ EQ q w.heap.size := fun e => by have := hq _ e; omega
  have n1 : ¬ EQ q (w.heap.size + 1) := fun e => by have := hq _ e; omega
  have n2 : ¬ EQ q (w.heap.size + 1 + 1) := fun e => by have := hq _ e; omega
  have HQ : Aside (∀ b, EQ q b → b < w.heap.size) := hq
  have HH := asideI h
  have HF := asideI hf
  have HF4 := asideI hf.ne
  clear hf
  have HRF := asideI (h.ref.fresh (w.heap.size + 1 + 1 + 1))
  have KX := asideI kx
  have K0 := asideI k0
  have K1 := asideI k1
  have K2 := asideI k2
  clear h kx k0 k1 k2 hW hq
  show Calls Try.prog 11 #[.pointer (some ⟨q.p, 0, none⟩), .agg #[.slice px nx cx, .int .i64 r.n, .bool r.down, .int .i64 r.ops, .int .i64 r.fails, .bool r.done], .agg #[.int .u8 a.k.toNat, .int .i64 a.z, .int .i64 a.n, .int .u8 a.c.toNat, .int .u8 a.cut.toNat, .bool a.done, .slice pa fn cap]] w _
  go_enter Try.func11, Try.ntmps11
  go_wp2_with (first
    | (go_at_call 12; rw [← HW.out]; refine (crash_raw (HH.out.at_.ext KX.out) HH.out.ok.ok (by have := HH.out.ok.n; omega) ((HF.out.1.sub (fun _ e => .inl e)).keeps (T := fun _ => False) (fun _ e => e.elim) KX.out)).mono ?_; rintro e w4 ⟨rfl, hd4, hx4⟩; have HD4 := asideI hd4; have HX4 := asideI hx4; have HR4 := asideI ((HRF.out.ext KX.out).keepT hx4 (fun _ _ e => .inl (.inl (.inl e)))); have HQ4 := asideI (ne_lt HQ.out HH.out.lt (show w.heap.size + 1 + 1 + 1 ≤ w4.heap.size by have := hx4.size; omega)); have k4 := (hx4.block w.heap.size (by omega) n0).trans K0.out; obtain ⟨⟨a0, a1, a2, a3, a4, a5⟩, _⟩ := box6 k4; obtain ⟨s0, s1, s2, s3, s4, s5, s6⟩ := box7 ((hx4.block (w.heap.size + 1) (by omega) n1).trans K1.out); clear hd4 hx4 k4; simp only [])
    | (go_at_call 41; refine (ref_call1 (args := [fSV (some a.fs)]) (vs := [.slice pa fn cap]) (r' := rcrash r (some a.fs)) (rcrash_pure r (some a.fs) hL (HH.out.rn.todo _)) (HR4.out) (((HF4.out.keeps (T := fun _ => False) (fun _ e => e.elim) KX.out).keeps (fun _ e _ => Or.inl (Or.inl e)) HX4.out).args) (HQ4.out)).mono ?_
       rintro e w5 ⟨x', rfl, hr5, hx5⟩
       obtain ⟨px', nx', cx', rfl⟩ := hr5.val
       have HR5 := asideI hr5
       have HX5 := asideI hx5
       have HX45 := asideI (HX4.out.trans (extQ hx5))
       have HD5 := asideI (HD4.out.ext hx5)
       have K25 := asideI ((HX45.out.block (w.heap.size + 1 + 1) (by omega) n2).trans K2.out)
       obtain ⟨_, b0, b1, b2, b3, b4, b5⟩ := box6 ((HX45.out.block w.heap.size (by omega) n0).trans K0.out)
       obtain ⟨_, e0, e1, e2, e3, e4, e5⟩ := box6 ((HX45.out.block (w.heap.size + 1 + 1) (by omega) n2).trans K2.out)
       clear hr5 hx5 a0 a1 a2 a3 a4 a5 s0 s1 s2 s3 s4 s5 s6
       simp only [rval])
    | go_in)
  obtain ⟨G1, G2⟩ := do_end (L := L) (B := B) (m := m + L) HD5.out (HH.out.ok.crash a.fs) HR5.out (HH.out.rn.crash (some a.fs)) HH.out.lt ((extQ KX.out).trans HX45.out) n0 n2 K25.out true rfl
  refine bodyPost_ret (results_cell_tmp rfl _ _ (w.heap.size + 1 + 1) _ _ _ _ rfl G1 (show Try.prog.underlying 29 = some (Try.prog.underlying 29).get! by kernel_rfl) (by kernel_rfl) (by kernel_rfl)) rfl ?_
  exact G2
end Go.Proofs.Ytifemhfpcichfaa

/- Zone: a call on both: Append. -/

set_option linter.unusedSimpArgs false
set_option linter.unusedVariables false
set_option maxHeartbeats 4000000
set_option maxRecDepth 1000000
namespace Go.Proofs.Ytifemhfpcichfaa
open Go.RowKit
open Go.Av Go.Maps

/-- The block that is appended, and how much of it. -/
def blkA (a : ActD) : List UInt8 := (List.replicate 64 a.c).set 0 (a.c + 1)
def cutA (a : ActD) : Nat := if 0 < a.cut.toNat ∧ a.cut.toNat < 64 then a.cut.toNat else 64
theorem blkA_len (a : ActD) : (blkA a).length = 64 := by simp [blkA]
theorem cutA_le (a : ActD) : cutA a ≤ 64 := by unfold cutA; split <;> omega
theorem u8_succ (c : UInt8) : (IntKind.u8.wrap ((c.toNat : Int) + 1)) = ((c + 1).toNat : Int) := by
  rw [UInt8.toNat_add]
  have := c.toNat_lt
  simp [IntKind.wrap, IntKind.bits, IntKind.signed]
theorem bb_range {w : World} {b : Nat} {bs : List UInt8} (h : BB w b bs) : w.rangeAt b 0 (u8s bs) := fun j v hv => by
  rw [cell_of_block (show w.heap[b]? = _ from h), Nat.zero_add]
  simpa using hv
theorem range_take {w : World} {b o : Nat} {bs : List UInt8} (h : w.rangeAt b o (u8s bs)) (n : Nat) : w.rangeAt b o (u8s (bs.take n)) := fun j v hv => h j v (by
  simp only [u8s, List.map_take] at hv ⊢
  rw [List.getElem?_take] at hv
  split at hv
  · exact hv
  · cases hv)
theorem u8_succ2 (c : UInt8) : (((c.toNat : Int) + 1) % 256) = ((c + 1).toNat : Int) := by
  rw [UInt8.toNat_add]
  have := c.toNat_lt
  simp
theorem extNE {q : Dp} {G : Nat → Prop} {w a b : World} (h : Ext (EQ q) a b) : Ext (NE q G w) a b := h.mono fun _ e => .inl (.inl e)
theorem do_end1 {w w5 : World} {q : Dp} {G : Nat → Prop} {L : Nat} {B : Int} {m : Nat} {d' : Dv} {r' : RDv} {p : Option Addr} {n c : Nat} (hD : DevAt w5 q d') (hO : OkN L B m d') (hR : RefAt w5 (NE q G w) r' (rval (.slice p n c) r')) (hN : RN L B r') (hG : ∀ b, G b → b < w.heap.size)
    (hx : Ext (EQ q) w w5) (n2 : ¬ EQ q (w.heap.size + 1 + 1))
    {b0 b1 b2 b3 b4 b5 : Value} {t' : TypeId} (k2 : w5.heap[w.heap.size + 1 + 1]? = some (.cells #[b0, b1, b2, b3, b4, b5] t')) {Z : World} (hZ : Z = set6 w5 (w.heap.size + 1 + 1) (.slice p n c) r'.n r'.down r'.ops r'.fails r'.done) :
    Z.heap[w.heap.size + 1 + 1]? = some (.cells #[.slice p n c, .int .i64 r'.n, .bool r'.down, .int .i64 r'.ops, .int .i64 r'.fails, .bool r'.done] t') ∧ ∀ bb, DoP w q G L B m d' (.returned (.tuple #[rval (.slice p n c) r', .bool bb])) Z := by
  subst hZ
  have h3 := set6_ext w5 (w.heap.size + 1 + 1) (.slice p n c) r'.n r'.down r'.ops r'.fails r'.done
  refine ⟨set6_same _ k2 _ _ _ _ _ _, fun bb => ⟨r', _, bb, rfl, ⟨hD.keep h3 ?_, hO, (hR.keepT h3 ?_).sub fun b e => .inl e, hN, fun b e => by have := hG b e; have := hx.size; have := h3.size; omega⟩, extB hx h3 (by rintro b rfl; right; omega)⟩⟩
  · rintro b e rfl
    exact n2 e
  · intro b _ e
    refine .inl (.inr ?_)
    omega
/-- Within the loop that writes to the block behind both calls. -/
structure LI (w5 : World) (vb : Nat) (p : Option Addr) (n c : Nat) (r' : RDv) (wr : World) : Prop where
  x : Ext (fun b => b = vb) (w5.alloc (.cells #[.slice p n c, .int .i64 r'.n, .bool r'.down, .int .i64 r'.ops, .int .i64 r'.fails, .bool r'.done] 29)) wr
  bb : ∃ bs : List UInt8, bs.length = 64 ∧ BB wr vb bs
theorem LI.start {w5 : World} {vb : Nat} {bs : List UInt8} (h : BB w5 vb bs) (p : Option Addr) (n c : Nat) (r' : RDv) : BB (w5.alloc (.cells #[.slice p n c, .int .i64 r'.n, .bool r'.down, .int .i64 r'.ops, .int .i64 r'.fails, .bool r'.done] 29)) vb bs := by
  have hlt := (Array.getElem?_eq_some_iff.1 (show w5.heap[vb]? = some _ from h)).1
  unfold BB
  rw [alloc_get, if_neg (by omega)]
  exact h
theorem LI.fin {w w5 wr : World} {vb : Nat} {p : Option Addr} {n c : Nat} {r' : RDv} {q : Dp} {d' : Dv} (H : LI w5 vb p n c r' wr) {bs : List UInt8} (hB : BB w5 vb bs) (hv : w.heap.size ≤ vb) (nv : ¬ EQ q vb) (hs : w.heap.size ≤ w5.heap.size) (hX : Ext (EQ q) w w5) (hD : DevAt w5 q d')
    {N : Nat → Prop} (hR : RefAt w5 N r' (rval (.slice p n c) r')) : wr.heap[w5.heap.size]? = some (.cells #[.slice p n c, .int .i64 r'.n, .bool r'.down, .int .i64 r'.ops, .int .i64 r'.fails, .bool r'.done] 29) ∧ Ext (EQ q) w wr ∧ DevAt wr q d' ∧ RefAt wr N r' (rval (.slice p n c) r') ∧ (∀ b, b < w5.heap.size → b ≠ vb → wr.heap[b]? = w5.heap[b]?) := by
  have hlt := (Array.getElem?_eq_some_iff.1 (show w5.heap[vb]? = some _ from hB)).1
  have h2 : Ext (fun b => b = w5.heap.size ∨ b = vb) w5 wr := ((ext_alloc1 w5 _).mono fun _ e => e.elim).trans (H.x.mono fun _ e => .inr e)
  refine ⟨?_, extB hX h2 (by rintro b (rfl | rfl) <;> right <;> omega), hD.keep h2 ?_, hR.keepT h2 ?_, fun b hb hn => h2.block b hb (by rintro (e | e) <;> omega)⟩
  · rw [H.x.block _ (by simp) (by omega), alloc_get, if_pos rfl]
  · rintro b e (rfl | rfl)
    · have := hD.lt; rcases e with e | e | e <;> omega
    · exact nv e
  · rintro b hb (rfl | rfl)
    · omega
    · right
      intro j v hj
      rw [cell_of_block (show w5.heap[b]? = _ from hB)] at hj
      simp [u8s] at hj
      obtain ⟨u, _, rfl⟩ := hj
      exact ⟨_, rfl⟩
theorem do_append {w : World} {q : Dp} {G : Nat → Prop} {L : Nat} {B : Int} {m : Nat} {d : Dv} {r : RDv} {x : Value} (h : Both w q G L B m d r x) (a : ActD) (pa : Option Addr) (fn cap : Nat) (hm : m < 90000) (hk : a.k.toNat % 9 < 4) :
    Calls Try.prog 11 #[.pointer (some ⟨q.p, 0, none⟩), x, actV a (.slice pa fn cap)] w (DoP w q G L B (m + 1) (appendD d a.z (cutA a) (u8s (blkA a))).1) := by
  obtain ⟨px, nx, cx, rfl⟩ := h.ref.val
  have hk2 := kmod (k := a.k) (j := a.k.toNat % 9) rfl
  have hL : r.z.length ≤ 1000 := by have := h.ok.ok.len; have := h.ok.len; have := h.rn.len; omega
  obtain ⟨l0, l1, l2⟩ := h.at_.lt
  have hq : ∀ b, EQ q b → b < w.heap.size := fun b e => by rcases e with e | e | e <;> omega
  obtain ⟨W, hW⟩ : ∃ W, W = B3 w (rval (.slice px nx cx) r) (actV a (.slice pa fn cap)) := ⟨_, rfl⟩
  obtain ⟨k0, k1, k2, ksz⟩ := B3_at w (rval (.slice px nx cx) r) (actV a (.slice pa fn cap))
  have kx := B3_ext w (rval (.slice px nx cx) r) (actV a (.slice pa fn cap))
  have HW : Aside (W = ((w.alloc (.cells #[.slice px nx cx, .int .i64 r.n, .bool r.down, .int .i64 r.ops, .int .i64 r.fails, .bool r.done] 29)).alloc (.cells #[.int .u8 a.k.toNat, .int .i64 a.z, .int .i64 a.n, .int .u8 a.c.toNat, .int .u8 a.cut.toNat, .bool a.done, .slice pa fn cap] 35)).alloc (.cells #[.slice none 0 0, .int .i64 0, .bool false, .int .i64 0, .int .i64 0, .bool false] 29)) := hW
  rw [← hW] at k0 k1 k2 ksz kx
  have n0 : ¬ EQ q w.heap.size := fun e => by have := hq _ e; omega
  have n1 : ¬ EQ q (w.heap.size + 1) := fun e => by have := hq _ e; omega
  have n2 : ¬ EQ q (w.heap.size + 1 + 1) := fun e => by have := hq _ e; omega
  have HQ : Aside (∀ b, EQ q b → b < w.heap.size) := hq
  have HH := asideI h
  have HRF := asideI (h.ref.fresh (w.heap.size + 1 + 1 + 1))
  have KX := asideI kx
  have K0 := asideI k0
  have K1 := asideI k1
  have K2 := asideI k2
  obtain ⟨vb, hvb⟩ : ∃ vb, vb = W.heap.size := ⟨_, rfl⟩
  have HF := full_raw W a.c
  rw [← hvb] at HF
  rw [ksz] at hvb
  replace HF := asideI HF
  have v0 : ¬ vb = w.heap.size := by omega
  have v1 : ¬ vb = w.heap.size + 1 := by omega
  have v2 : ¬ vb = w.heap.size + 1 + 1 := by omega
  have v0' : ¬ w.heap.size = vb := by omega
  have v1' : ¬ w.heap.size + 1 = vb := by omega
  have v2' : ¬ w.heap.size + 1 + 1 = vb := by omega
  have HVB := asideI hvb
  have nv : ¬ EQ q vb := fun e => by have := hq _ e; omega
  clear h kx k0 k1 k2 hW hq hvb
  show Calls Try.prog 11 #[.pointer (some ⟨q.p, 0, none⟩), .agg #[.slice px nx cx, .int .i64 r.n, .bool r.down, .int .i64 r.ops, .int .i64 r.fails, .bool r.done], .agg #[.int .u8 a.k.toNat, .int .i64 a.z, .int .i64 a.n, .int .u8 a.c.toNat, .int .u8 a.cut.toNat, .bool a.done, .slice pa fn cap]] w _
  have HBL : Aside (∀ z ∈ r.z, (bl z.b).length ≤ 1000) := fun z hz => by have := (HH.out.rn.z z hz).2.2.1; have := HH.out.rn.hB; omega
  have NVN : Aside (¬ NE q G w vb) := fun e => by
    rcases e with (e | e) | e
    · exact nv e
    · have := HH.out.lt _ e; have := HVB.out; omega
    · have := HVB.out; omega
  by_cases hcut : 0 < a.cut.toNat ∧ a.cut.toNat < 64
  · obtain ⟨hc1, hc2⟩ := hcut
    have hcA : cutA a = a.cut.toNat := by unfold cutA; rw [if_pos ⟨hc1, hc2⟩]
    have hc3 : (0 : Int) < (a.cut.toNat : Int) := by omega
    have hc4 : (a.cut.toNat : Int) < 64 := by omega
    have HTK : Aside (((blkA a).take a.cut.toNat).length = a.cut.toNat) := by show _ = _; rw [List.length_take, blkA_len]; omega
    go_enter Try.func11, Try.ntmps11
    go_wp2_with (first
      | (go_at_call 16; rw [← HW.out]; refine HF.out.mono ?_; rintro e w1 ⟨rfl, hb1, hx1⟩
         obtain ⟨s0, s1, s2, s3, s4, s5, s6⟩ := box7 ((hx1.block (w.heap.size + 1) (by omega) (fun e => e)).trans K1.out)
         obtain ⟨z0, z1⟩ := hb1.cell (i := 0) (by simp)
         obtain ⟨W2, hW2⟩ : ∃ W2, W2 = w1.setCell ⟨vb, 0, none⟩ (.int .u8 (((a.c.toNat : Int) + 1) % 256)) := ⟨_, rfl⟩
         have hb2 : BB W2 vb (blkA a) := by rw [hW2, u8_succ2]; exact hb1.set (a.c + 1)
         have hx2 : Ext (EQ q) W W2 := by rw [hW2]; exact extB (q := q) (w := W) (extQ hx1) (ext_set1 w1 vb 0 _) (fun b (e : b = vb) => .inr (by have := HVB.out; omega))
         have hd2 : DevAt W2 q d := by rw [hW2]; exact ((HH.out.at_.ext KX.out).ext hx1).setO nv 0 _
         have HB2 := asideI hb2
         have HX2 := asideI hx2
         have HD2 := asideI hd2
         have HW2 := asideI hW2
         have KS2 := asideI ((Array.getElem?_eq_some_iff.1 (show W2.heap[vb]? = some _ from hb2)).1)
         clear hb1 hx1 hW2 hb2 hx2 hd2
         simp only [])
      | (go_at_call 15; rw [← HW2.out]
         refine (append_raw HD2.out a.z (pa := some ⟨vb, 0, none⟩) (n := a.cut.toNat) (cap := 64) (cs := u8s (blkA a)) (fun _ => ⟨vb, 0, rfl, nv, bb_range HB2.out, by simp [u8s, blkA]⟩) (by have := HH.out.ok.n; omega) (fun i hi => by have := HH.out.ok.ok.wr i hi; have := HH.out.ok.ok.lo i (Nat.zero_le _) hi; have := HH.out.ok.ok.nb; unfold zAt at *; omega)).mono ?_
         rintro e w4 ⟨rfl, hd4, hx4⟩
         have HD4 := asideI hd4
         have hx24 : Ext (EQ q) W w4 := HX2.out.trans hx4
         have HX4 := asideI hx24
         have k4 := (hx24.block w.heap.size (by omega) n0).trans K0.out
         obtain ⟨⟨a0, a1, a2, a3, a4, a5⟩, _⟩ := box6 k4
         obtain ⟨t0, t1, t2, t3, t4, t5, t6⟩ := box7 ((hx24.block (w.heap.size + 1) (by omega) n1).trans K1.out)
         have HB4 : Aside (BB w4 vb (blkA a)) := (hx4.block vb (by have := KS2.out; omega) nv).trans HB2.out
         have HR4 := asideI (((HRF.out.ext KX.out).keep (extNE HX2.out)).keep (extNE hx4))
         have HQ4 := asideI (ne_lt HQ.out HH.out.lt (show w.heap.size + 1 + 1 + 1 ≤ w4.heap.size by have := hx24.size; omega))
         clear hd4 hx4 hx24 k4 s0 s1 s2 s3 s4 s5 s6 z0 z1
         simp only [])
      | (go_at_call 42
         refine (ref_call (ns := [(rappend r a.z ((blkA a).take a.cut.toNat)).2.1, (rappend r a.z ((blkA a).take a.cut.toNat)).2.2]) (args := [.int .i64 a.z, .sl 1 (bytesV ((blkA a).take a.cut.toNat))]) (vs := [.int .i64 a.z, .slice (some ⟨vb, 0, none⟩) a.cut.toNat 64]) (rappend_pure r a.z ((blkA a).take a.cut.toNat) hL (HBL.out)) HR4.out (argsB (ns := [a.z]) (cap := 64) (by rw [HTK.out]) (by rw [HTK.out]; omega) (range_take (bb_range HB4.out) a.cut.toNat) NVN.out) HQ4.out).mono ?_
         rintro e w5 ⟨x', rfl, hr5, hx5⟩
         obtain ⟨px', nx', cx', rfl⟩ := hr5.val
         have HR5 := asideI hr5
         have HX45 := asideI (HX4.out.trans (extQ hx5))
         have HD5 := asideI (HD4.out.ext hx5)
         have HB5 : Aside (BB w5 vb (blkA a)) := (hx5.block vb (World.block_lt_of_cell? w4 ⟨vb, 0, none⟩ (HB4.out.cell (i := 0) (by rw [blkA_len]; omega)).1) id).trans HB4.out
         have HS5 := asideI (show w.heap.size + 1 + 1 + 1 ≤ w5.heap.size by have := HX45.out.size; omega)
         clear hr5 hx5 a0 a1 a2 a3 a4 a5 t0 t1 t2 t3 t4 t5 t6
         simp only [List.map_cons, List.map_nil, rval])
      | go_in)
    go_loopg [16] a.cut.toNat (fun gg s16 wr => ∃ (k : Nat), s16 = .int .i64 k ∧ k ≤ a.cut.toNat ∧ a.cut.toNat - k ≤ gg ∧ Aside (LI w5 vb px' nx' cx' (rappend r a.z ((blkA a).take a.cut.toNat)).1 wr))
    case atStart => exact ⟨0, rfl, by omega, by omega, Ext.refl _ _, _, blkA_len a, (LI.start HB5.out _ _ _ _)⟩
    case round =>
      obtain ⟨k, rfl, hk9, hgg, H2⟩ := hrel
      by_cases hlt : k < a.cut.toNat
      · have hz : (k : Int) < a.cut.toNat := by omega
        have hw : IntKind.i64.wrap ((k : Int) + 1) = (k : Int) + 1 := by rw [IntKind.wrap_i64]; omega
        obtain ⟨bs, hl, hb⟩ := H2.out.bb
        obtain ⟨c0, c1⟩ := hb.cell (i := k) (by rw [hl]; omega)
        have HB := asideI hb
        clear hb
        obtain ⟨u, hu⟩ : ∃ u, u = bs.getD k 0 := ⟨_, rfl⟩
        rw [← hu] at c0
        clear hu
        go_wp2
        go_roundg (a.cut.toNat - (k + 1))
        case measure => omega
        case rel => exact ⟨k + 1, by simp, by omega, by omega, H2.out.x.trans (ext_set1 _ _ _ _), bs.set k (u + 1), by rw [List.length_set]; exact hl, by rw [u8_succ2 u]; exact HB.out.set (u + 1)⟩
      · obtain rfl : k = a.cut.toNat := by omega
        obtain ⟨Y1, Y2, Y3, Y4, Y5⟩ := LI.fin H2.out HB5.out (by have := HVB.out; omega) nv (by have := HS5.out; omega) ((extQ KX.out).trans HX45.out) HD5.out HR5.out
        have G6 := asideI (And.intro Y2 (And.intro Y3 Y4))
        have k20 : wr.heap[w.heap.size + 1 + 1]? = some (.cells #[.slice none 0 0, .int .i64 0, .bool false, .int .i64 0, .int .i64 0, .bool false] 29) := (Y5 _ (by have := HS5.out; omega) v2').trans ((HX45.out.block (w.heap.size + 1 + 1) (by omega) n2).trans K2.out)
        have K20 := asideI k20
        obtain ⟨⟨a0, a1, a2, a3, a4, a5⟩, _⟩ := box6 Y1
        obtain ⟨_, e0, e1, e2, e3, e4, e5⟩ := box6 k20
        clear Y1 Y2 Y3 Y4 Y5 k20
        go_wp2
        all_goals
          obtain ⟨G1, G2⟩ := do_end1 (L := L) (B := B) (m := m + 1) G6.out.2.1 (HH.out.ok.append a.z a.cut.toNat (bs := blkA a) (fun _ => blkA_len a)) G6.out.2.2 (HH.out.rn.append a.z ((blkA a).take a.cut.toNat)) HH.out.lt G6.out.1 n2 K20.out rfl
          refine bodyPost_ret (results_cell_tmp rfl _ _ (w.heap.size + 1 + 1) _ _ _ _ rfl G1 (show Try.prog.underlying 29 = some (Try.prog.underlying 29).get! by kernel_rfl) (by kernel_rfl) (by kernel_rfl)) rfl ?_
          rw [hcA]
          exact G2 _
  · have hcA : cutA a = 64 := by unfold cutA; rw [if_neg hcut]
    have HTK : Aside (((blkA a).take 64).length = 64) := by show _ = _; rw [List.length_take, blkA_len]; rfl
    by_cases hc1 : 0 < a.cut.toNat
    · have hc3 : (0 : Int) < (a.cut.toNat : Int) := by omega
      have hc4 : ¬ (a.cut.toNat : Int) < 64 := by omega
      go_enter Try.func11, Try.ntmps11
      go_wp2_with (first
        | (go_at_call 16; rw [← HW.out]; refine HF.out.mono ?_; rintro e w1 ⟨rfl, hb1, hx1⟩
           obtain ⟨s0, s1, s2, s3, s4, s5, s6⟩ := box7 ((hx1.block (w.heap.size + 1) (by omega) (fun e => e)).trans K1.out)
           obtain ⟨z0, z1⟩ := hb1.cell (i := 0) (by simp)
           obtain ⟨W2, hW2⟩ : ∃ W2, W2 = w1.setCell ⟨vb, 0, none⟩ (.int .u8 (((a.c.toNat : Int) + 1) % 256)) := ⟨_, rfl⟩
           have hb2 : BB W2 vb (blkA a) := by rw [hW2, u8_succ2]; exact hb1.set (a.c + 1)
           have hx2 : Ext (EQ q) W W2 := by rw [hW2]; exact extB (q := q) (w := W) (extQ hx1) (ext_set1 w1 vb 0 _) (fun b (e : b = vb) => .inr (by have := HVB.out; omega))
           have hd2 : DevAt W2 q d := by rw [hW2]; exact ((HH.out.at_.ext KX.out).ext hx1).setO nv 0 _
           have HB2 := asideI hb2
           have HX2 := asideI hx2
           have HD2 := asideI hd2
           have HW2 := asideI hW2
           have KS2 := asideI ((Array.getElem?_eq_some_iff.1 (show W2.heap[vb]? = some _ from hb2)).1)
           clear hb1 hx1 hW2 hb2 hx2 hd2
           simp only [])
        | (go_at_call 15; rw [← HW2.out]
           refine (append_raw HD2.out a.z (pa := some ⟨vb, 0, none⟩) (n := 64) (cap := 64) (cs := u8s (blkA a)) (fun _ => ⟨vb, 0, rfl, nv, bb_range HB2.out, by simp [u8s, blkA]⟩) (by have := HH.out.ok.n; omega) (fun i hi => by have := HH.out.ok.ok.wr i hi; have := HH.out.ok.ok.lo i (Nat.zero_le _) hi; have := HH.out.ok.ok.nb; unfold zAt at *; omega)).mono ?_
           rintro e w4 ⟨rfl, hd4, hx4⟩
           have HD4 := asideI hd4
           have hx24 : Ext (EQ q) W w4 := HX2.out.trans hx4
           have HX4 := asideI hx24
           have k4 := (hx24.block w.heap.size (by omega) n0).trans K0.out
           obtain ⟨⟨a0, a1, a2, a3, a4, a5⟩, _⟩ := box6 k4
           obtain ⟨t0, t1, t2, t3, t4, t5, t6⟩ := box7 ((hx24.block (w.heap.size + 1) (by omega) n1).trans K1.out)
           have HB4 : Aside (BB w4 vb (blkA a)) := (hx4.block vb (by have := KS2.out; omega) nv).trans HB2.out
           have HR4 := asideI (((HRF.out.ext KX.out).keep (extNE HX2.out)).keep (extNE hx4))
           have HQ4 := asideI (ne_lt HQ.out HH.out.lt (show w.heap.size + 1 + 1 + 1 ≤ w4.heap.size by have := hx24.size; omega))
           clear hd4 hx4 hx24 k4 s0 s1 s2 s3 s4 s5 s6 z0 z1
           simp only [])
        | (go_at_call 42
           refine (ref_call (ns := [(rappend r a.z ((blkA a).take 64)).2.1, (rappend r a.z ((blkA a).take 64)).2.2]) (args := [.int .i64 a.z, .sl 1 (bytesV ((blkA a).take 64))]) (vs := [.int .i64 a.z, .slice (some ⟨vb, 0, none⟩) 64 64]) (rappend_pure r a.z ((blkA a).take 64) hL (HBL.out)) HR4.out (argsB (ns := [a.z]) (cap := 64) (by rw [HTK.out]) (by rw [HTK.out]; omega) (range_take (bb_range HB4.out) 64) NVN.out) HQ4.out).mono ?_
           rintro e w5 ⟨x', rfl, hr5, hx5⟩
           obtain ⟨px', nx', cx', rfl⟩ := hr5.val
           have HR5 := asideI hr5
           have HX45 := asideI (HX4.out.trans (extQ hx5))
           have HD5 := asideI (HD4.out.ext hx5)
           have HB5 : Aside (BB w5 vb (blkA a)) := (hx5.block vb (World.block_lt_of_cell? w4 ⟨vb, 0, none⟩ (HB4.out.cell (i := 0) (by rw [blkA_len]; omega)).1) id).trans HB4.out
           have HS5 := asideI (show w.heap.size + 1 + 1 + 1 ≤ w5.heap.size by have := HX45.out.size; omega)
           clear hr5 hx5 a0 a1 a2 a3 a4 a5 t0 t1 t2 t3 t4 t5 t6
           simp only [List.map_cons, List.map_nil, rval])
        | go_in)
      go_loopg [16] 64 (fun gg s16 wr => ∃ (k : Nat), s16 = .int .i64 k ∧ k ≤ 64 ∧ 64 - k ≤ gg ∧ Aside (LI w5 vb px' nx' cx' (rappend r a.z ((blkA a).take 64)).1 wr))
      case atStart => exact ⟨0, rfl, by omega, by omega, Ext.refl _ _, _, blkA_len a, (LI.start HB5.out _ _ _ _)⟩
      case round =>
        obtain ⟨k, rfl, hk9, hgg, H2⟩ := hrel
        by_cases hlt : k < 64
        · have hz : (k : Int) < 64 := by omega
          have hw : IntKind.i64.wrap ((k : Int) + 1) = (k : Int) + 1 := by rw [IntKind.wrap_i64]; omega
          obtain ⟨bs, hl, hb⟩ := H2.out.bb
          obtain ⟨c0, c1⟩ := hb.cell (i := k) (by rw [hl]; omega)
          have HB := asideI hb
          clear hb
          obtain ⟨u, hu⟩ : ∃ u, u = bs.getD k 0 := ⟨_, rfl⟩
          rw [← hu] at c0
          clear hu
          go_wp2
          go_roundg (64 - (k + 1))
          case measure => omega
          case rel => exact ⟨k + 1, by simp, by omega, by omega, H2.out.x.trans (ext_set1 _ _ _ _), bs.set k (u + 1), by rw [List.length_set]; exact hl, by rw [u8_succ2 u]; exact HB.out.set (u + 1)⟩
        · obtain rfl : k = 64 := by omega
          obtain ⟨Y1, Y2, Y3, Y4, Y5⟩ := LI.fin H2.out HB5.out (by have := HVB.out; omega) nv (by have := HS5.out; omega) ((extQ KX.out).trans HX45.out) HD5.out HR5.out
          have G6 := asideI (And.intro Y2 (And.intro Y3 Y4))
          have k20 : wr.heap[w.heap.size + 1 + 1]? = some (.cells #[.slice none 0 0, .int .i64 0, .bool false, .int .i64 0, .int .i64 0, .bool false] 29) := (Y5 _ (by have := HS5.out; omega) v2').trans ((HX45.out.block (w.heap.size + 1 + 1) (by omega) n2).trans K2.out)
          have K20 := asideI k20
          obtain ⟨⟨a0, a1, a2, a3, a4, a5⟩, _⟩ := box6 Y1
          obtain ⟨_, e0, e1, e2, e3, e4, e5⟩ := box6 k20
          clear Y1 Y2 Y3 Y4 Y5 k20
          go_wp2
          all_goals
            obtain ⟨G1, G2⟩ := do_end1 (L := L) (B := B) (m := m + 1) G6.out.2.1 (HH.out.ok.append a.z 64 (bs := blkA a) (fun _ => blkA_len a)) G6.out.2.2 (HH.out.rn.append a.z ((blkA a).take 64)) HH.out.lt G6.out.1 n2 K20.out rfl
            refine bodyPost_ret (results_cell_tmp rfl _ _ (w.heap.size + 1 + 1) _ _ _ _ rfl G1 (show Try.prog.underlying 29 = some (Try.prog.underlying 29).get! by kernel_rfl) (by kernel_rfl) (by kernel_rfl)) rfl ?_
            rw [hcA]
            exact G2 _
    · have hc3 : ¬ (0 : Int) < (a.cut.toNat : Int) := by omega
      go_enter Try.func11, Try.ntmps11
      go_wp2_with (first
        | (go_at_call 16; rw [← HW.out]; refine HF.out.mono ?_; rintro e w1 ⟨rfl, hb1, hx1⟩
           obtain ⟨s0, s1, s2, s3, s4, s5, s6⟩ := box7 ((hx1.block (w.heap.size + 1) (by omega) (fun e => e)).trans K1.out)
           obtain ⟨z0, z1⟩ := hb1.cell (i := 0) (by simp)
           obtain ⟨W2, hW2⟩ : ∃ W2, W2 = w1.setCell ⟨vb, 0, none⟩ (.int .u8 (((a.c.toNat : Int) + 1) % 256)) := ⟨_, rfl⟩
           have hb2 : BB W2 vb (blkA a) := by rw [hW2, u8_succ2]; exact hb1.set (a.c + 1)
           have hx2 : Ext (EQ q) W W2 := by rw [hW2]; exact extB (q := q) (w := W) (extQ hx1) (ext_set1 w1 vb 0 _) (fun b (e : b = vb) => .inr (by have := HVB.out; omega))
           have hd2 : DevAt W2 q d := by rw [hW2]; exact ((HH.out.at_.ext KX.out).ext hx1).setO nv 0 _
           have HB2 := asideI hb2
           have HX2 := asideI hx2
           have HD2 := asideI hd2
           have HW2 := asideI hW2
           have KS2 := asideI ((Array.getElem?_eq_some_iff.1 (show W2.heap[vb]? = some _ from hb2)).1)
           clear hb1 hx1 hW2 hb2 hx2 hd2
           simp only [])
        | (go_at_call 15; rw [← HW2.out]
           refine (append_raw HD2.out a.z (pa := some ⟨vb, 0, none⟩) (n := 64) (cap := 64) (cs := u8s (blkA a)) (fun _ => ⟨vb, 0, rfl, nv, bb_range HB2.out, by simp [u8s, blkA]⟩) (by have := HH.out.ok.n; omega) (fun i hi => by have := HH.out.ok.ok.wr i hi; have := HH.out.ok.ok.lo i (Nat.zero_le _) hi; have := HH.out.ok.ok.nb; unfold zAt at *; omega)).mono ?_
           rintro e w4 ⟨rfl, hd4, hx4⟩
           have HD4 := asideI hd4
           have hx24 : Ext (EQ q) W w4 := HX2.out.trans hx4
           have HX4 := asideI hx24
           have k4 := (hx24.block w.heap.size (by omega) n0).trans K0.out
           obtain ⟨⟨a0, a1, a2, a3, a4, a5⟩, _⟩ := box6 k4
           obtain ⟨t0, t1, t2, t3, t4, t5, t6⟩ := box7 ((hx24.block (w.heap.size + 1) (by omega) n1).trans K1.out)
           have HB4 : Aside (BB w4 vb (blkA a)) := (hx4.block vb (by have := KS2.out; omega) nv).trans HB2.out
           have HR4 := asideI (((HRF.out.ext KX.out).keep (extNE HX2.out)).keep (extNE hx4))
           have HQ4 := asideI (ne_lt HQ.out HH.out.lt (show w.heap.size + 1 + 1 + 1 ≤ w4.heap.size by have := hx24.size; omega))
           clear hd4 hx4 hx24 k4 s0 s1 s2 s3 s4 s5 s6 z0 z1
           simp only [])
        | (go_at_call 42
           refine (ref_call (ns := [(rappend r a.z ((blkA a).take 64)).2.1, (rappend r a.z ((blkA a).take 64)).2.2]) (args := [.int .i64 a.z, .sl 1 (bytesV ((blkA a).take 64))]) (vs := [.int .i64 a.z, .slice (some ⟨vb, 0, none⟩) 64 64]) (rappend_pure r a.z ((blkA a).take 64) hL (HBL.out)) HR4.out (argsB (ns := [a.z]) (cap := 64) (by rw [HTK.out]) (by rw [HTK.out]; omega) (range_take (bb_range HB4.out) 64) NVN.out) HQ4.out).mono ?_
           rintro e w5 ⟨x', rfl, hr5, hx5⟩
           obtain ⟨px', nx', cx', rfl⟩ := hr5.val
           have HR5 := asideI hr5
           have HX45 := asideI (HX4.out.trans (extQ hx5))
           have HD5 := asideI (HD4.out.ext hx5)
           have HB5 : Aside (BB w5 vb (blkA a)) := (hx5.block vb (World.block_lt_of_cell? w4 ⟨vb, 0, none⟩ (HB4.out.cell (i := 0) (by rw [blkA_len]; omega)).1) id).trans HB4.out
           have HS5 := asideI (show w.heap.size + 1 + 1 + 1 ≤ w5.heap.size by have := HX45.out.size; omega)
           clear hr5 hx5 a0 a1 a2 a3 a4 a5 t0 t1 t2 t3 t4 t5 t6
           simp only [List.map_cons, List.map_nil, rval])
        | go_in)
      go_loopg [16] 64 (fun gg s16 wr => ∃ (k : Nat), s16 = .int .i64 k ∧ k ≤ 64 ∧ 64 - k ≤ gg ∧ Aside (LI w5 vb px' nx' cx' (rappend r a.z ((blkA a).take 64)).1 wr))
      case atStart => exact ⟨0, rfl, by omega, by omega, Ext.refl _ _, _, blkA_len a, (LI.start HB5.out _ _ _ _)⟩
      case round =>
        obtain ⟨k, rfl, hk9, hgg, H2⟩ := hrel
        by_cases hlt : k < 64
        · have hz : (k : Int) < 64 := by omega
          have hw : IntKind.i64.wrap ((k : Int) + 1) = (k : Int) + 1 := by rw [IntKind.wrap_i64]; omega
          obtain ⟨bs, hl, hb⟩ := H2.out.bb
          obtain ⟨c0, c1⟩ := hb.cell (i := k) (by rw [hl]; omega)
          have HB := asideI hb
          clear hb
          obtain ⟨u, hu⟩ : ∃ u, u = bs.getD k 0 := ⟨_, rfl⟩
          rw [← hu] at c0
          clear hu
          go_wp2
          go_roundg (64 - (k + 1))
          case measure => omega
          case rel => exact ⟨k + 1, by simp, by omega, by omega, H2.out.x.trans (ext_set1 _ _ _ _), bs.set k (u + 1), by rw [List.length_set]; exact hl, by rw [u8_succ2 u]; exact HB.out.set (u + 1)⟩
        · obtain rfl : k = 64 := by omega
          obtain ⟨Y1, Y2, Y3, Y4, Y5⟩ := LI.fin H2.out HB5.out (by have := HVB.out; omega) nv (by have := HS5.out; omega) ((extQ KX.out).trans HX45.out) HD5.out HR5.out
          have G6 := asideI (And.intro Y2 (And.intro Y3 Y4))
          have k20 : wr.heap[w.heap.size + 1 + 1]? = some (.cells #[.slice none 0 0, .int .i64 0, .bool false, .int .i64 0, .int .i64 0, .bool false] 29) := (Y5 _ (by have := HS5.out; omega) v2').trans ((HX45.out.block (w.heap.size + 1 + 1) (by omega) n2).trans K2.out)
          have K20 := asideI k20
          obtain ⟨⟨a0, a1, a2, a3, a4, a5⟩, _⟩ := box6 Y1
          obtain ⟨_, e0, e1, e2, e3, e4, e5⟩ := box6 k20
          clear Y1 Y2 Y3 Y4 Y5 k20
          go_wp2
          all_goals
            obtain ⟨G1, G2⟩ := do_end1 (L := L) (B := B) (m := m + 1) G6.out.2.1 (HH.out.ok.append a.z 64 (bs := blkA a) (fun _ => blkA_len a)) G6.out.2.2 (HH.out.rn.append a.z ((blkA a).take 64)) HH.out.lt G6.out.1 n2 K20.out rfl
            refine bodyPost_ret (results_cell_tmp rfl _ _ (w.heap.size + 1 + 1) _ _ _ _ rfl G1 (show Try.prog.underlying 29 = some (Try.prog.underlying 29).get! by kernel_rfl) (by kernel_rfl) (by kernel_rfl)) rfl ?_
            rw [hcA]
            exact G2 _
end Go.Proofs.Ytifemhfpcichfaa
