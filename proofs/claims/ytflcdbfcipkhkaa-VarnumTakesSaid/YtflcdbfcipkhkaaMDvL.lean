import Derived.Test.YtflcdbfcipkhkaaMDvF

set_option linter.unusedVariables false
set_option linter.unusedSimpArgs false

/- Varnum: calls, as VarnumTakes makes them. -/

set_option linter.unusedSimpArgs false
set_option linter.unusedVariables false
set_option maxHeartbeats 4000000
set_option maxRecDepth 1000000
namespace Go.Proofs.Ytflcdbfcipkhkaa
open Go.RowKit
open Go.Av Go.Maps
theorem bs_ns (l : List Nat) : bs l = (l.map fun (n : Nat) => (n : Int)).map (SV.int .u8) := by simp [bs]
theorem conv_ok {mu : Mem} {W : World} (hm : MemOK mu W) {l : List Nat} {p : Option Addr} {n c : Nat} (h : Rep mu (.sl 1 (bs l)) (.slice p n c)) : (convert 22 9 (.slice p n c)).run Try.prog W = .ok (.string (sOf l)) W := by
  have ht : Try.prog.underlying 22 = some (.slice 5) := by kernel_rfl
  have hu : Try.prog.underlying 5 = some (.int .u8) := by kernel_rfl
  have ht' : Try.prog.underlying 9 = some .string := by kernel_rfl
  rw [bs_ns] at h
  have hs : sOf l = (l.map fun (n : Nat) => (n : Int)).foldl (fun r n => r.push (UInt8.ofNat n.toNat)) ByteArray.empty := by
    rw [foldl_push]
    have := bs_str l
    rw [← this, bs_ns]
    apply ByteArray.ext
    simp [byteOf, Av.byteOf]
  rw [hs]
  generalize (l.map fun (n : Nat) => (n : Int)) = ns at h
  rcases h.inv_sl with ⟨⟨pp, cap, e1, _⟩, e2⟩ | ⟨b, off, cap, vals, e1, _, q1, q2, q3⟩
  · rw [e1, run_convert_bytes_string W 22 9 5 pp 0 cap ht hu ht']
    have : ns = [] := by simpa using e2
    subst this
    cases pp <;> simp [Conv.bytesToString, loadCells, loadCellsFrom]
  · rw [e1, run_convert_bytes_string W 22 9 5 _ _ _ ht hu ht']
    refine run_bytesToString W _ _ _ ns ?_
    have hl : (ns.map (SV.int .u8)).length = ns.length := by simp
    rw [hl]
    have := run_loadCells_list (P := Try.prog) W ⟨b, off, none⟩ (ns.map (Value.int .u8)) (fun j v hj => by
      have hj' : j < ns.length := by
        rcases Nat.lt_or_ge j ns.length with q | q
        · exact q
        · rw [List.getElem?_eq_none (by simpa using q)] at hj; cases hj
      have h1 := q2 j 0 (by simpa using hj') (by omega)
      have h2 := q3 j 0 (by simpa using hj') (by omega)
      have h3 : vals j 0 = .int .u8 ns[j] := by
        simp only [List.getD_eq_getElem?_getD, List.getElem?_map, List.getElem?_eq_getElem hj', Option.map_some, Option.getD_some] at h2
        exact Rep.inv_int h2
      rw [List.getElem?_map, List.getElem?_eq_getElem hj'] at hj
      cases hj
      rw [Addr.add_lit]
      have := (hm _ _ _ h1).1
      rw [h3] at this
      simpa using this)
    simpa using this
/-- A call that makes bytes of its own. -/
theorem own_call {f : FuncId} {args : List SV} {L : List Nat} (hp : Pure Try.prog f args (.own 1 (bs L))) {vs : List Value} (ha : RepArgs (fun _ _ => none) args vs) (w : World) :
    Calls Try.prog f vs.toArray w fun e w' => ∃ m p c, e = .returned (.slice p L.length c) ∧ MemOK m w' ∧ Rep m (.sl 1 (bs L)) (.slice p L.length c) ∧ Ext (fun _ => False) w w' := by
  refine (hp (fun _ _ => none) w vs (fun b j v e => by cases e) ha).mono ?_
  rintro e w' ⟨val, mu', rfl, hx, hle, hm', hag, ⟨gx, hrep, _⟩⟩
  rcases hrep with ⟨hr, rfl⟩ | ⟨b, off, cap, rfl, hr, _, hok, _⟩
  · have : L = [] := by
      rcases hr.inv_sl with ⟨_, hx⟩ | ⟨_, _, _, _, e, _⟩
      · cases L with | nil => rfl | cons a r => simp [bs] at hx
      · cases e
    subst this
    exact ⟨mu', none, 0, rfl, hm', .slnil 1, hx⟩
  · refine ⟨mu', _, _, by rw [show (bs L).length = L.length by simp], hm', ?_, hx⟩
    rw [← show (bs L).length = L.length by simp]; exact hr
/-- A call that computes alone, of no memory. -/
theorem sv_call {f : FuncId} {args : List SV} {rv : SV} (hp : Pure Try.prog f args (.sv rv)) {vs : List Value} (ha : RepArgs (fun _ _ => none) args vs) (w : World) :
    Calls Try.prog f vs.toArray w fun e w' => ∃ val mu', e = .returned val ∧ Rep mu' rv val ∧ Ext (fun _ => False) w w' := by
  refine (hp (fun _ _ => none) w vs (fun b j v e => by cases e) ha).mono ?_
  rintro e w' ⟨val, mu', rfl, hx, hle, hm', hag, ⟨gx, hrep, _⟩⟩
  exact ⟨val, mu', rfl, hrep, hx⟩
theorem int_call {f : FuncId} {args : List SV} {k : IntKind} {n : Int} (hp : Pure Try.prog f args (.sv (.int k n))) {vs : List Value} (ha : RepArgs (fun _ _ => none) args vs) (w : World) :
    Calls Try.prog f vs.toArray w fun e w' => e = .returned (.int k n) ∧ Ext (fun _ => False) w w' := by
  refine (sv_call hp ha w).mono ?_
  rintro e w' ⟨val, mu', rfl, hr, hx⟩
  rw [Rep.inv_int hr]; exact ⟨rfl, hx⟩
theorem awake_w (w : World) : Calls Try.prog 15 #[] w fun e w' => e = .returned (.bool true) ∧ Ext (fun _ => False) w w' := by
  refine (sv_call awake_pure argsNil w).mono ?_
  rintro e w' ⟨val, mu', rfl, hr, hx⟩
  rw [Rep.inv_bool hr]; exact ⟨rfl, hx⟩
theorem text_w (s : ByteArray) (h : s.size ≤ 300) (w : World) : Calls Try.prog 27 #[.string s] w fun e w' => ∃ m p c, e = .returned (.slice p (layN (zig s.size) ++ bytesNat s).length c) ∧ MemOK m w' ∧ Rep m (.sl 1 (bs (layN (zig s.size) ++ bytesNat s))) (.slice p (layN (zig s.size) ++ bytesNat s).length c) ∧ Ext (fun _ => False) w w' :=
  own_call (text_pure s (by omega)) (argsCons (.str s) argsNil) w
theorem dtext_pure (s : ByteArray) (h : s.size ≤ 140737488355000) : Pure Try.prog 28 [.str s] (.own 1 (bs (layN (zig s.size) ++ bytesNat s))) := by
  refine pure_go R3_ok Try.func28 Try.ntmps28 comp28 cres28 (by decide) (by simp) ?_
  have hI : I64 (s.size : Int) := ⟨by omega, by omega⟩
  simp [ac28, ar28, R3, hI]
  have h1 := layN_le10 (u := zig s.size) (zig_lt (by omega) (by omega))
  refine ⟨by omega, ?_⟩
  rw [bytesV_eq, bs_append]; rfl
theorem rtext_w (s : ByteArray) (h : s.size ≤ 300) (w : World) : Calls Try.prog 28 #[.string s] w fun e w' => ∃ m p c, e = .returned (.slice p (layN (zig s.size) ++ bytesNat s).length c) ∧ MemOK m w' ∧ Rep m (.sl 1 (bs (layN (zig s.size) ++ bytesNat s))) (.slice p (layN (zig s.size) ++ bytesNat s).length c) ∧ Ext (fun _ => False) w w' :=
  own_call (dtext_pure s (by omega)) (argsCons (.str s) argsNil) w
theorem numN_w (w : World) : Calls Try.prog 18 #[.pointer none] w fun e w' => e = .returned (.int .i64 0) ∧ Ext (fun _ => False) w w' := int_call num_nil (argsCons .nilp argsNil) w
theorem fixN_w (n : Int) (w : World) : Calls Try.prog 20 #[.pointer none, .int .i64 n] w fun e w' => e = .returned (.int .u64 0) ∧ Ext (fun _ => False) w w' := int_call (rfix_nil n) (argsCons .nilp (argsCons (.int _ _) argsNil)) w
theorem leftN_w (w : World) : Calls Try.prog 23 #[.pointer none] w fun e w' => e = .returned (.int .i64 0) ∧ Ext (fun _ => False) w w' := int_call left_nil (argsCons .nilp argsNil) w
theorem errN_w (w : World) : Calls Try.prog 24 #[.pointer none] w fun e w' => e = .returned (.int .i64 1) ∧ Ext (fun _ => False) w w' := int_call err_nil (argsCons .nilp argsNil) w
theorem doneN_w (w : World) : Calls Try.prog 25 #[.pointer none] w fun e w' => e = .returned (.int .i64 1) ∧ Ext (fun _ => False) w w' := int_call done_nil (argsCons .nilp argsNil) w
theorem textN_w (n : Int) (w : World) : Calls Try.prog 22 #[.pointer none, .int .i64 n] w fun e w' => e = .returned (.string ByteArray.empty) ∧ Ext (fun _ => False) w w' := by
  refine (sv_call (rtext_nil n) (argsCons .nilp (argsCons (.int _ _) argsNil)) w).mono ?_
  rintro e w' ⟨val, mu', rfl, hr, hx⟩
  rw [Rep.inv_str hr]; exact ⟨rfl, hx⟩
/-- Both readers hold the same; since w2 no block but the reader's own has changed. -/
structure SS (rb xb : Nat) (mu0 : Mem) (l : List Nat) (e : Int) (p : Option Addr) (c : Nat) (w2 W : World) : Prop where
  ti : ∃ mu, TI W rb xb mu0 mu l e l e p c
  ext : Ext (fun k => k = rb) w2 W
theorem SS.next {rb xb : Nat} {mu0 : Mem} {l : List Nat} {e : Int} {p : Option Addr} {c : Nat} {w2 W W' : World} (h : SS rb xb mu0 l e p c w2 W) (k : Ext (fun _ => False) W W') : SS rb xb mu0 l e p c w2 W' := by
  obtain ⟨⟨mu, h1⟩, h2⟩ := h
  exact ⟨⟨mu, h1.ext k⟩, h2.trans (k.mono fun _ e => e.elim)⟩
theorem SS.cells {rb xb : Nat} {mu0 : Mem} {l : List Nat} {e : Int} {p : Option Addr} {c : Nat} {w2 W : World} (h : SS rb xb mu0 l e p c w2 W) : W.cell? ⟨xb, 0, none⟩ = some (.slice p l.length c) ∧ W.cell? ⟨xb, 1, none⟩ = some (.int .i64 e) := by
  obtain ⟨⟨mu, h1⟩, h2⟩ := h
  have := h1.x
  simp [World.cell?, this]
theorem SS.eff {rb xb : Nat} {mu0 : Mem} {l : List Nat} {e : Int} {p : Option Addr} {c : Nat} {w2 W : World} (h : SS rb xb mu0 l e p c w2 W) {f : FuncId} {n : Int} (hE : Eff1 Try.prog f [.sl 1 (bs l), .int .i64 e] [] (.sv (.int .i64 n)) [.sl 1 (bs l), .int .i64 e]) :
    Calls Try.prog f #[.pointer (some ⟨rb, 0, none⟩)] W fun r w' => r = .returned (.int .i64 n) ∧ SS rb xb mu0 l e p c w2 w' := by
  obtain ⟨⟨mu, h1⟩, h2⟩ := h
  refine (h1.eff hE argsNil).mono ?_
  rintro r w' ⟨val, mu', rfl, ht, hr, hx, _⟩
  rw [Rep.inv_int hr]
  exact ⟨rfl, ⟨_, ht⟩, h2.trans hx⟩
theorem SS.left {rb xb : Nat} {mu0 : Mem} {l : List Nat} {e : Int} {p : Option Addr} {c : Nat} {w2 W : World} (h : SS rb xb mu0 l e p c w2 W) : Calls Try.prog 23 #[.pointer (some ⟨rb, 0, none⟩)] W fun r w' => r = .returned (.int .i64 l.length) ∧ SS rb xb mu0 l e p c w2 w' := by
  have := left_eff (bs l) e
  rw [show (bs l).length = l.length by simp] at this
  exact h.eff this
theorem SS.err {rb xb : Nat} {mu0 : Mem} {l : List Nat} {e : Int} {p : Option Addr} {c : Nat} {w2 W : World} (h : SS rb xb mu0 l e p c w2 W) : Calls Try.prog 24 #[.pointer (some ⟨rb, 0, none⟩)] W fun r w' => r = .returned (.int .i64 e) ∧ SS rb xb mu0 l e p c w2 w' := h.eff (err_eff _ e)
theorem SS.done {rb xb : Nat} {mu0 : Mem} {l : List Nat} {e : Int} {p : Option Addr} {c : Nat} {w2 W : World} (h : SS rb xb mu0 l e p c w2 W) : Calls Try.prog 25 #[.pointer (some ⟨rb, 0, none⟩)] W fun r w' => r = .returned (.int .i64 (rDone l e)) ∧ SS rb xb mu0 l e p c w2 w' := h.eff (done_eff l e)
theorem SS.rdone {rb xb : Nat} {mu0 : Mem} {l : List Nat} {e : Int} {p : Option Addr} {c : Nat} {w2 W : World} (h : SS rb xb mu0 l e p c w2 W) : Calls Try.prog 26 #[.agg #[.slice p l.length c, .int .i64 e]] W fun r w' => r = .returned (.int .i64 (rDone l e)) ∧ SS rb xb mu0 l e p c w2 w' := by
  obtain ⟨⟨mu, h1⟩, h2⟩ := h
  have ha2 : Rep mu (.agg [.sl 1 (bs l), .int .i64 e]) (.agg [.slice p l.length c, .int .i64 e].toArray) := .agg _ _ rfl (fun j hj => by
    match j, hj with
    | 0, _ => exact h1.rep
    | 1, _ => exact .int _ _)
  refine (rrdone_pure l e mu W [_] h1.mem (argsCons ha2 argsNil)).mono ?_
  rintro r w' ⟨val, mu', rfl, hx, hle, hm', hag, ⟨gx, hrep, _⟩⟩
  have hr : Rep mu' (.int .i64 (rDone l e)) val := hrep
  rw [Rep.inv_int hr]
  exact ⟨rfl, ⟨mu, h1.ext hx⟩, h2.trans (hx.mono fun _ e => e.elim)⟩
end Go.Proofs.Ytflcdbfcipkhkaa

/- Varnum: VarnumTakes (the walk). -/

set_option linter.unusedSimpArgs false
set_option linter.unusedVariables false
set_option maxHeartbeats 40000000
set_option maxRecDepth 1000000
namespace Go.Proofs.Ytflcdbfcipkhkaa
open Go.RowKit
open Go.Av Go.Maps
def LawV (w : World) (e : Ending) (w' : World) : Prop := e = .returned (.bool true) ∧ Ext (fun _ => False) w w'
theorem extF {w wr W : World} (h : Ext (fun _ => False) w wr) {T : Nat → Prop} (k : Ext T wr W) (hT : ∀ b, T b → w.heap.size ≤ b) : Ext (fun _ => False) w W :=
  ⟨k.os.trans h.os, k.tape.trans h.tape, k.output.trans h.output, Nat.le_trans h.size k.size, fun j hj _ => (k.block j (Nat.lt_of_lt_of_le hj h.size) (fun q => by have := hT j q; omega)).trans (h.block j hj id)⟩
theorem box2 {w : World} {b : Nat} {a0 a1 : Value} {t : TypeId} (h : w.heap[b]? = some (.cells #[a0, a1] t)) : (w.cell? ⟨b, 0, none⟩ = some a0 ∧ w.cell? ⟨b, 1, none⟩ = some a1) ∧ w.frozen? ⟨b, 0, none⟩ = false ∧ w.frozen? ⟨b, 1, none⟩ = false := by
  simp [World.cell?, World.frozen?, h]
theorem takes_early (w0 : World) (bp cp : Option Addr) (bn bc cn cc : Nat) (s : ByteArray) (h : 300 < bn ∨ 40 < cn ∨ 300 < s.size) : Calls Try.prog 3 #[.slice bp bn bc, .slice cp cn cc, .string s] w0 (LawV w0) := by
  by_cases h1 : 300 < bn
  · have h1' : (300 : Int) < (bn : Int) := by omega
    clear h
    go_enter Try.func3, Try.ntmps3
    go_wp2_with (first
      | (go_at_call 15; refine (awake_w _).mono ?_; rintro e w9 ⟨rfl, hx9⟩; have HX9 := asideI hx9; clear hx9; simp only [])
      | go_in)
    go_ret
    exact ⟨rfl, HX9.out⟩
  · have h1' : ¬ (300 : Int) < (bn : Int) := by omega
    by_cases h2 : 40 < cn
    · have h2' : (40 : Int) < (cn : Int) := by omega
      clear h
      go_enter Try.func3, Try.ntmps3
      go_wp2_with (first
        | (go_at_call 15; refine (awake_w _).mono ?_; rintro e w9 ⟨rfl, hx9⟩; have HX9 := asideI hx9; clear hx9; simp only [])
        | go_in)
      go_ret
      exact ⟨rfl, HX9.out⟩
    · have h2' : ¬ (40 : Int) < (cn : Int) := by omega
      have h3' : (300 : Int) < (s.size : Int) := by omega
      clear h
      go_enter Try.func3, Try.ntmps3
      go_wp2_with (first
        | (go_at_call 15; refine (awake_w _).mono ?_; rintro e w9 ⟨rfl, hx9⟩; have HX9 := asideI hx9; clear hx9; simp only [])
        | go_in)
      go_ret
      exact ⟨rfl, HX9.out⟩
/-- The array in hand: n bytes that may be written to. -/
def RowIn (w : World) (base top : Nat) (v : Value) (n : Nat) : Prop := n = 0 ∨ ∃ g c cur, v = .slice (some ⟨g, 0, none⟩) n c ∧ base ≤ g ∧ g < top ∧ w.heap[g]? = some (.cells cur 5 (0, 0)) ∧ n ≤ cur.size ∧ ∀ i, i < n → ∃ u : Int, cur[i]? = some (.int .u8 u)
theorem RowIn.of_own {w : World} {base : Nat} {v : Value} {l : List Nat} (h : w.ownsRow base 5 1 v l.length (vU l)) : RowIn w base w.heap.size v l.length := by
  rcases h.2 with ⟨_, h2⟩ | ⟨g, cap, cur, h1, h2, h3, h4, h5, h6, h7⟩
  · exact .inl h2
  · have hc : ∀ i, i < l.length → cur[i]? = some (.int .u8 ((l.getD i 0 : Nat) : Int)) := fun i hi => by
      have := vU_get l hi
      rw [← h7, List.getElem?_take_of_lt (by omega), Array.getElem?_toList] at this
      exact this
    refine .inr ⟨g, cap, cur, h1, h2, (Array.getElem?_eq_some_iff.1 h3).1, h3, ?_, fun i hi => ⟨_, hc i hi⟩⟩
    rcases Nat.lt_or_ge cur.size l.length with q | q
    · have := hc cur.size q
      simp at this
    · exact q
theorem RowIn.ext {w w' : World} {base top : Nat} {v : Value} {n : Nat} (h : RowIn w base top v n) (ht : top ≤ w.heap.size) (k : Ext (fun _ => False) w w') : RowIn w' base top v n := by
  rcases h with h | ⟨g, c, cur, h1, h2, h3, h4, h5⟩
  · exact .inl h
  · exact .inr ⟨g, c, cur, h1, h2, h3, (k.block g (by omega) id).trans h4, h5⟩
theorem RowIn.set {w : World} {base top : Nat} {n : Nat} {g c : Nat} (h : RowIn w base top (.slice (some ⟨g, 0, none⟩) n c) n) (i : Nat) (u : Int) : RowIn (w.setCell ⟨g, i, none⟩ (.int .u8 u)) base top (.slice (some ⟨g, 0, none⟩) n c) n := by
  rcases h with h | ⟨g', c', cur, h1, h2, h3, h4, h5, h6⟩
  · exact .inl h
  · cases h1
    refine .inr ⟨g, c, cur.setIfInBounds i (.int .u8 u), rfl, h2, h3, blkS h4 _, by simpa using h5, fun k hk => ?_⟩
    obtain ⟨v, hv⟩ := h6 k hk
    rw [Array.getElem?_setIfInBounds]
    split
    · exact ⟨u, by rw [if_pos (by omega)]⟩
    · exact ⟨v, hv⟩
end Go.Proofs.Ytflcdbfcipkhkaa
