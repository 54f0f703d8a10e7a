import Derived.Test.YtabidcdfmkkegaaAvFz
import Derived.Laws.BytesString
import Derived.Laws.MakeOwn
import Derived.Laws.IdiomStrings
set_option linter.unusedSimpArgs false
namespace Go.Av
variable {P : Program} {w0 : World} {mu0 : Mem} {T : Nat → Prop} {g g' : Gh} {st st' : St} {a : Act} {w w' : World}

theorem isByte_inv {x : SV} (h : isByte x) : ∃ n, x = .int .u8 n := by
  unfold isByte at h
  split at h
  · exact ⟨_, rfl⟩
  · exact h.elim

theorem foldl_push : ∀ (ns : List Int) (s : ByteArray), ns.foldl (fun r n => r.push (UInt8.ofNat n.toNat)) s = ⟨s.data ++ (ns.map fun n => UInt8.ofNat n.toNat).toArray⟩
  | [], s => by simp
  | n :: ns, s => by
    rw [List.foldl_cons, foldl_push ns]
    apply ByteArray.ext
    simp [ByteArray.push]

theorem y_b2s (h : Sim w0 mu0 T g st a w) {x : Operand} {o : AO} {t t' e : TypeId} {ox : Oper} (hop : ox.op = .convert t t' x) (ht : P.underlying t = some (.slice e)) (hu : P.underlying e = some (.int .u8)) (ht' : P.underlying t' = some .string)
    (hx : compO x = some o) {c : Prop} {lv : LV} (he : ev st (.b2s o) = some (c, lv)) (hc : c) (d : Nat) : Yields P w0 mu0 T g st a w ox d lv := by
  obtain ⟨v, c', hv, hf, hc'⟩ := ev1_inv he hc
  split at hf
  case h_2 => cases hf
  rename_i xs hxs
  simp only [Option.some.injEq, Prod.mk.injEq] at hf
  obtain ⟨rfl, rfl⟩ := hf
  have rv := elems?_rep hxs (rd_rep h hx hv)
  obtain ⟨ns, hns⟩ : ∃ ns : List Int, xs = ns.map (SV.int .u8) := by
    clear rv hxs hv he hc
    induction xs with
    | nil => exact ⟨[], rfl⟩
    | cons x xs ih =>
      obtain ⟨n, rfl⟩ := isByte_inv (hc' x (List.mem_cons_self ..))
      obtain ⟨ns, rfl⟩ := ih (fun y hy => hc' y (List.mem_cons_of_mem _ hy))
      exact ⟨n :: ns, rfl⟩
  subst hns
  have hres : (⟨((ns.map (SV.int .u8)).map byteOf).toArray⟩ : ByteArray) = ns.foldl (fun r n => r.push (UInt8.ofNat n.toNat)) ByteArray.empty := by
    rw [foldl_push]
    apply ByteArray.ext
    simp [byteOf]
  have hrun : (convert t t' (a.eval x)).run P w = .ok (.string (ns.foldl (fun r n => r.push (UInt8.ofNat n.toNat)) ByteArray.empty)) w := by
    rcases rv.inv_sl with ⟨⟨p, cap, e1, _⟩, e2⟩ | ⟨b, off, cap, vals, e1, _, q1, q2, q3⟩
    · rw [e1, run_convert_bytes_string w t t' e p 0 cap ht hu ht']
      have : ns = [] := by simpa using e2
      subst this
      cases p <;> simp [Conv.bytesToString, loadCells, loadCellsFrom]
    · rw [e1, run_convert_bytes_string w t t' e _ _ _ ht hu ht']
      refine run_bytesToString w _ _ _ ns ?_
      have hl : (ns.map (SV.int .u8)).length = ns.length := by simp
      rw [hl]
      have := run_loadCells_list (P := P) w ⟨b, off, none⟩ (ns.map (Value.int .u8)) (fun j v hj => by
        have hj' : j < ns.length := by
          rcases Nat.lt_or_ge j ns.length with q | q
          · exact q
          · rw [List.getElem?_eq_none (by simpa using q)] at hj; cases hj
        have h1 := q2 j 0 (by simpa using hj') (by omega)
        have h2 := q3 j 0 (by simpa using hj') (by omega)
        have h3 : vals j 0 = .int .u8 ns[j] := by
          simp only [List.getD_eq_getElem?_getD, List.getElem?_map, List.getElem?_eq_getElem hj', Option.map_some, Option.getD_some] at h2
          exact Rep.inv_int h2
        rw [List.getElem?_map, List.getElem?_eq_getElem hj'] at hj
        cases hj
        rw [Addr.add_lit]
        have := (h.mem _ _ _ h1).1
        rw [h3] at this
        simpa using this)
      simpa using this
  refine .same h (val := .string (ns.foldl (fun r n => r.push (UInt8.ofNat n.toNat)) ByteArray.empty)) ?_ (by rw [hres]; exact .str _)
  simp only [execOp, hop, Sem.run_bind, hrun, Result.andThen_ok, Sem.run_pure]

theorem cell_block {w : World} {b j : Nat} {v : Value} (h : w.cell? ⟨b, j, none⟩ = some v) : ∃ c e fr, w.heap[b]? = some (.cells c e fr) := by
  unfold World.cell? at h
  split at h
  · rename_i c e fr hb; exact ⟨c, e, fr, hb⟩
  · cases h

/-- A byte slice's conversion to its own type: a mark behind the array. -/
theorem y_mark (h : Sim w0 mu0 T g st a w) {x : Operand} {s : Nat} {t e : TypeId} {ox : Oper} (hop : ox.op = .convert t t x) (ht : P.underlying t = some (.slice e)) (hu : P.underlying e = some (.int .u8)) (hx : compO x = some (.t s))
    {c : Prop} {lv : LV} (he : ev st (.mark s) = some (c, lv)) (hc : c) (d : Nat) : Yields P w0 mu0 T g (dgr st (.mark s)) a w ox d lv := by
  simp only [ev] at he
  split at he
  case h_2 => cases he
  rename_i gg y ys hv
  simp only [Option.some.injEq, Prod.mk.injEq] at he
  obtain ⟨rfl, rfl⟩ := he
  subst hc
  have hex : a.eval x = a.tmps.getD s Go.undef := by
    unfold compO at hx
    split at hx
    · cases hx; rfl
    · simp at hx
    all_goals simp at hx
  have hs : RepL g w s (.own 1 (y :: ys)) (a.tmps.getD s Go.undef) := by have := (h.slots s).gv (by rw [hv]); rwa [hv] at this
  have hB : ∃ b off cap v, a.tmps.getD s Go.undef = .slice (some ⟨b, off, none⟩) (y :: ys).length cap ∧ g.B ≤ b ∧ w.cell? ⟨b, off, none⟩ = some v := by
    have cell : ∀ b off cap, a.tmps.getD s Go.undef = .slice (some ⟨b, off, none⟩) (y :: ys).length cap → Rep g.mu (.sl 1 (y :: ys)) (a.tmps.getD s Go.undef) → ∃ v, w.cell? ⟨b, off, none⟩ = some v := by
      intro b off cap hval hr
      rcases hr.inv_sl with ⟨_, e2⟩ | ⟨b', off', cap', vals, e1, _, _, q2, _⟩
      · cases e2
      · rw [hval] at e1
        cases e1
        have := q2 0 0 (by simp) (by omega)
        exact ⟨_, by simpa using (h.mem _ _ _ this).1⟩
    rcases hs with ⟨h1, q, h2, h3⟩ | ⟨b, off, cap, h1, h2, h3, h4, h5⟩
    · rcases h1.inv_sl with ⟨_, e2⟩ | ⟨b', off', cap', vals, e1, _, _, q2, _⟩
      · cases e2
      · obtain ⟨v, hcell⟩ := cell _ _ _ e1 h1
        have : q = some ⟨b', off', none⟩ := by rw [h2] at e1; cases e1; rfl
        exact ⟨_, _, _, v, e1, h3 _ this, hcell⟩
    · obtain ⟨v, hcell⟩ := cell _ _ _ h1 h2
      exact ⟨_, _, _, v, h1, h4, hcell⟩
  obtain ⟨b, off, cap, v, hval, hBb, hcell⟩ := hB
  obtain ⟨cs, et, fr, hb⟩ := cell_block hcell
  have hfz := frz_freeze (B := w0.heap.size) (by rw [← h.B]; exact hBb) hb
  have hsim := h.frz hfz
  obtain ⟨g', k1, k2⟩ := take_own hsim hv d
  refine ⟨_, g', _, ?_, k1, k2⟩
  have hsh : w.shape? b = some (et, cs.size) := by simp [World.shape?, hb]
  simp only [execOp, hop, Sem.run_bind, hex, hval, convert, run_underlying ht, run_underlying hu, Result.andThen_ok, markStringish, run_shape]
  simp [hsh, run_freeze, hval]

theorem y_mks (h : Sim w0 mu0 T g st a w) {x : Operand} {o : AO} {t e : TypeId} {i : TypeInfo} {zero : List SV} {ox : Oper} (hop : ox.op = .makeSlice t x x)
    (ht : P.underlying t = some (.slice e)) (hi : P.info? e = some i) (h0 : i.size ≠ 0) (hz : zeroV P e = some zero) (hzs : zero.length = i.size) (h1 : zero.all SV.isCell = true) (hx : compO x = some o)
    {c : Prop} {lv : LV} (he : ev st (.mks i.size i.bytes zero o) = some (c, lv)) (hc : c) (d : Nat) : Yields P w0 mu0 T g st a w ox d lv := by
  obtain ⟨v, c', hv, hf, hc'⟩ := ev1_inv he hc
  have rv := rd_rep h hx hv
  cases v <;> try (cases hf; done)
  rename_i k n
  simp only [Option.some.injEq, Prod.mk.injEq] at hf
  obtain ⟨rfl, rfl⟩ := hf
  obtain ⟨hn0, hnb, hn63⟩ := hc'
  obtain ⟨m, rfl⟩ := Int.eq_ofNat_of_zero_le hn0
  obtain ⟨z, hz1, hz2⟩ := zeroV_run hz g.mu w
  have hz0 : ∃ zz, i.zero = some zz ∧ zz = z := by
    simp only [zeroV, hi, Option.bind_some, Option.bind_eq_some_iff] at hz
    obtain ⟨zz, q1, q2⟩ := hz
    have : (zeroValue e).run P w = .ok zz w := by simp [zeroValue, typeInfo, hi, q1]
    rw [this] at hz1
    cases hz1
    exact ⟨_, q1, rfl⟩
  obtain ⟨zz, hzz, rfl⟩ := hz0
  let us : Array Value := madeCells zz.cells (m * i.size)
  have hrow : RepRow g.mu i.size (List.replicate m (elemOf i.size zero)) us := by
    by_cases q : m * i.size = 0
    · obtain rfl : m = 0 := by rcases Nat.mul_eq_zero.1 q with q | q; exact q; exact absurd q h0
      refine ⟨by simp [us, madeCells], by simp, fun i' j hi' => by simp at hi'⟩
    · exact zero_row hz2 hzs h0 h1
  refine ⟨.slice (some ⟨w.heap.size, 0, none⟩) m m, g.new w.heap.size us us.size none, w.alloc (.cells us e), ?_, h.newImm us e us.size none (fun j v hj hv => hrow.oneCell hj hv), ?_⟩
  · have hmb : (i.bytes : Int) * (m : Int) ≤ 281474976710656 := by rw [Int.mul_comm]; exact hnb
    have := run_make (P := P) w t e i zz ht hi hzz k k m m (by omega) (Int.le_refl _) hmb hn63
    simp only [execOp, hop, Sem.run_bind, rv.inv_int, this, Result.andThen_ok, Sem.run_pure]
    rfl
  · refine .inl ⟨?_, some ⟨w.heap.size, 0, none⟩, by simp, fun a e => by cases e; have := h.B; have := h.ext.size; show g.B ≤ w.heap.size; omega⟩
    have hr := (hrow.mono (Gh.new_le h.mem us us.size none)).rep (b := w.heap.size) (off := 0) (cap := m) (fun j hj => by
      have : j < us.size := by rw [hrow.1]; exact hj
      simp [Gh.new, this, Array.getD_eq_getD_getElem?]) (by simp)
    simpa using hr

/-! ### equality of bools, and with nil -/
theorem run_eq_bool {t : TypeId} (ht : P.underlying t = some .bool) (x y : Bool) : (Op.equal t (.bool x) (.bool y)).run P w = .ok (x == y) w := by
  obtain ⟨d, hd⟩ : ∃ d, Op.maxDepth = d + 1 := ⟨9999, rfl⟩
  unfold Op.equal; rw [hd]
  simp [Op.equalIn, run_underlying ht]
theorem run_eq_ptr {t e : TypeId} (ht : P.underlying t = some (.pointer e)) (p : Option Addr) : (Op.equal t (.pointer p) (.pointer none)).run P w = .ok p.isNone w := by
  obtain ⟨d, hd⟩ : ∃ d, Op.maxDepth = d + 1 := ⟨9999, rfl⟩
  unfold Op.equal; rw [hd]
  cases p <;> simp [Op.equalIn, run_underlying ht]
theorem run_eq_slice {t e : TypeId} (ht : P.underlying t = some (.slice e)) (p : Option Addr) (n m : Nat) : (Op.equal t (.slice p n m) (.slice none 0 0)).run P w = .ok p.isNone w := by
  obtain ⟨d, hd⟩ : ∃ d, Op.maxDepth = d + 1 := ⟨9999, rfl⟩
  unfold Op.equal; rw [hd]
  cases p <;> simp [Op.equalIn, run_underlying ht]

theorem y_beq (h : Sim w0 mu0 T g st a w) {x y : Operand} {o p : AO} {op : BinOp} {t t' : TypeId} {neg : Bool} {ox : Oper} (hop : ox.op = .binOp op t x y t') (ht : P.underlying t = some .bool) (hn : op = if neg then .neq else .eql) (hx : compO x = some o) (hy : compO y = some p)
    {c : Prop} {lv : LV} (he : ev st (.beq neg o p) = some (c, lv)) (hc : c) (d : Nat) : Yields P w0 mu0 T g st a w ox d lv := by
  obtain ⟨v, u, c', hv, hu, hf, hc'⟩ := ev2_inv he hc
  have rv := rd_rep h hx hv
  have ru := rd_rep h hy hu
  cases v <;> try (cases hf; done)
  rename_i b1
  cases u <;> try (cases hf; done)
  rename_i b2
  cases hf
  have e1 := Rep.inv_bool rv
  have e2 := Rep.inv_bool ru
  refine .same h (val := .bool ((b1 == b2) != neg)) ?_ (.bool _)
  subst hn
  cases neg <;> cases b1 <;> cases b2 <;> simp [execOp, hop, eqGuard_at_bool, e1, e2, Go.binOp, run_eq_bool ht]

theorem y_eqn (h : Sim w0 mu0 T g st a w) {x y : Operand} {o : AO} {op : BinOp} {t t' : TypeId} {sl neg : Bool} {ox : Oper} (hop : ox.op = .binOp op t x y t') (hn : op = if neg then .neq else .eql)
    (ht : (sl = false ∧ ∃ e, P.underlying t = some (.pointer e) ∧ compO y = some (.c .nilp)) ∨ (sl = true ∧ ∃ e, P.underlying t = some (.slice e) ∧ compO y = some (.c .nils))) (hx : compO x = some o)
    {c : Prop} {lv : LV} (he : ev st (.eqn sl neg o) = some (c, lv)) (hc : c) (d : Nat) : Yields P w0 mu0 T g st a w ox d lv := by
  simp only [ev] at he
  split at he
  case h_2 => cases he
  rename_i r hr
  simp only [Option.some.injEq, Prod.mk.injEq] at he
  obtain ⟨rfl, rfl⟩ := he
  have hrd : rdl st o = (true, (rdl st o).2) := by rw [← hc]
  rcases ht with ⟨rfl, e, ht, hy⟩ | ⟨rfl, e, ht, hy⟩
  · have ey : a.eval y = .pointer none := Rep.inv_nilp (rdl_sv h hy rfl)
    have fin : ∀ p : Option Addr, a.eval x = .pointer p → RepL g w d r (.bool (p.isNone != neg)) → Yields P w0 mu0 T g st a w ox d r := by
      intro p e1 hv
      refine .same h (val := .bool (p.isNone != neg)) ?_ hv
      subst hn
      cases neg <;> simp [execOp, hop, eqGuard_at_pointer, e1, ey, Go.binOp, run_eq_ptr ht]
    generalize (rdl st o).2 = lv at hr hrd
    unfold eqnV at hr
    split at hr <;> simp at hr <;> subst hr
    · obtain ⟨b, _, hv⟩ := rdl_lptr h hx hrd
      exact fin _ hv (by cases neg <;> exact .bool _)
    · have := rdl_sv h hx hrd
      exact fin _ (Rep.inv_ptr this) (by cases neg <;> exact .bool _)
    · obtain ⟨b, off, vals, hv, _⟩ := Rep.inv_eptr (rdl_sv h hx hrd)
      exact fin _ hv (by cases neg <;> exact .bool _)
    · exact fin _ (Rep.inv_nilp (rdl_sv h hx hrd)) (by cases neg <;> exact .bool _)
  · have ey : a.eval y = .slice none 0 0 := Rep.inv_nils (rdl_sv h hy rfl)
    have fin : ∀ (p : Option Addr) (n m : Nat), a.eval x = .slice p n m → RepL g w d r (.bool (p.isNone != neg)) → Yields P w0 mu0 T g st a w ox d r := by
      intro p n m e1 hv
      refine .same h (val := .bool (p.isNone != neg)) ?_ hv
      subst hn
      cases neg <;> simp [execOp, hop, eqGuard_at_slice, e1, ey, Go.binOp, run_eq_slice ht]
    have own : ∀ sz xs, (rdl st o).2 = .own sz xs → Rep g.mu (.sl sz xs) (a.eval x) := fun sz xs e => rd_rep h hx (by rw [rd, hrd, e]; simp [LV.sh?])
    have cons : ∀ sz y ys, Rep g.mu (.sl sz (y :: ys)) (a.eval x) → ∃ b off m, a.eval x = .slice (some ⟨b, off, none⟩) (y :: ys).length m := fun sz y ys hr => by
      rcases hr.inv_sl with ⟨_, e2⟩ | ⟨b, off, cap, _, e1, _⟩
      · cases e2
      · exact ⟨b, off, cap, e1⟩
    have nil : ∀ sz, Rep g.mu (.sl sz []) (a.eval x) → ∃ p m, a.eval x = .slice p 0 m := fun sz hr => by
      rcases hr.inv_sl with ⟨⟨p, cap, e1, _⟩, _⟩ | ⟨b, off, cap, _, e1, _⟩
      · exact ⟨p, cap, e1⟩
      · exact ⟨_, cap, e1⟩
    generalize hlv : (rdl st o).2 = lv at hr hrd own
    unfold eqnV at hr
    split at hr <;> simp at hr <;> subst hr
    · obtain ⟨b, _, hv⟩ := rdl_lsl h hx hrd
      exact fin _ _ _ hv (by cases neg <;> exact .bool _)
    · obtain ⟨b, off, m, hv⟩ := cons _ _ _ (own _ _ rfl)
      exact fin _ _ _ hv (by cases neg <;> exact .bool _)
    · obtain ⟨p, m, hv⟩ := nil _ (own _ _ rfl)
      exact fin _ _ _ hv (.anyb _)
    · exact fin _ _ _ (Rep.inv_nils (rdl_sv h hx hrd)) (by cases neg <;> exact .bool _)
    · obtain ⟨b, off, m, hv⟩ := cons _ _ _ (rdl_sv h hx hrd)
      exact fin _ _ _ hv (by cases neg <;> exact .bool _)
    · obtain ⟨p, m, hv⟩ := nil _ (rdl_sv h hx hrd)
      exact fin _ _ _ hv (.anyb _)

theorem y_s2b (h : Sim w0 mu0 T g st a w) {x : Operand} {o : AO} {t t' e : TypeId} {ox : Oper} (hop : ox.op = .convert t t' x) (ht : P.underlying t = some .string) (ht' : P.underlying t' = some (.slice e)) (hu : P.underlying e = some (.int .u8)) (hx : compO x = some o)
    {c : Prop} {lv : LV} (he : ev st (.s2b o) = some (c, lv)) (hc : c) (d : Nat) : Yields P w0 mu0 T g st a w ox d lv := by
  obtain ⟨v, c', hv, hf, hc'⟩ := ev1_inv he hc
  have rv := rd_rep h hx hv
  cases v <;> try (cases hf; done)
  rename_i s
  simp only [Option.some.injEq, Prod.mk.injEq] at hf
  obtain ⟨rfl, rfl⟩ := hf
  have hrun := run_bytes_of_string (P := P) w t t' e s ht ht' hu
  have hcap := grownCap_ge w s.size 0 e
  generalize grownCap w s.size 0 e = cap at hrun hcap
  generalize hcs : bytesRow s cap = cs at hrun
  have hrow := bytesV_new g.mu s.data.toList
  have hlen : s.data.toList.length = s.size := by simp
  have hsz : cs.size = cap := by
    rw [← hcs]; simp only [bytesRow, Array.size_append, Array.size_map, Array.size_replicate]
    have : s.data.size = s.size := rfl
    omega
  have hget : ∀ j, j < s.size → cs[j]? = some ((s.data.toList.toArray.map fun b => Value.int .u8 b.toNat).getD j Go.undef) := by
    intro j hj
    have hj' : j < s.data.size := hj
    rw [← hcs]
    simp [bytesRow, Array.getElem?_append, hj, Array.getD_eq_getD_getElem?, Array.getElem?_eq_getElem hj']
  have hd := h.drew
  have hsim := hd.newImm' cs e (cs.size, cs.size + 1) s.size (some (.slot d 0)) (fun j v hj hv => by
    rw [hget j hj] at hv; cases hv
    have hj' : j < s.data.size := hj
    simp [Array.getD_eq_getD_getElem?, Array.getElem?_eq_getElem hj', Value.oneCell'])
  refine ⟨_, _, _, ?_, hsim, .inr ⟨w.heap.size, 0, cap, rfl, ?_, by simp [Gh.new], by have := h.B; have := h.ext.size; simp [Gh.new]; omega, ⟨cs, e, (cs.size, cs.size + 1), heap_alloc_new (w := w.drew) _, by rw [hsz]; omega, .inr (Nat.le_refl _)⟩, ?_⟩⟩
  · have e1 : a.eval x = .string s := rv.inv_str
    simp only [execOp, hop, Sem.run_bind, e1, hrun, Result.andThen_ok, Sem.run_pure]
    simp [bytesV]
  · have hrep := (hrow.mono (Gh.new_le (w := w.drew) hd.mem cs s.size (some (.slot d 0)))).rep (b := w.heap.size) (off := 0) (cap := cap) (fun j hj => by
      have hj' : j < s.size := by simpa [bytesV] using hj
      simp only [Gh.new, World.size_drew, if_true, Nat.zero_add, hj']
      exact hget j hj') (by simpa [bytesV] using hcap)
    simpa using hrep
  · intro j hj
    have : ¬ j < s.size := by simp [bytesV] at hj; have : s.data.size = s.size := rfl; omega
    simp only [Gh.new, World.size_drew, if_true, this, if_false]
end Go.Av
