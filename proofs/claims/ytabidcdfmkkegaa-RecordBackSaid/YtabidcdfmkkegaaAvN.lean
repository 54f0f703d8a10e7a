import Derived.Test.YtabidcdfmkkegaaAvM
set_option linter.unusedSimpArgs false
namespace Go.Av
variable {P : Program} {w0 : World} {mu0 : Mem} {T : Nat → Prop} {g g' : Gh} {st st' : St} {a : Act} {w w' : World}

/-- Only what is looked up counts. -/
theorem Sim.congr (h : Sim w0 mu0 T g st a w) (hn : st'.n = st.n) (hs : ∀ t, lk st'.sl t = lk st.sl t) (hb : ∀ t, lkb st'.bx t = lkb st.bx t) (hh : st'.hp = st.hp) : Sim w0 mu0 T g st' a w := by
  constructor
  · rw [hn]; exact h.size
  · exact h.defers
  · intro s; rw [hs]; exact h.slots s
  · intro s cells hc; rw [hb] at hc; exact h.boxes s cells hc
  · exact h.bxinj
  · rw [hh]; exact h.heap
  · exact h.mem
  · exact h.mem0
  · exact h.ext
  · exact h.B
  · exact h.xlt
  · exact h.blt
  · exact h.bxx
  · exact h.okb
  · exact h.pin

theorem asOwn_inv {sz : Nat} {lv : LV} {xs : List SV} (h : asOwn sz lv = some xs) : lv = .own sz xs ∨ (lv = .sv .nils ∧ xs = []) := by
  unfold asOwn at h
  split at h
  · split at h
    · rename_i hz; subst hz; cases h; exact .inl rfl
    · cases h
  · cases h; exact .inr ⟨rfl, rfl⟩
  · cases h

theorem elems?_rep {mu : Mem} {sz : Nat} {v : SV} {ys : List SV} {x : Value} (h : elems? sz v = some ys) (hr : Rep mu v x) : Rep mu (.sl sz ys) x := by
  unfold elems? at h
  split at h
  · split at h
    · rename_i hz; subst hz; cases h; exact hr
    · cases h
  · cases h; rw [hr.inv_nils]; exact .slnil sz
  · cases h

/-- Appending, to an own slice or to none. -/
theorem append_any (h : Sim w0 mu0 T g st a w) {s : Nat} {xs ys : List SV} {t tx e : TypeId} {i : TypeInfo} {new : Array Value} {vx : Value} (hl : asOwn i.size (lk st.sl s).gv.2 = some xs) (hg : (lk st.sl s).gv.1 = true)
    (ht : P.underlying t = some (.slice e)) (hi : P.info? e = some i) (hzr : ∃ z, i.zero = some z ∧ z.cells.size = i.size) (hb0 : i.bytes ≠ 0) (htx : ∃ dx, P.underlying tx = some dx ∧ ∀ k, dx ≠ .int k)
    (hn : (Builtin.lenOf vx).run P w = .ok ys.length w) (hfirst : ∀ w', MemOK g.mu w' → (Builtin.firstCells i.size ys.length vx).run P w' = .ok new w') (hnew : NewRow g.mu i.size ys new)
    (hfit : (xs.length + ys.length) * i.bytes ≤ 140737488355328) (ty : TypeId) (d : Nat) :
    ∃ val g' w', (Builtin.append_ #[t, tx] ty #[a.tmps.getD s Go.undef, vx]).run P w = .ok val w' ∧ Sim w0 mu0 T g' { st with sl := (s, (lk st.sl s).dg) :: st.sl } a w' ∧ RepL g' w' d (.own i.size (xs ++ ys)) val := by
  have h63 : xs.length + ys.length ≤ 9223372036854775807 := by
    have : (xs.length + ys.length) * 1 ≤ (xs.length + ys.length) * i.bytes := Nat.mul_le_mul_left _ (by omega)
    omega
  have hgv : (lk st.sl s).gv = (true, (lk st.sl s).gv.2) := by rw [← hg]
  rcases asOwn_inv hl with e1 | ⟨e1, rfl⟩
  · exact append_ok h (by rw [hgv, e1]) ht hi hzr htx hn (hfirst w h.mem) (hfirst w.drew h.drew.mem) hnew hfit h63 ty d
  · have hv : a.tmps.getD s Go.undef = .slice none 0 0 := by
      have := (h.slots s).gv hg
      rw [e1] at this
      exact Rep.inv_nils this
    have h1 : Sim w0 mu0 T g { st with sl := (s, .own i.size []) :: st.sl } a w := h.weaken (fun _ => by rw [hv]; exact .inl ⟨.slnil _, none, rfl, fun _ e => by cases e⟩)
    obtain ⟨val, g', w', r1, r2, r3⟩ := append_ok h1 (s := s) (xs := []) (by simp [lk, LV.gv]) ht hi hzr htx hn (hfirst w h.mem) (hfirst w.drew h.drew.mem) hnew hfit h63 ty d
    refine ⟨val, g', w', r1, ?_, r3⟩
    have r4 := r2.weaken (d := s) (lv := (lk st.sl s).dg) (fun _ => by
      have hdg : ∀ lv : LV, lv.gv.2 = .sv .nils → RepL g w s lv (a.tmps.getD s Go.undef) → RepL g' w' s lv.dg (a.tmps.getD s Go.undef) := by
        intro lv
        induction lv with
        | gd c v ih => intro q q2; exact ⟨fun hc => ih q (q2.1 hc), q2.2⟩
        | sv v => intro q _; simp only [LV.gv, LV.sv.injEq] at q; subst q; rw [hv]; exact Rep.nils
        | _ => intro q; simp [LV.gv] at q
      exact hdg _ e1 (h.slots s))
    refine r4.congr rfl (fun t => ?_) (fun _ => rfl) rfl
    simp only [lk]
    split <;> simp

theorem y_app (h : Sim w0 mu0 T g st a w) {s : Nat} {y : Operand} {p : AO} {t tx e : TypeId} {i : TypeInfo} {ox : Oper} (hop : ox.op = .call { callee := .builtin .append, args := #[.tmp s, y], argTypes := #[t, tx] })
    (ht : P.underlying t = some (.slice e)) (hi : P.info? e = some i) (hzr : ∃ z, i.zero = some z ∧ z.cells.size = i.size) (hb0 : i.bytes ≠ 0) (htx : ∃ dx, P.underlying tx = some dx ∧ ∀ k, dx ≠ .int k) (hy : compO y = some p)
    {c : Prop} {lv : LV} (he : ev st (.app i.size i.bytes s p) = some (c, lv)) (hc : c) (d : Nat) : Yields P w0 mu0 T g (dgr st (.app i.size i.bytes s p)) a w ox d lv := by
  simp only [ev] at he
  split at he
  case h_2 => cases he
  rename_i xs gg v h1 h2
  split at he
  case h_2 => cases he
  rename_i ys h3
  simp only [Option.some.injEq, Prod.mk.injEq] at he
  obtain ⟨rfl, rfl⟩ := he
  obtain ⟨hg, rfl, hfit⟩ := hc
  have rv := elems?_rep h3 (rd_rep h hy h2)
  obtain ⟨new, f1, f2, f3, f4, f5⟩ := firstCells_sl (P := P) h.mem rv
  have hlen : (Builtin.lenOf (a.eval y)).run P w = .ok ys.length w := by
    rcases rv.inv_sl with ⟨⟨_, _, e1, _⟩, rfl⟩ | ⟨b, off, cap, _, e1, _⟩ <;> simp [e1, Builtin.lenOf]
  obtain ⟨val, g', w', r1, r2, r3⟩ := append_any h h1 hg ht hi hzr hb0 htx hlen f1 ⟨f2, f3, f4, f5⟩ hfit ox.type d
  refine ⟨val, g', w', ?_, r2, r3⟩
  have : a.eval (.tmp s) = a.tmps.getD s Go.undef := rfl
  simp only [execOp, hop, resolve, Sem.run_bind, Sem.run_pure, Result.andThen_ok, invoke, builtin]
  rw [show Array.map a.eval #[Operand.tmp s, y] = #[a.tmps.getD s Go.undef, a.eval y] from by simp only [List.map_toArray, List.map_cons, List.map_nil, Act.eval], r1]
  rfl

theorem bytesV_new (mu : Mem) (l : List UInt8) : NewRow mu 1 (bytesV l) ((l.toArray).map fun b => .int .u8 b.toNat) := by
  refine ⟨by simp [bytesV], fun x hx => ?_, fun x hx => ?_, fun i j hi hj => ?_⟩
  · simp only [bytesV, List.mem_map] at hx; obtain ⟨b, _, rfl⟩ := hx; rfl
  · simp only [Array.toList_map, List.mem_map] at hx; obtain ⟨b, _, rfl⟩ := hx; rfl
  · obtain rfl : j = 0 := by omega
    have hi' : i < l.length := by simpa [bytesV] using hi
    simpa [bytesV, List.getD_eq_getElem?_getD, Array.getD_eq_getD_getElem?, hi', SV.cell, SV.cells] using Rep.int (mu := mu) .u8 (l[i].toNat)

theorem y_appS (h : Sim w0 mu0 T g st a w) {s : Nat} {y : Operand} {p : AO} {t tx e : TypeId} {i : TypeInfo} {ox : Oper} (hop : ox.op = .call { callee := .builtin .append, args := #[.tmp s, y], argTypes := #[t, tx] })
    (ht : P.underlying t = some (.slice e)) (hi : P.info? e = some i) (hs : i.size = 1) (hbt : i.bytes = 1) (hzr : ∃ z, i.zero = some z ∧ z.cells.size = i.size) (htx : ∃ dx, P.underlying tx = some dx ∧ ∀ k, dx ≠ .int k) (hy : compO y = some p)
    {c : Prop} {lv : LV} (he : ev st (.appS s p) = some (c, lv)) (hc : c) (d : Nat) : Yields P w0 mu0 T g (dgr st (.appS s p)) a w ox d lv := by
  simp only [ev] at he
  split at he
  case h_2 => cases he
  rename_i xs gg v h1 h2
  simp only [Option.some.injEq, Prod.mk.injEq] at he
  obtain ⟨rfl, rfl⟩ := he
  obtain ⟨hg, rfl, hfit⟩ := hc
  have rv := (rd_rep h hy h2).inv_str
  have hlen : (bytesV v.data.toList).length = v.size := by simp [bytesV]
  have hnew := bytesV_new g.mu v.data.toList
  have hex : (v.extract 0 v.size).data = v.data := by
    rw [ByteArray.data_extract]
    show v.data.extract 0 v.data.size = v.data
    simp
  obtain ⟨val, g', w', r1, r2, r3⟩ := append_any h (new := (v.data.toList.toArray).map fun b => .int .u8 b.toNat) (vx := .string v) (ys := bytesV v.data.toList) (hs ▸ h1) hg ht hi hzr (by omega) htx (by simp [Builtin.lenOf, hlen])
    (fun w' _ => by rw [hlen]; simp [Builtin.firstCells, hex]) (hs ▸ hnew) (by rw [hlen, hbt]; exact hfit) ox.type d
  refine ⟨val, g', w', ?_, r2, hs ▸ r3⟩
  simp only [execOp, hop, resolve, Sem.run_bind, Sem.run_pure, Result.andThen_ok, invoke, builtin]
  rw [show Array.map a.eval #[Operand.tmp s, y] = #[a.tmps.getD s Go.undef, a.eval y] from by simp only [List.map_toArray, List.map_cons, List.map_nil, Act.eval], rv, r1]
  rfl
end Go.Av
