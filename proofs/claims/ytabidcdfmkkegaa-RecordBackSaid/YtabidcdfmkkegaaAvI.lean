import Derived.Test.YtabidcdfmkkegaaAvH
set_option linter.unusedSimpArgs false
namespace Go.Av
variable {P : Program} {w0 : World} {mu0 : Mem} {T : Nat → Prop} {g g' : Gh} {st : St} {a : Act} {w w' : World}

theorem y_fld (h : Sim w0 mu0 T g st a w) {x : Operand} {o : AO} {t : TypeId} {f : Nat} {fs : Array Field} {fd : Field} {n : Option Nat} {ox : Oper} (hop : ox.op = .field t x f)
    (ht : P.underlying t = some (.struct fs)) (hf : fs[f]? = some fd) (hn : ldk P fd.type = some n) (hx : compO x = some o)
    {c : Prop} {lv : LV} (he : ev st (.fld o fd.offset n) = some (c, lv)) (hc : c) (d : Nat) : Yields P w0 mu0 T g st a w ox d lv := by
  obtain ⟨v, c', hv, hf', hc'⟩ := ev1_inv he hc
  have rv := rd_rep h hx hv
  cases v <;> try (cases hf'; done)
  rename_i cs
  simp only [Option.some.injEq, Prod.mk.injEq] at hf'
  obtain ⟨rfl, rfl⟩ := hf'
  obtain ⟨xs, hxs, val, hrun, hrep⟩ := partV_field rv ⟨cs, rfl⟩ hn hc' w
  refine .same h (val := val) ?_ hrep
  simp [execOp, hop, Instr.field, run_underlying ht, hf, hxs, asAgg, hrun]

theorem optI_inv {i : Int} {ao : Option AO} {def_ : Int} (h : Sim w0 mu0 T g st a w) {x : Option Operand} (hx : (x.map compO = ao.map some)) (hr : optI st def_ ao = some (true, i)) :
    (x = none ∧ i = def_) ∨ ∃ y k, x = some y ∧ a.eval y = .int k i := by
  cases ao with
  | none => cases x with
    | none => simp [optI] at hr; exact .inl ⟨rfl, hr.symm⟩
    | some y => simp at hx
  | some o => cases x with
    | none => simp at hx
    | some y =>
      simp only [Option.map_some, Option.some.injEq] at hx
      refine .inr ⟨y, ?_⟩
      simp only [optI] at hr
      split at hr
      · rename_i gg k j hv
        simp only [Option.some.injEq, Prod.mk.injEq] at hr
        obtain ⟨rfl, rfl⟩ := hr
        exact ⟨k, rfl, (rd_rep h hx hv).inv_int⟩
      · cases hr

theorem run_bounds {P : Program} {w : World} {isSlice : Bool} {n cap : Nat} {lo hi : Option Value} {l r : Int} (hlo : (lo = none ∧ l = 0) ∨ ∃ k, lo = some (.int k l)) (hhi : (hi = none ∧ r = n) ∨ ∃ k, hi = some (.int k r))
    (h0 : 0 ≤ l) (h1 : l ≤ r) (h2 : r ≤ cap) : (Instr.sliceBounds isSlice n cap lo hi none).run P w = .ok (l.toNat, r.toNat, cap) w := by
  have hb : ∀ (k : IntKind) (i : Int) (y : Nat) (code : BoundsCode), 0 ≤ i → i ≤ y → (Instr.sliceBound (.int k i) y code).run P w = .ok i.toNat w := by
    intro k i y code h0 h1
    simp [Instr.sliceBound, asIntOf, h0, h1]
  rcases hlo with ⟨rfl, rfl⟩ | ⟨k, rfl⟩ <;> rcases hhi with ⟨rfl, rfl⟩ | ⟨k', rfl⟩
  · simp [Instr.sliceBounds]
  · simp only [Instr.sliceBounds, Sem.run_bind, Sem.run_pure, Result.andThen_ok, Option.isSome_none]
    rw [hb k' r cap _ (by omega) h2]; simp
  · simp only [Instr.sliceBounds, Sem.run_bind, Sem.run_pure, Result.andThen_ok, Option.isSome_none]
    rw [hb k l n _ h0 (by omega)]; simp
  · simp only [Instr.sliceBounds, Sem.run_bind, Sem.run_pure, Result.andThen_ok, Option.isSome_none]
    rw [hb k' r cap _ (by omega) h2]
    simp only [Result.andThen_ok]
    rw [hb k l _ _ h0 (by omega)]; simp

theorem run_bounds3 {P : Program} {w : World} {isSlice : Bool} {n cap : Nat} {lo : Option Value} {k k' : IntKind} {l r : Int} (hlo : (lo = none ∧ l = 0) ∨ ∃ k, lo = some (.int k l))
    (h0 : 0 ≤ l) (h1 : l ≤ r) (h2 : r ≤ cap) : (Instr.sliceBounds isSlice n cap lo (some (.int k r)) (some (.int k' r))).run P w = .ok (l.toNat, r.toNat, r.toNat) w := by
  have hb : ∀ (k : IntKind) (i : Int) (y : Nat) (code : BoundsCode), 0 ≤ i → i ≤ y → (Instr.sliceBound (.int k i) y code).run P w = .ok i.toNat w := by
    intro k i y code h0 h1
    simp [Instr.sliceBound, asIntOf, h0, h1]
  simp only [Instr.sliceBounds, Sem.run_bind, Option.isSome_some]
  rw [hb k' r cap _ (by omega) h2]
  simp only [Result.andThen_ok]
  rw [hb k r _ _ (by omega) (by omega)]
  simp only [Result.andThen_ok]
  rcases hlo with ⟨rfl, rfl⟩ | ⟨k, rfl⟩
  · simp
  · simp only [Sem.run_bind]
    rw [hb k l _ _ h0 (by omega)]; simp

theorem Rep.window {mu : Mem} {sz : Nat} {xs : List SV} {b off cap l r : Nat} {vals : Nat → Nat → Value} (hl : l ≤ r) (hr : r ≤ xs.length) (hcap : xs.length ≤ cap) (hn : ∀ x ∈ xs, x.nc = sz)
    (h1 : ∀ i j, i < xs.length → j < sz → mu b (off + i * sz + j) = some (vals i j)) (h2 : ∀ i j, i < xs.length → j < sz → Rep mu ((xs.getD i .undef).cell j) (vals i j)) (c : Nat) (hc : r - l ≤ c) :
    Rep mu (.sl sz ((xs.drop l).take (r - l))) (.slice (some ⟨b, off + l * sz, none⟩) (r - l) c) := by
  have hlen : ((xs.drop l).take (r - l)).length = r - l := by simp; omega
  have := Rep.sl (mu := mu) sz ((xs.drop l).take (r - l)) b (off + l * sz) c (fun i j => vals (l + i) j) (by omega) (fun x hx => hn x (List.mem_of_mem_drop (List.mem_of_mem_take hx)))
    (fun i j hi hj => by rw [hlen] at hi; have := h1 (l + i) j (by omega) hj; rwa [Nat.add_mul, ← Nat.add_assoc] at this)
    (fun i j hi hj => by
      rw [hlen] at hi
      have := h2 (l + i) j (by omega) hj
      simpa [List.getD_eq_getElem?_getD, List.getElem?_take, List.getElem?_drop, hi] using this)
  rwa [hlen] at this

theorem y_slc (h : Sim w0 mu0 T g st a w) {x : Operand} {xl xh : Option Operand} {o : AO} {ol oh : Option AO} {t : TypeId} {str : Bool} {sz : Nat} {ox : Oper} (hop : ox.op = .slice t x xl xh none)
    (hty : strT P t = some str) (hi : ∀ e, P.underlying t = some (.slice e) → ∃ i, P.info? e = some i ∧ i.size = sz)
    (hx : compO x = some o) (hl : xl.map compO = ol.map some) (hh : xh.map compO = oh.map some)
    {c : Prop} {lv : LV} (he : ev st (.slc str sz o ol oh) = some (c, lv)) (hc : c) (d : Nat) : Yields P w0 mu0 T g st a w ox d lv := by
  obtain ⟨v, c', hv, hf, hc'⟩ := ev1_inv he hc
  have rv := rd_rep h hx hv
  split at hf
  case h_2 => cases hf
  rename_i c1 k n hln
  split at hf
  case h_2 => cases hf
  rename_i g1 l g2 r h1 h2
  split at hf
  case h_2 => cases hf
  rename_i c2 rr h3
  simp only [Option.some.injEq, Prod.mk.injEq] at hf
  obtain ⟨rfl, rfl⟩ := hf
  obtain ⟨rfl, rfl, hc2⟩ := hc'
  have hL : (xl.map a.eval = none ∧ l = 0) ∨ ∃ k, xl.map a.eval = some (.int k l) := by
    rcases optI_inv h hl h1 with ⟨rfl, e⟩ | ⟨y, k, rfl, e⟩
    · exact .inl ⟨rfl, e⟩
    · exact .inr ⟨k, by simp [e]⟩
  have hH : (xh.map a.eval = none ∧ r = n) ∨ ∃ k, xh.map a.eval = some (.int k r) := by
    rcases optI_inv h hh h2 with ⟨rfl, e⟩ | ⟨y, k, rfl, e⟩
    · exact .inl ⟨rfl, e⟩
    · exact .inr ⟨k, by simp [e]⟩
  have hexec : ∀ val, (Instr.slice t (a.eval x) (xl.map a.eval) (xh.map a.eval) none).run P w = .ok val w → (execOp a.eval ox).run P w = .ok (.value val) w := by
    intro val hval
    rcases strT_inv hty with ⟨_, hu⟩ | ⟨_, e, hu⟩ <;> simp [execOp, hop, Instr.sliceAt, run_underlying hu, hval]
  rcases strT_inv hty with ⟨rfl, hu⟩ | ⟨rfl, e, hu⟩
  · cases v <;> try (cases hln; done)
    rename_i s
    simp only [lenV, Option.some.injEq, Prod.mk.injEq, LV.sv.injEq, SV.int.injEq] at hln
    obtain ⟨_, _, rfl⟩ := hln
    simp only [slcV, Option.some.injEq, Prod.mk.injEq] at h3
    obtain ⟨rfl, rfl⟩ := h3
    refine .same h (hexec (.string (s.extract l.toNat r.toNat)) ?_) (.str _)
    simp [Instr.slice, run_underlying hu, rv.inv_str, run_bounds hL hH hc2.1 hc2.2.1 hc2.2.2]
  · obtain ⟨i, hi', hsz⟩ := hi e hu
    cases v <;> try (cases hln; done)
    · simp only [lenV, Option.some.injEq, Prod.mk.injEq, LV.sv.injEq, SV.int.injEq] at hln
      obtain ⟨_, _, rfl⟩ := hln
      simp only [slcV, Option.some.injEq, Prod.mk.injEq] at h3
      obtain ⟨rfl, rfl⟩ := h3
      obtain ⟨rfl, rfl⟩ := hc2
      refine .same h (hexec (.slice none 0 0) ?_) .nils
      have := run_bounds (P := P) (w := w) (isSlice := true) (n := 0) (cap := 0) hL hH (by omega) (by omega) (by omega)
      simp [Instr.slice, run_underlying hu, rv.inv_nils, this, run_sizeOf' hi']
    · rename_i z xs
      simp only [lenV, Option.some.injEq, Prod.mk.injEq, LV.sv.injEq, SV.int.injEq] at hln
      obtain ⟨_, _, rfl⟩ := hln
      simp only [slcV] at h3
      split at h3
      case isFalse => cases h3
      rename_i hzz
      simp only [Option.some.injEq, Prod.mk.injEq] at h3
      obtain ⟨rfl, rfl⟩ := h3
      obtain rfl : z = i.size := by omega
      rcases rv.inv_sl with ⟨⟨p, cap, e1, hp0⟩, e2⟩ | ⟨b, off, cap, vals, e1, hcap, q1, q2, q3⟩
      · subst e2
        simp only [List.length_nil, Int.natCast_zero] at hc2 hH
        obtain rfl : l = 0 := by omega
        obtain rfl : r = 0 := by omega
        cases p with
        | none =>
          obtain rfl := hp0 rfl
          refine .same h (hexec (.slice none 0 0) ?_) (by show Rep g.mu (.sl i.size ((([] : List SV).drop _).take _)) _; simpa using Rep.slnil (mu := g.mu) i.size)
          have := run_bounds (P := P) (w := w) (isSlice := true) (n := 0) (cap := 0) hL hH (by omega) (by omega) (by omega)
          simp [Instr.slice, run_underlying hu, e1, this, run_sizeOf' hi']
        | some a0 =>
          have := run_bounds (P := P) (w := w) (isSlice := true) (n := 0) (cap := cap) hL hH (by omega) (by omega) (by omega)
          by_cases hc0 : cap = 0
          · refine .same h (hexec (.slice (some a0) 0 cap) ?_) (by show Rep g.mu (.sl i.size ((([] : List SV).drop _).take _)) _; simpa using Rep.sle (mu := g.mu) i.size a0 cap)
            subst hc0
            simp [Instr.slice, run_underlying hu, e1, this, run_sizeOf' hi']
          · refine .same h (hexec (.slice (some (a0.add (0 * i.size))) 0 cap) ?_) (by show Rep g.mu (.sl i.size ((([] : List SV).drop _).take _)) _; simpa using Rep.sle (mu := g.mu) i.size (a0.add (0 * i.size)) cap)
            simp [Instr.slice, run_underlying hu, e1, this, run_sizeOf' hi', hc0]
      · have hlr : l.toNat ≤ r.toNat := by omega
        have hrx : r.toNat ≤ xs.length := by omega
        have hb := run_bounds (P := P) (w := w) (isSlice := true) (n := xs.length) (cap := cap) hL hH hc2.1 hc2.2.1 (by omega)
        by_cases hcl : cap = l.toNat
        · have e0 : (xs.drop l.toNat).take (r.toNat - l.toNat) = [] := by simp; omega
          have er : r.toNat - l.toNat = 0 := by omega
          refine .same h (hexec (.slice (some ⟨b, off, none⟩) 0 (cap - l.toNat)) ?_) ?_
          · simp only [Instr.slice, Sem.run_bind, run_underlying hu, Result.andThen_ok, e1, hb, run_sizeOf' hi']
            simp [hcl, er]
          · rw [e0]
            exact Rep.sl (mu := g.mu) i.size [] b off (cap - l.toNat) (fun _ _ => Go.undef) (by simp) (by simp) (by simp) (by simp)
        · refine .same h (hexec (.slice (some ⟨b, off + l.toNat * i.size, none⟩) (r.toNat - l.toNat) (cap - l.toNat)) ?_) (Rep.window hlr hrx hcap q1 q2 q3 _ (by omega))
          simp only [Instr.slice, Sem.run_bind, run_underlying hu, Result.andThen_ok, e1, hb, run_sizeOf' hi']
          simp [hcl, Addr.add_lit]
end Go.Av
