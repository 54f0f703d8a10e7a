import Derived.Test.YtabidcdfmkkegaaAvG
set_option linter.unusedSimpArgs false
namespace Go.Av
variable {P : Program} {w0 : World} {mu0 : Mem} {T : Nat → Prop} {g g' : Gh} {st : St} {a : Act} {w w' : World}

theorem getD_mem {xs : List SV} {i : Nat} (h : i < xs.length) : xs.getD i .undef ∈ xs := by
  rw [List.getD_eq_getElem?_getD, List.getElem?_eq_getElem h]; simp

/-- The address of an element. -/
theorem Rep.elem {mu : Mem} {sz : Nat} {xs : List SV} {b off i : Nat} {vals : Nat → Nat → Value} (hi : i < xs.length) (hn : ∀ x ∈ xs, x.nc = sz)
    (h1 : ∀ i j, i < xs.length → j < sz → mu b (off + i * sz + j) = some (vals i j)) (h2 : ∀ i j, i < xs.length → j < sz → Rep mu ((xs.getD i .undef).cell j) (vals i j)) :
    Rep mu (.eptr (xs.getD i .undef) 0) (.pointer (some ⟨b, off + i * sz, none⟩)) := by
  have hnc := hn _ (getD_mem hi)
  exact Rep.eptr (xs.getD i .undef) 0 b (off + i * sz) (vals i) (fun j hj => h1 i j hi (by omega)) (fun j hj => h2 i j hi (by omega))

theorem y_iaddr (h : Sim w0 mu0 T g st a w) {x y : Operand} {o p : AO} {t e : TypeId} {i : TypeInfo} {ox : Oper} (hop : ox.op = .indexAddr t x y)
    (ht : P.underlying t = some (.slice e)) (hi : P.info? e = some i) (hx : compO x = some o) (hy : compO y = some p)
    {c : Prop} {lv : LV} (he : ev st (.iaddr i.size o p) = some (c, lv)) (hc : c) (d : Nat) : Yields P w0 mu0 T g st a w ox d lv := by
  simp only [ev] at he
  split at he
  · rename_i gg s z off n cap hv
    obtain ⟨u, c', hu, hf, hc'⟩ := ev1_inv he hc
    have ru := rd_rep h hy hu
    cases u <;> try (cases hf; done)
    rename_i k j
    simp only [] at hf
    split at hf
    case isFalse => cases hf
    simp only [Option.some.injEq, Prod.mk.injEq] at hf
    obtain ⟨rfl, rfl⟩ := hf
    obtain ⟨rfl, h0, h1⟩ := hc'
    obtain ⟨blk, hb, e1⟩ := rdl_lsl h hx hv
    refine .same h (val := .pointer (some ⟨blk, off + j.toNat * i.size, none⟩)) ?_ ⟨blk, hb, rfl⟩
    simp [execOp, hop, e1, ru.inv_int, Instr.indexAt, run_underlying ht, asIntOf, run_sizeOf' hi, h0, h1, Addr.add_lit]
  obtain ⟨v, u, c', hv, hu, hf, hc'⟩ := ev2_inv he hc
  have rv := rd_rep h hx hv
  have ru := rd_rep h hy hu
  cases v <;> try (cases hf; done)
  rename_i z xs
  cases u <;> try (cases hf; done)
  rename_i k n
  simp only [iaddrV] at hf
  split at hf
  · rename_i hz; subst hz
    simp only [Option.some.injEq, Prod.mk.injEq] at hf
    obtain ⟨rfl, rfl⟩ := hf
    have hlt : n.toNat < xs.length := by omega
    rcases rv.inv_sl with ⟨_, e2⟩ | ⟨b, off, cap, vals, e1, _, h1, h2, h3⟩
    · subst e2; simp at hlt
    · refine .same h (val := .pointer (some ⟨b, off + n.toNat * i.size, none⟩)) ?_ (Rep.elem hlt h1 h2 h3)
      simp [execOp, hop, e1, ru.inv_int, Instr.indexAt, run_underlying ht, asIntOf, run_sizeOf' hi, hc'.1, hc'.2, Addr.add_lit]
  · cases hf

theorem y_iaddrA (h : Sim w0 mu0 T g st a w) {x y : Operand} {o p : AO} {t e : TypeId} {len : Nat} {i : TypeInfo} {ox : Oper} (hop : ox.op = .indexAddr t x y)
    (ht : P.underlying t = some (.array len e)) (hi : P.info? e = some i) (hx : compO x = some o) (hy : compO y = some p)
    {c : Prop} {lv : LV} (he : ev st (.iaddrA len i.size o p) = some (c, lv)) (hc : c) (d : Nat) : Yields P w0 mu0 T g st a w ox d lv := by
  simp only [ev] at he
  obtain ⟨u, c', hu, hf, hc'⟩ := ev1_inv he hc
  have ru := rd_rep h hy hu
  split at hf
  · rename_i c2 r hf2
    simp only [Option.some.injEq, Prod.mk.injEq] at hf
    obtain ⟨rfl, rfl⟩ := hf
    obtain ⟨hg, hc2⟩ := hc'
    cases u <;> try (cases hf2; done)
    rename_i k n
    simp only [iaddrAV] at hf2
    have hr : ∃ off', faddrV (n.toNat * i.size) (rdl st o).2 = some (off', r) ∧ (0 ≤ n ∧ n < len) := by
      split at hf2 <;> first | (cases hf2; done) | skip
      all_goals (rename_i hp; simp only [Option.some.injEq, Prod.mk.injEq] at hf2; obtain ⟨rfl, rfl⟩ := hf2; exact ⟨True, by rw [hp]; rfl, hc2⟩)
    obtain ⟨c3, hfa, hb⟩ := hr
    obtain ⟨b, q, h1, h2⟩ := addr_move h hx (p := (rdl st o).2) (by rw [← hg]) hfa d
    refine .same h (val := .pointer (some ⟨b, q + n.toNat * i.size, none⟩)) ?_ h2
    simp [execOp, hop, h1, ru.inv_int, Instr.indexAt, run_underlying ht, asIntOf, run_sizeOf' hi, hb.1, hb.2, Addr.add_lit, Instr.sureAddr]
  · cases hf

theorem getElem?_of_data (s : ByteArray) (n : Nat) (h : n < s.size) : s[n]? = some (s.data.toList.getD n 0) := by
  have h' : n < s.data.size := h
  rw [getElem?_pos s n h, List.getD_eq_getElem?_getD, Array.getElem?_toList, Array.getElem?_eq_getElem h']
  rfl

theorem y_idx (h : Sim w0 mu0 T g st a w) {x y : Operand} {o p : AO} {t : TypeId} {ox : Oper} (hop : ox.op = .index t x y)
    (ht : P.underlying t = some .string) (hx : compO x = some o) (hy : compO y = some p)
    {c : Prop} {lv : LV} (he : ev st (.idx o p) = some (c, lv)) (hc : c) (d : Nat) : Yields P w0 mu0 T g st a w ox d lv := by
  obtain ⟨v, u, c', hv, hu, hf, hc'⟩ := ev2_inv he hc
  have rv := rd_rep h hx hv
  have ru := rd_rep h hy hu
  cases v <;> try (cases hf; done)
  rename_i s
  cases u <;> try (cases hf; done)
  rename_i k n
  simp only [idxV, Option.some.injEq, Prod.mk.injEq] at hf
  obtain ⟨rfl, rfl⟩ := hf
  have hlt : n.toNat < s.size := by omega
  refine .same h (val := .int .u8 (s.data.toList.getD n.toNat 0).toNat) ?_ (.int _ _)
  simp [execOp, hop, rv.inv_str, ru.inv_int, Instr.index, asIntOf, run_underlying ht, hc'.1, getElem?_of_data s _ hlt]

theorem partV_field {mu : Mem} {v : SV} {x : Value} {t : TypeId} {n : Option Nat} (hr : Rep mu v x) (hagg : ∃ cs, v = .agg cs) (ht : ldk P t = some n) {off : Nat} (hk : off + n.getD 1 ≤ v.nc) (w : World) :
    ∃ cs : Array Value, x = .agg cs ∧ ∃ val, (part t cs off).run P w = .ok val w ∧ Rep mu (partV v.cells off n) val := by
  obtain ⟨cs, rfl⟩ := hagg
  obtain ⟨vs, rfl, hl, hv⟩ := hr.inv_agg
  refine ⟨_, rfl, ?_⟩
  simp only [SV.nc, SV.cells] at hk
  have hagg : ∀ i, P.info? t = some i → off + i.size ≤ cs.length → (isAgg t).run P w = .ok true w → ∃ val, (part t vs.toArray off).run P w = .ok val w ∧ Rep mu (partV cs off (some i.size)) val := by
    intro i hi hle hag
    refine ⟨.agg ((vs.drop off).take i.size).toArray, ?_, ?_⟩
    · simp only [part, Sem.run_bind, hag, Result.andThen_ok, if_true, run_sizeOf' hi, Sem.run_pure]
      congr 3
      simp
    · refine .agg _ _ (by simp; omega) (fun j hj => ?_)
      have hj' : j < i.size := by simp at hj; omega
      have hj2 : off + j < cs.length := by omega
      have := hv (off + j) hj2
      simpa [List.getD_eq_getElem?_getD, List.getElem?_take, List.getElem?_drop, hj'] using this
  have hsc : (isAgg t).run P w = .ok false w → off + 1 ≤ cs.length → ∃ val, (part t vs.toArray off).run P w = .ok val w ∧ Rep mu (partV cs off none) val := by
    intro hag hle
    have hlt : off < vs.length := by omega
    have := hv off (by omega)
    refine ⟨vs.getD off Go.undef, ?_, this⟩
    simp [part, hag, List.getElem?_toArray, List.getElem?_eq_getElem hlt, List.getD_eq_getElem?_getD]
  unfold ldk at ht
  split at ht
  · rename_i fs i hu hi
    cases ht
    exact hagg i hi (by simpa using hk) (by simp [isAgg, run_underlying hu])
  · rename_i m e i hu hi
    cases ht
    exact hagg i hi (by simpa using hk) (by simp [isAgg, run_underlying hu])
  · rename_i d i h1 h2 hu hi
    cases ht
    refine hsc ?_ (by simpa using hk)
    simp only [isAgg, Sem.run_bind, run_underlying hu, Result.andThen_ok]
    rfl
  · cases ht
end Go.Av
