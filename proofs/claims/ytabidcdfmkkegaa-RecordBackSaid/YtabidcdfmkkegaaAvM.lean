import Derived.Test.YtabidcdfmkkegaaAvL
import Derived.Laws.IdiomCopy
import Derived.Laws.Append
set_option linter.unusedSimpArgs false
namespace Go.Av
variable {P : Program} {w0 : World} {mu0 : Mem} {T : Nat → Prop} {g g' : Gh} {st : St} {a : Act} {w w' : World}

theorem setCells_heap (b : Nat) : ∀ (vs : List Value) (o : Nat) (w : World),
    (w.setCells b o vs).os = w.os ∧ (w.setCells b o vs).tape = w.tape ∧ (w.setCells b o vs).output = w.output ∧ (w.setCells b o vs).heap.size = w.heap.size ∧
    (∀ k, k ≠ b → (w.setCells b o vs).heap[k]? = w.heap[k]?) ∧
    ∀ c e fr, w.heap[b]? = some (.cells c e fr) → ∃ c', (w.setCells b o vs).heap[b]? = some (.cells c' e fr) ∧ c'.size = c.size
  | [], o, w => ⟨rfl, rfl, rfl, rfl, fun _ _ => rfl, fun c e fr h => ⟨c, h, rfl⟩⟩
  | v :: r, o, w => by
    obtain ⟨h1, h2, h3, h4, h5, h6⟩ := setCells_heap b r (o + 1) (w.setCell ⟨b, o, none⟩ v)
    refine ⟨h1, h2, h3, by rw [World.setCells, h4, World.size_setCell], fun k hk => ?_, fun c e fr h => ?_⟩
    · rw [World.setCells, h5 k hk]
      simp only [World.setCell, Array.getElem?_modify]
      rw [if_neg (fun q => hk q.symm)]
    · obtain ⟨c', e1, e2⟩ := h6 (c.setIfInBounds o v) e fr (by simp [World.setCell, Array.getElem?_modify, h])
      exact ⟨c', e1, by rw [e2]; simp⟩

/-- A row's first cells, read. -/
theorem firstCells_sl {mu : Mem} {w : World} (hm : MemOK mu w) {sz : Nat} {ys : List SV} {v : Value} (hr : Rep mu (.sl sz ys) v) :
    ∃ vs : Array Value, (∀ w', MemOK mu w' → (Builtin.firstCells sz ys.length v).run P w' = .ok vs w') ∧ vs.size = ys.length * sz ∧ (∀ x ∈ ys, x.nc = sz) ∧ (∀ x ∈ vs.toList, x.oneCell' = true) ∧
      ∀ i j, i < ys.length → j < sz → Rep mu ((ys.getD i .undef).cell j) (vs.getD (i * sz + j) Go.undef) := by
  rcases hr.inv_sl with ⟨⟨p, cap, rfl, _⟩, rfl⟩ | ⟨b, off, cap, vals, rfl, _, q1, q2, q3⟩
  · refine ⟨#[], fun _ _ => ?_, by simp, by simp, by simp, by simp⟩
    cases p with
    | none => rfl
    | some a0 => simp [Builtin.firstCells, loadCells, loadCellsFrom]
  · let f : Nat → Value := fun k => vals (k / sz) (k % sz)
    have hf : ∀ k, k < ys.length * sz → mu b (off + k) = some (f k) := by
      intro k hk
      have h0 : 0 < sz := by rcases Nat.eq_zero_or_pos sz with q | q; subst q; simp at hk; exact q
      have := q2 (k / sz) (k % sz) (Nat.div_lt_of_lt_mul (by rwa [Nat.mul_comm])) (Nat.mod_lt _ h0)
      rwa [Nat.add_assoc, Nat.div_add_mod'] at this
    refine ⟨((List.range (ys.length * sz)).map f).toArray, ?_, by simp, q1, ?_, ?_⟩
    · intro w' hm'
      simp only [Builtin.firstCells]
      exact run_loadCells w' _ _ f (fun j hj => by rw [Addr.add_lit]; exact (hm' _ _ _ (hf j hj)).1)
    · intro x hx
      simp only [List.mem_map, List.mem_range] at hx
      obtain ⟨k, hk, rfl⟩ := hx
      exact (hm _ _ _ (hf k hk)).2
    · intro i j hi hj
      have hlt : i * sz + j < ys.length * sz := by
        have : (i + 1) * sz ≤ ys.length * sz := Nat.mul_le_mul_right _ hi
        rw [Nat.add_mul] at this; omega
      have hfk : f (i * sz + j) = vals i j := by
        have h0 : 0 < sz := by omega
        simp only [f]
        rw [Nat.mul_comm i sz, Nat.mul_add_div h0, Nat.mul_add_mod, Nat.div_eq_of_lt hj, Nat.mod_eq_of_lt hj, Nat.add_zero]
      have := q3 i j hi hj
      simpa [Array.getD_eq_getD_getElem?, hlt, hfk] using this

/-- Cells of new elements. -/
def NewRow (mu : Mem) (sz : Nat) (ys : List SV) (vs : Array Value) : Prop := vs.size = ys.length * sz ∧ (∀ x ∈ ys, x.nc = sz) ∧ (∀ x ∈ vs.toList, x.oneCell' = true) ∧
  ∀ i j, i < ys.length → j < sz → Rep mu ((ys.getD i .undef).cell j) (vs.getD (i * sz + j) Go.undef)
theorem NewRow.mono {mu mu' : Mem} (hm : mu.le mu') {sz : Nat} {ys : List SV} {vs : Array Value} (h : NewRow mu sz ys vs) : NewRow mu' sz ys vs := ⟨h.1, h.2.1, h.2.2.1, fun i j hi hj => (h.2.2.2 i j hi hj).mono hm⟩

theorem NewRow.append {mu : Mem} {sz : Nat} {xs ys : List SV} {vs us : Array Value} (h : NewRow mu sz xs vs) (k : NewRow mu sz ys us) : NewRow mu sz (xs ++ ys) (vs ++ us) := by
  refine ⟨by simp [h.1, k.1, Nat.add_mul], fun x hx => ?_, fun x hx => ?_, fun i j hi hj => ?_⟩
  · rcases List.mem_append.1 hx with hx | hx
    · exact h.2.1 x hx
    · exact k.2.1 x hx
  · simp only [Array.toList_append, List.mem_append] at hx
    rcases hx with hx | hx
    · exact h.2.2.1 x hx
    · exact k.2.2.1 x hx
  · by_cases q : i < xs.length
    · have hlt : i * sz + j < vs.size := by
        rw [h.1]
        have : (i + 1) * sz ≤ xs.length * sz := Nat.mul_le_mul_right _ q
        rw [Nat.add_mul] at this; omega
      have := h.2.2.2 i j q hj
      simpa [List.getD_eq_getElem?_getD, Array.getD_eq_getD_getElem?, q, Array.getElem?_append_left hlt, List.getElem?_append_left q] using this
    · simp only [List.length_append] at hi
      have hge : vs.size ≤ i * sz + j := by
        rw [h.1]
        have : xs.length * sz ≤ i * sz := Nat.mul_le_mul_right _ (by omega)
        omega
      have := k.2.2.2 (i - xs.length) j (by omega) hj
      have he : i * sz + j - vs.size = (i - xs.length) * sz + j := by
        rw [h.1, Nat.sub_mul]
        have : xs.length * sz ≤ i * sz := Nat.mul_le_mul_right _ (by omega)
        omega
      simpa [List.getD_eq_getElem?_getD, Array.getD_eq_getD_getElem?, Array.getElem?_append_right hge, he, List.getElem?_append_right (Nat.le_of_not_lt q)] using this

theorem NewRow.rep {mu : Mem} {sz : Nat} {xs : List SV} {vs : Array Value} (h : NewRow mu sz xs vs) {b off cap : Nat} (hm : ∀ j, j < xs.length * sz → mu b (off + j) = some (vs.getD j Go.undef)) (hc : xs.length ≤ cap) :
    Rep mu (.sl sz xs) (.slice (some ⟨b, off, none⟩) xs.length cap) := by
  refine .sl sz xs b off cap (fun i j => vs.getD (i * sz + j) Go.undef) hc h.2.1 (fun i j hi hj => ?_) h.2.2.2
  rw [Nat.add_assoc]
  refine hm _ ?_
  have : (i + 1) * sz ≤ xs.length * sz := Nat.mul_le_mul_right _ hi
  rw [Nat.add_mul] at this; omega

/-- The cells of a slice, out of immutable memory. -/
theorem NewRow.of_rep {mu : Mem} (hm : MemOK mu w) {sz : Nat} {xs : List SV} {b off cap : Nat} (hr : Rep mu (.sl sz xs) (.slice (some ⟨b, off, none⟩) xs.length cap)) :
    ∃ vs : Array Value, NewRow mu sz xs vs ∧ ∀ j, j < xs.length * sz → mu b (off + j) = some (vs.getD j Go.undef) := by
  rcases hr.inv_sl with ⟨_, rfl⟩ | ⟨b', off', cap', vals, e, _, q1, q2, q3⟩
  · exact ⟨#[], ⟨by simp, by simp, by simp, by simp⟩, by simp⟩
  · cases e
    let f : Nat → Value := fun k => vals (k / sz) (k % sz)
    have hf : ∀ k, k < xs.length * sz → mu b (off + k) = some (f k) := by
      intro k hk
      have h0 : 0 < sz := by rcases Nat.eq_zero_or_pos sz with q | q; subst q; simp at hk; exact q
      have := q2 (k / sz) (k % sz) (Nat.div_lt_of_lt_mul (by rwa [Nat.mul_comm])) (Nat.mod_lt _ h0)
      rwa [Nat.add_assoc, Nat.div_add_mod'] at this
    refine ⟨((List.range (xs.length * sz)).map f).toArray, ⟨by simp, q1, ?_, ?_⟩, fun j hj => by rw [hf j hj]; simp [Array.getD_eq_getD_getElem?, hj]⟩
    · intro x hx
      simp only [List.mem_map, List.mem_range] at hx
      obtain ⟨k, hk, rfl⟩ := hx
      exact (hm _ _ _ (hf k hk)).2
    · intro i j hi hj
      have hlt : i * sz + j < xs.length * sz := by
        have : (i + 1) * sz ≤ xs.length * sz := Nat.mul_le_mul_right _ hi
        rw [Nat.add_mul] at this; omega
      have hfk : f (i * sz + j) = vals i j := by
        have h0 : 0 < sz := by omega
        simp only [f]
        rw [Nat.mul_comm i sz, Nat.mul_add_div h0, Nat.mul_add_mod, Nat.div_eq_of_lt hj, Nat.mod_eq_of_lt hj, Nat.add_zero]
      have := q3 i j hi hj
      simpa [Array.getD_eq_getD_getElem?, hlt, hfk] using this

theorem run_append_in {t tx e ty : TypeId} {i : TypeInfo} {dx : TypeDesc} {q : Option Addr} {n m cap : Nat} {new : Array Value} {vx : Value}
    (ht : P.underlying t = some (.slice e)) (hi : P.info? e = some i) (hdx : P.underlying tx = some dx) (hdi : ∀ k, dx ≠ .int k)
    (hn : (Builtin.lenOf vx).run P w = .ok m w) (hfirst : (Builtin.firstCells i.size m vx).run P w = .ok new w) (hfit : n + m ≤ cap)
    (hst : ∀ a, q = some a → (storeCells (a.add (n * i.size)) new.toList).run P w = .ok () w') (hq : q = none → w' = w) :
    (Builtin.append_ #[t, tx] ty #[.slice q n cap, vx]).run P w = .ok (.slice q (n + m) cap) w' := by
  have hz : (match dx with | .int _ => true | _ => false) = false := by cases dx <;> first | rfl | exact absurd rfl (hdi _)
  simp only [Builtin.append_, List.getElem?_toArray, List.getElem?_cons_zero, List.getElem?_cons_succ, Sem.run_bind, run_underlying ht, Result.andThen_ok, run_sizeOf' hi, run_underlying hdx, Sem.run_pure, hz, hn, Bool.false_eq_true, if_false]
  rw [if_pos hfit]
  simp only [Bool.not_false, if_true, Sem.run_bind, hfirst, Result.andThen_ok]
  cases q with
  | none => rw [hq rfl]; rfl
  | some a => simp only [Sem.run_bind, hst a rfl, Result.andThen_ok]; rfl

theorem run_append_out {t tx e ty : TypeId} {i : TypeInfo} {dx : TypeDesc} {z : Value} {q : Option Addr} {n m cap : Nat} {old new : Array Value} {vx : Value}
    (ht : P.underlying t = some (.slice e)) (hi : P.info? e = some i) (hz : i.zero = some z) (hdx : P.underlying tx = some dx) (hdi : ∀ k, dx ≠ .int k)
    (hn : (Builtin.lenOf vx).run P w = .ok m w) (hfirst : (Builtin.firstCells i.size m vx).run P w.drew = .ok new w.drew) (hold : (Builtin.firstCells i.size n (.slice q n cap)).run P w.drew = .ok old w.drew)
    (hfit : ¬ n + m ≤ cap) (hb : (n + m) * i.bytes ≤ 140737488355328) (h63 : n + m ≤ 9223372036854775807) :
    ∃ newCap, n + m ≤ newCap ∧ (Builtin.append_ #[t, tx] ty #[.slice q n cap, vx]).run P w =
      .ok (.slice (some ⟨w.heap.size, 0, none⟩) (n + m) newCap) (w.drew.alloc (.cells (old ++ new ++ Builtin.zeroCells z.cells (newCap - (n + m))) e)) := by
  have hz' : (match dx with | .int _ => true | _ => false) = false := by cases dx <;> first | rfl | exact absurd rfl (hdi _)
  refine ⟨n + m + w.tape w.drawn (.appendCap (n + m) cap e) % (2 ^ 63 - (n + m)), by omega, ?_⟩
  simp only [Builtin.append_, List.getElem?_toArray, List.getElem?_cons_zero, List.getElem?_cons_succ, Sem.run_bind, run_underlying ht, Result.andThen_ok, run_sizeOf' hi, run_underlying hdx, Sem.run_pure, hz', hn, Bool.false_eq_true, if_false]
  have hti : ∀ w, (typeInfo e).run P w = .ok i w := fun w => by simp [typeInfo, hi]
  have hzv : ∀ w, (zeroValue e).run P w = .ok z w := fun w => by simp [zeroValue, hti, hz]
  have hgrow : ¬ (Builtin.nextslicecap (n + m) cap * i.bytes > 2 ^ 48) := by
    have := growslice_fits (bytes := i.bytes) (Nat.lt_of_not_le hfit) hb
    have e : (2 : Nat) ^ 48 = 281474976710656 := by decide
    omega
  rw [if_neg hfit]
  simp only [Sem.run_bind, hti, Result.andThen_ok]
  rw [if_neg (by rw [IntKind.max_i64]; rintro ⟨h1, _⟩; omega)]
  simp only [Sem.run_bind, hti, Result.andThen_ok]
  rw [if_neg hgrow]
  simp only [Sem.run_bind, run_choose, Question.forced, Bool.false_eq_true, if_false, Question.cut, Result.andThen_ok, hti, run_askRoom, World.drew_eq, hold, Bool.not_false, if_true, hfirst, hzv, newRow, run_newObj, Sem.run_pure, World.alloc_eq]
  rfl

/-- The append itself. -/
theorem append_ok (h : Sim w0 mu0 T g st a w) {s : Nat} {xs ys : List SV} {t tx e : TypeId} {i : TypeInfo} {new : Array Value} {vx : Value} (hl : (lk st.sl s).gv = (true, .own i.size xs))
    (ht : P.underlying t = some (.slice e)) (hi : P.info? e = some i) (hzr : ∃ z, i.zero = some z ∧ z.cells.size = i.size) (htx : ∃ dx, P.underlying tx = some dx ∧ ∀ k, dx ≠ .int k)
    (hn : (Builtin.lenOf vx).run P w = .ok ys.length w) (hfirst : (Builtin.firstCells i.size ys.length vx).run P w = .ok new w) (hfirst' : (Builtin.firstCells i.size ys.length vx).run P w.drew = .ok new w.drew) (hnew : NewRow g.mu i.size ys new)
    (hfit : (xs.length + ys.length) * i.bytes ≤ 140737488355328) (h63 : xs.length + ys.length ≤ 9223372036854775807) (ty : TypeId) (d : Nat) :
    ∃ val g' w', (Builtin.append_ #[t, tx] ty #[a.tmps.getD s Go.undef, vx]).run P w = .ok val w' ∧ Sim w0 mu0 T g' { st with sl := (s, (lk st.sl s).dg) :: st.sl } a w' ∧ RepL g' w' d (.own i.size (xs ++ ys)) val := by
  obtain ⟨z, hz, hzs⟩ := hzr
  obtain ⟨dx, hdx, hdi⟩ := htx
  have hown : RepL g w s (.own i.size xs) (a.tmps.getD s Go.undef) := by have := (h.slots s).gv (by rw [hl]); rwa [hl] at this
  -- it grows
  have grows : ∀ (q : Option Addr) (cap : Nat), a.tmps.getD s Go.undef = .slice q xs.length cap → Rep g.mu (.sl i.size xs) (.slice q xs.length cap) → ¬ xs.length + ys.length ≤ cap →
      ∃ val g' w', (Builtin.append_ #[t, tx] ty #[a.tmps.getD s Go.undef, vx]).run P w = .ok val w' ∧ Sim w0 mu0 T g' { st with sl := (s, (lk st.sl s).dg) :: st.sl } a w' ∧ RepL g' w' d (.own i.size (xs ++ ys)) val := by
    intro q cap hv hr hc
    have hd := (h.dg s).drew
    obtain ⟨old, o1, o2, o3, o4, o5⟩ := firstCells_sl (P := P) hd.mem hr
    obtain ⟨newCap, hle, hrun⟩ := run_append_out (ty := ty) ht hi hz hdx hdi hn hfirst' (o1 _ hd.mem) hc hfit h63
    let cs := old ++ new ++ Builtin.zeroCells z.cells (newCap - (xs.length + ys.length))
    have hcs : cs.size = newCap * i.size := by
      simp only [cs, Array.size_append, o2, hnew.1, Builtin.zeroCells, Array.size_map, Array.size_range, hzs]
      rw [Nat.sub_mul, Nat.add_mul]
      have : (xs.length + ys.length) * i.size ≤ newCap * i.size := Nat.mul_le_mul_right _ hle
      rw [Nat.add_mul] at this
      omega
    have hrow := NewRow.append (mu := g.mu) ⟨o2, o3, o4, o5⟩ hnew
    have hsim := hd.newImm cs e (old ++ new).size (some (.slot d 0)) (fun j v hj hv => by
      rw [Array.getElem?_append_left hj] at hv
      exact hrow.2.2.1 v (by simpa using Array.mem_of_getElem? hv))
    refine ⟨_, _, _, by rw [hv]; exact hrun, hsim, .inr ⟨w.heap.size, 0, newCap, by simp, ?_, by simp [Gh.new], by have := h.B; have := h.ext.size; simp [Gh.new]; omega, ⟨cs, e, (0, 0), ?_, by omega, .inl rfl⟩, ?_⟩⟩
    · have hrep := (hrow.mono (Gh.new_le (w := w.drew) hd.mem cs (old ++ new).size (some (.slot d 0)))).rep (b := w.heap.size) (off := 0) (cap := newCap) (fun j hj => by
        have hj' : j < (old ++ new).size := by rw [hrow.1]; exact hj
        simp only [Gh.new, World.size_drew, if_true, Nat.zero_add, hj']
        rw [Array.getElem?_append_left hj', Array.getD_eq_getD_getElem?, Array.getElem?_eq_getElem hj']; rfl) (by simpa using hle)
      simpa using hrep
    · exact heap_alloc_new (w := w.drew) _
    · intro j hj
      have : ¬ j < (old ++ new).size := by rw [hrow.1]; omega
      simp only [Gh.new, World.size_drew, if_true, this, if_false]
  rcases hown with ⟨h1, q, h2, h3⟩ | ⟨b, off, cap, hv, hr, hx, hB, ⟨c, e', fr, hb, hcsz, hfr⟩, hsp⟩
  · -- no spare room
    by_cases hc : xs.length + ys.length ≤ xs.length
    · have hy : ys = [] := List.eq_nil_of_length_eq_zero (by omega)
      subst hy
      have hne : new.toList = [] := by have := hnew.1; simp at this; simp [this]
      refine ⟨_, g, w, by rw [h2]; exact run_append_in (w' := w) ht hi hdx hdi hn hfirst hc (fun a' _ => by rw [hne]; rfl) (fun _ => rfl), h.dg s, .inl ⟨by rw [h2] at h1; simpa using h1, q, by simp, h3⟩⟩
    · exact grows q xs.length h2 (h2 ▸ h1) hc
  · by_cases hc : xs.length + ys.length ≤ cap
    · -- in place
      have hbB : w0.heap.size ≤ b := by rw [← h.B]; exact hB
      have hlt : b < w.heap.size := h.xlt b _ hx
      obtain ⟨ob1, ob2⟩ := h.own_block hx
      have h1 := h.disown' hl hv hx
      let o := off + xs.length * i.size
      have hroom : off + (xs.length + ys.length) * i.size ≤ c.size := by
        have : (xs.length + ys.length) * i.size ≤ cap * i.size := Nat.mul_le_mul_right _ hc
        omega
      rw [Nat.add_mul] at hroom
      have hns : new.size = ys.length * i.size := hnew.1
      have hcell : ∀ j, j < new.toList.length → (w.cell? ⟨b, o + 0 + j, none⟩).isSome = true := fun j hj => by
        have : o + 0 + j < c.size := by simp at hj; omega
        rw [cell_of_block hb, Array.getElem?_eq_getElem this]; rfl
      have hfro : ∀ j, j < new.toList.length → w.frozen? ⟨b, o + 0 + j, none⟩ = false := fun j hj => by
        have hlt : o + 0 + j < c.size := by simp at hj; omega
        have := hfr.not _ hlt
        simp only [World.frozen?, hb]
        simp only [Bool.and_eq_false_iff, decide_eq_false_iff_not]
        omega
      have hst := run_storeCells_cells (P := P) b o new.toList 0 w hcell hfro hnew.2.2.1
      simp only [Nat.add_zero] at hst hcell hfro
      obtain ⟨k1, k2, k3, k4, k5, k6⟩ := setCells_heap b new.toList o w
      obtain ⟨c', hb', hc'⟩ := k6 c e' fr hb
      let g2 : Gh := { mu := fun b' j => if b' = b ∧ o ≤ j ∧ j < o + new.size then new[j - o]? else g.mu b' j, x := fun b' => if b' = b then some (.slot d 0) else g.x b', bx := g.bx, B := g.B, okb := g.okb }
      have hmule : g.mu.le g2.mu := fun b' j v hm => by
        by_cases q : b' = b ∧ o ≤ j ∧ j < o + new.size
        · obtain ⟨rfl, q1, q2⟩ := q
          rw [hsp j q1] at hm; cases hm
        · simp only [g2, q, if_false]; exact hm
      refine ⟨_, g2, w.setCells b o new.toList, by rw [hv]; exact run_append_in (w' := w.setCells b o new.toList) ht hi hdx hdi hn hfirst hc (fun a' ha' => by cases ha'; rw [Addr.add_lit]; exact hst) (fun q => by cases q), ?_, ?_⟩
      · refine h1.grow (g' := g2) hmule ?_ ?_ ?_ ?_ ?_ ?_ (fun _ => rfl) rfl (Nat.le_of_eq k4.symm)
        · intro b' hu
          have hne : b' ≠ b := by
            rintro rfl
            rcases hu with hu | ⟨s', hu⟩ | hu
            · simp at hu
            · exact ob1 s' hu
            · exact hu ob2
          exact ⟨k5 b' hne, fun j q => by simp [g2, hne]; exact q⟩
        · intro b' hu
          have hne : b' ≠ b := by rintro rfl; simp at hu
          simp [g2, hne]
        · intro b' hu1 hu2
          by_cases q : b' = b
          · subst q; exact ⟨ob1, ob2, by rw [k4]; exact hlt⟩
          · simp [q] at hu1; simp [g2, q, hu1] at hu2
        · intro b' j v hm
          by_cases q : b' = b ∧ o ≤ j ∧ j < o + new.size
          · obtain ⟨rfl, q1, q2⟩ := q
            simp only [g2, q1, q2, true_and, if_true] at hm
            have hj : j - o < new.toList.length := by simp; omega
            have := World.cell?_setCells_in b' new.toList o w hcell (j - o) hj
            rw [show o + (j - o) = j by omega] at this
            have hv' : new.toList[j - o] = v := by
              rw [← Array.getElem?_toList, List.getElem?_eq_getElem hj] at hm
              exact Option.some.inj hm
            exact ⟨by rw [this, hv'], hnew.2.2.1 v (by rw [← hv']; exact List.getElem_mem hj)⟩
          · simp only [g2, q, if_false] at hm
            have hm' := h.mem b' j v hm
            refine ⟨?_, hm'.2⟩
            rw [World.cell?_setCells_out b new.toList o w ⟨b', j, none⟩ (fun e1 _ => by simp at e1; simp; omega)]
            exact hm'.1
        · intro b' j hlt'
          have : ¬ (b' = b ∧ o ≤ j ∧ j < o + new.size) := by rintro ⟨rfl, _⟩; omega
          simp [g2, this]
        · exact ⟨k1.trans h.ext.os, k2.trans h.ext.tape, k3.trans h.ext.output, by rw [k4]; exact h.ext.size, fun k hk ht' => (k5 k (by omega)).trans (h.ext.block k hk ht'), fun a ha => (frozen_same k5 hb hb' a).trans (h.ext.frozen a ha)⟩
      · obtain ⟨vs, r1, r2⟩ := NewRow.of_rep h.mem (hv ▸ hr)
        have hrow := (r1.append hnew).mono hmule
        refine .inr ⟨b, off, cap, by simp, ?_, by simp [g2], hB, ⟨c', e', fr, hb', by omega, hfr.size (by omega)⟩, fun j hj => ?_⟩
        · have := hrow.rep (b := b) (off := off) (cap := cap) (fun j hj => by
            simp only [List.length_append, Nat.add_mul] at hj
            by_cases q : j < xs.length * i.size
            · have hjv : j < vs.size := by rw [r1.1]; exact q
              rw [hmule b (off + j) _ (r2 j q), Array.getD_eq_getD_getElem?, Array.getD_eq_getD_getElem?, Array.getElem?_append_left hjv]
            · have hjv : vs.size ≤ j := by rw [r1.1]; omega
              have hjn : j - vs.size < new.size := by rw [r1.1, hnew.1]; omega
              have hc1 : b = b ∧ o ≤ off + j ∧ off + j < o + new.size := ⟨rfl, by simp only [o]; omega, by rw [hnew.1]; simp only [o]; omega⟩
              have hc2 : off + j - o = j - vs.size := by rw [r1.1]; simp only [o]; omega
              rw [show g2.mu b (off + j) = (if b = b ∧ o ≤ off + j ∧ off + j < o + new.size then new[off + j - o]? else g.mu b (off + j)) from rfl, if_pos hc1, hc2, Array.getD_eq_getD_getElem?, Array.getElem?_append_right hjv, Array.getElem?_eq_getElem hjn]
              rfl) (by simpa using hc)
          simpa using this
        · simp only [List.length_append, Nat.add_mul] at hj
          have : ¬ (b = b ∧ o ≤ j ∧ j < o + new.size) := by rintro ⟨_, q1, q2⟩; rw [hnew.1] at q2; simp only [o] at q2; omega
          rw [show g2.mu b j = (if b = b ∧ o ≤ j ∧ j < o + new.size then new[j - o]? else g.mu b j) from rfl, if_neg this]
          exact hsp j (by omega)
    · exact grows _ cap hv (hv ▸ hr) hc
end Go.Av
