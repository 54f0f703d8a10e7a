import Derived.Test.YtabidcdfmkkegaaAvK
set_option linter.unusedSimpArgs false
namespace Go.Av
variable {P : Program} {w0 : World} {mu0 : Mem} {T : Nat → Prop} {g g' : Gh} {st : St} {a : Act} {w w' : World}

theorem block_lt {b : Nat} {o : Obj} (h : w.heap[b]? = some o) : b < w.heap.size := by
  rcases Nat.lt_or_ge b w.heap.size with h' | h'
  · exact h'
  · rw [Array.getElem?_eq_none h'] at h; cases h

theorem Sim.used_lt (h : Sim w0 mu0 T g st a w) {b : Nat} (hb : g.x b ≠ none ∨ (∃ s, g.bx s = some b) ∨ st.hp b ≠ none) : b < w.heap.size := by
  rcases hb with hb | ⟨s, hb⟩ | hb
  · obtain ⟨p, hp⟩ := Option.ne_none_iff_exists'.1 hb; exact h.xlt b p hp
  · exact h.blt s b hb
  · obtain ⟨cs, hc⟩ := Option.ne_none_iff_exists'.1 hb
    obtain ⟨⟨_, c, e, fr, h1, _⟩, _⟩ := h.heap b cs hc
    exact block_lt h1

/-- The ghost behind a new block whose first n cells stay. -/
def Gh.new (g : Gh) (b : Nat) (cs : Array Value) (n : Nat) (p : Option Place) : Gh :=
  { g with mu := fun b' j => if b' = b then (if j < n then cs[j]? else none) else g.mu b' j, x := fun b' => if b' = b then p else g.x b' }

theorem heap_alloc_lt {o : Obj} {b : Nat} (hb : b < w.heap.size) : (w.alloc o).heap[b]? = w.heap[b]? := by
  show (w.heap.push o)[b]? = _
  rw [Array.getElem?_push, if_neg (by omega)]
theorem heap_alloc_new (o : Obj) : (w.alloc o).heap[w.heap.size]? = some o := by
  show (w.heap.push o)[w.heap.size]? = _
  rw [Array.getElem?_push, if_pos rfl]

theorem frozen_alloc (w : World) (c : Array Value) (t : TypeId) (a : Addr) : (w.alloc (.cells c t)).frozen? a = w.frozen? a := by
  by_cases h : a.block = w.heap.size
  · have e1 : (w.alloc (.cells c t)).heap[a.block]? = some (.cells c t) := by rw [h]; exact heap_alloc_new _
    have e2 : w.heap[a.block]? = none := by rw [h]; simp
    simp [World.frozen?, e1, e2]
  · by_cases h2 : a.block < w.heap.size
    · simp only [World.frozen?]; rw [heap_alloc_lt h2]
    · have e1 : (w.alloc (.cells c t)).heap[a.block]? = none := by
        apply Array.getElem?_eq_none; simp; omega
      have e2 : w.heap[a.block]? = none := by apply Array.getElem?_eq_none; omega
      simp [World.frozen?, e1, e2]
theorem Ext.alloc {T : Nat → Prop} (w : World) (o : Obj) : Ext T w (w.alloc o) := ⟨rfl, rfl, rfl, by simp, fun k hk _ => heap_alloc_lt hk, fun a ha => by simp only [World.frozen?]; rw [heap_alloc_lt ha]⟩
theorem frozen_same {w w' : World} {b : Nat} {c c' : Array Value} {e : TypeId} {fr : Nat × Nat} (h1 : ∀ k, k ≠ b → w'.heap[k]? = w.heap[k]?) (h2 : w.heap[b]? = some (.cells c e fr)) (h3 : w'.heap[b]? = some (.cells c' e fr)) (a : Addr) : w'.frozen? a = w.frozen? a := by
  by_cases q : a.block = b
  · simp [World.frozen?, q, h2, h3]
  · simp only [World.frozen?]; rw [h1 _ q]

theorem Sim.newImm' (h : Sim w0 mu0 T g st a w) (cs : Array Value) (e : TypeId) (fr : Nat × Nat) (n : Nat) (p : Option Place) (h1 : ∀ j v, j < n → cs[j]? = some v → v.oneCell' = true) :
    Sim w0 mu0 T (g.new w.heap.size cs n p) st a (w.alloc (.cells cs e fr)) := by
  have hlt : ∀ b j v, g.mu b j = some v → b < w.heap.size := fun b j v e => h.mem.lt e
  have hw0 := h.ext.size
  refine h.grow ?_ ?_ ?_ ?_ ?_ ?_ (h.ext.trans (Ext.alloc w _)) (fun _ => rfl) rfl (by simp)
  · intro b j v e
    have hb := hlt b j v e
    have : b ≠ w.heap.size := by omega
    simp [Gh.new, this, e]
  · intro b hb
    have hb := h.used_lt hb
    have : b ≠ w.heap.size := by omega
    exact ⟨heap_alloc_lt hb, fun j q => by simp [Gh.new, this, q]⟩
  · intro b hb
    have hb := h.used_lt (.inl hb)
    have : b ≠ w.heap.size := by omega
    simp [Gh.new, this]
  · intro b hb hn
    by_cases q : b = w.heap.size
    · subst q
      refine ⟨fun s e => ?_, ?_, by simp⟩
      · have := h.blt s _ e; omega
      · cases hq : st.hp w.heap.size with
        | none => rfl
        | some cs' => have := h.used_lt (b := w.heap.size) (.inr (.inr (by rw [hq]; simp))); omega
    · simp [Gh.new, q, hb] at hn
  · intro b j v hv
    by_cases q : b = w.heap.size
    · subst q
      simp only [Gh.new, if_true] at hv
      split at hv
      · rename_i hj; exact ⟨by unfold World.cell?; rw [heap_alloc_new]; exact hv, h1 j v hj hv⟩
      · cases hv
    · simp only [Gh.new, if_neg q] at hv
      rw [World.cell?_alloc_old _ _ _ q]
      exact h.mem b j v hv
  · intro b j hb
    have : b ≠ w.heap.size := by omega
    simp [Gh.new, this]

theorem Sim.newImm (h : Sim w0 mu0 T g st a w) (cs : Array Value) (e : TypeId) (n : Nat) (p : Option Place) (h1 : ∀ j v, j < n → cs[j]? = some v → v.oneCell' = true) :
    Sim w0 mu0 T (g.new w.heap.size cs n p) st a (w.alloc (.cells cs e)) := h.newImm' cs e (0, 0) n p h1

theorem isCell_cells {v : SV} (h : v.isCell = true) : v.cells = [v] := by cases v <;> first | rfl | (cases h)
theorem isCell_nc {v : SV} (h : v.isCell = true) : v.nc = 1 := by simp [SV.nc, isCell_cells h]
theorem known_of_cells {v : SV} (h : v.cells.all SV.isCell = true) : v.known = true := by cases v <;> first | rfl | (simp [SV.cells, SV.isCell] at h)
theorem Rep.oneCell {mu : Mem} {v : SV} {x : Value} (h : Rep mu v x) (hv : v.isCell = true) : x.oneCell' = true := by cases h <;> first | rfl | (cases hv)

/-! ### literals of slices -/
theorem setParts_length : ∀ (l : List (Nat × SV)) (xs : List SV), (setParts xs l).length = xs.length
  | [], _ => rfl
  | (i, v) :: l, xs => by simp [setParts, setParts_length l]

/-- A row of elements, as cells. -/
def RepRow (mu : Mem) (sz : Nat) (xs : List SV) (vs : Array Value) : Prop := vs.size = xs.length * sz ∧ (∀ x ∈ xs, x.nc = sz ∧ x.cells.all SV.isCell = true) ∧ ∀ i j, i < xs.length → j < sz → Rep mu ((xs.getD i .undef).cell j) (vs.getD (i * sz + j) Go.undef)

theorem RepRow.lay {mu : Mem} {sz i : Nat} {xs : List SV} {v : SV} {vs us : Array Value} (h : RepRow mu sz xs vs) (hn : v.nc = sz) (hk : v.cells.all SV.isCell = true) (k : RepCs mu v.cells us) (hi : i < xs.length) : RepRow mu sz (xs.set i v) (layA (i * sz) vs us) := by
  obtain ⟨a1, a2⟩ := layA_spec (i * sz) vs us
  have hus : us.size = sz := by rw [k.1]; exact hn
  refine ⟨by rw [a1, h.1]; simp, fun x hx => ?_, fun i' j hi' hj => ?_⟩
  · rcases List.mem_or_eq_of_mem_set hx with hx | rfl
    · exact h.2.1 x hx
    · exact ⟨hn, hk⟩
  · have hi2 : i' < xs.length := by simpa using hi'
    rw [a2, hus, h.1]
    by_cases e : i' = i
    · subst e
      have hb : i' * sz ≤ i' * sz + j ∧ i' * sz + j < i' * sz + sz ∧ i' * sz + j < xs.length * sz := by
        refine ⟨by omega, by omega, ?_⟩
        have : (i' + 1) * sz ≤ xs.length * sz := Nat.mul_le_mul_right _ hi
        rw [Nat.add_mul] at this; omega
      rw [if_pos hb, show i' * sz + j - i' * sz = j by omega]
      have := k.2 j (by rw [← k.1, hus]; exact hj)
      simpa [List.getD_eq_getElem?_getD, hi, SV.cell] using this
    · have hb : ¬ (i * sz ≤ i' * sz + j ∧ i' * sz + j < i * sz + sz ∧ i' * sz + j < xs.length * sz) := by
        rintro ⟨h1, h2, _⟩
        rcases Nat.lt_or_ge i' i with q | q
        · have : (i' + 1) * sz ≤ i * sz := Nat.mul_le_mul_right _ q
          rw [Nat.add_mul] at this; omega
        · have : (i + 1) * sz ≤ i' * sz := Nat.mul_le_mul_right _ (by omega)
          rw [Nat.add_mul] at this; omega
      rw [if_neg hb]
      have := h.2.2 i' j hi2 hj
      have e' : ¬ i = i' := fun q => e q.symm
      simpa [List.getD_eq_getElem?_getD, List.getElem?_set, e'] using this

theorem RepRow.oneCell {mu : Mem} {sz : Nat} {xs : List SV} {vs : Array Value} (h : RepRow mu sz xs vs) {j : Nat} (hj : j < vs.size) {v : Value} (hv : vs[j]? = some v) : v.oneCell' = true := by
  rw [h.1] at hj
  have h0 : 0 < sz := by rcases Nat.eq_zero_or_pos sz with q | q; subst q; simp at hj; exact q
  have hd : j / sz < xs.length := Nat.div_lt_of_lt_mul (by rwa [Nat.mul_comm])
  have hm : j % sz < sz := Nat.mod_lt _ h0
  have hr := h.2.2 (j / sz) (j % sz) hd hm
  have hx := h.2.1 _ (getD_mem hd)
  have hj' : j / sz * sz + j % sz = j := Nat.div_add_mod' j sz
  rw [hj', Array.getD_eq_getD_getElem?, hv] at hr
  refine Rep.oneCell hr ?_
  have hl : j % sz < ((xs.getD (j / sz) .undef).cells).length := by have := hx.1; unfold SV.nc at this; omega
  rw [SV.cell, List.getD_eq_getElem?_getD, List.getElem?_eq_getElem hl]
  exact List.all_eq_true.1 hx.2 _ (List.getElem_mem hl)

theorem evElems_fill (h : Sim w0 mu0 T g st a w) (sz : Nat) : ∀ (ps : List (Nat × Operand)) (qs : List (Nat × AO)) (c : Prop) (l : List (Nat × SV)) (xs : List SV) (vs : Array Value),
    ps.length = qs.length → (∀ (j : Nat) (p : Nat × Operand) (q : Nat × AO), ps[j]? = some p → qs[j]? = some q → p.1 = q.1 ∧ compO p.2 = some q.2) →
    evElems st sz qs = some (c, l) → c → (∀ p ∈ l, p.1 < xs.length) → RepRow g.mu sz xs vs →
    ∃ us, Instr.fill (fun i => some (i * sz, sz)) vs (ps.map fun (i, x) => (i, a.eval x)) = some us ∧ RepRow g.mu sz (setParts xs l) us
  | [], [], c, l, xs, vs, _, _, he, _, _, hr => by
    simp only [evElems, Option.some.injEq, Prod.mk.injEq] at he
    obtain ⟨rfl, rfl⟩ := he
    exact ⟨vs, rfl, hr⟩
  | (i, x) :: ps, (i', o) :: qs, c, l, xs, vs, hl, hp, he, hc, hle, hr => by
    obtain ⟨hpl, hx⟩ := hp 0 _ _ rfl rfl
    simp only [] at hpl hx
    subst hpl
    simp only [evElems] at he
    split at he
    case h_2 => cases he
    rename_i gg v c' l' hv he'
    simp only [Option.some.injEq, Prod.mk.injEq] at he
    obtain ⟨rfl, rfl⟩ := he
    obtain ⟨rfl, hnc, hkn, hc'⟩ := hc
    have rv := (rd_rep h hx hv).repCs (known_of_cells hkn)
    have hle0 : i < xs.length := hle _ (List.mem_cons_self ..)
    have hsz : (a.eval x).cells.size = sz := by rw [rv.1]; exact hnc
    obtain ⟨us, f1, f2⟩ := evElems_fill h sz ps qs c' l' (xs.set i v) (layA (i * sz) vs (a.eval x).cells) (by simpa using hl) (fun j p q e1 e2 => hp (j + 1) p q (by simpa using e1) (by simpa using e2)) he' hc'
      (fun p hp' => by rw [List.length_set]; exact hle p (List.mem_cons_of_mem _ hp')) (hr.lay hnc hkn rv hle0)
    refine ⟨us, ?_, f2⟩
    simp only [List.map_cons, Instr.fill]
    have hb : i * sz + sz ≤ vs.size := by
      rw [hr.1]
      have : (i + 1) * sz ≤ xs.length * sz := Nat.mul_le_mul_right _ hle0
      rw [Nat.add_mul] at this; omega
    rw [if_neg (by simp [hsz]; omega)]
    exact f1
  | [], _ :: _, _, _, _, _, hl, _, _, _, _, _ => by simp at hl
  | _ :: _, [], _, _, _, _, hl, _, _, _, _, _ => by simp at hl

/-- n elements of zeros. -/
theorem zero_row {mu : Mem} {sz n : Nat} {zero : List SV} {z : Array Value} (hz : RepCs mu zero z) (hs : zero.length = sz) (h0 : sz ≠ 0) (hk : zero.all SV.isCell = true) :
    RepRow mu sz (List.replicate n (elemOf sz zero)) ((Array.range (n * sz)).map (z[· % z.size]!)) := by
  have hzs : z.size = sz := by rw [hz.1, hs]
  have hcell : ((elemOf sz zero).nc = sz ∧ (elemOf sz zero).cells.all SV.isCell = true) ∧ ∀ j, j < sz → (elemOf sz zero).cell j = zero.getD j .undef := by
    unfold elemOf
    split
    · rename_i h; rw [h]
      have hq : (zero.getD 0 .undef).isCell = true := by
        have hlt : 0 < zero.length := by omega
        rw [List.getD_eq_getElem?_getD, List.getElem?_eq_getElem hlt]
        exact List.all_eq_true.1 hk _ (List.getElem_mem hlt)
      refine ⟨⟨isCell_nc hq, by rw [isCell_cells hq, List.all_cons, hq]; rfl⟩, fun j hj => ?_⟩
      obtain rfl : j = 0 := by omega
      rw [SV.cell, isCell_cells hq]; rfl
    · exact ⟨⟨hs, hk⟩, fun j hj => rfl⟩
  refine ⟨by simp, fun x hx => by rw [List.eq_of_mem_replicate hx]; exact hcell.1, fun i j hi hj => ?_⟩
  have hi' : i < n := by simpa using hi
  have hb : i * sz + j < n * sz := by
    have : (i + 1) * sz ≤ n * sz := Nat.mul_le_mul_right _ hi'
    rw [Nat.add_mul] at this; omega
  have e1 : ((List.replicate n (elemOf sz zero)).getD i .undef) = elemOf sz zero := by simp [List.getD_eq_getElem?_getD, hi']
  rw [e1, hcell.2 j hj]
  have e2 : (i * sz + j) % z.size = j := by rw [hzs, Nat.mul_comm, Nat.mul_add_mod, Nat.mod_eq_of_lt hj]
  have := hz.2 j (by omega)
  have hjz : j < z.size := by omega
  simp only [Array.getD_eq_getD_getElem?, Array.getElem?_map, Array.getElem?_range, hb, if_true, Option.map_some, Option.getD_some, e2]
  simpa [Array.getD_eq_getD_getElem?, hjz] using this

theorem RepRow.rep {mu : Mem} {sz : Nat} {xs : List SV} {vs : Array Value} (h : RepRow mu sz xs vs) {b off cap : Nat} (hm : ∀ j, j < xs.length * sz → mu b (off + j) = some (vs.getD j Go.undef)) (hc : xs.length ≤ cap) :
    Rep mu (.sl sz xs) (.slice (some ⟨b, off, none⟩) xs.length cap) := by
  refine .sl sz xs b off cap (fun i j => vs.getD (i * sz + j) Go.undef) hc (fun x hx => (h.2.1 x hx).1) (fun i j hi hj => ?_) h.2.2
  rw [Nat.add_assoc]
  refine hm _ ?_
  have : (i + 1) * sz ≤ xs.length * sz := Nat.mul_le_mul_right _ hi
  rw [Nat.add_mul] at this; omega

theorem RepRow.mono {mu mu' : Mem} {sz : Nat} {xs : List SV} {vs : Array Value} (hm : mu.le mu') (h : RepRow mu sz xs vs) : RepRow mu' sz xs vs := ⟨h.1, h.2.1, fun i j hi hj => (h.2.2 i j hi hj).mono hm⟩

theorem Gh.new_le (hm : MemOK g.mu w) (cs : Array Value) (n : Nat) (p : Option Place) : g.mu.le (g.new w.heap.size cs n p).mu := by
  intro b j v e
  have hb := hm.lt e
  have : b ≠ w.heap.size := by omega
  simp [Gh.new, this, e]

theorem y_bsl (h : Sim w0 mu0 T g st a w) {t e : TypeId} {n : Nat} {ps : Array (Nat × Operand)} {zero : List SV} {qs : List (Nat × AO)} {i : TypeInfo} {ox : Oper} (hop : ox.op = .buildSlice t n ps)
    (ht : P.underlying t = some (.slice e)) (hi : P.info? e = some i) (h0 : i.size ≠ 0) (hbig : n * i.size ≤ 2 ^ 24) (hz : zeroV P e = some zero) (hzs : zero.length = i.size) (h1 : zero.all SV.isCell = true)
    (hl : ps.toList.length = qs.length) (hp : ∀ (j : Nat) (p : Nat × Operand) (q : Nat × AO), ps.toList[j]? = some p → qs[j]? = some q → p.1 = q.1 ∧ compO p.2 = some q.2)
    {c : Prop} {lv : LV} (he : ev st (.bsl i.size n zero qs) = some (c, lv)) (hc : c) (d : Nat) : Yields P w0 mu0 T g st a w ox d lv := by
  simp only [ev] at he
  split at he
  case h_2 => cases he
  rename_i c' l hl'
  simp only [Option.some.injEq, Prod.mk.injEq] at he
  obtain ⟨rfl, rfl⟩ := he
  obtain ⟨hc', hle⟩ := hc
  obtain ⟨z, hz1, hz2⟩ := zeroV_run hz g.mu w
  have hrow : RepRow g.mu i.size (List.replicate n (elemOf i.size zero)) ((Array.range (n * i.size)).map ((if n * i.size = 0 then #[] else z.cells)[· % (if n * i.size = 0 then #[] else z.cells).size]!)) := by
    by_cases q : n * i.size = 0
    · obtain rfl : n = 0 := by rcases Nat.mul_eq_zero.1 q with q | q; exact q; exact absurd q h0
      refine ⟨by simp, by simp, fun i' j hi' => by simp at hi'⟩
    · simp only [q, if_false]
      exact zero_row hz2 hzs h0 h1
  obtain ⟨us, f1, f2⟩ := evElems_fill h i.size ps.toList qs c' l _ _ hl hp hl' hc' (by simpa using hle) hrow
  have hlen : (setParts (List.replicate n (elemOf i.size zero)) l).length = n := by simp [setParts_length]
  let g1 := g.new w.heap.size us us.size none
  refine ⟨.slice (some ⟨w.heap.size, 0, none⟩) n n, g1, w.alloc (.cells us e), ?_, h.newImm us e us.size none (fun j v hj hv => f2.oneCell hj hv), ?_⟩
  · simp only [execOp, hop, Sem.run_bind, Instr.buildSlice, run_underlying ht, Result.andThen_ok, run_sizeOf' hi]
    rw [if_neg (by omega)]
    have hzz : (if n * i.size = 0 then (pure #[] : Sem (Array Value)) else do pure (← zeroValue e).cells).run P w = .ok (if n * i.size = 0 then #[] else z.cells) w := by
      split <;> simp [hz1]
    have hps : (Array.map (fun x => (x.fst, a.eval x.snd)) ps).toList = ps.toList.map fun (i, x) => (i, a.eval x) := by simp
    rw [hps]
    by_cases q : n * i.size = 0
    · simp only [q, if_true] at f1 ⊢
      simp only [Sem.run_bind, Sem.run_pure, Result.andThen_ok, f1]
      simp [newRow]
    · simp only [q, if_false] at f1 ⊢
      simp only [Sem.run_bind, Sem.run_pure, Result.andThen_ok, hz1, f1]
      simp [newRow]
  · refine .inl ⟨?_, some ⟨w.heap.size, 0, none⟩, by rw [hlen], fun a e => by cases e; have := h.B; have := h.ext.size; show g.B ≤ w.heap.size; omega⟩
    have hr := (f2.mono (Gh.new_le h.mem us us.size none)).rep (b := w.heap.size) (off := 0) (cap := n) (fun j hj => by
      have : j < us.size := by rw [f2.1]; exact hj
      simp [g1, Gh.new, this, Array.getD_eq_getD_getElem?]) (by omega)
    rw [hlen] at hr
    exact hr
end Go.Av
