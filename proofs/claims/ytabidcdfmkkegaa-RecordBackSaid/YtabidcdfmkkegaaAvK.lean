import Derived.Test.YtabidcdfmkkegaaAvJ
set_option linter.unusedSimpArgs false
namespace Go.Av
variable {P : Program} {w0 : World} {mu0 : Mem} {T : Nat → Prop} {g g' : Gh} {st : St} {a : Act} {w w' : World}

def layA (off : Nat) (cs vs : Array Value) : Array Value := vs.zipIdx.foldl (fun cs (c, j) => cs.setIfInBounds (off + j) c) cs

theorem layA_list (off : Nat) : ∀ (vs : List Value) (k : Nat) (cs : Array Value),
    ((vs.zipIdx k).foldl (fun (cs : Array Value) (p : Value × Nat) => cs.setIfInBounds (off + p.2) p.1) cs).size = cs.size ∧
    ∀ j, ((vs.zipIdx k).foldl (fun (cs : Array Value) (p : Value × Nat) => cs.setIfInBounds (off + p.2) p.1) cs).getD j Go.undef =
      if off + k ≤ j ∧ j < off + k + vs.length ∧ j < cs.size then vs.getD (j - (off + k)) Go.undef else cs.getD j Go.undef
  | [], k, cs => ⟨rfl, fun j => by simp; intro h1 h2; omega⟩
  | v :: vs, k, cs => by
    simp only [List.zipIdx_cons, List.foldl_cons]
    obtain ⟨h1, h2⟩ := layA_list off vs (k + 1) (cs.setIfInBounds (off + k) v)
    refine ⟨by rw [h1]; simp, fun j => ?_⟩
    rw [h2 j]
    simp only [Array.size_setIfInBounds, List.length_cons]
    by_cases e : j = off + k
    · subst e
      by_cases hc : off + k < cs.size
      · have a1 : ¬ (off + (k + 1) ≤ off + k ∧ off + k < off + (k + 1) + vs.length ∧ off + k < cs.size) := by omega
        have a2 : off + k ≤ off + k ∧ off + k < off + k + (vs.length + 1) ∧ off + k < cs.size := by omega
        rw [if_neg a1, if_pos a2]
        simp [Array.getD_eq_getD_getElem?, hc]
      · have a1 : ¬ (off + (k + 1) ≤ off + k ∧ off + k < off + (k + 1) + vs.length ∧ off + k < cs.size) := by omega
        have a2 : ¬ (off + k ≤ off + k ∧ off + k < off + k + (vs.length + 1) ∧ off + k < cs.size) := by omega
        rw [if_neg a1, if_neg a2]
        simp [Array.getD_eq_getD_getElem?, hc]
    · by_cases hc : off + (k + 1) ≤ j ∧ j < off + (k + 1) + vs.length ∧ j < cs.size
      · have a2 : off + k ≤ j ∧ j < off + k + (vs.length + 1) ∧ j < cs.size := by omega
        rw [if_pos hc, if_pos a2, show j - (off + k) = (j - (off + (k + 1))) + 1 by omega]
        simp
      · have a2 : ¬ (off + k ≤ j ∧ j < off + k + (vs.length + 1) ∧ j < cs.size) := by omega
        rw [if_neg hc, if_neg a2]
        have : ¬ off + k = j := fun q => e q.symm
        simp [Array.getD_eq_getD_getElem?, Array.getElem?_setIfInBounds, this]

theorem layA_spec (off : Nat) (cs vs : Array Value) : (layA off cs vs).size = cs.size ∧ ∀ j, (layA off cs vs).getD j Go.undef = if off ≤ j ∧ j < off + vs.size ∧ j < cs.size then vs.getD (j - off) Go.undef else cs.getD j Go.undef := by
  have := layA_list off vs.toList 0 cs
  simp only [Nat.add_zero, Array.length_toList] at this
  unfold layA
  rw [← Array.foldl_toList, Array.toList_zipIdx]
  refine ⟨this.1, fun j => ?_⟩
  rw [this.2 j]
  simp [List.getD_eq_getElem?_getD, Array.getD_eq_getD_getElem?]

theorem setL_spec : ∀ (vs : List SV) (off : Nat) (cs : List SV), (setL cs off vs).length = cs.length ∧ ∀ j, (setL cs off vs).getD j .undef = if off ≤ j ∧ j < off + vs.length ∧ j < cs.length then vs.getD (j - off) .undef else cs.getD j .undef
  | [], off, cs => ⟨rfl, fun j => by simp [setL]; intro h1 h2; omega⟩
  | v :: vs, off, cs => by
    simp only [setL]
    obtain ⟨h1, h2⟩ := setL_spec vs (off + 1) (cs.set off v)
    refine ⟨by rw [h1]; simp, fun j => ?_⟩
    rw [h2 j]
    simp only [List.length_set, List.length_cons]
    by_cases e : j = off
    · subst e
      by_cases hc : j < cs.length
      · have a1 : ¬ (j + 1 ≤ j ∧ j < j + 1 + vs.length ∧ j < cs.length) := by omega
        have a2 : j ≤ j ∧ j < j + (vs.length + 1) ∧ j < cs.length := by omega
        rw [if_neg a1, if_pos a2]
        simp [List.getD_eq_getElem?_getD, hc]
      · have a1 : ¬ (j + 1 ≤ j ∧ j < j + 1 + vs.length ∧ j < cs.length) := by omega
        have a2 : ¬ (j ≤ j ∧ j < j + (vs.length + 1) ∧ j < cs.length) := by omega
        rw [if_neg a1, if_neg a2]
        simp [List.getD_eq_getElem?_getD, hc]
    · by_cases hc : off + 1 ≤ j ∧ j < off + 1 + vs.length ∧ j < cs.length
      · have a2 : off ≤ j ∧ j < off + (vs.length + 1) ∧ j < cs.length := by omega
        rw [if_pos hc, if_pos a2, show j - off = (j - (off + 1)) + 1 by omega]
        simp
      · have a2 : ¬ (off ≤ j ∧ j < off + (vs.length + 1) ∧ j < cs.length) := by omega
        rw [if_neg hc, if_neg a2]
        have : ¬ off = j := fun q => e q.symm
        simp [List.getD_eq_getElem?_getD, List.getElem?_set, this]

def RepCs (mu : Mem) (cs : List SV) (vs : Array Value) : Prop := vs.size = cs.length ∧ ∀ j, j < cs.length → Rep mu (cs.getD j .undef) (vs.getD j Go.undef)

theorem RepCs.lay {mu : Mem} {cs ds : List SV} {vs us : Array Value} (h : RepCs mu cs vs) (k : RepCs mu ds us) (off : Nat) : RepCs mu (setL cs off ds) (layA off vs us) := by
  obtain ⟨a1, a2⟩ := layA_spec off vs us
  obtain ⟨b1, b2⟩ := setL_spec ds off cs
  refine ⟨by rw [a1, b1]; exact h.1, fun j hj => ?_⟩
  rw [b1] at hj
  rw [a2, b2, h.1, k.1]
  split
  · rename_i hc; exact k.2 _ (by omega)
  · exact h.2 j hj

theorem Rep.repCs {mu : Mem} {v : SV} {x : Value} (h : Rep mu v x) (hv : v.known = true) : RepCs mu v.cells x.cells := by
  obtain ⟨h1, h2⟩ := h.cells (by intro e; subst e; cases hv)
  exact ⟨h1, h2⟩

/-- What the parts of a composite hold. -/
theorem evParts_fill (h : Sim w0 mu0 T g st a w) (place : Nat → Option (Nat × Nat)) : ∀ (ps : List (Nat × Operand)) (qs : List (Nat × Nat × AO)) (c : Prop) (l : List (Nat × List SV)) (cs : List SV) (vs : Array Value),
    ps.length = qs.length → (∀ (j : Nat) (p : Nat × Operand) (q : Nat × Nat × AO), ps[j]? = some p → qs[j]? = some q → place p.1 = some (q.1, q.2.1) ∧ compO p.2 = some q.2.2) →
    evParts st qs = some (c, l) → c → (∀ p ∈ l, p.1 + p.2.length ≤ cs.length) → RepCs g.mu cs vs →
    ∃ us, Instr.fill place vs (ps.map fun (i, x) => (i, a.eval x)) = some us ∧ RepCs g.mu (layV cs l) us
  | [], [], c, l, cs, vs, _, _, he, _, _, hr => by
    simp only [evParts, Option.some.injEq, Prod.mk.injEq] at he
    obtain ⟨rfl, rfl⟩ := he
    exact ⟨vs, rfl, hr⟩
  | (i, x) :: ps, (off, sz, o) :: qs, c, l, cs, vs, hl, hp, he, hc, hle, hr => by
    obtain ⟨hpl, hx⟩ := hp 0 _ _ rfl rfl
    simp only [evParts] at he
    split at he
    case h_2 => cases he
    rename_i gg v c' l' hv he'
    simp only [Option.some.injEq, Prod.mk.injEq] at he
    obtain ⟨rfl, rfl⟩ := he
    obtain ⟨rfl, hnc, hkn, hc'⟩ := hc
    have rv := (rd_rep h hx hv).repCs hkn
    have hle0 := hle _ (List.mem_cons_self ..)
    have hsz : (a.eval x).cells.size = sz := by rw [rv.1]; exact hnc
    have hcsz : vs.size = cs.length := hr.1
    have hcl : v.cells.length = sz := hnc
    obtain ⟨us, f1, f2⟩ := evParts_fill h place ps qs c' l' (setL cs off v.cells) (layA off vs (a.eval x).cells) (by simpa using hl) (fun j p q e1 e2 => hp (j + 1) p q (by simpa using e1) (by simpa using e2)) he' hc'
      (fun p hp' => by rw [(setL_spec _ _ _).1]; exact hle p (List.mem_cons_of_mem _ hp')) (hr.lay rv off)
    refine ⟨us, ?_, f2⟩
    simp only [List.map_cons, Instr.fill, hpl]
    rw [if_neg (by simp only [hsz, hcsz]; simp only [] at hle0; simp; omega)]
    exact f1
  | [], _ :: _, _, _, _, _, hl, _, _, _, _, _ => by simp at hl
  | _ :: _, [], _, _, _, _, hl, _, _, _, _, _ => by simp at hl

/-- The zero value of a type, as cells. -/
def zeroV (P : Program) (t : TypeId) : Option (List SV) := (P.info? t).bind fun i => i.zero.bind fun z => svOfL z.cells.toList

theorem zeroV_run {t : TypeId} {cs : List SV} (h : zeroV P t = some cs) (mu : Mem) (w : World) : ∃ z, (zeroValue t).run P w = .ok z w ∧ RepCs mu cs z.cells := by
  simp only [zeroV, Option.bind_eq_some_iff] at h
  obtain ⟨i, hi, z, hz, hs⟩ := h
  refine ⟨z, by simp [zeroValue, typeInfo, hi, hz], by simpa using (svOfL_length hs).symm, fun j hj => ?_⟩
  have := svOfL_rep mu hs j hj
  simpa [List.getD_eq_getElem?_getD, Array.getD_eq_getD_getElem?] using this

theorem y_build (h : Sim w0 mu0 T g st a w) {t : TypeId} {fs : Array Field} {ps : Array (Nat × Operand)} {zero : List SV} {qs : List (Nat × Nat × AO)} {ox : Oper} (hop : ox.op = .build t ps)
    (ht : P.underlying t = some (.struct fs)) (hi : ∀ f ∈ fs.toList, (P.info? f.type).isSome) (hz : zeroV P t = some zero) (hl : ps.toList.length = qs.length)
    (hp : ∀ (j : Nat) (p : Nat × Operand) (q : Nat × Nat × AO), ps.toList[j]? = some p → qs[j]? = some q → (∃ f : Field, fs[p.1]? = some f ∧ q.1 = f.offset ∧ q.2.1 = P.cellsOf f.type) ∧ compO p.2 = some q.2.2)
    {c : Prop} {lv : LV} (he : ev st (.build zero qs) = some (c, lv)) (hc : c) (d : Nat) : Yields P w0 mu0 T g st a w ox d lv := by
  simp only [ev] at he
  split at he
  case h_2 => cases he
  rename_i c' l hl'
  simp only [Option.some.injEq, Prod.mk.injEq] at he
  obtain ⟨rfl, rfl⟩ := he
  obtain ⟨hc', hle⟩ := hc
  obtain ⟨z, hz1, hz2⟩ := zeroV_run hz g.mu w
  have hplaces : (fs.mapM fun (f : Field) => do pure (f.offset, ← sizeOf f.type) : Sem (Array (Nat × Nat))).run P w = .ok (fs.map fun f => (f.offset, P.cellsOf f.type)) w := by
    have key : ∀ (l : List Field), (∀ f ∈ l, (P.info? f.type).isSome) → (l.mapM fun (f : Field) => do pure (f.offset, ← sizeOf f.type) : Sem (List (Nat × Nat))).run P w = .ok (l.map fun f => (f.offset, P.cellsOf f.type)) w := by
      intro l
      induction l with
      | nil => intro _; rfl
      | cons f l ih =>
        intro hall
        obtain ⟨i, hi'⟩ := Option.isSome_iff_exists.1 (hall f (List.mem_cons_self ..))
        simp only [List.mapM_cons, Sem.run_bind, run_sizeOf' hi', Result.andThen_ok, Sem.run_pure, ih (fun f' hf' => hall f' (List.mem_cons_of_mem _ hf')), List.map_cons]
        simp [Program.cellsOf, hi']
    rw [Array.mapM_eq_mapM_toList, Sem.run_map, key fs.toList hi]
    simp only [Result.andThen_ok]
    congr 1
    apply Array.ext'
    simp
  obtain ⟨us, f1, f2⟩ := evParts_fill h (fun i => (fs.map fun f => (f.offset, P.cellsOf f.type))[i]?) ps.toList qs c' l zero z.cells hl (fun j p q e1 e2 => by
    obtain ⟨⟨f, h1, h2, h3⟩, h4⟩ := hp j p q e1 e2
    exact ⟨by simp [h1, h2, h3], h4⟩) hl' hc' hle hz2
  refine .same h (val := .agg us) ?_ (by
    have := Rep.agg (mu := g.mu) (layV zero l) us.toList (by simpa using f2.1) (fun j hj => by have := f2.2 j hj; simpa [List.getD_eq_getElem?_getD, Array.getD_eq_getD_getElem?] using this)
    show Rep g.mu _ _
    simpa using this)
  simp only [execOp, hop, Sem.run_bind, Instr.build, hz1, Result.andThen_ok, run_underlying ht, hplaces]
  have f1' : Instr.fill (fun x => Option.map (fun f => (f.offset, P.cellsOf f.type)) fs[x]?) z.cells (List.map (fun x => (x.fst, a.eval x.snd)) ps.toList) = some us := by simpa using f1
  simp [f1']
end Go.Av
