import Derived.Test.YtikidcgnbcibpaaAvAB
import Derived.ChangeReads

set_option linter.unusedVariables false
set_option linter.unusedSimpArgs false
namespace Go.Av
variable {P : Program} {H : Type} {enc : TypeId × Value → H} {W : World} {base : Nat} {sp : Nat → Bool} {held : Bool}

def ReadsAs (W : World) (sh : Sh) (cs : List Value) (svs : List SV) : Prop :=
  RepCells (mem0 W) svs cs ∧ svs.length = sh.size ∧ sh.has svs ∧ svs.all SV.isCell = true

theorem addr_of_cells {a : Addr} {sz : Nat} {cs : List Value} (h : W.cells? base a sz = some cs) (h0 : 0 < sz) : a.spot = none := by
  obtain ⟨_, hl, hc⟩ := World.cells?_some h
  have := hc 0 h0
  have hlt : 0 < cs.length := by omega
  rw [List.getElem?_eq_getElem hlt] at this
  simp only [Addr.add, if_true] at this
  unfold World.cell? at this
  split at this
  · split at this
    · cases this
    · rename_i hs; simpa using hs
  · cases this

theorem cells_mem {b off sz : Nat} {cs : List Value} {svs : List SV} (h : W.cells? base ⟨b, off, none⟩ sz = some cs) (hr : RepCells (mem0 W) svs cs) : ∀ j, j < sz → mem0 W b (off + j) = some (cs.getD j Go.undef) := by
  intro j hj
  obtain ⟨_, hl, hc⟩ := World.cells?_some h
  have h1 := hc j hj
  have hlt : j < cs.length := by omega
  rw [Addr.add_lit, List.getElem?_eq_getElem hlt] at h1
  have h2 := (hr.2 j hlt).2
  have e : cs.getD j Go.undef = cs[j] := by simp [List.getD_eq_getElem?_getD, hlt]
  rw [e] at h2 ⊢
  exact mem0_of h1 h2

theorem rep_slice {e : Sh} {sz b off cap len : Nat} (hsz : e.size = sz) (hcap : len ≤ cap) (hlen : len ≤ maxLen)
    (h : ∀ i, i < len → ∃ cs svs, W.cells? base ⟨b, off + i * sz, none⟩ sz = some cs ∧ ReadsAs W e cs svs) : ∃ xs : List SV, Rep (mem0 W) (.sl sz xs) (.slice (some ⟨b, off, none⟩) len cap) ∧ xs.length = len ∧ ∀ x ∈ xs, x = mkE x.cells ∧ e.has x.cells := by
  have h' : ∀ i, i < len → ∃ x : SV, ∃ cs, W.cells? base ⟨b, off + i * sz, none⟩ sz = some cs ∧ x.cells.length = sz ∧ RepCells (mem0 W) x.cells cs ∧ x = mkE x.cells ∧ e.has x.cells := by
    intro i hi
    obtain ⟨cs, svs, h1, h2, h3, h4, h5⟩ := h i hi
    refine ⟨mkE svs, cs, h1, ?_⟩
    rw [mkE_cells h5]
    exact ⟨by omega, h2, rfl, h4⟩
  obtain ⟨xs, hl, hx⟩ := exists_list len h'
  refine ⟨xs, ?_, hl, ?_⟩
  · have hget : ∀ i, i < xs.length → xs[i]? = some (xs.getD i .undef) := fun i hi => by simp [List.getD_eq_getElem?_getD, hi]
    have key : ∀ i j, i < xs.length → j < sz → ∃ v, mem0 W b (off + i * sz + j) = some v ∧ Rep (mem0 W) ((xs.getD i .undef).cell j) v := by
      intro i j hi hj
      obtain ⟨cs, h1, h2, h3, h4⟩ := hx i _ (hget i hi)
      have hlc : cs.length = sz := by rw [← h3.1]; exact h2
      exact ⟨_, cells_mem h1 h3 j hj, (h3.2 j (by omega)).1⟩
    have : ∃ vals : Nat → Nat → Value, ∀ i j, i < xs.length → j < sz → mem0 W b (off + i * sz + j) = some (vals i j) ∧ Rep (mem0 W) ((xs.getD i .undef).cell j) (vals i j) := by
      refine ⟨fun i j => (mem0 W b (off + i * sz + j)).getD Go.undef, fun i j hi hj => ?_⟩
      obtain ⟨v, h1, h2⟩ := key i j hi hj
      show mem0 W b (off + i * sz + j) = some ((mem0 W b (off + i * sz + j)).getD Go.undef) ∧ Rep (mem0 W) _ ((mem0 W b (off + i * sz + j)).getD Go.undef)
      rw [h1]; exact ⟨rfl, h2⟩
    obtain ⟨vals, hv⟩ := this
    have := Rep.sl (mu := mem0 W) sz xs b off cap vals (by omega) ?_ (fun i j hi hj => (hv i j hi hj).1) (fun i j hi hj => (hv i j hi hj).2)
    · rw [hl] at this; exact this
    · intro x hx'
      obtain ⟨i, hi, rfl⟩ := List.mem_iff_getElem.1 hx'
      obtain ⟨cs, _, h2, _⟩ := hx i xs[i] (by simp [hi])
      exact h2
  · intro x hx'
    obtain ⟨i, hi, rfl⟩ := List.mem_iff_getElem.1 hx'
    obtain ⟨cs, _, _, _, h4⟩ := hx i xs[i] (by simp [hi])
    exact h4

theorem ReadsAs.cons {f : Sh} {fs : List Sh} {a b : List Value} {x y : List SV} (h : ReadsAs W f a x) (k : RepCells (mem0 W) y b ∧ y.length = Sh.sizes fs ∧ Sh.hasL fs y ∧ y.all SV.isCell = true) :
    RepCells (mem0 W) (x ++ y) (a ++ b) ∧ (x ++ y).length = Sh.sizes (f :: fs) ∧ Sh.hasL (f :: fs) (x ++ y) ∧ (x ++ y).all SV.isCell = true := by
  obtain ⟨h1, h2, h3, h4⟩ := h
  obtain ⟨k1, k2, k3, k4⟩ := k
  refine ⟨h1.append k1, by simp [Sh.sizes, h2, k2], ?_, by simp [List.all_append, h4, k4]⟩
  unfold Sh.hasL
  exact ⟨x, y, rfl, h3, k3⟩

def FieldsAs (W : World) (fs : List Sh) (cs : List Value) : Prop := ∃ y, RepCells (mem0 W) y cs ∧ y.length = Sh.sizes fs ∧ Sh.hasL fs y ∧ y.all SV.isCell = true

theorem fields_has {rc : TypeId → Option Sh} {tr : TypeId → List Value → Option (DataW H × List MemPlace)} (ih : ∀ t sh, rc t = some sh → ∀ cs x, tr t cs = some x → ∃ svs, ReadsAs W sh cs svs) {cs : List Value} :
    ∀ (fs : List Field) (l : List Sh) (off : Nat) (xs : List (DataW H × List MemPlace)), fieldsOf P rc off fs = some l → fs.mapM (fun f => tr f.type ((cs.drop f.offset).take (P.cellsOf f.type))) = some xs → cs.length = off + Sh.sizes l → FieldsAs W l (cs.drop off)
  | [], l, off, xs, h1, _, hl => by
    cases h1
    have : cs.drop off = [] := by simp [Sh.sizes] at hl; simp; omega
    rw [this]
    exact ⟨[], ⟨rfl, fun j hj => by simp at hj⟩, rfl, by simp [Sh.hasL], rfl⟩
  | f :: fs, l, off, xs, h1, h2, hl => by
    simp only [fieldsOf] at h1
    split at h1
    case h_2 => cases h1
    rename_i s l' hs hl'
    split at h1
    case isFalse => cases h1
    rename_i hcond
    cases h1
    have hf := mapM_some_get h2 0 f rfl
    have hlen := mapM_some_length h2
    cases xs with
    | nil => simp at hlen
    | cons x xs' =>
      simp at hf
      have h2' : fs.mapM (fun f => tr f.type ((cs.drop f.offset).take (P.cellsOf f.type))) = some xs' := by
        simp only [List.mapM_cons] at h2
        cases hq : fs.mapM (fun f => tr f.type ((cs.drop f.offset).take (P.cellsOf f.type))) with
        | none => simp [hf, hq] at h2
        | some r => simp [hf, hq] at h2; rw [h2]
      simp only [Sh.sizes] at hl
      have hrec := fields_has ih fs l' (off + P.cellsOf f.type) xs' hl' h2' (by omega)
      obtain ⟨svs, hsv⟩ := ih f.type s hs _ _ hf
      obtain ⟨y, hy⟩ := hrec
      have := hsv.cons hy
      refine ⟨svs ++ y, ?_⟩
      have e : cs.drop off = (cs.drop f.offset).take (P.cellsOf f.type) ++ cs.drop (off + P.cellsOf f.type) := by
        rw [hcond.1, ← List.drop_drop, List.take_append_drop]
      rw [e]; exact this

theorem repl_has {s : Sh} {sz : Nat} (hs : s.size = sz) : ∀ (m : Nat) (cs : List Value), cs.length = m * sz → (∀ i, i < m → ∃ svs, ReadsAs W s ((cs.drop (i * sz)).take sz) svs) → FieldsAs W (List.replicate m s) cs
  | 0, cs, hl, _ => by
    have : cs = [] := by simpa using hl
    subst this
    exact ⟨[], ⟨rfl, fun j hj => by simp at hj⟩, rfl, by simp [Sh.hasL], rfl⟩
  | m + 1, cs, hl, h => by
    obtain ⟨svs, h0⟩ := h 0 (by omega)
    have hrec := repl_has hs m (cs.drop sz) (by simp; rw [hl, Nat.add_mul]; omega) (fun i hi => by
      obtain ⟨svs, h1⟩ := h (i + 1) (by omega)
      refine ⟨svs, ?_⟩
      rw [List.drop_drop]
      rw [Nat.add_mul, Nat.one_mul, Nat.add_comm] at h1
      exact h1)
    obtain ⟨y, hy⟩ := hrec
    refine ⟨svs ++ y, ?_⟩
    have := h0.cons hy
    rw [List.replicate_succ]
    simpa using this

theorem trod_has : ∀ (n : Nat) (t : TypeId) (sh : Sh), shapeOf P n t = some sh → ∀ (fuel : Nat) (cs : List Value) (x : DataW H × List MemPlace), DataW.trod enc P W base sp held fuel t cs = some x → ∃ svs, ReadsAs W sh cs svs
  | 0, t, sh, hs, _, _, _, _ => by cases hs
  | n + 1, t, sh, hs, 0, cs, x, h => by simp [DataW.trod] at h
  | n + 1, t, sh, hs, fuel + 1, cs, x, h => by
    simp only [shapeOf] at hs
    simp only [DataW.trod] at h
    split at hs
    · rename_i ht
      cases hs
      rw [ht] at h
      rcases cs with _ | ⟨v, _ | ⟨v2, r⟩⟩ <;> try (simp at h; done)
      cases v <;> try (simp at h; done)
      rename_i b
      exact ⟨[.bool b], .one (.bool b) rfl, rfl, by simp [Sh.has], rfl⟩
    · rename_i k ht
      cases hs
      rw [ht] at h
      rcases cs with _ | ⟨v, _ | ⟨v2, r⟩⟩ <;> try (simp at h; done)
      cases v <;> try (simp at h; done)
      rename_i k' n'
      simp only [] at h
      split at h
      case isFalse => cases h
      rename_i hw
      obtain ⟨rfl, hw⟩ := hw
      exact ⟨[.int k' n'], .one (.int _ _) rfl, rfl, by simp [Sh.has, hw], rfl⟩
    · rename_i ht
      cases hs
      rw [ht] at h
      rcases cs with _ | ⟨v, _ | ⟨v2, r⟩⟩ <;> try (simp at h; done)
      cases v <;> try (simp at h; done)
      rename_i s
      simp only [] at h
      split at h
      case isFalse => cases h
      rename_i hw
      exact ⟨[.str s], .one (.str _) rfl, rfl, by simp [Sh.has, hw], rfl⟩
    · rename_i e ht
      split at hs
      case h_2 => cases hs
      rename_i s hse
      split at hs
      case isFalse => cases hs
      rename_i hcond
      cases hs
      obtain ⟨hsz, hne⟩ := hcond
      rw [ht] at h
      rcases cs with _ | ⟨v, _ | ⟨v2, r⟩⟩ <;> try (simp at h; done)
      cases v <;> try (simp at h; done)
      rename_i p len cap
      cases p with
      | none =>
        cases len with
        | succ l => simp at h
        | zero =>
          cases cap with
          | succ l => simp at h
          | zero => exact ⟨[.nils], .one .nils rfl, rfl, by simp [Sh.has], rfl⟩
      | some a =>
        simp only [] at h
        split at h
        case isFalse => cases h
        rename_i hb
        obtain ⟨elems, hel, h⟩ := Option.bind_eq_some_iff.1 h
        cases len with
        | zero => exact ⟨[.sl s.size []], .one (.sle _ _ _) rfl, rfl, by simp [Sh.has], rfl⟩
        | succ len =>
          have hread : ∀ i, i < len + 1 → ∃ ci svs, W.cells? base (a.add (i * P.cellsOf e)) (P.cellsOf e) = some ci ∧ ReadsAs W s ci svs := by
            intro i hi
            have h1 := mapM_some_get hel i i (by simp [hi])
            have hlen := mapM_some_length hel
            simp at hlen
            rw [List.getElem?_eq_getElem (by omega)] at h1
            obtain ⟨ci, hci, htr⟩ := Option.bind_eq_some_iff.1 h1
            obtain ⟨svs, hsv⟩ := trod_has n e s hse fuel ci _ htr
            exact ⟨ci, svs, hci, hsv⟩
          obtain ⟨c0, _, hc0, _⟩ := hread 0 (by omega)
          have hspot := addr_of_cells hc0 (by omega)
          rw [Nat.zero_mul] at hspot
          obtain ⟨b, off, spot⟩ := a
          simp only [Addr.add, if_true] at hspot
          subst hspot
          obtain ⟨xs, h1, h2, h3⟩ := rep_slice (W := W) (base := base) (e := s) (sz := s.size) (b := b) (off := off) (cap := cap) (len := len + 1) rfl hb.2.1 (by omega) (fun i hi => by
            obtain ⟨ci, svs, q1, q2⟩ := hread i hi
            rw [hsz, Addr.add_lit] at q1
            exact ⟨ci, svs, q1, q2⟩)
          refine ⟨[.sl s.size xs], .one h1 rfl, rfl, ?_, rfl⟩
          simp only [Sh.has]
          exact .inr ⟨xs, rfl, by omega, h3⟩
    · rename_i e ht
      split at hs
      case h_2 => cases hs
      rename_i s hse
      split at hs
      case isFalse => cases hs
      rename_i hcond
      cases hs
      obtain ⟨hsz, hne⟩ := hcond
      rw [ht] at h
      rcases cs with _ | ⟨v, _ | ⟨v2, r⟩⟩ <;> try (simp at h; done)
      cases v <;> try (simp at h; done)
      rename_i p
      cases p with
      | none => exact ⟨[.nilp], .one .nilp rfl, rfl, by simp [Sh.has], rfl⟩
      | some a =>
        simp only [] at h
        obtain ⟨z, hz, _⟩ := Option.map_eq_some_iff.1 h
        obtain ⟨ci, hci, htr⟩ := Option.bind_eq_some_iff.1 hz
        obtain ⟨svs, hsv⟩ := trod_has n e s hse fuel ci _ htr
        rw [hsz] at hci
        have hspot := addr_of_cells hci (by omega)
        obtain ⟨b, off, spot⟩ := a
        simp only at hspot
        subst hspot
        obtain ⟨k1, k2, k3, k4⟩ := hsv
        have hm := cells_mem hci k1
        have hlc : ci.length = s.size := by rw [← k1.1]; exact k2
        refine ⟨[.eptr (mkE svs) 0], .one ?_ rfl, rfl, ?_, rfl⟩
        · refine Rep.eptr (mkE svs) 0 b off (fun j => ci.getD j Go.undef) (fun j hj => hm j ?_) (fun j hj => ?_)
          · unfold SV.nc at hj; rw [mkE_cells k4] at hj; omega
          · unfold SV.nc at hj; rw [mkE_cells k4] at hj
            unfold SV.cell; rw [mkE_cells k4]
            exact (k1.2 j (by omega)).1
        · simp only [Sh.has]
          exact .inr ⟨mkE svs, rfl, by rw [mkE_cells k4], by rw [mkE_cells k4]; exact k3⟩
    · rename_i fs ht
      split at hs
      case h_2 => cases hs
      rename_i l hl
      split at hs
      case isFalse => cases hs
      rename_i hsz
      cases hs
      rw [ht] at h
      simp only [] at h
      split at h
      case isFalse => cases h
      rename_i hlen
      obtain ⟨xs, hxs, _⟩ := Option.map_eq_some_iff.1 h
      obtain ⟨y, y1, y2, y3, y4⟩ := fields_has (P := P) (W := W) (rc := shapeOf P n) (tr := DataW.trod enc P W base sp held fuel) (fun t sh hs cs x hx => trod_has n t sh hs fuel cs x hx) (cs := cs) fs.toList l 0 xs hl hxs (by omega)
      rw [List.drop_zero] at y1
      exact ⟨y, y1, by simp only [Sh.size]; exact y2, by simp only [Sh.has]; exact y3, y4⟩
    · rename_i m e ht
      split at hs
      case h_2 => cases hs
      rename_i s hse
      split at hs
      case isFalse => cases hs
      rename_i hcond
      cases hs
      rw [ht] at h
      simp only [] at h
      split at h
      case isFalse => cases h
      rename_i hlen
      obtain ⟨xs, hxs, _⟩ := Option.map_eq_some_iff.1 h
      obtain ⟨y, y1, y2, y3, y4⟩ := repl_has (W := W) (s := s) (sz := s.size) rfl m cs (by omega) (fun i hi => by
        have h1 := mapM_some_get hxs i i (by simp [hi])
        have hln := mapM_some_length hxs
        simp at hln
        rw [List.getElem?_eq_getElem (by omega)] at h1
        obtain ⟨svs, hsv⟩ := trod_has n e s hse fuel _ _ h1
        rw [hcond.1] at hsv
        exact ⟨svs, hsv⟩)
      exact ⟨y, y1, by simp only [Sh.size]; exact y2, by simp only [Sh.has]; exact y3, y4⟩
    · cases hs
end Go.Av
