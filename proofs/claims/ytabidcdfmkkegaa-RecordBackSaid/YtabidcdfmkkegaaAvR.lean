import Derived.Test.YtabidcdfmkkegaaAvQ
set_option linter.unusedSimpArgs false
namespace Go.Av
variable {P : Program} {w0 : World} {mu0 : Mem} {T : Nat → Prop} {g g' : Gh} {st st' : St} {a : Act} {w w' : World}

def AK.quiet : AK → Bool
  | .box _ _ | .alloc _ | .store _ _ _ | .takeLoad _ | .call _ _ | .callE _ _ _ | .callN _ _ => false
  | _ => true

theorem compParts_spec {fs : Array Field} : ∀ {ps : List (Nat × Operand)} {qs : List (Nat × Nat × AO)}, compParts P fs ps = some qs → ps.length = qs.length ∧
    ∀ (j : Nat) (p : Nat × Operand) (q : Nat × Nat × AO), ps[j]? = some p → qs[j]? = some q → (∃ f : Field, fs[p.1]? = some f ∧ q.1 = f.offset ∧ q.2.1 = P.cellsOf f.type) ∧ compO p.2 = some q.2.2
  | [], qs, h => by cases h; exact ⟨rfl, fun j p q h => by simp at h⟩
  | (i, x) :: r, qs, h => by
    simp only [compParts] at h
    split at h
    case h_2 => cases h
    rename_i f o l h1 h2 h3
    cases h
    obtain ⟨e1, e2⟩ := compParts_spec h3
    refine ⟨by simp [e1], fun j p q hp hq => ?_⟩
    cases j with
    | zero => simp at hp hq; subst hp hq; exact ⟨⟨f, h1, rfl, rfl⟩, h2⟩
    | succ j => exact e2 j p q (by simpa using hp) (by simpa using hq)

theorem compElems_spec : ∀ {ps : List (Nat × Operand)} {qs : List (Nat × AO)}, compElems ps = some qs → ps.length = qs.length ∧
    ∀ (j : Nat) (p : Nat × Operand) (q : Nat × AO), ps[j]? = some p → qs[j]? = some q → p.1 = q.1 ∧ compO p.2 = some q.2
  | [], qs, h => by cases h; exact ⟨rfl, fun j p q h => by simp at h⟩
  | (i, x) :: r, qs, h => by
    simp only [compElems] at h
    split at h
    case h_2 => cases h
    rename_i o l h2 h3
    cases h
    obtain ⟨e1, e2⟩ := compElems_spec h3
    refine ⟨by simp [e1], fun j p q hp hq => ?_⟩
    cases j with
    | zero => simp at hp hq; subst hp hq; exact ⟨rfl, h2⟩
    | succ j => exact e2 j p q (by simpa using hp) (by simpa using hq)

theorem compArgs_rep (h : Sim w0 mu0 T g st a w) : ∀ {xs : List Operand} {os : List AO} {c : Prop} {l : List SV}, compArgs xs = some os → evList st os = some (c, l) → c → RepArgs g.mu l (xs.map a.eval)
  | [], os, c, l, h1, h2, hc => by
    cases h1
    simp only [evList, Option.some.injEq, Prod.mk.injEq] at h2
    obtain ⟨rfl, rfl⟩ := h2
    exact ⟨rfl, fun j hj => by simp at hj⟩
  | x :: r, os, c, l, h1, h2, hc => by
    simp only [compArgs] at h1
    split at h1
    case h_2 => cases h1
    rename_i o l' ho hl'
    cases h1
    simp only [evList] at h2
    split at h2
    case h_2 => cases h2
    rename_i gg v c' l'' hv hl''
    simp only [Option.some.injEq, Prod.mk.injEq] at h2
    obtain ⟨rfl, rfl⟩ := h2
    obtain ⟨rfl, hc'⟩ := hc
    obtain ⟨e1, e2⟩ := compArgs_rep h hl' hl'' hc'
    refine ⟨by simp at e1 ⊢; exact e1, fun j hj => ?_⟩
    cases j with
    | zero => simpa using rd_rep h ho hv
    | succ j => simpa using e2 j (by simpa using hj)

theorem opt_map_some {α β : Type} {f : α → β} {x : Option α} {y : β} (h : x.map f = some y) : ∃ z, x = some z ∧ f z = y := by simpa using h

theorem comp_yields (h : Sim w0 mu0 T g st a w) {o : Oper} {tk : Bool} {k : AK} (hk : compK P tk o = some k) (hq : k.quiet = true) {c : Prop} {lv : LV} (he : ev st k = some (c, lv)) (hc : c) (d : Nat) :
    Yields P w0 mu0 T g (dgr st k) a w o d lv := by
  unfold compK at hk
  split at hk
  -- move
  · rename_i x hop
    split at hk
    · cases hk; exact y_take h (.inl hop) he hc d
    · obtain ⟨z, hz, rfl⟩ := opt_map_some hk; exact y_mv h (.inl hop) hz he hc d
  -- assign
  · rename_i x hop
    split at hk
    · cases hk; exact y_take h (.inr hop) he hc d
    · obtain ⟨z, hz, rfl⟩ := opt_map_some hk; exact y_mv h (.inr hop) hz he hc d
  -- pick
  · rename_i x y z hop
    split at hk
    · rename_i o1 o2 o3 h1 h2 h3; cases hk; exact y_pick h hop h1 h2 h3 he hc d
    · cases hk
  -- binOp
  · rename_i op t x y t' hop
    split at hk
    · rename_i k' o1 o2 _ h1 h2; cases hk; exact y_bin h hop h1 h2 he hc d
    · rename_i o1 o2 _ h1 h2; cases hk; exact y_bin h hop h1 h2 he hc d
    · rename_i o1 o2 ht h1 h2
      split at hk
      · cases hk; exact y_beq h hop ht rfl h1 h2 he hc d
      · cases hk; exact y_beq h hop ht rfl h1 h2 he hc d
      · cases hk
    · rename_i fs o1 o2 ht h1 h2
      split at hk
      · rename_i ks _ hks
        split at hk
        · rename_i hgd; cases hk; exact y_eqs h hop (.inl ⟨_, ht⟩) hks hgd rfl h1 h2 he hc d
        · cases hk
      · rename_i ks _ hks
        split at hk
        · rename_i hgd; cases hk; exact y_eqs h hop (.inl ⟨_, ht⟩) hks hgd rfl h1 h2 he hc d
        · cases hk
      · cases hk
    · rename_i m e1 o1 o2 ht h1 h2
      split at hk
      · rename_i ks _ hks
        split at hk
        · rename_i hgd; cases hk; exact y_eqs h hop (.inr ⟨_, _, ht⟩) hks hgd rfl h1 h2 he hc d
        · cases hk
      · rename_i ks _ hks
        split at hk
        · rename_i hgd; cases hk; exact y_eqs h hop (.inr ⟨_, _, ht⟩) hks hgd rfl h1 h2 he hc d
        · cases hk
      · cases hk
    · rename_i e1 o1 ht h1 h2
      split at hk
      · cases hk; exact y_eqn h hop rfl (.inl ⟨rfl, _, ht, h2⟩) h1 he hc d
      · cases hk; exact y_eqn h hop rfl (.inl ⟨rfl, _, ht, h2⟩) h1 he hc d
      · cases hk
    · rename_i e1 o1 ht h1 h2
      split at hk
      · cases hk; exact y_eqn h hop rfl (.inr ⟨rfl, _, ht, h2⟩) h1 he hc d
      · cases hk; exact y_eqn h hop rfl (.inr ⟨rfl, _, ht, h2⟩) h1 he hc d
      · cases hk
    · cases hk
  -- unOp
  · rename_i op t x hop
    obtain ⟨z, hz, rfl⟩ := opt_map_some hk; exact y_una h hop hz he hc d
  -- convert
  · rename_i s t x hop
    split at hk
    · rename_i k1 k2 o1 h1 h2 h3; cases hk; exact y_conv h hop h1 h2 h3 he hc d
    · rename_i e o1 h1 h2 h3
      split at hk
      · rename_i hu; cases hk; exact y_b2s h hop h1 hu h2 h3 he hc d
      · cases hk
    · rename_i e o1 h1 h2 h3
      split at hk
      · rename_i hu; cases hk; exact y_s2b h hop h1 h2 hu h3 he hc d
      · cases hk
    · rename_i e e' z h1 h2 h3
      split at hk
      · rename_i hu
        split at hk
        · rename_i hst; subst hst; cases hk; exact y_mark h hop h1 hu h3 he hc d
        · cases hk
      · cases hk
    · cases hk
  -- fieldAddr
  · rename_i t x f hop
    split at hk
    · rename_i fs o1 h1 h2
      split at hk
      · rename_i fd hfd
        split at hk
        · rename_i i hi
          split at hk
          · cases hk
          · rename_i hs; cases hk; exact y_faddr h hop h1 hfd hi hs h2 he hc d
        · cases hk
      · cases hk
    · cases hk
  -- field
  · rename_i t x f hop
    split at hk
    · rename_i fs o1 h1 h2
      split at hk
      · rename_i fd hfd
        obtain ⟨n, hn, rfl⟩ := opt_map_some hk
        exact y_fld h hop h1 hfd hn h2 he hc d
      · cases hk
    · cases hk
  -- indexAddr
  · rename_i t x y hop
    split at hk
    · rename_i e o1 o2 h1 h2 h3; obtain ⟨i, hi, rfl⟩ := opt_map_some hk; exact y_iaddr h hop h1 hi h2 h3 he hc d
    · rename_i n e o1 o2 h1 h2 h3; obtain ⟨i, hi, rfl⟩ := opt_map_some hk; exact y_iaddrA h hop h1 hi h2 h3 he hc d
    · cases hk
  -- index
  · rename_i t x y hop
    split at hk
    · rename_i o1 o2 h1 h2 h3; cases hk; exact y_idx h hop h1 h2 h3 he hc d
    · cases hk
  -- load
  · rename_i t x hop
    split at hk
    · rename_i n o1 h1 h2; cases hk; exact y_load h hop h1 h2 he hc d
    · cases hk
  -- store
  · split at hk
    · cases hk; cases hq
    · cases hk
  -- nilCheck
  · rename_i x hop
    obtain ⟨z, hz, rfl⟩ := opt_map_some hk; exact y_nilc h hop hz he hc d
  -- box
  · split at hk
    · cases hk; cases hq
    · cases hk
  -- alloc
  · obtain ⟨z, hz, rfl⟩ := opt_map_some hk; cases hq
  -- build
  · rename_i t ps hop
    split at hk
    · rename_i fs z h1 h2
      split at hk
      · rename_i hall
        obtain ⟨qs, hqs, rfl⟩ := opt_map_some hk
        obtain ⟨e1, e2⟩ := compParts_spec hqs
        exact y_build h hop h1 (fun f hf => List.all_eq_true.1 hall f hf) h2 e1 e2 he hc d
      · cases hk
    · cases hk
  -- buildSlice
  · rename_i t n ps hop
    split at hk
    · rename_i e h1
      split at hk
      · rename_i i z h2 h3
        split at hk
        · rename_i hcs
          obtain ⟨qs, hqs, rfl⟩ := opt_map_some hk
          obtain ⟨e1, e2⟩ := compElems_spec hqs
          exact y_bsl h hop h1 h2 hcs.1 hcs.2.1 h3 hcs.2.2.1 hcs.2.2.2 e1 e2 he hc d
        · cases hk
      · cases hk
    · cases hk
  -- makeSlice
  · rename_i t l cc hop
    split at hk
    · rename_i e s s' h1
      split at hk
      · rename_i i z h2 h3
        split at hk
        · rename_i hcs
          cases hk
          obtain ⟨rfl, h4, h5, h6⟩ := hcs
          exact y_mks h hop h1 h2 h4 h3 h5 h6 rfl he hc d
        · cases hk
      · cases hk
    · cases hk
  -- extract
  · rename_i s i hop
    cases hk
    cases tk with
    | true => exact y_ext h hop he hc d
    | false => exact y_extS h hop he hc d
  -- slice
  · rename_i t x lo hi hop
    split at hk
    · rename_i b o1 h1 h2
      split at hk
      · rename_i z l hh h3 h4 h5
        cases hk
        refine y_slc h hop h1 (fun e he' => ?_) h2 ?_ ?_ he hc d
        · rw [he'] at h3
          simpa using h3
        · cases lo with
          | none => simp at h4; subst h4; rfl
          | some y => simp at h4; obtain ⟨z', hz', rfl⟩ := h4; simp [hz']
        · cases hi with
          | none => simp at h5; subst h5; rfl
          | some y => simp at h5; obtain ⟨z', hz', rfl⟩ := h5; simp [hz']
      · cases hk
    · cases hk
  -- len
  · rename_i xs ts hop
    split at hk
    · rename_i x t hx ht
      split at hk
      · rename_i b o1 h1 h2
        cases hk
        have hxs : xs = #[x] := by apply Array.ext'; simpa using hx
        subst hxs
        exact y_len h hop ht h1 h2 he hc d
      · cases hk
    · cases hk
  -- min
  · rename_i xs ts hop
    split at hk
    · rename_i x y hx
      split at hk
      · rename_i o1 o2 h1 h2
        cases hk
        have hxs : xs = #[x, y] := by apply Array.ext'; simpa using hx
        subst hxs
        exact y_minmax (mx := false) h hop h1 h2 he hc d
      · cases hk
    · cases hk
  -- max
  · rename_i xs ts hop
    split at hk
    · rename_i x y hx
      split at hk
      · rename_i o1 o2 h1 h2
        cases hk
        have hxs : xs = #[x, y] := by apply Array.ext'; simpa using hx
        subst hxs
        exact y_minmax (mx := true) h hop h1 h2 he hc d
      · cases hk
    · cases hk
  -- append
  · rename_i xs ts hop
    split at hk
    · rename_i s y t tx hx hts
      split at hk
      · rename_i e dx o1 h1 h2 h3
        split at hk
        · rename_i i hi
          split at hk
          · rename_i z hz
            split at hk
            · rename_i hcs
              have hxs : xs = #[.tmp s, y] := by apply Array.ext'; simpa using hx
              have hts' : ts = #[t, tx] := by apply Array.ext'; simpa using hts
              subst hxs hts'
              split at hk
              · cases hk
                exact y_app h hop h1 hi ⟨z, hz, hcs.1⟩ hcs.2 ⟨_, h2, fun k => by simp⟩ h3 he hc d
              · split at hk
                · rename_i h11
                  cases hk
                  exact y_appS h hop h1 hi h11.1 h11.2 ⟨z, hz, hcs.1⟩ ⟨_, h2, fun k => by simp⟩ h3 he hc d
                · cases hk
              · cases hk
            · cases hk
          · cases hk
        · cases hk
      · cases hk
    · cases hk
  -- call
  · split at hk
    · split at hk
      · split at hk
        · split at hk
          · cases hk; cases hq
          · split at hk <;> (cases hk; cases hq)
        · split at hk <;> (cases hk; cases hq)
        · cases hk
      · cases hk
    · cases hk
  · cases hk
end Go.Av
