import Derived.Test.YtabidcdfmkkegaaAvV
set_option linter.unusedSimpArgs false
namespace Go.Av

/-- Two states that look alike to what reads these slots. -/
structure Alike (rs : List Nat) (st st2 : St) : Prop where
  n : st2.n = st.n
  hp : st2.hp = st.hp
  sl : ∀ t ∈ rs, lk st2.sl t = lk st.sl t

theorem Alike.mono {rs rs' : List Nat} {st st2 : St} (h : Alike rs st st2) (hs : ∀ t ∈ rs', t ∈ rs) : Alike rs' st st2 := ⟨h.n, h.hp, fun t ht => h.sl t (hs t ht)⟩

section
variable {st st2 : St}
theorem rdl_al {x : AO} (h : Alike x.rs st st2) : rdl st2 x = rdl st x := by
  cases x with
  | t s => simp [rdl, h.sl s (by simp [AO.rs])]
  | c v => rfl
theorem rd_al {x : AO} (h : Alike x.rs st st2) : rd st2 x = rd st x := by simp [rd, rdl_al h]
theorem ev1_al {x : AO} {f : SV → Ev} (h : Alike x.rs st st2) : ev1 st2 x f = ev1 st x f := by simp [ev1, rd_al h]
theorem ev2_al {x y : AO} {f : SV → SV → Ev} (h : Alike (x.rs ++ y.rs) st st2) : ev2 st2 x y f = ev2 st x y f := by
  have h1 := h.mono (rs' := x.rs) (by intro t ht; simp [ht])
  have h2 := h.mono (rs' := y.rs) (by intro t ht; simp [ht])
  simp [ev2, ev1, rd_al h1, rd_al h2]
theorem optI_al {d : Int} {o : Option AO} (h : Alike ((o.map AO.rs).getD []) st st2) : optI st2 d o = optI st d o := by
  cases o with
  | none => rfl
  | some x => simp only [optI]; rw [rd_al (by simpa using h)]
theorem evParts_al : ∀ {ps : List (Nat × Nat × AO)}, Alike ((ps.map fun p => p.2.2.rs).flatten) st st2 → evParts st2 ps = evParts st ps
  | [], _ => rfl
  | (a, b, o) :: r, h => by
    simp only [evParts]
    rw [rd_al (h.mono (by intro t ht; simp [ht])), evParts_al (ps := r) (h.mono (by intro t ht; simp at ht ⊢; exact .inr ht))]
theorem evElems_al {sz : Nat} : ∀ {ps : List (Nat × AO)}, Alike ((ps.map fun p => p.2.rs).flatten) st st2 → evElems st2 sz ps = evElems st sz ps
  | [], _ => rfl
  | (a, o) :: r, h => by
    simp only [evElems]
    rw [rd_al (h.mono (by intro t ht; simp [ht])), evElems_al (ps := r) (h.mono (by intro t ht; simp at ht ⊢; exact .inr ht))]
theorem evList_al : ∀ {ps : List AO}, Alike ((ps.map AO.rs).flatten) st st2 → evList st2 ps = evList st ps
  | [], _ => rfl
  | o :: r, h => by
    simp only [evList]
    rw [rd_al (h.mono (by intro t ht; simp [ht])), evList_al (ps := r) (h.mono (by intro t ht; simp at ht ⊢; exact .inr ht))]
theorem gOf_al {gu : Option (Nat × Bool)} (h : Alike (match gu with | some (s, _) => [s] | none => []) st st2) : gOf st2 gu = gOf st gu := by
  cases gu with
  | none => rfl
  | some p => obtain ⟨s, b⟩ := p; simp only [gOf]; rw [h.sl s (by simp)]

theorem loadV_al {n : Option Nat} {p : LV} (hp : st2.hp = st.hp) (h : ∀ s off, p = .lptr s off → lkb st2.bx s = lkb st.bx s) : loadV st2 n p = loadV st n p := by
  unfold loadV
  split
  · rw [h _ _ rfl]
  · rw [hp]
  · rfl
  · rfl

def Boxy (rs : List Nat) (st st2 : St) : Prop := ∀ t ∈ rs, ∀ s off, (lk st.sl t).gv.2 = .lptr s off → lkb st2.bx s = lkb st.bx s

theorem ev_al {k : AK} (h : Alike k.rs st st2) (hb : (∃ n x, k = .load n x) → Boxy k.rs st st2) : ev st2 k = ev st k := by
  cases k
  case mv o => simp only [ev]; rw [rdl_al h]
  case take s => simp only [ev]; rw [h.sl s (by simp [AK.rs])]
  case mark s => simp only [ev]; rw [h.sl s (by simp [AK.rs])]
  case pick c a b =>
    simp only [ev]
    rw [rd_al (h.mono (by intro t ht; simp [AK.rs, ht])), rd_al (x := a) (h.mono (by intro t ht; simp [AK.rs, ht])), rd_al (x := b) (h.mono (by intro t ht; simp [AK.rs, ht]))]
  case bin op x y => exact ev2_al h
  case una op x => exact ev1_al h
  case eqn sl neg x => simp only [ev]; rw [rdl_al h]
  case beq neg x y => exact ev2_al h
  case eqs ks neg x y => exact ev2_al h
  case conv k x => exact ev1_al h
  case b2s x => exact ev1_al h
  case s2b x => exact ev1_al h
  case len b x => simp only [ev]; rw [rdl_al h, show ev1 st2 x (lenV b) = ev1 st x (lenV b) from ev1_al h]
  case minmax b x y => exact ev2_al h
  case slc b z x lo hi =>
    simp only [ev, ev1]
    rw [rd_al (h.mono (by intro t ht; simp [AK.rs, ht])), show optI st2 0 lo = optI st 0 lo from optI_al (h.mono (by intro t ht; simp [AK.rs, ht]))]
    have : ∀ d, optI st2 d hi = optI st d hi := fun d => optI_al (h.mono (by intro t ht; simp [AK.rs, ht]))
    simp only [this]
  case slc3 z x lo hi =>
    simp only [ev, ev1]
    rw [rd_al (h.mono (by intro t ht; simp [AK.rs, ht])), show optI st2 0 lo = optI st 0 lo from optI_al (h.mono (by intro t ht; simp [AK.rs, ht])), show optI st2 0 (some hi) = optI st 0 (some hi) from optI_al (h.mono (by intro t ht; simp at ht; simp [AK.rs, ht]))]
  case faddr x off => simp only [ev]; rw [rdl_al h]
  case fld x off n => exact ev1_al h
  case iaddr z x i =>
    simp only [ev]
    rw [rdl_al (h.mono (by intro t ht; simp [AK.rs, ht])), show ev2 st2 x i (iaddrV z) = ev2 st x i (iaddrV z) from ev2_al h]
    have : ∀ f, ev1 st2 i f = ev1 st i f := fun f => ev1_al (h.mono (by intro t ht; simp [AK.rs, ht]))
    simp only [this]
  case iaddrA n z x i =>
    simp only [ev, ev1]
    rw [rdl_al (h.mono (by intro t ht; simp [AK.rs, ht])), rd_al (x := i) (h.mono (by intro t ht; simp [AK.rs, ht]))]
  case idx x i => exact ev2_al h
  case ext s i => simp only [ev]; rw [h.sl s (by simp [AK.rs])]
  case extS s i => simp only [ev]; rw [h.sl s (by simp [AK.rs])]
  case mkfn f a b => rfl
  case nilc x => simp only [ev]; rw [rdl_al h]
  case load n x =>
    simp only [ev]
    rw [rdl_al h]
    rw [show loadV st2 n (rdl st x).2 = loadV st n (rdl st x).2 from loadV_al h.hp (fun s off e => by
      cases x with
      | t t => exact hb ⟨_, _, rfl⟩ t (by simp [AK.rs, AO.rs]) s off e
      | c v => simp [rdl] at e)]
  case takeLoad x => rfl
  case build z ps => simp only [ev]; rw [evParts_al h]
  case bsl z n ze ps => simp only [ev]; rw [evElems_al h]
  case app a b s y => simp only [ev]; rw [h.sl s (by simp [AK.rs]), rd_al (h.mono (by intro t ht; simp [AK.rs, ht]))]
  case appS s y => simp only [ev]; rw [h.sl s (by simp [AK.rs]), rd_al (h.mono (by intro t ht; simp [AK.rs, ht]))]
  case mks a b z l => exact ev1_al h
  case box n x => rfl
  case alloc z => rfl
  case store n x v => rfl
  case call f l => rfl
  case callE f x l => rfl
  case callN f l => rfl

theorem dgW_al {k : AK} (h : Alike k.rs st st2) : dgW st2 k = dgW st k := by
  cases k <;> first | rfl | (simp only [dgW]; rw [h.sl _ (by simp [AK.rs])])

theorem eff_al {R : Orc} {o : AOp} (h : Alike o.rs st st2) (hb : o.bk ≠ 0 → Boxy o.rs st st2) : eff R st2 o = eff R st o := by
  have hk : Alike o.k.rs st st2 := h.mono (by intro t ht; simp [AOp.rs, ht])
  have hg : gOf st2 o.guard = gOf st o.guard := gOf_al (h.mono (by intro t ht; simp only [AOp.rs, List.mem_append]; exact .inl ht))
  have hbk : o.bk ≠ 0 → Boxy o.k.rs st st2 := fun e t ht => hb e t (by simp [AOp.rs, ht])
  have quiet : (o.k.quiet = true) → effQ st2 o = effQ st o := by
    intro _
    unfold effQ
    rw [hg, ev_al hk (fun ⟨n, x, e⟩ => hbk (by simp [AOp.bk, e])), dgW_al hk, h.n]
  obtain ⟨dst, gu, k⟩ := o
  cases k
  case box n x => simp only [eff, effBox]; rw [rd_al hk, h.n]
  case alloc z => simp only [eff, effAlloc]; rw [h.n]
  case mks sz bytes zero l =>
    simp only [eff]
    rw [show effQ st2 _ = effQ st _ from quiet rfl]
    simp only [effMks]
    rw [rd_al hk, h.n]
  case store n x v =>
    have h1 : rdl st2 x = rdl st x := rdl_al (hk.mono (by intro t ht; simp [AK.rs, ht]))
    have h2 : rd st2 v = rd st v := rd_al (hk.mono (by intro t ht; simp [AK.rs, ht]))
    simp only [eff, effStore]
    rw [h1, h2]
    split
    · rename_i g1 s off g2 u e1 e2
      have : lkb st2.bx s = lkb st.bx s := by
        cases x with
        | t t => exact hbk (by simp [AOp.bk]) t (by simp [AK.rs, AO.rs]) s off (by simp [rdl] at e1; rw [e1])
        | c v => simp [rdl] at e1
      rw [this]
    · rfl
  case call f l => simp only [eff, effCall]; simp only [] at hg; rw [hg, evList_al hk, h.n]
  case callN f l => simp only [eff, effCallN]; rw [evList_al hk, h.n]
  case callE f x l =>
    have h1 : rdl st2 x = rdl st x := rdl_al (hk.mono (by intro t ht; simp [AK.rs, ht]))
    have h2 : evList st2 l = evList st l := evList_al (hk.mono (by intro t ht; simp only [AK.rs, List.mem_append]; exact .inr ht))
    simp only [eff, effCallE]
    simp only [] at hg
    rw [hg, h1, h2, h.n]
    split
    · rename_i d g gx s c l' e0 e1 e2
      have : lkb st2.bx s = lkb st.bx s := by
        cases x with
        | t t => exact hbk (by simp [AOp.bk]) t (by simp [AK.rs, AO.rs]) s 0 (by simp [rdl] at e1; rw [e1])
        | c v => simp [rdl] at e1
      rw [this]
    · rfl
    · rfl
  case takeLoad x => rfl
  all_goals exact quiet rfl
end
end Go.Av
