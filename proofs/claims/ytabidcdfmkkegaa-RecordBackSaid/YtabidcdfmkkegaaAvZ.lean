import Derived.Test.YtabidcdfmkkegaaAvY
import Derived.RegionTactic
set_option linter.unusedSimpArgs false
namespace Go.Av
variable {P : Program} {w0 : World} {mu0 : Mem} {T : Nat → Prop} {g g' : Gh} {st st' : St} {a : Act} {w w' : World}

def gsOK (n : Nat) : Option (Nat × Bool) → Bool
  | none => true
  | some (s, _) => s < n
theorem gs_of {n : Nat} {gu : Option (Nat × Bool)} (h : gsOK n gu = true) : ∀ s b, gu = some (s, b) → s < n := by
  intro s b e; subst e; simpa [gsOK] using h

def compOpD (P : Program) (n : Nat) (ops : Array Oper) (o : Oper) : Option AOp :=
  match compK P false o, compG ops o.guard with
  | some k, some gu => if gsOK n gu then some { dst := o.dst, guard := gu, k := k } else none
  | _, _ => none
def compOpsD (P : Program) (n : Nat) (ops : Array Oper) : List Oper → Option (List AOp)
  | [] => some []
  | o :: r => match compOpD P n ops o, compOpsD P n ops r with
    | some a, some l => some (a :: l)
    | _, _ => none

theorem compOpsD_spec {n : Nat} {ops : Array Oper} : ∀ {l : List Oper} {al : List AOp}, compOpsD P n ops l = some al → ∀ (i : Nat) (o : Oper), l[i]? = some o →
    ∃ k gu, compK P false o = some k ∧ compG ops o.guard = some gu ∧ gsOK n gu = true ∧ al.getD i default = { dst := o.dst, guard := gu, k := k }
  | [], al, _, i, o, h => by simp at h
  | x :: l, al, hc, i, o, h => by
    simp only [compOpsD] at hc
    split at hc
    case h_2 => cases hc
    rename_i b al' hb hl
    cases hc
    cases i with
    | succ i => simpa using compOpsD_spec hl i o (by simpa using h)
    | zero =>
      simp at h; subst h
      simp only [compOpD] at hb
      split at hb
      case h_2 => cases hb
      rename_i k gu hk hg
      split at hb
      case isFalse => cases hb
      rename_i hgs
      cases hb
      exact ⟨k, gu, hk, hg, hgs, rfl⟩

theorem pend_set {ops : Array Oper} {listed : Array Bool} {i : Nat} (hi : i < listed.size) : pend ops (listed.setIfInBounds i true) = (pend ops listed).filter fun j => decide (j ≠ i) := by
  simp only [pend, List.filter_filter]
  congr 1
  funext j
  by_cases e : j = i
  · subst e; simp [Array.getD_eq_getD_getElem?, hi]
  · have : i ≠ j := fun q => e q.symm
    simp [Array.getD_eq_getD_getElem?, Array.getElem?_setIfInBounds, this, e]

theorem pend_sorted (ops : Array Oper) (listed : Array Bool) : (pend ops listed).Pairwise (· < ·) := List.Pairwise.filter _ List.pairwise_lt_range

theorem filter_ne_mid {l pre post : List Nat} {i : Nat} (hs : l.Pairwise (· < ·)) (h : l = pre ++ i :: post) : (l.filter fun j => decide (j ≠ i)) = pre ++ post ∧ (∀ x ∈ pre, x < i) := by
  subst h
  rw [List.pairwise_append] at hs
  obtain ⟨h1, h2, h3⟩ := hs
  rw [List.pairwise_cons] at h2
  have hp : ∀ x ∈ pre, x < i := fun x hx => h3 x hx i (by simp)
  refine ⟨?_, hp⟩
  rw [List.filter_append, List.filter_cons]
  have e1 : pre.filter (fun j => decide (j ≠ i)) = pre := List.filter_eq_self.2 fun x hx => by have := hp x hx; simp; omega
  have e2 : post.filter (fun j => decide (j ≠ i)) = post := List.filter_eq_self.2 fun x hx => by have := h2.1 x hx; simp; omega
  rw [e1, e2]; simp

theorem Closed.set {ops : Array Oper} {listed : Array Bool} (hc : Closed ops listed) (hsz : listed.size = ops.size) {i : Nat} {o : Oper} (ho : ops[i]? = some o) (hl : ∀ e ∈ o.after.toList, Region.binds .any e = true → listed.getD e.on false = true) :
    Closed ops (listed.setIfInBounds i true) := by
  have up : ∀ k, listed.getD k false = true → (listed.setIfInBounds i true).getD k false = true := by
    intro k hk
    by_cases q : i = k
    · subst q
      have : i < listed.size := by
        apply Classical.byContradiction; intro q; simp [Array.getD_eq_getD_getElem?, q] at hk
      simp [Array.getD_eq_getD_getElem?, this]
    · simpa [Array.getD_eq_getD_getElem?, Array.getElem?_setIfInBounds, q] using hk
  intro k o' ho' hk e he hb
  by_cases q : i = k
  · subst q; rw [ho] at ho'; cases ho'; exact up _ (hl e he hb)
  · refine up _ (hc k o' ho' ?_ e he hb)
    simpa [Array.getD_eq_getD_getElem?, Array.getElem?_setIfInBounds, q] using hk

theorem any_ok {R : Orc} (hR : R.ok P) {n : Nat} {ops : Array Oper} {al : List AOp} (hal : compOpsD P n ops ops.toList = some al) (hd : drawOK ops al = true) {stf : St} {Q' : Exit → Act → World → Prop}
    (hQ : ∀ g st a w, Sim w0 mu0 T g st a w → st.n = n → Eqv stf st → Q' .normal a w) : ∀ (fuel : Nat) (listed : Array Bool) (g : Gh) (st stx : St) (a : Act) (w : World),
    listed.size = ops.size → Closed ops listed → (pend ops listed).length = fuel → Sim w0 mu0 T g st a w → st.n = n → Runs R ((pend ops listed).map fun i => al.getD i default) st stx → Eqv stf stx → wpAny P .any ops Q' fuel listed a w
  | 0, listed, g, st, stx, a, w, hsz, hc, hlen, hs, hn, hr, he => by
    have hp : pend ops listed = [] := List.length_eq_zero_iff.1 hlen
    rw [hp] at hr
    cases hr
    refine ⟨?_, hQ g st a w hs hn he⟩
    cases hrd : Region.ready .any ops listed with
    | nil => rfl
    | cons i r =>
      have := (ready_spec (i := i) (by rw [hrd]; simp)).1
      rw [hp] at this; simp at this
  | fuel + 1, listed, g, st, stx, a, w, hsz, hc, hlen, hs, hn, hr, he => by
    have hd0 := hd
    simp only [drawOK, Bool.and_eq_true] at hd
    obtain ⟨hd1, hd2⟩ := hd
    refine ⟨fun hnil => ?_, fun i hi => ?_⟩
    · exfalso
      cases hp : pend ops listed with
      | nil => rw [hp] at hlen; simp at hlen
      | cons i r =>
        have hmem : i ∈ pend ops listed := by rw [hp]; simp
        obtain ⟨hir, hnl⟩ := List.mem_filter.1 hmem
        have hlt : i < ops.size := List.mem_range.1 hir
        have hsort := pend_sorted ops listed
        rw [hp, List.pairwise_cons] at hsort
        have hready : i ∈ Region.ready .any ops listed := by
          simp only [Region.ready, List.mem_filter, Bool.and_eq_true]
          refine ⟨hir, hnl, ?_⟩
          have ho : ops[i]? = some ops[i] := by simp [hlt]
          rw [ho]
          simp only [Option.map_some, Option.getD_some]
          rw [Array.all_eq_true]
          intro k hk
          have hb := allNat_spec hd1 i hlt
          rw [ho] at hb
          have hon := List.all_eq_true.1 hb (ops[i].after[k]) (by simp)
          cases hbd : Region.binds .any ops[i].after[k] with
          | false => rfl
          | true =>
          simp only [hbd, Bool.not_true, Bool.false_or, decide_eq_true_eq] at hon
          have hlsz : ops[i].after[k].on < listed.size := by omega
          have : listed.getD ops[i].after[k].on false = true := by
            apply Classical.byContradiction; intro q
            have hin : ops[i].after[k].on ∈ pend ops listed := List.mem_filter.2 ⟨List.mem_range.2 (by omega), by
              simp [Array.getD_eq_getD_getElem?, hlsz] at q ⊢; exact q⟩
            rw [hp] at hin
            rcases List.mem_cons.1 hin with q' | q'
            · omega
            · have := hsort.1 _ q'; omega
          rw [this]; simp
        rw [hnil] at hready; simp at hready
    · obtain ⟨hp, o, ho, hl⟩ := ready_spec hi
      obtain ⟨pre, post, hsplit⟩ := List.append_of_mem hp
      obtain ⟨hf1, hf2⟩ := filter_ne_mid (pend_sorted ops listed) hsplit
      have hlt : i < ops.size := List.mem_range.1 (List.mem_filter.1 hp).1
      obtain ⟨k, gu, c1, c2, c3, c4⟩ := compOpsD_spec hal i o (by simpa using ho)
      rw [hsplit, List.map_append, List.map_cons] at hr
      have hind : ∀ x ∈ pre.map (fun i => al.getD i default), indep x (al.getD i default) = true := by
        intro x hx
        obtain ⟨j, hj, rfl⟩ := List.mem_map.1 hx
        have hji := hf2 j hj
        have := allNat_spec (allNat_spec hd2 i hlt) j hji
        rw [Bool.or_eq_true] at this
        rcases this with q | q
        · exact q
        · exfalso
          have h1 := before_listed hsz hc 3 j i o ho hl q
          have h2 : j ∈ pend ops listed := by rw [hsplit]; simp [hj]
          have h3 := (List.mem_filter.1 h2).2
          have hjl : j < listed.size := by omega
          simp [Array.getD_eq_getD_getElem?, hjl] at h1 h3
          rw [h1] at h3; cases h3
      obtain ⟨c, W, B, e1, e2, e3, stf', q1, q2⟩ := Runs.bubble hind hr
      have hstep : AStep P st (al.getD i default) fun st' => ∃ s2, Runs R ((pre ++ post).map fun i => al.getD i default) st' s2 ∧ Eqv stf s2 :=
        eff_step hR e1 e2 e3 ⟨stf', by rw [List.map_append]; exact q1, he.trans q2⟩
      rw [c4] at hstep
      have hmain := step_ok (ops := ops) (o := o) (tk := false) (ao := { dst := o.dst, guard := gu, k := k }) (K' := wpAny P .any ops Q' fuel (listed.setIfInBounds i true)) (Q := Q') c1 rfl c2 (by rw [hn]; exact gs_of c3) hs hstep
        (fun g' st' a' w' hs' hn' hK => by
          obtain ⟨s2, r1, r2⟩ := hK
          have hps : pend ops (listed.setIfInBounds i true) = pre ++ post := by rw [pend_set (by omega), hf1]
          refine any_ok hR hal hd0 hQ fuel _ g' st' s2 a' w' (by simpa using hsz) (hc.set hsz ho hl) ?_ hs' (hn'.trans hn) (by rw [hps]; exact r1) r2
          rw [hps]
          rw [hsplit] at hlen
          simp at hlen ⊢; omega)
      unfold wpOp
      rw [ho]
      show if Region.wanted o (yielded ops a.tmps) = true then _ else _
      split
      · rename_i hw; rw [if_pos hw] at hmain; exact .inl hmain
      · rename_i hw; rw [if_neg hw] at hmain; exact hmain

theorem Sim.eqv (h : Sim w0 mu0 T g st a w) (e : Eqv st' st) : Sim w0 mu0 T g st' a w := h.congr e.n.symm (fun t => (e.sl t).symm) (fun t => (e.bx t).symm) e.hp.symm

theorem draw_ok {R : Orc} (hR : R.ok P) (hm : P.follows .mixedOrders = true) {n id : Nat} {ops : Array Oper} {al : List AOp} (hal : compOpsD P n ops ops.toList = some al) (hd : drawOK ops al = true) {stf : St} {c : Prop}
    {Q' : Exit → Act → World → Prop} (hQ : ∀ g a w, Sim w0 mu0 T g stf a w → stf.n = n → Q' .normal a w) (hs : Sim w0 mu0 T g st a w) (hn : st.n = n) (hr : runR R al st True = some (c, stf)) (hc : c) :
    (Code.region id ops true).wp P Q' a w := by
  refine wp_region_any hm ?_
  have hlist : (pend ops (Array.replicate ops.size false)) = List.range ops.size := by
    apply List.filter_eq_self.2
    intro i hi
    have := List.mem_range.1 hi
    simp [Array.getD_eq_getD_getElem?, this]
  have hlen : al.length = ops.size := by
    have : ∀ {l : List Oper} {al : List AOp}, compOpsD P n ops l = some al → al.length = l.length := by
      intro l
      induction l with
      | nil => intro al h; cases h; rfl
      | cons o l ih =>
        intro al h
        simp only [compOpsD] at h
        split at h
        case h_2 => cases h
        rename_i h2
        cases h
        simp [ih h2]
    simpa using this hal
  have hmap : (List.range ops.size).map (fun i => al.getD i default) = al := by
    apply List.ext_getElem
    · simp [hlen]
    · intro i h1 h2; simp [List.getD_eq_getElem?_getD, h2]
  refine any_ok hR hal hd (stf := stf) (fun g st a w h1 h2 h3 => hQ g a w (h1.eqv h3) (h3.n.symm.trans h2)) ops.size _ g st stf a _ (by simp) ?_ (by rw [hlist]; simp) hs.drew hn ?_ (Eqv.refl _)
  · intro i o ho hl
    have : i < ops.size := by
      apply Classical.byContradiction; intro q; simp [q] at ho
    simp [Array.getD_eq_getD_getElem?, this] at hl
  · rw [hlist, hmap]; exact (runs_of hr hc).2
end Go.Av
