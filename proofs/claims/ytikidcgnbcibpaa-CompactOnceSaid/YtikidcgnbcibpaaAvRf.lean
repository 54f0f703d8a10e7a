import Derived.Test.YtikidcgnbcibpaaAvAA
import Derived.RangeFuncIn
import Derived.RangeFuncLeaves
import Derived.RangeFuncRecord
import Derived.RangeFuncOwn
import Derived.OrdersIn
import Derived.TacticsIn

set_option linter.unusedVariables false
set_option linter.unusedSimpArgs false
open Go.RowKit
namespace Go.Av
variable {P : Program} {w0 : World} {mu0 : Mem} {T : Tc} {g g' : Gh} {st st' : St} {a : Act} {w w' : World} {r : Option Nat} {N : Nat}

/-- The widest fence, in a round or out of one. -/
abbrev FW (r : Option Nat) : Fence := { Fence.wide with round := r }

theorem callsIn_FW {f : FuncId} {args : Array Value} {R : Ending → World → Prop} (h : Calls P f args w R) : CallsIn (FW r) N P f args w R := (callsIn_wide (n := N)).2 h
theorem calls_of_FW {f : FuncId} {args : Array Value} {R : Ending → World → Prop} (h : CallsIn (FW none) N P f args w R) : Calls P f args w R := callsIn_wide.1 h
theorem rowsIn_FW {row : String} {args : Array Value} {R : Value → World → Prop} (h : Rows P row args w R) : RowsIn (FW r) N P row args w R := by
  intro c cs _
  obtain ⟨v, w', q, s⟩ := h c cs
  exact ⟨v, w', q, (stepsIn_wide (P := P)).2 s⟩

theorem op_in {o : Oper} {K : Act → World → Prop} {Q0 Q1 : Exit → Act → World → Prop} (hd : ∀ c, o.op ≠ .defer c) (hK : ∀ a' w', K a' w' → a'.defers = []) (hl : ¬ LetsOut Q0) (hp : ∀ ch a w, ¬ Q0 (.panic ch) a w)
    (h : o.wp P { a with defers := [] } w K Q0) : o.wpIn (FW r) N P a w (fun a' w' => a'.defers = a.defers ∧ K { a' with defers := [] } w') Q1 := by
  refine ⟨fun _ _ => trivial, ?_⟩
  have he : Oper.semAt (FW r).round a.eval o = execOp a.eval o := by
    cases r with
    | none => rfl
    | some l => exact Oper.semAt_some l _ _ hd
  rw [he]
  unfold Oper.wp at h
  have hev : ({ a with defers := [] } : Act).eval = a.eval := by funext x; cases x <;> rfl
  rw [hev] at h
  generalize (execOp a.eval o).run P w = res at h ⊢
  have put : ∀ v, ({ (a.put o.dst v) with defers := [] } : Act) = ({ a with defers := [] } : Act).put o.dst v := fun v => by cases o.dst <;> rfl
  have pd : ∀ v, (a.put o.dst v).defers = a.defers := fun v => by cases o.dst <;> rfl
  cases res with
  | halt x w1 =>
    cases x <;> simp only [Oper.upon] at h
    exact absurd h (hp _ _ _)
  | ok nx w1 =>
    cases nx <;> simp only [Oper.upon, Oper.uponIn] at h ⊢
    case value v => exact ⟨pd v, by rw [put]; exact h⟩
    case skip => exact ⟨pd _, by rw [put]; exact h⟩
    case defer d =>
      have h2 := hK _ _ h
      generalize o.dst = dd at h2
      cases dd <;> simp [Act.put] at h2
    case enter f args =>
      refine ⟨fun q => by simp [Fence.wide] at q, ?_⟩
      refine callsIn_FW (h.mono fun e w2 q => ?_)
      cases e with
      | returned v => exact ⟨pd v, by rw [put]; exact q⟩
      | panicked ch => exact absurd q (hp _ _ _)
      | outgrown => exact absurd q hl
    case row row args =>
      refine ⟨fun q => by simp [Fence.wide] at q, ?_⟩
      exact rowsIn_FW (h.mono fun v w2 q => ⟨pd v, by rw [put]; exact q⟩)

theorem compK_noDefer {tk : Bool} {o : Oper} {k : AK} (h : compK P tk o = some k) : ∀ c, o.op ≠ .defer c := by
  intro c e
  unfold compK at h
  rw [e] at h
  cases h

theorem list_in {n : Nat} {ops : Array Oper} {Q1 : Exit → Act → World → Prop} {ds : List Deferred} {rest : List Oper} {K' : St → Prop}
    (hK : ∀ g st a w, Sim w0 mu0 T g st { a with defers := [] } w → a.defers = ds → st.n = n → K' st → wpListIn (FW r) N P ops Q1 rest a w) :
    ∀ (l : List Oper) (al : List AOp) (g : Gh) (st : St) (a : Act) (w : World), compOps P n ops l = some al → Sim w0 mu0 T g st { a with defers := [] } w → a.defers = ds → st.n = n → AOps P al st K' → wpListIn (FW r) N P ops Q1 (l ++ rest) a w
  | [], al, g, st, a, w, hc, h, hds, hn, hs => by cases hc; exact hK g st a w h hds hn hs
  | o :: l, al, g, st, a, w, hc, h, hds, hn, hs => by
    simp only [compOps] at hc
    split at hc
    case h_2 => cases hc
    rename_i ao al' ho hl
    cases hc
    simp only [compOp] at ho
    split at ho
    case h_2 => cases ho
    rename_i k gu hk hg
    split at ho
    case isFalse => cases ho
    rename_i hgs
    cases ho
    have hstep := step_ok (ops := ops) (Q := fun _ _ _ => False) (K' := fun a' w' => ∃ g' st', Sim w0 mu0 T g' st' a' w' ∧ st'.n = n ∧ AOps P al' st' K') (ao := { dst := o.dst, guard := gu, k := k }) hk rfl hg (by rw [hn]; exact gs_of hgs) h hs
      (fun g' st' a' w' hsim hn' hK' => ⟨g', st', hsim, hn'.trans hn, hK'⟩)
    have next : ∀ a' w', a'.defers = a.defers → (∃ g' st', Sim w0 mu0 T g' st' { a' with defers := [] } w' ∧ st'.n = n ∧ AOps P al' st' K') → wpListIn (FW r) N P ops Q1 (l ++ rest) a' w' := by
      rintro a' w' hd' ⟨g', st', q1, q2, q3⟩
      exact list_in hK l al' g' st' a' w' hl q1 (hd'.trans hds) q2 q3
    simp only [List.cons_append, wpListIn]
    split
    · rename_i hw
      rw [if_pos (by exact hw)] at hstep
      refine Oper.wpIn_mono (fun a' w' q => next a' w' q.1 q.2) (op_in (compK_noDefer hk) ?_ (by rintro ⟨_, _, q⟩; exact q) (fun _ _ _ q => q) hstep)
      rintro a' w' ⟨g', st', q1, _⟩
      obtain hh := q1.defers
      exact hh
    · rename_i hw
      rw [if_neg (by exact hw)] at hstep
      refine ⟨fun _ _ => trivial, next _ _ (by cases o.dst <;> rfl) ?_⟩
      have : ({ a with defers := [] } : Act).put o.dst undef = { (a.put o.dst undef) with defers := [] } := by cases o.dst <;> rfl
      rw [this] at hstep
      exact hstep

theorem reg_in {n id : Nat} {ops : Array Oper} {al : List AOp} {Q1 : Exit → Act → World → Prop} {K' : St → Prop} (hc : compOps P n ops ops.toList = some al) (h : Sim w0 mu0 T g st { a with defers := [] } w) (hn : st.n = n) (hs : AOps P al st K')
    (hK : ∀ g st a' w, Sim w0 mu0 T g st { a' with defers := [] } w → a'.defers = a.defers → st.n = n → K' st → Q1 .normal a' w) : (Code.region id ops false).wpIn (FW r) N P Q1 a w := by
  refine wpIn_region_list ?_
  have := list_in (r := r) (N := N) (rest := []) (ops := ops) (Q1 := Q1) (ds := a.defers) hK ops.toList al g st a w hc h rfl hn hs
  simpa using this

theorem any_in {R : Orc} (hR : R.ok P) {n : Nat} {ops : Array Oper} {al : List AOp} {rl : RL} (hal : compOpsD P n ops ops.toList = some al) (hd : drawOK ops al rl = true) {stf : St} {Q' : Exit → Act → World → Prop}
    (hQ : ∀ g st a w, Sim w0 mu0 T g st a w → st.n = n → Eqv stf st → Q' .normal a w) : ∀ (fuel : Nat) (listed : Array Bool) (g : Gh) (st stx : St) (a : Act) (w : World),
    listed.size = ops.size → Roots rl st → Closed ops listed → (pend ops listed).length = fuel → Sim w0 mu0 T g st a w → st.n = n → Runs R ((pend ops listed).map fun i => al.getD i default) st stx → Eqv stf stx → wpAnyIn (FW r) N P .any ops Q' fuel listed a w
  | 0, listed, g, st, stx, a, w, hsz, hroot, hc, hlen, hs, hn, hr, he => by
    have hp : pend ops listed = [] := List.length_eq_zero_iff.1 hlen
    rw [hp] at hr
    cases hr
    refine ⟨?_, hQ g st a w hs hn he⟩
    cases hrd : Region.ready .any ops listed with
    | nil => rfl
    | cons i r =>
      have := (ready_spec (i := i) (by rw [hrd]; simp)).1
      rw [hp] at this; simp at this
  | fuel + 1, listed, g, st, stx, a, w, hsz, hroot, hc, hlen, hs, hn, hr, he => by
    have hd0 := hd
    simp only [drawOK, Bool.and_eq_true] at hd
    obtain ⟨⟨hd1, hkp⟩, hd2⟩ := hd
    refine ⟨fun hnil => ?_, fun i hi => ?_⟩
    · exfalso
      cases hp : pend ops listed with
      | nil => rw [hp] at hlen; simp at hlen
      | cons i r =>
        have hmem : i ∈ pend ops listed := by rw [hp]; simp
        obtain ⟨hir, hnl⟩ := List.mem_filter.1 hmem
        have hlt : i < ops.size := List.mem_range.1 hir
        have hsort := pend_sorted ops listed
        rw [hp, List.pairwise_cons] at hsort
        have hready : i ∈ Region.ready .any ops listed := by
          simp only [Region.ready, List.mem_filter, Bool.and_eq_true]
          refine ⟨hir, hnl, ?_⟩
          have ho : ops[i]? = some ops[i] := by simp [hlt]
          rw [ho]
          simp only [Option.map_some, Option.getD_some]
          rw [Array.all_eq_true]
          intro k hk
          have hb := allNat_spec hd1 i hlt
          rw [ho] at hb
          have hon := List.all_eq_true.1 hb (ops[i].after[k]) (by simp)
          cases hbd : Region.binds .any ops[i].after[k] with
          | false => rfl
          | true =>
          simp only [hbd, Bool.not_true, Bool.false_or, decide_eq_true_eq] at hon
          have hlsz : ops[i].after[k].on < listed.size := by omega
          have : listed.getD ops[i].after[k].on false = true := by
            apply Classical.byContradiction; intro q
            have hin : ops[i].after[k].on ∈ pend ops listed := List.mem_filter.2 ⟨List.mem_range.2 (by omega), by
              simp [Array.getD_eq_getD_getElem?, hlsz] at q ⊢; exact q⟩
            rw [hp] at hin
            rcases List.mem_cons.1 hin with q' | q'
            · omega
            · have := hsort.1 _ q'; omega
          rw [this]; simp
        rw [hnil] at hready; simp at hready
    · obtain ⟨hp, o, ho, hl⟩ := ready_spec hi
      obtain ⟨pre, post, hsplit⟩ := List.append_of_mem hp
      obtain ⟨hf1, hf2⟩ := filter_ne_mid (pend_sorted ops listed) hsplit
      have hlt : i < ops.size := List.mem_range.1 (List.mem_filter.1 hp).1
      obtain ⟨k, gu, c1, c2, c3, c4⟩ := compOpsD_spec hal i o (by simpa using ho)
      rw [hsplit, List.map_append, List.map_cons] at hr
      have hkp' : ∀ j, keepsPtr rl (al.getD j default) = true := by
        intro j
        by_cases q : j < al.length
        · rw [List.getD_eq_getElem?_getD, List.getElem?_eq_getElem q]
          exact List.all_eq_true.1 hkp _ (List.getElem_mem q)
        · rw [List.getD_eq_getElem?_getD, List.getElem?_eq_none (by omega)]
          rfl
      have hind : ∀ x ∈ pre.map (fun i => al.getD i default), indep rl x (al.getD i default) = true := by
        intro x hx
        obtain ⟨j, hj, rfl⟩ := List.mem_map.1 hx
        have hji := hf2 j hj
        have := allNat_spec (allNat_spec hd2 i hlt) j hji
        rw [Bool.or_eq_true, Bool.or_eq_true] at this
        rcases this with (q | q) | q
        · exact q
        all_goals
          exfalso
          have h1 : listed.getD j false = true := by first | exact before_listed hsz hc 3 j i o ho hl q | exact mask_listed hsz hc q ho hl
          have h2 : j ∈ pend ops listed := by rw [hsplit]; simp [hj]
          have h3 := (List.mem_filter.1 h2).2
          have hjl : j < listed.size := by omega
          simp [Array.getD_eq_getD_getElem?, hjl] at h1 h3
          rw [h1] at h3; cases h3
      obtain ⟨c, W, B, e1, e2, e3, stf', q1, q2⟩ := Runs.bubble hroot (fun x hx => by obtain ⟨j, _, rfl⟩ := List.mem_map.1 hx; exact hkp' j) hind hr
      have hstep : AStep P st (al.getD i default) fun st' => Roots rl st' ∧ ∃ s2, Runs R ((pre ++ post).map fun i => al.getD i default) st' s2 ∧ Eqv stf s2 :=
        eff_step hR e1 e2 e3 ⟨hroot.app e1 e3 (hkp' i), stf', by rw [List.map_append]; exact q1, he.trans q2⟩
      rw [c4] at hstep
      obtain ⟨tk', k', c1', hKD⟩ := compKD_real c1 c2
      have hstep := hKD _ _ hstep
      have ha : ({ a with defers := [] } : Act) = a := by have hd := hs.defers; cases a; simp at hd ⊢; exact hd
      have hmain := step_ok (ops := ops) (o := o) (tk := tk') (ao := { dst := o.dst, guard := gu, k := k' }) (K' := fun a' w' => a'.defers = [] ∧ wpAnyIn (FW r) N P .any ops Q' fuel (listed.setIfInBounds i true) a' w') (Q := fun _ _ _ => False) c1' rfl c2 (by rw [hn]; exact gs_of c3) hs hstep
        (fun g' st' a' w' hs' hn' hK => by
          obtain ⟨hroot', s2, r1, r2⟩ := hK
          have hps : pend ops (listed.setIfInBounds i true) = pre ++ post := by rw [pend_set (by omega), hf1]
          refine ⟨hs'.defers, any_in hR hal hd0 hQ fuel _ g' st' s2 a' w' (by simpa using hsz) hroot' (hc.set hsz ho hl) ?_ hs' (hn'.trans hn) (by rw [hps]; exact r1) r2⟩
          rw [hps]
          rw [hsplit] at hlen
          simp at hlen ⊢; omega)
      unfold wpOpIn
      rw [ho]
      show if Region.wanted o (yielded ops a.tmps) = true then _ else _
      split
      · rename_i hw
        rw [if_pos hw] at hmain
        refine Oper.wpIn_mono (fun a' w' q => ?_) (op_in (Q0 := fun _ _ _ => False) (K := fun a' w' => a'.defers = [] ∧ wpAnyIn (FW r) N P .any ops Q' fuel (listed.setIfInBounds i true) a' w') (compK_noDefer c1') (fun _ _ q => q.1) (by rintro ⟨_, _, q⟩; exact q) (fun _ _ _ q => q) (by rw [ha]; exact hmain))
        obtain ⟨q1, q2, q3⟩ := q
        have ha' : ({ a' with defers := [] } : Act) = a' := by have hd := q1.trans hs.defers; cases a'; simp at hd ⊢; exact hd
        rw [ha'] at q3
        exact q3
      · rename_i hw; rw [if_neg hw] at hmain; exact ⟨fun _ _ => trivial, hmain.2⟩

theorem draw_in {R : Orc} (hR : R.ok P) (hm : P.follows .mixedOrders = true) {n id : Nat} {ops : Array Oper} {al : List AOp} {rl : RL} (hal : compOpsD P n ops ops.toList = some al) (hd : drawOK ops al rl = true) {stf : St} {c : Prop}
    {Q' : Exit → Act → World → Prop} (hQ : ∀ g a w, Sim w0 mu0 T g stf a w → stf.n = n → Q' .normal a w) (hs : Sim w0 mu0 T g st a w) (hn : st.n = n) (hroot : rootsOK rl st) (hr : runR R al st True = some (c, stf)) (hc : c) :
    (Code.region id ops true).wpIn (FW r) N P Q' a w := by
  refine wpIn_region_any hm ?_
  have hlist : (pend ops (Array.replicate ops.size false)) = List.range ops.size := by
    apply List.filter_eq_self.2
    intro i hi
    have := List.mem_range.1 hi
    simp [Array.getD_eq_getD_getElem?, this]
  have hlen : al.length = ops.size := by
    have : ∀ {l : List Oper} {al : List AOp}, compOpsD P n ops l = some al → al.length = l.length := by
      intro l
      induction l with
      | nil => intro al h; cases h; rfl
      | cons o l ih =>
        intro al h
        simp only [compOpsD] at h
        split at h
        case h_2 => cases h
        rename_i h2
        cases h
        simp [ih h2]
    simpa using this hal
  have hmap : (List.range ops.size).map (fun i => al.getD i default) = al := by
    apply List.ext_getElem
    · simp [hlen]
    · intro i h1 h2; simp [List.getD_eq_getElem?_getD, h2]
  refine any_in (r := r) (N := N) hR hal hd (stf := stf) (fun g st a w h1 h2 h3 => hQ g a w (h1.eqv h3) (h3.n.symm.trans h2)) ops.size _ g st stf a _ (by simp) hroot.roots ?_ (by rw [hlist]; simp) hs.drew hn ?_ (Eqv.refl _)
  · intro i o ho hl
    have : i < ops.size := by
      apply Classical.byContradiction; intro q; simp [q] at ho
    simp [Array.getD_eq_getD_getElem?, this] at hl
  · rw [hlist, hmap]; exact (runs_of hr hc).2

theorem awp_in {n : Nat} : ∀ (c : Code) (ac : AC) (Q : AEx → St → Prop) (g : Gh) (st : St) (a : Act) (w : World), comp P n c = some ac → Sim w0 mu0 T g st a w → st.n = n → awp P ac Q st → c.wpIn (FW r) N P (Post w0 mu0 T n Q) a w
  | .skip, ac, Q, g, st, a, w, hc, h, hn, hs => by cases hc; exact wpIn_skip ⟨g, st, h, hn, hs⟩
  | .ret, ac, Q, g, st, a, w, hc, h, hn, hs => by cases hc; exact wpIn_ret ⟨g, st, h, hn, hs⟩
  | .exit id, ac, Q, g, st, a, w, hc, h, hn, hs => by cases hc; exact wpIn_exit ⟨g, st, h, hn, hs⟩
  | .region id ops draw, ac, Q, g, st, a, w, hc, h, hn, hs => by
    cases draw with
    | true =>
      simp only [comp] at hc
      split at hc
      case h_2 => cases hc
      rename_i al hal
      have fin : ∀ rl : RL, P.follows .mixedOrders = true ∧ drawOK ops al rl = true → ac = wrapF al (.dreg rl al) → (Code.region id ops true).wpIn (FW r) N P (Post w0 mu0 T n Q) a w := by
        intro rl hcond e
        subst e
        obtain ⟨g1, st1, h1, hn1, hs⟩ := wrapF_ok h hs
        obtain ⟨hroot, R, cc, stf, hR, hr, hcc, hq⟩ := hs
        exact draw_in hR hcond.1 hal hcond.2 (stf := stf) (fun g' a' w' h1 h2 => ⟨g', stf, h1, h2, hq⟩) h1 (hn1.trans hn) hroot hr hcc
      split at hc
      · rename_i hcond
        cases hc
        exact fin _ hcond rfl
      · split at hc
        case isFalse => cases hc
        rename_i hcond
        cases hc
        exact fin _ hcond rfl
    | false =>
      simp only [comp] at hc
      obtain ⟨al, hal, rfl⟩ := opt_map_some hc
      obtain ⟨g1, st1, h1, hn1, hs⟩ := wrapF_ok h hs
      have ha : ({ a with defers := [] } : Act) = a := by have hd := h1.defers; cases a; simp at hd ⊢; exact hd
      refine reg_in (Q1 := Post w0 mu0 T n Q) hal (by rw [ha]; exact h1) (hn1.trans hn) hs (fun g2 st2 a2 w2 q1 q2 q3 q4 => ?_)
      have ha2 : ({ a2 with defers := [] } : Act) = a2 := by have hd := q2.trans h1.defers; cases a2; simp at hd ⊢; exact hd
      rw [ha2] at q1
      exact ⟨g2, st2, q1, q3, q4⟩
  | .seq x y, ac, Q, g, st, a, w, hc, h, hn, hs => by
    simp only [comp] at hc
    split at hc
    case h_2 => cases hc
    rename_i a1 a2 h1 h2
    cases hc
    refine wpIn_seq (wpIn_mono (awp_in x a1 _ g st a w h1 h hn hs) fun e a' w' hp => ?_)
    cases e with
    | normal => obtain ⟨g', st', q1, q2, q3⟩ := hp; exact awp_in y a2 Q g' st' a' w' h2 q1 q2 q3
    | exit id => exact hp
    | ret => exact hp
    | _ => exact hp
  | .cond x y z, ac, Q, g, st, a, w, hc, h, hn, hs => by
    simp only [comp] at hc
    split at hc
    case h_2 => cases hc
    rename_i o a1 a2 h1 h2 h3
    cases hc
    simp only [awp] at hs
    split at hs
    case h_3 => exact hs.elim
    · rename_i c b hb
      obtain ⟨rfl, hy, hz⟩ := hs
      have := (rd_rep h h1 hb).inv_bool
      exact wpIn_cond_split this (fun e => awp_in y a1 Q g st a w h2 h hn (hy e)) (fun e => awp_in z a2 Q g st a w h3 h hn (hz e))
    · rename_i c hb
      obtain ⟨rfl, hy, hz⟩ := hs
      obtain ⟨b, this⟩ := (rd_rep h h1 hb).inv_anyb
      exact wpIn_cond_split this (fun _ => awp_in y a1 Q g st a w h2 h hn hy) (fun _ => awp_in z a2 Q g st a w h3 h hn hz)
  | .block id x, ac, Q, g, st, a, w, hc, h, hn, hs => by
    simp only [comp] at hc
    obtain ⟨a1, h1, rfl⟩ := opt_map_some hc
    refine wpIn_block (wpIn_mono (awp_in x a1 _ g st a w h1 h hn hs) fun e a' w' hp => ?_)
    cases e with
    | normal => exact hp
    | exit id' =>
      simp only [Exit.inBlock]
      obtain ⟨g', st', q1, q2, q3⟩ := hp
      simp only [] at q3
      split
      · rename_i e; rw [if_pos e] at q3; exact ⟨g', st', q1, q2, q3⟩
      · rename_i e; rw [if_neg e] at q3; exact ⟨g', st', q1, q2, q3⟩
    | ret => exact hp
    | _ => exact hp
  | .loop x, ac, Q, g, st, a, w, hc, h, hn, hs => by
    simp only [comp] at hc
    obtain ⟨a1', h1, rfl⟩ := opt_map_some hc
    obtain ⟨I, ⟨m0, st0, hw0, hI0⟩, hround⟩ := hs
    intro b k cs hro hb hr
    have key : ∀ (m : Nat) (g : Gh) (st : St) (a : Act) (w : World), Sim w0 mu0 T g st a w → st.n = n → I m st →
        ∃ e a' w', Post w0 mu0 T n Q e a' w' ∧ ArrivesIn (Machine.fenced P (FW r)) P (lone (b.atR a (.code x :: .inLoop x :: k)) cs w) b k cs e a' w' := by
      intro m
      induction m using Nat.strongRecOn with
      | _ m ih =>
        intro g st a w h hn hI
        obtain ⟨e, a', w', hp, harr⟩ := awp_in x a1' _ g st a w h1 h hn (hround m st hI) b (.inLoop x :: k) cs hro hb hr
        cases e with
        | normal =>
          obtain ⟨g', st', q1, q2, m', st'', hlt, hwk, hI'⟩ := hp
          obtain ⟨e2, a2, w2, r1, r2⟩ := ih m' hlt g' st'' a' w' (q1.wk hwk) (hwk.1.trans q2) hI'
          exact ⟨e2, a2, w2, r1, .of_steps (StepsIn.trans harr (.one (fenced_calm hb hr rfl) stepR_inLoop)) r2⟩
        | exit id => obtain ⟨g', st', q1, q2, q3⟩ := hp; exact ⟨.exit id, a', w', ⟨g', st', q1, q2, q3⟩, .pass (x := .inLoop x) rfl (fun _ _ => .inl (by simp)) harr⟩
        | ret => obtain ⟨g', st', q1, q2, q3⟩ := hp; exact ⟨.ret, a', w', ⟨g', st', q1, q2, q3⟩, .pass (x := .inLoop x) rfl (fun _ _ => .inl (by simp)) harr⟩
        | goto l => exact hp.elim
        | panic ch => exact hp.elim
        | outgrown => exact hp.elim
    obtain ⟨e, a', w', r1, r2⟩ := key m0 g st0 a w (h.wk hw0) (hw0.1.trans hn) hI0
    exact ⟨e, a', w', r1, .of_steps (.one (fenced_calm hb hr rfl) stepR_loop) r2⟩
  | .rangeFunc _ _ _ _, ac, Q, g, st, a, w, hc, h, hn, hs => by
    simp only [comp] at hc
    split at hc
    case h_2 => cases hc
    cases hc
    exact hs.elim
  | .scope _, ac, Q, g, st, a, w, hc, h, hn, hs => by simp [comp] at hc
  | .label _, ac, Q, g, st, a, w, hc, h, hn, hs => by simp [comp] at hc
  | .goto _, ac, Q, g, st, a, w, hc, h, hn, hs => by simp [comp] at hc
  | .refuse _, ac, Q, g, st, a, w, hc, h, hn, hs => by simp [comp] at hc


/-- A frame's state at a world, out of what is known of its slots and objects. -/
theorem sim_base {mu : Mem} {n : Nat} {sl : List (Nat × LV)} {bx : List (Nat × List RV)} (nm : Nat → Option Nat) (hsz : a.tmps.size = n) (hd : a.defers = []) (hm : MemOK mu w)
    (hsl : ∀ s, RepL { mu := mu, x := fun _ => none, bx := nm, okx := fun b => b < w.heap.size → False, okb := fun b => b < w.heap.size → ∃ s, nm s = some b } w s (lk sl s) (a.tmps.getD s Go.undef))
    (hbx : ∀ s cells, lkb bx s = some cells → ∃ b svs, nm s = some b ∧ cells = svs.map RV.sv ∧ HeapAt mu w b svs)
    (hinj : ∀ s s' b, nm s = some b → nm s' = some b → s = s') (hnm : ∀ s b, nm s = some b → b < w.heap.size ∧ (s = 0 ∨ n ≤ s)) :
    Sim w mu ⟨nm, fun _ => False⟩ { mu := mu, x := fun _ => none, bx := nm, okx := fun b => b < w.heap.size → False, okb := fun b => b < w.heap.size → ∃ s, nm s = some b } { n := n, sl := sl, bx := bx, hp := fun _ => none } a w := by
  constructor
  · exact hsz
  · exact hd
  · exact hsl
  · intro s cells hc
    obtain ⟨b, svs, h1, rfl, h2, c, e, fr, h3, h4, h5, h6⟩ := hbx s cells hc
    refine ⟨b, h1, fun _ => ⟨s, h1⟩, h2, rfl, c, e, fr, h3, h4, by simpa using h5, fun j hj => ?_⟩
    have hj' : j < svs.length := by simpa using hj
    simpa [List.getD_eq_getElem?_getD, hj', RepR] using h6 j hj'
  · exact hinj
  · intro b cells hc; cases hc
  · exact hm
  · intro b j _ _; rfl
  · exact Mem.le_refl _
  · exact Ext.refl _ _
  · rfl
  · intro b p e; cases e
  · intro s b e; exact (hnm s b e).1
  · intro s b p e; cases e
  · rfl
  · intro s b e; exact ⟨e, (hnm s b e).2⟩

/-- An object's cells, out of a state. -/
theorem Sim.heapAt (h : Sim w0 mu0 T g st a w) {s : Nat} {svs : List SV} {b : Nat} (hb : T.bx s = some b) (hc : lkb st.bx s = some (svs.map RV.sv)) : HeapAt g.mu w b svs := by
  obtain ⟨b', h1, _, h2, _, c, e, fr, h3, h4, h5, h6⟩ := h.boxes s _ hc
  rw [(h.pin s b hb).1] at h1
  cases h1
  refine ⟨h2, c, e, fr, h3, h4, by simpa using h5, fun j hj => ?_⟩
  simpa [List.getD_eq_getElem?_getD, hj, RepR] using h6 j (by simpa using hj)

theorem Ext.others {T : Nat → Prop} (h : Ext T w w') (hT : ∀ b, T b → ∃ o : Obj, w.heap[b]? = some o ∧ o.isCells = true) : KeepsOthers w w' :=
  ⟨h.size, fun k o hk ho => by
    refine (h.block k (Array.getElem?_eq_some_iff.1 hk).1 ?_).trans hk
    intro q
    obtain ⟨o', q1, q2⟩ := hT k q
    rw [hk] at q1; cases q1; rw [ho] at q2; cases q2⟩

theorem MemOK.putObj {mu : Mem} (h : MemOK mu w) {l : Nat} {o o' : Obj} (hl : w.heap[l]? = some o) (ho : o.isCells = false) : MemOK mu (w.putObj l o') := by
  intro b j v e
  obtain ⟨q1, q2⟩ := h b j v e
  refine ⟨?_, q2⟩
  rw [← q1]
  refine World.cell?_of_block ?_
  refine World.putObj_heap_other ?_
  intro q
  obtain ⟨o2, q3, q4⟩ := cells_of_cell q1
  have : b = l := by first | exact q | exact q.symm
  subst this
  rw [hl] at q3; cases q3; rw [ho] at q4; cases q4

theorem MemOK.alloc {mu : Mem} (h : MemOK mu w) (o : Obj) : MemOK mu (w.alloc o) := by
  intro b j v e
  obtain ⟨q1, q2⟩ := h b j v e
  refine ⟨?_, q2⟩
  rw [← q1]
  exact World.cell?_of_block (Below.heap_alloc _ _ _ (h.lt e))

theorem HeapAt.other {mu : Mem} {b : Nat} {cells : List SV} (h : HeapAt mu w b cells) (hb : w'.heap[b]? = w.heap[b]?) : HeapAt mu w' b cells := by
  obtain ⟨h1, c, e, fr, h2, h3⟩ := h
  exact ⟨h1, c, e, fr, hb.trans h2, h3⟩
theorem HeapAt.putObj {mu : Mem} {b : Nat} {cells : List SV} (h : HeapAt mu w b cells) {l : Nat} {o o' : Obj} (hl : w.heap[l]? = some o) (ho : o.isCells = false) : HeapAt mu (w.putObj l o') b cells := by
  obtain ⟨h1, c, e, fr, h2, h3⟩ := h
  refine ⟨h1, c, e, fr, (World.putObj_heap_other ?_).trans h2, h3⟩
  intro q
  have : b = l := by first | exact q | exact q.symm
  subst this
  rw [hl] at h2; cases h2; cases ho

/-! ### the statement `for .. := range f` -/
abbrev markOf (D : Nat) : Deferred := { target := .collected D, args := #[] }

/-- How a round's body may be left. -/
def postR (I : Nat → World → Prop) (Ix : Code → World → Prop) (k : Nat) (W : World) : Exit → Act → World → Prop
  | .normal, _, W' => KeepsOthers W W' ∧ I k W'
  | .ret, _, W' => KeepsOthers W W' ∧ Ix .ret W'
  | .exit id, _, W' => KeepsOthers W W' ∧ Ix (.exit id) W'
  | _, _, _ => False

/-- An iterator's word: it hands over these values, one by one, until a round leaves. -/
def IterAt (P : Program) (mu : Mem) (gf : FuncId) (lb : Array Value) (encs : Nat → Array Value) (M : Nat) : Prop :=
  ∀ (l : Nat) (J : Nat → World → Prop) (Jx : World → Prop) (W : World), (∀ k W, J k W → MemOK mu W) →
    (∀ k W1, J k W1 → k < M → YieldAt (FW none) 0 P l (encs k) W1 fun e W' => (e = .returned (.bool true) ∧ J (k + 1) W') ∨ (e = .returned (.bool false) ∧ Jx W')) →
    J 0 W → CallsIn (FW none) 0 P gf (#[.func (.yield l) #[] #[]] ++ lb) W fun e W' => (∃ v, e = .returned v) ∧ (J M W' ∨ Jx W')

theorem rf_law {gx : Operand} {ps : Array Tmp} {assign body : Code} {Q : Exit → Act → World → Prop} {mu : Mem} {gf : FuncId} {lb : Array Value} (hg : a.eval gx = .func (.func gf) #[] lb) (hok : okFn P gf)
    {M : Nat} {encs : Nat → Array Value} (hps : ∀ k, (encs k).size = ps.size) (hit : IterAt P mu gf lb encs M) (I : Nat → World → Prop) (Ix : Code → World → Prop)
    (hIm : ∀ k W, I k W → MemOK mu W)
    (hIp : ∀ k W (l : Nat) (o o' : Obj), I k W → w.heap.size ≤ l → W.heap[l]? = some o → o.isCells = false → I k (W.putObj l o'))
    (hIxp : ∀ c W (l : Nat) (o o' : Obj), Ix c W → w.heap.size ≤ l → W.heap[l]? = some o → o.isCells = false → Ix c (W.putObj l o'))
    (h0 : ∀ o1 o2 : Obj, I 0 ((w.alloc o1).alloc o2))
    (hround : ∀ (l k : Nat) (W : World), I k W → k < M → w.heap.size ≤ l → (∃ rc, W.heap[l]? = some (.loop rc)) →
      assign.wpIn (FW (some l)) 0 P (Exit.then (fun a1 W1 => KeepsOthers W W1 ∧ ∀ rc, body.wpIn (FW (some l)) 0 P (postR I Ix (k + 1) (W1.putObj l (.loop rc))) a1 (W1.putObj l (.loop rc))) (fun _ _ _ => False))
        { tmps := (ps.zip (encs k)).foldl (fun t (p, v) => t.setIfInBounds p v) a.tmps, defers := [] } W)
    (hdone : ∀ (D : Nat) (W : World), I M W → w.heap.size ≤ D → W.heap[D]? = some (.deferred (some [])) → Q .normal { a with defers := markOf D :: a.defers } W)
    (hstop : ∀ (D : Nat) (c : Code) (W : World), Ix c W → w.heap.size ≤ D → W.heap[D]? = some (.deferred (some [])) → c.wpIn (FW none) 0 P Q { a with defers := markOf D :: a.defers } W) :
    (Code.rangeFunc gx ps assign body).wpIn (FW none) 0 P Q a w := by
  refine wpIn_rangeFunc ?_
  intro fn hfn
  obtain ⟨rec, hrec⟩ : ∃ rec : LoopState → Option Code → Loop, rec = fun st pe => { state := st, pending := pe, fn, tmps := a.tmps, params := ps, assign, body, defers := w.heap.size } := ⟨_, rfl⟩
  obtain ⟨W1, hW1⟩ : ∃ W1, (w.alloc (.deferred (some []))).alloc (.loop (rec .ready none)) = W1 := ⟨_, rfl⟩
  have hL1 : W1.heap[w.heap.size + 1]? = some (.loop (rec .ready none)) := by
    rw [← hW1]; have := World.alloc_heap_new (w.alloc (.deferred (some []))) (.loop (rec .ready none)); rwa [World.size_alloc] at this
  have hK1 : W1.heap[w.heap.size]? = some (.deferred (some [])) := by
    rw [← hW1]; exact (Below.heap_alloc _ _ _ (by simp)).trans (World.alloc_heap_new w _)
  have hI1 : I 0 W1 := by rw [← hW1]; exact h0 _ _
  obtain ⟨fnG, hfG, hbG, hnG⟩ := hok
  refine ⟨w.heap.size + 1, [markOf w.heap.size], W1, { target := .fn (.func gf) lb, args := #[.func (.yield (w.heap.size + 1)) #[] #[]] }, W1, gf,
    #[.func (.yield (w.heap.size + 1)) #[] #[]] ++ lb, W1, ?_, ?_, fun _ _ => trivial, ?_, (fun q => by simp [Fence.wide] at q), ?_⟩
  · rw [← hW1, hrec]; exact run_enterLoop_outer _ _ _ _ _
  · simp only [resolve, hg]
    simp [go_sem]
  · have hb' : fnG.body.isNone = false := by cases hb : fnG.body <;> simp [hb] at hbG ⊢
    simp only [invoke, callFunc, Sem.run_bind, run_program, Result.andThen_ok, hfG, hnG, hb', Bool.false_eq_true, if_false, Sem.run_pure]
  · have hlw : w.heap.size ≤ w.heap.size + 1 := by omega
    refine (hit (w.heap.size + 1)
      (fun k W => I k W ∧ W.heap[w.heap.size + 1]? = some (.loop (rec .ready none)) ∧ W.heap[w.heap.size]? = some (.deferred (some [])))
      (fun W => ∃ c, Ix c W ∧ W.heap[w.heap.size + 1]? = some (.loop (rec .done (some c))) ∧ W.heap[w.heap.size]? = some (.deferred (some [])))
      W1 (fun k W q => hIm k W q.1) ?_ ⟨hI1, hL1, hK1⟩).mono ?_
    · rintro k W ⟨hi, hl, hk⟩ hlen
      have hy := run_yield (P := P) (args := encs k) hl (by rw [hrec]; exact hps k)
      rw [hrec] at hy
      refine ⟨fn, _, assign, body, hy, roundIn_of_wpIn hfn ?_⟩
      refine wpIn_mono (hround (w.heap.size + 1) k W hi hlen hlw ⟨_, hl⟩) ?_
      rintro e a1 W2 hp
      cases e with
      | normal =>
        obtain ⟨hk2, hbody⟩ := hp
        have hl2 := hk2.same _ _ hl rfl
        have hD2 := hk2.same _ _ hk rfl
        have hlt2 : w.heap.size + 1 < W2.heap.size := (Array.getElem?_eq_some_iff.1 hl2).1
        refine ⟨_, run_beginRound hl2 (by rw [hrec]), wpIn_mono (hbody _) ?_⟩
        have hl3 : (W2.putObj (w.heap.size + 1) (.loop { rec .ready none with state := .busy })).heap[w.heap.size + 1]? = some (.loop { rec .ready none with state := .busy }) := World.putObj_heap_same hlt2
        have hD3 : (W2.putObj (w.heap.size + 1) (.loop { rec .ready none with state := .busy })).heap[w.heap.size]? = some (.deferred (some [])) := (World.putObj_heap_other (by omega)).trans hD2
        have fin : ∀ (jump : Option Code) (W3 : World), KeepsOthers (W2.putObj (w.heap.size + 1) (.loop { rec .ready none with state := .busy })) W3 →
            (Instr.endRound (w.heap.size + 1) jump).run P W3 = .ok (.bool jump.isNone) (W3.putObj (w.heap.size + 1) (.loop (rec (if jump.isNone then .ready else .done) jump))) ∧
            W3.heap[w.heap.size + 1]? = some (.loop { rec .ready none with state := .busy }) ∧
            (W3.putObj (w.heap.size + 1) (.loop (rec (if jump.isNone then .ready else .done) jump))).heap[w.heap.size + 1]? = some (.loop (rec (if jump.isNone then .ready else .done) jump)) ∧
            (W3.putObj (w.heap.size + 1) (.loop (rec (if jump.isNone then .ready else .done) jump))).heap[w.heap.size]? = some (.deferred (some [])) := fun jump W3 hk3 => by
          have hl4 := hk3.same _ _ hl3 rfl
          have := run_endRound (P := P) jump hl4
          rw [hrec] at this ⊢
          exact ⟨this, by rw [hrec] at hl4; exact hl4, World.putObj_heap_same (Array.getElem?_eq_some_iff.1 hl4).1, (World.putObj_heap_other (by omega)).trans (hk3.same _ _ hD3 rfl)⟩
        rintro e a3 W3 hp3
        cases e with
        | normal =>
          obtain ⟨hk3, hi3⟩ := hp3
          obtain ⟨hr, hl4, hl5, hk5⟩ := fin none W3 hk3
          exact ⟨_, _, hr, .inl ⟨rfl, hIp _ _ _ _ _ hi3 hlw hl4 rfl, hl5, hk5⟩⟩
        | ret =>
          obtain ⟨hk3, hi3⟩ := hp3
          obtain ⟨hr, hl4, hl5, hk5⟩ := fin (some .ret) W3 hk3
          exact ⟨_, _, hr, .inr ⟨rfl, .ret, hIxp _ _ _ _ _ hi3 hlw hl4 rfl, hl5, hk5⟩⟩
        | exit id =>
          obtain ⟨hk3, hi3⟩ := hp3
          obtain ⟨hr, hl4, hl5, hk5⟩ := fin (some (.exit id)) W3 hk3
          exact ⟨_, _, hr, .inr ⟨rfl, .exit id, hIxp _ _ _ _ _ hi3 hlw hl4 rfl, hl5, hk5⟩⟩
        | goto t => exact hp3.elim
        | panic ch => exact hp3.elim
        | outgrown => exact hp3.elim
      | exit id => exact hp.elim
      | goto t => exact hp.elim
      | ret => exact hp.elim
      | panic ch => exact hp.elim
      | outgrown => exact hp.elim
    · rintro e W2 ⟨⟨v, rfl⟩, (⟨hi, hl, hk⟩ | ⟨c, hi, hl, hk⟩)⟩
      · exact ⟨none, _, by have := run_endLoop (P := P) hl (by rw [hrec]; simp); rw [hrec] at this; exact this, hdone _ _ (hIp _ _ _ _ _ hi hlw hl rfl) (Nat.le_refl _) ((World.putObj_heap_other (by omega)).trans hk)⟩
      · exact ⟨some c, _, by have := run_endLoop (P := P) hl (by rw [hrec]; simp); rw [hrec] at this; exact this, hstop _ c _ (hIxp _ _ _ _ _ hi hlw hl rfl) (Nat.le_refl _) ((World.putObj_heap_other (by omega)).trans hk)⟩
end Go.Av
