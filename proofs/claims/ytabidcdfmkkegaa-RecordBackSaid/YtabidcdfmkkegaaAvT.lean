import Derived.Test.YtabidcdfmkkegaaAvZ
set_option linter.unusedSimpArgs false
namespace Go.Av
variable {P : Program} {w0 : World} {mu0 : Mem} {T : Nat → Prop} {g g' : Gh} {st st' : St} {a : Act} {w w' : World}

inductive AC where
  | skip
  | seq (a b : AC)
  | reg (l : List AOp)
  | dreg (l : List AOp)
  | cond (x : AO) (a b : AC)
  | block (id : Nat) (b : AC)
  | loop (b : AC)
  | exit (id : Nat)
  | ret
  deriving Inhabited

inductive AEx where
  | normal
  | exit (id : Nat)
  | ret

def AOps (P : Program) : List AOp → St → (St → Prop) → Prop
  | [], st, K => K st
  | o :: r, st, K => AStep P st o fun st' => AOps P r st' K

/-- Less is known. -/
def WkL : LV → LV → Prop
  | _, .sv .undef => True
  | .own sz xs, .sv (.sl sz' xs') => sz = sz' ∧ xs = xs'
  | .own sz xs, .own sz' xs' => sz = sz' ∧ xs = xs'
  | .sv .nils, .own _ xs => xs = []
  | .sv .nils, .sv (.sl _ xs) => xs = []
  | a, b => a = b
def WkR : RV → RV → Prop
  | _, .sv .undef => True
  | .own sz xs, .sv (.sl sz' xs') => sz = sz' ∧ xs = xs'
  | .sv .nils, .own _ xs => xs = []
  | .sv .nils, .sv (.sl _ xs) => xs = []
  | a, b => a = b
def WkRs : List RV → List RV → Prop
  | [], [] => True
  | a :: r, b :: s => WkR a b ∧ WkRs r s
  | _, _ => False
def WkS (st : St) : List (Nat × LV) → Prop
  | [] => True
  | (s, v) :: r => WkL (lk st.sl s) v ∧ WkS st r
def WkB (st : St) : List (Nat × List RV) → Prop
  | [] => True
  | (s, c) :: r => (∃ c', lkb st.bx s = some c' ∧ WkRs c' c) ∧ WkB st r
def Wk (st st' : St) : Prop := st'.n = st.n ∧ st'.hp = st.hp ∧ WkS st st'.sl ∧ WkB st st'.bx

def awp (P : Program) : AC → (AEx → St → Prop) → St → Prop
  | .skip, Q, st => Q .normal st
  | .seq x y, Q, st => awp P x (fun e st' => match e with | .normal => awp P y Q st' | e => Q e st') st
  | .reg l, Q, st => AOps P l st (Q .normal)
  | .dreg l, Q, st => ∃ R c st', Orc.ok P R ∧ runR R l st True = some (c, st') ∧ c ∧ Q .normal st'
  | .cond x y z, Q, st => match rd st x with
    | some (c, .bool b) => c = true ∧ (b = true → awp P y Q st) ∧ (b = false → awp P z Q st)
    | some (c, .anyb) => c = true ∧ awp P y Q st ∧ awp P z Q st
    | _ => False
  | .block id x, Q, st => awp P x (fun e st' => match e with | .exit id' => if id' = id then Q .normal st' else Q (.exit id') st' | e => Q e st') st
  | .loop x, Q, st => ∃ I : Nat → St → Prop, (∃ n st', Wk st st' ∧ I n st') ∧ ∀ n st, I n st → awp P x (fun e st' => match e with | .normal => ∃ m st'', m < n ∧ Wk st' st'' ∧ I m st'' | e => Q e st') st
  | .exit id, Q, st => Q (.exit id) st
  | .ret, Q, st => Q .ret st

/-! ### the translation -/
def consumes (d : Nat) (o : Oper) : Bool :=
  match o.op with
  | .assign (.tmp t) => t == d
  | .call { callee := .builtin .append, args := xs, .. } => match xs.toList with
    | .tmp t :: _ => t == d
    | _ => false
  | _ => false

def compOp (P : Program) (n : Nat) (ops : Array Oper) (o : Oper) : Option AOp :=
  let tk := (match o.dst with | some d => ops.toList.any (consumes d) | none => false) || (match o.op with | .move (.tmp t) => ops.toList.any (fun q => q.dst == some t) | _ => false)
  match compK P tk o, compG ops o.guard with
  | some k, some gu => if gsOK n gu then some { dst := o.dst, guard := gu, k := k } else none
  | _, _ => none

def compOps (P : Program) (n : Nat) (ops : Array Oper) : List Oper → Option (List AOp)
  | [] => some []
  | o :: r => match compOp P n ops o, compOps P n ops r with
    | some a, some l => some (a :: l)
    | _, _ => none

def comp (P : Program) (n : Nat) : Code → Option AC
  | .skip => some .skip
  | .region _ ops false => (compOps P n ops ops.toList).map .reg
  | .region _ ops true => match compOpsD P n ops ops.toList with
    | some al => if P.follows .mixedOrders = true ∧ drawOK ops al = true then some (.dreg al) else none
    | none => none
  | .seq x y => match comp P n x, comp P n y with
    | some a, some b => some (.seq a b)
    | _, _ => none
  | .cond x y z => match compO x, comp P n y, comp P n z with
    | some o, some a, some b => some (.cond o a b)
    | _, _, _ => none
  | .block id x => (comp P n x).map (.block id)
  | .loop x => (comp P n x).map .loop
  | .exit id => some (.exit id)
  | .ret => some .ret
  | _ => none

/-- What is behind a piece of code: one of the abstract ends. -/
def Post (w0 : World) (mu0 : Mem) (T : Nat → Prop) (n : Nat) (Q : AEx → St → Prop) : Exit → Act → World → Prop
  | .normal, a, w => ∃ g st, Sim w0 mu0 T g st a w ∧ st.n = n ∧ Q .normal st
  | .exit id, a, w => ∃ g st, Sim w0 mu0 T g st a w ∧ st.n = n ∧ Q (.exit id) st
  | .ret, a, w => ∃ g st, Sim w0 mu0 T g st a w ∧ st.n = n ∧ Q .ret st
  | _, _, _ => False

theorem ops_ok {n : Nat} {ops : Array Oper} {Q : AEx → St → Prop} {Q' : Exit → Act → World → Prop} (hQ : ∀ g st a w, Sim w0 mu0 T g st a w → st.n = n → Q .normal st → Q' .normal a w) : ∀ (l : List Oper) (al : List AOp) (g : Gh) (st : St) (a : Act) (w : World),
    compOps P n ops l = some al → Sim w0 mu0 T g st a w → st.n = n → AOps P al st (Q .normal) → wpList P ops Q' l a w
  | [], al, g, st, a, w, hc, h, hn, hs => by cases hc; exact hQ g st a w h hn hs
  | o :: l, al, g, st, a, w, hc, h, hn, hs => by
    simp only [compOps] at hc
    split at hc
    case h_2 => cases hc
    rename_i ao al' ho hl
    cases hc
    simp only [compOp] at ho
    split at ho
    case h_2 => cases ho
    rename_i k gu hk hg
    split at ho
    case isFalse => cases ho
    rename_i hgs
    cases ho
    refine wpList_step fun K hK => ?_
    refine step_ok (ao := { dst := o.dst, guard := gu, k := k }) hk rfl hg (by rw [hn]; exact gs_of hgs) h hs (fun g' st' a' w' hsim hn' hK' => hK _ _ ?_)
    exact ops_ok hQ l al' g' st' a' w' hl hsim (hn'.trans hn) hK'

theorem WkL.rep {s : Nat} {x y : LV} {val : Value} (h : WkL x y) (hr : RepL g w s x val) : RepL g w s y val := by
  unfold WkL at h
  split at h
  · exact .undef _
  · obtain ⟨rfl, rfl⟩ := h; exact OwnAt.share (g := g) hr
  · obtain ⟨rfl, rfl⟩ := h; exact hr
  · subst h; rw [Rep.inv_nils hr]; exact .inl ⟨.slnil _, none, rfl, fun _ e => by cases e⟩
  · subst h; rw [Rep.inv_nils hr]; exact Rep.slnil _
  · subst h; exact hr
theorem WkR.rep {p : Place} {x y : RV} {val : Value} (h : WkR x y) (hr : RepR g w p x val) : RepR g w p y val := by
  unfold WkR at h
  split at h
  · exact .undef _
  · obtain ⟨rfl, rfl⟩ := h; exact OwnAt.share (g := g) hr
  · subst h; rw [Rep.inv_nils hr]; exact .inl ⟨.slnil _, none, rfl, fun _ e => by cases e⟩
  · subst h; rw [Rep.inv_nils hr]; exact Rep.slnil _
  · subst h; exact hr
theorem WkRs.spec : ∀ {l m : List RV}, WkRs l m → l.length = m.length ∧ ∀ j, j < m.length → WkR (l.getD j (.sv .undef)) (m.getD j (.sv .undef))
  | [], [], _ => ⟨rfl, fun j hj => by simp at hj⟩
  | a :: l, b :: m, h => by
    obtain ⟨h1, h2⟩ := h
    obtain ⟨e1, e2⟩ := WkRs.spec h2
    refine ⟨by simp [e1], fun j hj => ?_⟩
    cases j with
    | zero => simpa using h1
    | succ j => simpa using e2 j (by simpa using hj)
  | [], _ :: _, h => h.elim
  | _ :: _, [], h => h.elim

theorem WkS.spec {st : St} : ∀ {l : List (Nat × LV)}, WkS st l → ∀ s, WkL (lk st.sl s) (lk l s)
  | [], _, s => by simp [lk, WkL]
  | (t, v) :: l, h, s => by
    simp only [lk]
    split
    · rename_i e; subst e; exact h.1
    · exact WkS.spec h.2 s
theorem WkB.spec {st : St} : ∀ {l : List (Nat × List RV)}, WkB st l → ∀ s c, lkb l s = some c → ∃ c', lkb st.bx s = some c' ∧ WkRs c' c
  | [], _, s, c, e => by simp [lkb] at e
  | (t, v) :: l, h, s, c, e => by
    simp only [lkb] at e
    split at e
    · rename_i q; subst q; cases e; exact h.1
    · exact WkB.spec h.2 s c e

theorem Sim.wk (h : Sim w0 mu0 T g st a w) (hw : Wk st st') : Sim w0 mu0 T g st' a w := by
  obtain ⟨h1, h2, h3, h4⟩ := hw
  constructor
  · rw [h1]; exact h.size
  · exact h.defers
  · intro s; exact (h3.spec s).rep (h.slots s)
  · intro s c hc
    obtain ⟨c', e1, e2⟩ := h4.spec s c hc
    obtain ⟨b, hb, k1, k2, k3, cc, e, fr, k4, k5, k6, k7⟩ := h.boxes s c' e1
    obtain ⟨f1, f2⟩ := e2.spec
    exact ⟨b, hb, k1, k2, k3, cc, e, fr, k4, k5, by rw [← f1]; exact k6, fun j hj => (f2 j hj).rep (k7 j (by rw [f1]; exact hj))⟩
  · exact h.bxinj
  · rw [h2]; exact h.heap
  · exact h.mem
  · exact h.mem0
  · exact h.ext
  · exact h.B
  · exact h.xlt
  · exact h.blt
  · exact h.bxx
  · exact h.okb
  · exact h.pin

theorem awp_ok {n : Nat} : ∀ (c : Code) (ac : AC) (Q : AEx → St → Prop) (g : Gh) (st : St) (a : Act) (w : World), comp P n c = some ac → Sim w0 mu0 T g st a w → st.n = n → awp P ac Q st → c.wp P (Post w0 mu0 T n Q) a w
  | .skip, ac, Q, g, st, a, w, hc, h, hn, hs => by cases hc; exact wp_skip ⟨g, st, h, hn, hs⟩
  | .ret, ac, Q, g, st, a, w, hc, h, hn, hs => by cases hc; exact wp_ret ⟨g, st, h, hn, hs⟩
  | .exit id, ac, Q, g, st, a, w, hc, h, hn, hs => by cases hc; exact wp_exit ⟨g, st, h, hn, hs⟩
  | .region id ops draw, ac, Q, g, st, a, w, hc, h, hn, hs => by
    cases draw with
    | true =>
      simp only [comp] at hc
      split at hc
      case h_2 => cases hc
      rename_i al hal
      split at hc
      case isFalse => cases hc
      rename_i hcond
      cases hc
      obtain ⟨R, cc, stf, hR, hr, hcc, hq⟩ := hs
      exact draw_ok hR hcond.1 hal hcond.2 (stf := stf) (fun g' a' w' h1 h2 => ⟨g', stf, h1, h2, hq⟩) h hn hr hcc
    | false =>
      simp only [comp] at hc
      obtain ⟨al, hal, rfl⟩ := opt_map_some hc
      exact wp_region_list (ops_ok (Q := Q) (fun g st a w h hn hq => ⟨g, st, h, hn, hq⟩) ops.toList al g st a w hal h hn hs)
  | .seq x y, ac, Q, g, st, a, w, hc, h, hn, hs => by
    simp only [comp] at hc
    split at hc
    case h_2 => cases hc
    rename_i a1 a2 h1 h2
    cases hc
    refine wp_seq (wp_mono (awp_ok x a1 _ g st a w h1 h hn hs) fun e a' w' hp => ?_)
    cases e with
    | normal => obtain ⟨g', st', q1, q2, q3⟩ := hp; exact awp_ok y a2 Q g' st' a' w' h2 q1 q2 q3
    | exit id => exact hp
    | ret => exact hp
    | _ => exact hp
  | .cond x y z, ac, Q, g, st, a, w, hc, h, hn, hs => by
    simp only [comp] at hc
    split at hc
    case h_2 => cases hc
    rename_i o a1 a2 h1 h2 h3
    cases hc
    simp only [awp] at hs
    split at hs
    case h_3 => exact hs.elim
    · rename_i c b hb
      obtain ⟨rfl, hy, hz⟩ := hs
      have := (rd_rep h h1 hb).inv_bool
      exact wp_cond_split this (fun e => awp_ok y a1 Q g st a w h2 h hn (hy e)) (fun e => awp_ok z a2 Q g st a w h3 h hn (hz e))
    · rename_i c hb
      obtain ⟨rfl, hy, hz⟩ := hs
      obtain ⟨b, this⟩ := (rd_rep h h1 hb).inv_anyb
      exact wp_cond_split this (fun _ => awp_ok y a1 Q g st a w h2 h hn hy) (fun _ => awp_ok z a2 Q g st a w h3 h hn hz)
  | .block id x, ac, Q, g, st, a, w, hc, h, hn, hs => by
    simp only [comp] at hc
    obtain ⟨a1, h1, rfl⟩ := opt_map_some hc
    refine wp_block (wp_mono (awp_ok x a1 _ g st a w h1 h hn hs) fun e a' w' hp => ?_)
    cases e with
    | normal => exact hp
    | exit id' =>
      simp only [Exit.inBlock]
      obtain ⟨g', st', q1, q2, q3⟩ := hp
      simp only [] at q3
      split
      · rename_i e; rw [if_pos e] at q3; exact ⟨g', st', q1, q2, q3⟩
      · rename_i e; rw [if_neg e] at q3; exact ⟨g', st', q1, q2, q3⟩
    | ret => exact hp
    | _ => exact hp
  | .loop x, ac, Q, g, st, a, w, hc, h, hn, hs => by
    simp only [comp] at hc
    obtain ⟨a1, h1, rfl⟩ := opt_map_some hc
    obtain ⟨I, ⟨m0, st0, hw0, hI0⟩, hround⟩ := hs
    intro b k cs
    have key : ∀ (m : Nat) (g : Gh) (st : St) (a : Act) (w : World), Sim w0 mu0 T g st a w → st.n = n → I m st →
        ∃ e a' w', Post w0 mu0 T n Q e a' w' ∧ Arrives P (lone (b.at a (.code x :: .inLoop x :: k)) cs w) b k cs e a' w' := by
      intro m
      induction m using Nat.strongRecOn with
      | _ m ih =>
        intro g st a w h hn hI
        obtain ⟨e, a', w', hp, harr⟩ := awp_ok x a1 _ g st a w h1 h hn (hround m st hI) b (.inLoop x :: k) cs
        cases e with
        | normal =>
          obtain ⟨g', st', q1, q2, m', st'', hlt, hwk, hI'⟩ := hp
          obtain ⟨e2, a2, w2, r1, r2⟩ := ih m' hlt g' st'' a' w' (q1.wk hwk) (hwk.1.trans q2) hI'
          exact ⟨e2, a2, w2, r1, .of_steps (Steps.trans harr (.one step_inLoop)) r2⟩
        | exit id => obtain ⟨g', st', q1, q2, q3⟩ := hp; exact ⟨.exit id, a', w', ⟨g', st', q1, q2, q3⟩, .pass (x := .inLoop x) rfl (fun _ _ => .inl (by simp)) harr⟩
        | ret => obtain ⟨g', st', q1, q2, q3⟩ := hp; exact ⟨.ret, a', w', ⟨g', st', q1, q2, q3⟩, .pass (x := .inLoop x) rfl (fun _ _ => .inl (by simp)) harr⟩
        | goto l => exact hp.elim
        | panic ch => exact hp.elim
        | outgrown => exact hp.elim
    obtain ⟨e, a', w', r1, r2⟩ := key m0 g st0 a w (h.wk hw0) (hw0.1.trans hn) hI0
    exact ⟨e, a', w', r1, .of_steps (.one step_loop) r2⟩
  | .rangeFunc _ _ _ _, ac, Q, g, st, a, w, hc, h, hn, hs => by simp [comp] at hc
  | .scope _, ac, Q, g, st, a, w, hc, h, hn, hs => by simp [comp] at hc
  | .label _, ac, Q, g, st, a, w, hc, h, hn, hs => by simp [comp] at hc
  | .goto _, ac, Q, g, st, a, w, hc, h, hn, hs => by simp [comp] at hc
  | .refuse _, ac, Q, g, st, a, w, hc, h, hn, hs => by simp [comp] at hc

theorem aops_runs {R : Orc} (hR : R.ok P) {K : St → Prop} : ∀ {l : List AOp} {st stf : St}, Runs R l st stf → K stf → AOps P l st K
  | [], st, stf, hr, hk => by cases hr; exact hk
  | o :: r, st, stf, hr, hk => by
    obtain ⟨c, W, B, e, hc, hf, hr⟩ := hr
    exact eff_step hR e hc hf (aops_runs hR hr hk)

theorem awp_reg {R : Orc} (hR : R.ok P) {l : List AOp} {Q : AEx → St → Prop} {st st' : St} {c : Prop} (hr : runR R l st True = some (c, st')) (hc : c) (hq : Q .normal st') : awp P (.reg l) Q st :=
  aops_runs hR (runs_of hr hc).2 hq
theorem awp_dreg {R : Orc} (hR : R.ok P) {l : List AOp} {Q : AEx → St → Prop} {st st' : St} {c : Prop} (hr : runR R l st True = some (c, st')) (hc : c) (hq : Q .normal st') : awp P (.dreg l) Q st :=
  ⟨R, c, st', hR, hr, hc, hq⟩
end Go.Av
