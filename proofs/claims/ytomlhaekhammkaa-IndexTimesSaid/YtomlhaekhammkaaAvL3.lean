import Derived.Test.YtomlhaekhammkaaAvL2

set_option linter.unusedVariables false
set_option linter.unusedSimpArgs false

set_option linter.unusedSimpArgs false
namespace Go.Av
variable {P : Program} {w0 : World} {mu0 : Mem} {T : Tc} {g g' : Gh} {st st' : St} {a : Act} {w w' : World}

inductive AC where
  | skip
  | seq (a b : AC)
  | reg (l : List AOp)
  | dreg (rl : RL) (l : List AOp)
  | frz (l : List Nat)
  | cond (x : AO) (a b : AC)
  | block (id : Nat) (b : AC)
  | loop (b : AC)
  | rfunc (x : AO) (ps : List Nat) (a b : AC)
  | exit (id : Nat)
  | ret
  deriving Inhabited

inductive AEx where
  | normal
  | exit (id : Nat)
  | ret

def AOps (P : Program) : List AOp → St → (St → Prop) → Prop
  | [], st, K => K st
  | o :: r, st, K => AStep P st o fun st' => AOps P r st' K

/-- Less is known of a cell. -/
def WkC : SV → SV → Prop
  | _, .undef => True
  | .nils, .sl _ xs => xs = []
  | a, b => a = b
def WkCs : List SV → List SV → Prop
  | [], [] => True
  | a :: r, b :: s => WkC a b ∧ WkCs r s
  | _, _ => False
@[simp] theorem WkC_refl (a : SV) : WkC a a := by cases a <;> first | exact trivial | exact rfl
@[simp] theorem WkCs_refl : ∀ l : List SV, WkCs l l
  | [] => trivial
  | a :: l => ⟨WkC_refl a, WkCs_refl l⟩
theorem WkC.rep {mu : Mem} {x y : SV} {val : Value} (h : WkC x y) (hr : Rep mu x val) : Rep mu y val := by
  unfold WkC at h
  split at h
  · exact .undef _
  · subst h; rw [Rep.inv_nils hr]; exact .slnil _
  · subst h; exact hr
theorem WkCs.spec : ∀ {l m : List SV}, WkCs l m → l.length = m.length ∧ ∀ j, j < m.length → WkC (l.getD j .undef) (m.getD j .undef)
  | [], [], _ => ⟨rfl, fun j hj => by simp at hj⟩
  | a :: l, b :: m, h => by
    obtain ⟨h1, h2⟩ := h
    obtain ⟨e1, e2⟩ := WkCs.spec h2
    refine ⟨by simp [e1], fun j hj => ?_⟩
    cases j with
    | zero => simpa using h1
    | succ j => simpa using e2 j (by simpa using hj)
  | [], _ :: _, h => h.elim
  | _ :: _, [], h => h.elim
theorem WkCs.rep {mu : Mem} {l m : List SV} {val : Value} (h : WkCs l m) (hr : Rep mu (.agg l) val) : Rep mu (.agg m) val := by
  obtain ⟨e1, e2⟩ := h.spec
  cases hr with
  | agg _ vs h1 h2 => exact .agg m vs (h1.trans e1) (fun j hj => (e2 j hj).rep (h2 j (by omega)))

/-- Less is known. -/
def WkL : LV → LV → Prop
  | _, .sv .undef => True
  | .own sz xs, .sv (.sl sz' xs') => sz = sz' ∧ xs = xs'
  | .own sz xs, .own sz' xs' => sz = sz' ∧ xs = xs'
  | .sv .nils, .own _ xs => xs = []
  | .sv .nils, .sv (.sl _ xs) => xs = []
  | .sv (.agg l), .sv (.agg m) => WkCs l m
  | a, b => a = b
def WkR : RV → RV → Prop
  | _, .sv .undef => True
  | .own sz xs, .sv (.sl sz' xs') => sz = sz' ∧ xs = xs'
  | .sv .nils, .own _ xs => xs = []
  | .sv .nils, .sv (.sl _ xs) => xs = []
  | .sv (.agg l), .sv (.agg m) => WkCs l m
  | a, b => a = b
def WkRs : List RV → List RV → Prop
  | [], [] => True
  | a :: r, b :: s => WkR a b ∧ WkRs r s
  | _, _ => False
def WkS (st : St) : List (Nat × LV) → Prop
  | [] => True
  | (s, v) :: r => WkL (lk st.sl s) v ∧ WkS st r
def WkB (st : St) : List (Nat × List RV) → Prop
  | [] => True
  | (s, c) :: r => (∃ c', lkb st.bx s = some c' ∧ WkRs c' c) ∧ WkB st r
def Wk (st st' : St) : Prop := st'.n = st.n ∧ st'.hp = st.hp ∧ WkS st st'.sl ∧ WkB st st'.bx

/-- A box that may be there is written to no more. -/
def FrzP (st : St) (s : Nat) : Prop := match lkb st.bx s with
  | some c => s ≠ 0 ∧ s < st.n ∧ (shareB c).all SV.isCell = true
  | none => True
theorem Sim.frzP (h : Sim w0 mu0 T g st a w) {s : Nat} (hf : FrzP st s) : ∃ g', Sim w0 mu0 T g' (st.frz s) a w := by
  unfold FrzP at hf
  cases hc : lkb st.bx s with
  | none => exact ⟨g, by simpa [St.frz, hc] using h⟩
  | some c =>
    rw [hc] at hf
    exact h.freeze ⟨hf.1, hf.2.1, by rw [hc]; exact hf.2.2⟩
/-- The boxes that these slots point to are written to no more. -/
def frzAll : List Nat → St → (St → Prop) → Prop
  | [], st, K => K st
  | s :: r, st, K => match ptrTo st s with
    | some b => FrzP st b ∧ frzAll r (st.frz b) K
    | none => frzAll r st K
theorem frzAll.mono {K K' : St → Prop} (hk : ∀ st, K st → K' st) : ∀ {l : List Nat} {st : St}, frzAll l st K → frzAll l st K'
  | [], st, h => hk _ h
  | s :: r, st, h => by
    simp only [frzAll] at h ⊢
    split at h
    · exact ⟨h.1, frzAll.mono hk h.2⟩
    · exact frzAll.mono hk h
theorem frz_n (st : St) (s : Nat) : (st.frz s).n = st.n := by unfold St.frz; split <;> rfl
theorem Sim.frzAll : ∀ {l : List Nat} {g : Gh} {st : St} {K : St → Prop}, Sim w0 mu0 T g st a w → Av.frzAll l st K → ∃ g' st', Sim w0 mu0 T g' st' a w ∧ st'.n = st.n ∧ K st'
  | [], g, st, K, h, hk => ⟨g, st, h, rfl, hk⟩
  | s :: r, g, st, K, h, hk => by
    simp only [Av.frzAll] at hk
    split at hk
    · obtain ⟨g1, h1⟩ := h.frzP hk.1
      obtain ⟨g', st', q1, q2, q3⟩ := h1.frzAll hk.2
      exact ⟨g', st', q1, q2.trans (frz_n _ _), q3⟩
    · exact h.frzAll hk

def awp (P : Program) : AC → (AEx → St → Prop) → St → Prop
  | .skip, Q, st => Q .normal st
  | .seq x y, Q, st => awp P x (fun e st' => match e with | .normal => awp P y Q st' | e => Q e st') st
  | .reg l, Q, st => AOps P l st (Q .normal)
  | .dreg rl l, Q, st => rootsOK rl st ∧ ∃ R c st', Orc.ok P R ∧ runR R l st True = some (c, st') ∧ c ∧ Q .normal st'
  | .frz l, Q, st => Q .normal st ∨ frzAll l st (Q .normal)
  | .cond x y z, Q, st => match rd st x with
    | some (c, .bool b) => c = true ∧ (b = true → awp P y Q st) ∧ (b = false → awp P z Q st)
    | some (c, .anyb) => c = true ∧ awp P y Q st ∧ awp P z Q st
    | _ => False
  | .block id x, Q, st => awp P x (fun e st' => match e with | .exit id' => if id' = id then Q .normal st' else Q (.exit id') st' | e => Q e st') st
  | .loop x, Q, st => ∃ I : Nat → St → Prop, (∃ n st', Wk st st' ∧ I n st') ∧ ∀ n st, I n st → awp P x (fun e st' => match e with | .normal => ∃ m st'', m < n ∧ Wk st' st'' ∧ I m st'' | e => Q e st') st
  | .rfunc _ _ _ _, _, _ => False
  | .exit id, Q, st => Q (.exit id) st
  | .ret, Q, st => Q .ret st

/-! ### the translation -/
def consumes (d : Nat) (o : Oper) : Bool :=
  match o.op with
  | .assign (.tmp t) => t == d
  | .call { callee := .builtin .append, args := xs, .. } => match xs.toList with
    | .tmp t :: _ => t == d
    | _ => false
  | _ => false

def compOp (P : Program) (n : Nat) (ops : Array Oper) (o : Oper) : Option AOp :=
  let tk := (match o.dst with | some d => ops.toList.any (consumes d) | none => false) || (match o.op with | .move (.tmp t) => ops.toList.any (fun q => q.dst == some t) | _ => false)
  match compK P tk o, compG ops o.guard with
  | some k, some gu => if gsOK n gu then some { dst := o.dst, guard := gu, k := k } else none
  | _, _ => none

def compOps (P : Program) (n : Nat) (ops : Array Oper) : List Oper → Option (List AOp)
  | [] => some []
  | o :: r => match compOp P n ops o, compOps P n ops r with
    | some a, some l => some (a :: l)
    | _, _ => none

def capsOf : List AOp → List Nat
  | [] => []
  | o :: r => (match o.k with | .mkfn _ _ l => (l.map AO.rs).flatten | _ => []) ++ capsOf r
def wrapF (al : List AOp) (c : AC) : AC := match capsOf al with
  | [] => c
  | l => .seq (.frz l) c
theorem wrapF_ok {al : List AOp} {c : AC} {Q : AEx → St → Prop} (h : Sim w0 mu0 T g st a w) (hs : awp P (wrapF al c) Q st) : ∃ g' st', Sim w0 mu0 T g' st' a w ∧ st'.n = st.n ∧ awp P c Q st' := by
  unfold wrapF at hs
  split at hs
  · exact ⟨g, st, h, rfl, hs⟩
  · simp only [awp] at hs
    rcases hs with hs | hs
    · exact ⟨g, st, h, rfl, hs⟩
    · exact h.frzAll hs

def comp (P : Program) (n : Nat) : Code → Option AC
  | .skip => some .skip
  | .region _ ops false => (compOps P n ops ops.toList).map fun al => wrapF al (.reg al)
  | .region _ ops true => match compOpsD P n ops ops.toList with
    | some al => if P.follows .mixedOrders = true ∧ drawOK ops al [] = true then some (wrapF al (.dreg [] al)) else if P.follows .mixedOrders = true ∧ drawOK ops al (rlOf al) = true then some (wrapF al (.dreg (rlOf al) al)) else none
    | none => none
  | .seq x y => match comp P n x, comp P n y with
    | some a, some b => some (.seq a b)
    | _, _ => none
  | .cond x y z => match compO x, comp P n y, comp P n z with
    | some o, some a, some b => some (.cond o a b)
    | _, _, _ => none
  | .block id x => (comp P n x).map (.block id)
  | .loop x => (comp P n x).map .loop
  | .rangeFunc gx ps x y => match compO gx, comp P n x, comp P n y with
    | some o, some a, some b => some (.rfunc o ps.toList a b)
    | _, _, _ => none
  | .exit id => some (.exit id)
  | .ret => some .ret
  | _ => none

/-- What is behind a piece of code: one of the abstract ends. -/
def Post (w0 : World) (mu0 : Mem) (T : Tc) (n : Nat) (Q : AEx → St → Prop) : Exit → Act → World → Prop
  | .normal, a, w => ∃ g st, Sim w0 mu0 T g st a w ∧ st.n = n ∧ Q .normal st
  | .exit id, a, w => ∃ g st, Sim w0 mu0 T g st a w ∧ st.n = n ∧ Q (.exit id) st
  | .ret, a, w => ∃ g st, Sim w0 mu0 T g st a w ∧ st.n = n ∧ Q .ret st
  | _, _, _ => False

theorem ops_ok {n : Nat} {ops : Array Oper} {Q : AEx → St → Prop} {Q' : Exit → Act → World → Prop} (hQ : ∀ g st a w, Sim w0 mu0 T g st a w → st.n = n → Q .normal st → Q' .normal a w) : ∀ (l : List Oper) (al : List AOp) (g : Gh) (st : St) (a : Act) (w : World),
    compOps P n ops l = some al → Sim w0 mu0 T g st a w → st.n = n → AOps P al st (Q .normal) → wpList P ops Q' l a w
  | [], al, g, st, a, w, hc, h, hn, hs => by cases hc; exact hQ g st a w h hn hs
  | o :: l, al, g, st, a, w, hc, h, hn, hs => by
    simp only [compOps] at hc
    split at hc
    case h_2 => cases hc
    rename_i ao al' ho hl
    cases hc
    simp only [compOp] at ho
    split at ho
    case h_2 => cases ho
    rename_i k gu hk hg
    split at ho
    case isFalse => cases ho
    rename_i hgs
    cases ho
    refine wpList_step fun K hK => ?_
    refine step_ok (ao := { dst := o.dst, guard := gu, k := k }) hk rfl hg (by rw [hn]; exact gs_of hgs) h hs (fun g' st' a' w' hsim hn' hK' => hK _ _ ?_)
    exact ops_ok hQ l al' g' st' a' w' hl hsim (hn'.trans hn) hK'

theorem WkL.rep {s : Nat} {x y : LV} {val : Value} (h : WkL x y) (hr : RepL g w s x val) : RepL g w s y val := by
  unfold WkL at h
  split at h
  · exact .undef _
  · obtain ⟨rfl, rfl⟩ := h; exact OwnAt.share (g := g) hr
  · obtain ⟨rfl, rfl⟩ := h; exact hr
  · subst h; rw [Rep.inv_nils hr]; exact .inl ⟨.slnil _, rfl⟩
  · subst h; rw [Rep.inv_nils hr]; exact Rep.slnil _
  · exact WkCs.rep h hr
  · subst h; exact hr
theorem WkR.rep {p : Place} {x y : RV} {val : Value} (h : WkR x y) (hr : RepR g w p x val) : RepR g w p y val := by
  unfold WkR at h
  split at h
  · exact .undef _
  · obtain ⟨rfl, rfl⟩ := h; exact OwnAt.share (g := g) hr
  · subst h; rw [Rep.inv_nils hr]; exact .inl ⟨.slnil _, rfl⟩
  · subst h; rw [Rep.inv_nils hr]; exact Rep.slnil _
  · exact WkCs.rep h hr
  · subst h; exact hr
theorem WkRs.spec : ∀ {l m : List RV}, WkRs l m → l.length = m.length ∧ ∀ j, j < m.length → WkR (l.getD j (.sv .undef)) (m.getD j (.sv .undef))
  | [], [], _ => ⟨rfl, fun j hj => by simp at hj⟩
  | a :: l, b :: m, h => by
    obtain ⟨h1, h2⟩ := h
    obtain ⟨e1, e2⟩ := WkRs.spec h2
    refine ⟨by simp [e1], fun j hj => ?_⟩
    cases j with
    | zero => simpa using h1
    | succ j => simpa using e2 j (by simpa using hj)
  | [], _ :: _, h => h.elim
  | _ :: _, [], h => h.elim

theorem WkS.spec {st : St} : ∀ {l : List (Nat × LV)}, WkS st l → ∀ s, WkL (lk st.sl s) (lk l s)
  | [], _, s => by simp [lk, WkL]
  | (t, v) :: l, h, s => by
    simp only [lk]
    split
    · rename_i e; subst e; exact h.1
    · exact WkS.spec h.2 s
theorem WkB.spec {st : St} : ∀ {l : List (Nat × List RV)}, WkB st l → ∀ s c, lkb l s = some c → ∃ c', lkb st.bx s = some c' ∧ WkRs c' c
  | [], _, s, c, e => by simp [lkb] at e
  | (t, v) :: l, h, s, c, e => by
    simp only [lkb] at e
    split at e
    · rename_i q; subst q; cases e; exact h.1
    · exact WkB.spec h.2 s c e

theorem Sim.wk (h : Sim w0 mu0 T g st a w) (hw : Wk st st') : Sim w0 mu0 T g st' a w := by
  obtain ⟨h1, h2, h3, h4⟩ := hw
  constructor
  · rw [h1]; exact h.size
  · exact h.defers
  · intro s; exact (h3.spec s).rep (h.slots s)
  · intro s c hc
    obtain ⟨c', e1, e2⟩ := h4.spec s c hc
    obtain ⟨b, hb, k1, k2, k3, cc, e, fr, k4, k5, k6, k7⟩ := h.boxes s c' e1
    obtain ⟨f1, f2⟩ := e2.spec
    exact ⟨b, hb, k1, k2, k3, cc, e, fr, k4, k5, by rw [← f1]; exact k6, fun j hj => (f2 j hj).rep (k7 j (by rw [f1]; exact hj))⟩
  · exact h.bxinj
  · rw [h2]; exact h.heap
  · exact h.mem
  · exact h.mem0
  · exact h.mule
  · exact h.ext
  · exact h.okx
  · exact h.xlt
  · exact h.blt
  · exact h.bxx
  · exact h.okb
  · intro s b hb; rw [h1]; exact h.pin s b hb

theorem awp_ok {n : Nat} : ∀ (c : Code) (ac : AC) (Q : AEx → St → Prop) (g : Gh) (st : St) (a : Act) (w : World), comp P n c = some ac → Sim w0 mu0 T g st a w → st.n = n → awp P ac Q st → c.wp P (Post w0 mu0 T n Q) a w
  | .skip, ac, Q, g, st, a, w, hc, h, hn, hs => by cases hc; exact wp_skip ⟨g, st, h, hn, hs⟩
  | .ret, ac, Q, g, st, a, w, hc, h, hn, hs => by cases hc; exact wp_ret ⟨g, st, h, hn, hs⟩
  | .exit id, ac, Q, g, st, a, w, hc, h, hn, hs => by cases hc; exact wp_exit ⟨g, st, h, hn, hs⟩
  | .region id ops draw, ac, Q, g, st, a, w, hc, h, hn, hs => by
    cases draw with
    | true =>
      simp only [comp] at hc
      split at hc
      case h_2 => cases hc
      rename_i al hal
      have fin : ∀ rl : RL, P.follows .mixedOrders = true ∧ drawOK ops al rl = true → ac = wrapF al (.dreg rl al) → (Code.region id ops true).wp P (Post w0 mu0 T n Q) a w := by
        intro rl hcond e
        subst e
        obtain ⟨g1, st1, h1, hn1, hs⟩ := wrapF_ok h hs
        obtain ⟨hroot, R, cc, stf, hR, hr, hcc, hq⟩ := hs
        exact draw_ok hR hcond.1 hal hcond.2 (stf := stf) (fun g' a' w' h1 h2 => ⟨g', stf, h1, h2, hq⟩) h1 (hn1.trans hn) hroot hr hcc
      split at hc
      · rename_i hcond
        cases hc
        exact fin _ hcond rfl
      · split at hc
        case isFalse => cases hc
        rename_i hcond
        cases hc
        exact fin _ hcond rfl
    | false =>
      simp only [comp] at hc
      obtain ⟨al, hal, rfl⟩ := opt_map_some hc
      obtain ⟨g1, st1, h1, hn1, hs⟩ := wrapF_ok h hs
      exact wp_region_list (ops_ok (Q := Q) (fun g st a w h hn hq => ⟨g, st, h, hn, hq⟩) ops.toList al g1 st1 a w hal h1 (hn1.trans hn) hs)
  | .seq x y, ac, Q, g, st, a, w, hc, h, hn, hs => by
    simp only [comp] at hc
    split at hc
    case h_2 => cases hc
    rename_i a1 a2 h1 h2
    cases hc
    refine wp_seq (wp_mono (awp_ok x a1 _ g st a w h1 h hn hs) fun e a' w' hp => ?_)
    cases e with
    | normal => obtain ⟨g', st', q1, q2, q3⟩ := hp; exact awp_ok y a2 Q g' st' a' w' h2 q1 q2 q3
    | exit id => exact hp
    | ret => exact hp
    | _ => exact hp
  | .cond x y z, ac, Q, g, st, a, w, hc, h, hn, hs => by
    simp only [comp] at hc
    split at hc
    case h_2 => cases hc
    rename_i o a1 a2 h1 h2 h3
    cases hc
    simp only [awp] at hs
    split at hs
    case h_3 => exact hs.elim
    · rename_i c b hb
      obtain ⟨rfl, hy, hz⟩ := hs
      have := (rd_rep h h1 hb).inv_bool
      exact wp_cond_split this (fun e => awp_ok y a1 Q g st a w h2 h hn (hy e)) (fun e => awp_ok z a2 Q g st a w h3 h hn (hz e))
    · rename_i c hb
      obtain ⟨rfl, hy, hz⟩ := hs
      obtain ⟨b, this⟩ := (rd_rep h h1 hb).inv_anyb
      exact wp_cond_split this (fun _ => awp_ok y a1 Q g st a w h2 h hn hy) (fun _ => awp_ok z a2 Q g st a w h3 h hn hz)
  | .block id x, ac, Q, g, st, a, w, hc, h, hn, hs => by
    simp only [comp] at hc
    obtain ⟨a1, h1, rfl⟩ := opt_map_some hc
    refine wp_block (wp_mono (awp_ok x a1 _ g st a w h1 h hn hs) fun e a' w' hp => ?_)
    cases e with
    | normal => exact hp
    | exit id' =>
      simp only [Exit.inBlock]
      obtain ⟨g', st', q1, q2, q3⟩ := hp
      simp only [] at q3
      split
      · rename_i e; rw [if_pos e] at q3; exact ⟨g', st', q1, q2, q3⟩
      · rename_i e; rw [if_neg e] at q3; exact ⟨g', st', q1, q2, q3⟩
    | ret => exact hp
    | _ => exact hp
  | .loop x, ac, Q, g, st, a, w, hc, h, hn, hs => by
    simp only [comp] at hc
    obtain ⟨a1, h1, rfl⟩ := opt_map_some hc
    obtain ⟨I, ⟨m0, st0, hw0, hI0⟩, hround⟩ := hs
    intro b k cs
    have key : ∀ (m : Nat) (g : Gh) (st : St) (a : Act) (w : World), Sim w0 mu0 T g st a w → st.n = n → I m st →
        ∃ e a' w', Post w0 mu0 T n Q e a' w' ∧ Arrives P (lone (b.at a (.code x :: .inLoop x :: k)) cs w) b k cs e a' w' := by
      intro m
      induction m using Nat.strongRecOn with
      | _ m ih =>
        intro g st a w h hn hI
        obtain ⟨e, a', w', hp, harr⟩ := awp_ok x a1 _ g st a w h1 h hn (hround m st hI) b (.inLoop x :: k) cs
        cases e with
        | normal =>
          obtain ⟨g', st', q1, q2, m', st'', hlt, hwk, hI'⟩ := hp
          obtain ⟨e2, a2, w2, r1, r2⟩ := ih m' hlt g' st'' a' w' (q1.wk hwk) (hwk.1.trans q2) hI'
          exact ⟨e2, a2, w2, r1, .of_steps (Steps.trans harr (.one step_inLoop)) r2⟩
        | exit id => obtain ⟨g', st', q1, q2, q3⟩ := hp; exact ⟨.exit id, a', w', ⟨g', st', q1, q2, q3⟩, .pass (x := .inLoop x) rfl (fun _ _ => .inl (by simp)) harr⟩
        | ret => obtain ⟨g', st', q1, q2, q3⟩ := hp; exact ⟨.ret, a', w', ⟨g', st', q1, q2, q3⟩, .pass (x := .inLoop x) rfl (fun _ _ => .inl (by simp)) harr⟩
        | goto l => exact hp.elim
        | panic ch => exact hp.elim
        | outgrown => exact hp.elim
    obtain ⟨e, a', w', r1, r2⟩ := key m0 g st0 a w (h.wk hw0) (hw0.1.trans hn) hI0
    exact ⟨e, a', w', r1, .of_steps (.one step_loop) r2⟩
  | .rangeFunc _ _ _ _, ac, Q, g, st, a, w, hc, h, hn, hs => by
    simp only [comp] at hc
    split at hc
    case h_2 => cases hc
    cases hc
    exact hs.elim
  | .scope _, ac, Q, g, st, a, w, hc, h, hn, hs => by simp [comp] at hc
  | .label _, ac, Q, g, st, a, w, hc, h, hn, hs => by simp [comp] at hc
  | .goto _, ac, Q, g, st, a, w, hc, h, hn, hs => by simp [comp] at hc
  | .refuse _, ac, Q, g, st, a, w, hc, h, hn, hs => by simp [comp] at hc

theorem aops_runs {R : Orc} (hR : R.ok P) {K : St → Prop} : ∀ {l : List AOp} {st stf : St}, Runs R l st stf → K stf → AOps P l st K
  | [], st, stf, hr, hk => by cases hr; exact hk
  | o :: r, st, stf, hr, hk => by
    obtain ⟨c, W, B, e, hc, hf, hr⟩ := hr
    exact eff_step hR e hc hf (aops_runs hR hr hk)

theorem awp_reg {R : Orc} (hR : R.ok P) {l : List AOp} {Q : AEx → St → Prop} {st st' : St} {c : Prop} (hr : runR R l st True = some (c, st')) (hc : c) (hq : Q .normal st') : awp P (.reg l) Q st :=
  aops_runs hR (runs_of hr hc).2 hq
theorem awp_dreg {R : Orc} (hR : R.ok P) {rl : RL} {l : List AOp} {Q : AEx → St → Prop} {st st' : St} {c : Prop} (hroot : rootsOK rl st) (hr : runR R l st True = some (c, st')) (hc : c) (hq : Q .normal st') : awp P (.dreg rl l) Q st :=
  ⟨hroot, R, c, st', hR, hr, hc, hq⟩
end Go.Av

set_option linter.unusedSimpArgs false
namespace Go.Av
variable {P : Program} {w0 : World} {mu0 : Mem} {T : Tc} {g g' : Gh} {st st' : St} {a : Act} {w w' : World}

inductive AR where
  | t (s : Nat)
  | c (s : Nat) (n : Option Nat)
  deriving Inhabited

def compRes (P : Program) : List ResultVar → Option (List AR)
  | [] => some []
  | .tmp t :: r => (compRes P r).map (.t t :: ·)
  | .cell t ty :: r => match ldk P ty, compRes P r with
    | some n, some l => some (.c t n :: l)
    | _, _ => none

def LV.rv? : LV → Option RV
  | .sv v => some (.sv v)
  | .own sz xs => some (.own sz xs)
  | _ => none

def arV (st : St) : AR → Option (Prop × RV)
  | .t s => match (lk st.sl s).gv with
    | (g, v) => v.rv?.map fun r => (g = true, r)
  | .c s n => match (lk st.sl s).gv with
    | (g, .lptr s' o) => match lkb st.bx s' with
      | some cells => some (g = true ∧ o + n.getD 1 ≤ cells.length, .sv (partV (cells.map RV.share) o n))
      | none => none
    | _ => none

def arVs (st : St) : List AR → Option (Prop × List RV)
  | [] => some (True, [])
  | r :: l => match arV st r, arVs st l with
    | some (c, v), some (d, vs) => some (c ∧ d, v :: vs)
    | _, _ => none

def arSlots : List AR → List Nat
  | [] => []
  | .t s :: r => s :: arSlots r
  | .c _ _ :: r => arSlots r

def resV : List RV → LV
  | [v] => v.lv
  | vs => .tup vs

def WkT : LV → LV → Prop
  | .tup a, .tup b => WkRs a b
  | a, b => WkL a b
theorem WkT.rep {s : Nat} {x y : LV} {val : Value} (h : WkT x y) (hr : RepL g w s x val) : RepL g w s y val := by
  unfold WkT at h
  split at h
  · rename_i a b
    obtain ⟨us, h1, h2, h3⟩ := hr
    obtain ⟨e1, e2⟩ := h.spec
    exact ⟨us, h1, by omega, fun j hj => (e2 j hj).rep (h3 j (by omega))⟩
  · exact h.rep hr

def RvIs (st : St) (rs : List AR) (rv : LV) : Prop := match arVs st rs with
  | some (c, vs) => c ∧ WkT (resV vs) rv
  | none => False

def argSl : Nat → List SV → List (Nat × LV)
  | _, [] => []
  | i, v :: r => (i, .sv v) :: argSl (i + 1) r

def St.enter (n : Nat) (args : List SV) : St := { n := n, sl := argSl 0 args, bx := [], hp := fun _ => none }

theorem lk_argSl : ∀ (l : List SV) (i s : Nat), lk (argSl i l) s = if i ≤ s ∧ s < i + l.length then .sv (l.getD (s - i) .undef) else .sv .undef
  | [], i, s => by simp [argSl, lk]
  | v :: l, i, s => by
    simp only [argSl, lk]
    split
    · rename_i e; subst e; simp
    · rename_i e
      rw [lk_argSl l (i + 1) s]
      by_cases h : i + 1 ≤ s ∧ s < i + 1 + l.length
      · have h' : i ≤ s ∧ s < i + (v :: l).length := by simp; omega
        rw [if_pos h, if_pos h']
        have : s - i = (s - (i + 1)) + 1 := by omega
        rw [this]; simp
      · have h' : ¬ (i ≤ s ∧ s < i + (v :: l).length) := by simp; omega
        rw [if_neg h, if_neg h']

theorem sim_enter {mu : Mem} {vs : List Value} {args : List SV} {n : Nat} (hm : MemOK mu w) (hr : RepArgs mu args vs) (hn : args.length ≤ n) :
    Sim w mu Tc.none { mu := mu, x := fun _ => none, bx := fun _ => none, okx := fun b => b < w.heap.size → Tc.none.ar b, okb := fun b => b < w.heap.size → TB Tc.none b } (St.enter n args) { tmps := vs.toArray ++ Array.replicate (n - vs.toArray.size) undef, defers := [] } w := by
  constructor
  · simp [St.enter]; have := hr.1; omega
  · rfl
  · intro s
    simp only [St.enter]
    rw [lk_argSl]
    split
    · rename_i hs
      have hs2 : s < args.length := by omega
      have := hr.2 s hs2
      have hlt : s < vs.length := by rw [hr.1]; exact hs2
      simpa [RepL, Array.getD_eq_getD_getElem?, Array.getElem?_append, hlt, List.getD_eq_getElem?_getD] using this
    · exact .undef _
  · intro s c e; simp [St.enter, lkb] at e
  · intro s s' b e; simp at e
  · intro b c e; simp [St.enter] at e
  · exact hm
  · intro b j hb _; rfl
  · exact Mem.le_refl _
  · exact Ext.refl _ _
  · rfl
  · intro b p e; simp at e
  · intro s b e; simp at e
  · intro s b p e; simp at e
  · rfl
  · intro s b hb; cases hb

def resOne (tmps : Array Value) : ResultVar → Sem Value
  | .tmp t => pure (tmps.getD t undef)
  | .cell a t => do loadVar t (← asAddr (tmps.getD a undef))

theorem results_list (fn : Func) (tmps : Array Value) : ∀ {us : List Value}, (fn.results.toList.mapM (resOne tmps)).run P w = .ok us w →
    (results fn tmps).run P w = .ok (if h : us.toArray.size = 1 then us.toArray[0] else .tuple us.toArray) w := by
  intro us h
  have e : results fn tmps = (do let vs ← fn.results.mapM (resOne tmps); pure (if h : vs.size = 1 then vs[0] else .tuple vs)) := rfl
  rw [e, Array.mapM_eq_mapM_toList]
  simp [Sem.run_bind, h, Result.andThen]

/-- What the results are, one by one. -/
theorem res_list (h : Sim w0 mu0 T g st a w) : ∀ {l : List ResultVar} {rs : List AR} {vs : List RV} {c : Prop}, compRes P l = some rs → arVs st rs = some (c, vs) → c →
    ∃ us : List Value, (l.mapM (resOne a.tmps)).run P w = .ok us w ∧ us.length = vs.length ∧ rs.length = vs.length ∧ ∀ j, j < vs.length → match rs.getD j (.t 0) with
      | .t s => RepL g w s (vs.getD j (.sv .undef)).lv (us.getD j Go.undef)
      | .c _ _ => ∃ v, vs.getD j (.sv .undef) = .sv v ∧ Rep g.mu v (us.getD j Go.undef)
  | [], rs, vs, c, h1, h2, hc => by
    cases h1; simp only [arVs, Option.some.injEq, Prod.mk.injEq] at h2; obtain ⟨-, rfl⟩ := h2
    exact ⟨[], rfl, rfl, rfl, fun j hj => by simp at hj⟩
  | .tmp t :: l, rs, vs, c, h1, h2, hc => by
    simp only [compRes] at h1
    obtain ⟨rs', hrs, rfl⟩ := opt_map_some h1
    simp only [arVs] at h2
    split at h2
    case h_2 => cases h2
    rename_i c1 v d vs' hv hvs
    simp only [Option.some.injEq, Prod.mk.injEq] at h2
    obtain ⟨rfl, rfl⟩ := h2
    obtain ⟨us, k1, k2, k3, k4⟩ := res_list h hrs hvs hc.2
    refine ⟨a.tmps.getD t undef :: us, ?_, by simp [k2], by simp [k3], ?_⟩
    · simp [List.mapM_cons, Sem.run_bind, resOne, k1, Result.andThen]
    · intro j hj
      cases j with
      | zero =>
        simp only [arV] at hv
        obtain ⟨r, hr1, hr2⟩ := opt_map_some hv
        simp only [Prod.mk.injEq] at hr2
        obtain ⟨rfl, rfl⟩ := hr2
        have := (h.slots t).gv hc.1
        generalize (lk st.sl t).gv.2 = lv at this hr1
        cases lv <;> simp [LV.rv?] at hr1 <;> subst hr1 <;> simpa [RV.lv] using this
      | succ j => simpa using k4 j (by simpa using hj)
  | .cell t ty :: l, rs, vs, c, h1, h2, hc => by
    simp only [compRes] at h1
    split at h1
    case h_2 => cases h1
    rename_i n rs' hld hrs
    cases h1
    simp only [arVs] at h2
    split at h2
    case h_2 => cases h2
    rename_i c1 v d vs' hv hvs
    simp only [Option.some.injEq, Prod.mk.injEq] at h2
    obtain ⟨rfl, rfl⟩ := h2
    obtain ⟨us, k1, k2, k3, k4⟩ := res_list h hrs hvs hc.2
    simp only [arV] at hv
    split at hv
    case h_2 => cases hv
    rename_i g1 s' o hgv
    split at hv
    case h_2 => cases hv
    rename_i cells hcells
    simp only [Option.some.injEq, Prod.mk.injEq] at hv
    obtain ⟨rfl, rfl⟩ := hv
    obtain ⟨b, hb, hbox⟩ := h.boxes s' cells hcells
    have hp := (h.slots t).gv (by rw [hgv]; exact hc.1.1)
    rw [hgv] at hp
    obtain ⟨b', hb', hval⟩ := hp
    rw [hb] at hb'; cases hb'
    obtain ⟨val, h5, h6⟩ := load_ok hld hbox.cellsAt (k := o) (by simpa using hc.1.2)
    refine ⟨val :: us, ?_, by simp [k2], by simp [k3], ?_⟩
    · simp only [Nat.zero_add] at h5
      simp [List.mapM_cons, Sem.run_bind, resOne, k1, Result.andThen, hval, asAddr, h5]
    · intro j hj
      cases j with
      | zero => exact ⟨_, rfl, by simpa using h6⟩
      | succ j => simpa using k4 j (by simpa using hj)

theorem arSlots_mem {s : Nat} : ∀ {rs : List AR} {j : Nat}, j < rs.length → rs.getD j (.t 0) = .t s → s ∈ arSlots rs
  | .t t :: r, 0, _, e => by simp at e; subst e; simp [arSlots]
  | .c _ _ :: r, 0, _, e => by simp at e
  | .t t :: r, j + 1, hj, e => by simp [arSlots]; exact .inr (arSlots_mem (j := j) (by simpa using hj) (by simpa using e))
  | .c _ _ :: r, j + 1, hj, e => by simp [arSlots]; exact arSlots_mem (j := j) (by simpa using hj) (by simpa using e)
  | [], j, hj, _ => by simp at hj

/-- Where a slot's own goes. -/
def posOf (s : Nat) : Nat → List AR → Option Nat
  | _, [] => none
  | j, .t t :: r => if t = s then some j else posOf s (j + 1) r
  | j, .c _ _ :: r => posOf s (j + 1) r

theorem posOf_at {s : Nat} : ∀ {rs : List AR} {i j : Nat}, (arSlots rs).Nodup → j < rs.length → rs.getD j (.t 0) = .t s → posOf s i rs = some (i + j)
  | .t t :: r, i, 0, _, _, e => by simp at e; simp [posOf, e]
  | .c _ _ :: r, i, 0, _, _, e => by simp at e
  | .t t :: r, i, j + 1, hn, hj, e => by
    simp only [arSlots, List.nodup_cons] at hn
    have hj' : j < r.length := by simpa using hj
    have e' : r.getD j (.t 0) = .t s := by simpa using e
    have hm := arSlots_mem hj' e'
    have hne : t ≠ s := fun q => hn.1 (q ▸ hm)
    rw [posOf, if_neg hne, posOf_at hn.2 hj' e']; congr 1; omega
  | .c _ _ :: r, i, j + 1, hn, hj, e => by
    have hj' : j < r.length := by simpa using hj
    have e' : r.getD j (.t 0) = .t s := by simpa using e
    have hn' : (arSlots r).Nodup := hn
    rw [posOf, posOf_at hn' hj' e']; congr 1; omega
  | [], i, j, _, hj, _ => by simp at hj

def retX (g : Gh) (rs : List AR) : Nat → Option Place := fun b => match g.x b with
  | some (.slot s 0) => (posOf s 0 rs).map (.slot 0)
  | _ => none

theorem ret_rep (h : Sim w0 mu0 T g st a w) {l : List ResultVar} {rs : List AR} {rv : LV} (h1 : compRes P l = some rs) (hnd : (arSlots rs).Nodup) (h2 : RvIs st rs rv) :
    ∃ us : List Value, (l.mapM (resOne a.tmps)).run P w = .ok us w ∧ RetRepX g.okx g.mu w rv (if h : us.toArray.size = 1 then us.toArray[0] else .tuple us.toArray) := by
  unfold RvIs at h2
  split at h2
  case h_2 => exact h2.elim
  rename_i c vs hvs
  obtain ⟨hc, hwk⟩ := h2
  obtain ⟨us, k1, k2, k3, k4⟩ := res_list h h1 hvs hc
  refine ⟨us, k1, retX g rs, hwk.rep ?_, ?_⟩
  · have own : ∀ j, j < vs.length → RepR { mu := g.mu, x := retX g rs, bx := fun _ => none, okx := g.okx } w (.slot 0 j) (vs.getD j (.sv .undef)) (us.getD j Go.undef) := by
      intro j hj
      have hk := k4 j hj
      cases hr : rs.getD j (.t 0) with
      | c s n => rw [hr] at hk; obtain ⟨v, e1, e2⟩ := hk; rw [e1]; exact e2
      | t s =>
        rw [hr] at hk
        have hp := posOf_at (i := 0) hnd (by omega) hr
        cases hv : vs.getD j (.sv .undef) with
        | sv v => rw [hv] at hk; exact hk
        | own sz xs =>
          rw [hv] at hk
          rcases hk with hk | ⟨b, off, cap, e1, e2, e3, e4, e5⟩
          · exact .inl hk
          · exact .inr ⟨b, off, cap, e1, e2, by simp [retX, e3, hp], e4, e5⟩
    unfold resV
    split
    · rename_i v
      obtain ⟨u, rfl⟩ : ∃ u, us = [u] := by
        cases us with
        | nil => simp at k2
        | cons u r => cases r with
          | nil => exact ⟨u, rfl⟩
          | cons _ _ => simp at k2
      have := own 0 (by simp)
      simp at this
      cases v <;> exact this
    · rename_i hne
      have hsz : ¬ us.toArray.size = 1 := by
        intro e
        cases vs with
        | nil => simp at k2; simp [k2] at e
        | cons v r => cases r with
          | nil => exact hne v rfl
          | cons _ _ => simp at k2 e; omega
      rw [dif_neg hsz]
      exact ⟨us, rfl, k2, own⟩
  · intro b p e
    simp only [retX] at e
    split at e
    · rename_i s hx; exact h.xlt b _ hx
    · cases e

theorem pure_of {f : FuncId} {fn : Func} {body : Code} {ac : AC} {rs : List AR} {args : List SV} {rv : LV} (hf : P.funcs[f]? = some fn) (hb : fn.body = some body)
    (hc : comp P fn.ntmps body = some ac) (hr : compRes P fn.results.toList = some rs) (hnd : (arSlots rs).Nodup) (hn : args.length ≤ fn.ntmps)
    (h : awp P ac (fun e st => match e with | .exit _ => False | _ => RvIs st rs rv) (St.enter fn.ntmps args)) : Pure P f args rv := by
  intro mu w vs hm hargs
  refine calls_of_wp hf hb ?_
  have hsim := sim_enter hm hargs hn
  refine wp_mono (awp_ok body ac _ _ _ _ w hc hsim rfl h) fun e a' w' hp => ?_
  have fin : ∀ g' st', Sim w mu Tc.none g' st' a' w' → RvIs st' rs rv →
      a'.defers = [] ∧ ∃ v, (results fn a'.tmps).run P w' = .ok v w' ∧ ∃ val mu', Ending.returned v = .returned val ∧ Ext (fun _ => False) w w' ∧ mu.le mu' ∧ MemOK mu' w' ∧ (∀ b j, b < w.heap.size → mu' b j = mu b j) ∧ RetRep w.heap.size mu' w' rv val := by
    intro g' st' hs hq
    obtain ⟨us, q1, q2⟩ := ret_rep hs hr hnd hq
    refine ⟨hs.defers, _, results_list fn a'.tmps q1, _, g'.mu, rfl, hs.ext.mono (fun k hk => by rcases hk with ⟨s, hs⟩ | hk; cases hs; exact hk), hs.mule, hs.mem, fun b j hb => hs.mem0 b j hb (fun q => q), by have := q2; rw [hs.okx] at this; exact this⟩
  cases e with
  | normal => obtain ⟨g', st', q1, q2, q3⟩ := hp; exact fin g' st' q1 q3
  | ret => obtain ⟨g', st', q1, q2, q3⟩ := hp; exact fin g' st' q1 q3
  | exit id => obtain ⟨g', st', q1, q2, q3⟩ := hp; exact q3.elim
  | goto l => exact hp.elim
  | panic ch => exact hp.elim
  | outgrown => exact hp.elim

theorem pure_ofF (s : Nat) {f : FuncId} {fn : Func} {body : Code} {ac : AC} {rs : List AR} {args : List SV} {rv : LV} (hf : P.funcs[f]? = some fn) (hb : fn.body = some body)
    (hc : comp P fn.ntmps body = some ac) (hr : compRes P fn.results.toList = some rs) (hnd : (arSlots rs).Nodup) (hn : args.length ≤ fn.ntmps)
    (h : awp P ac (fun e st => match e with | .exit _ => False | _ => FrzP st s ∧ RvIs (st.frz s) rs rv) (St.enter fn.ntmps args)) : Pure P f args rv := by
  intro mu w vs hm hargs
  refine calls_of_wp hf hb ?_
  have hsim := sim_enter hm hargs hn
  refine wp_mono (awp_ok body ac _ _ _ _ w hc hsim rfl h) fun e a' w' hp => ?_
  have fin : ∀ g' st', Sim w mu Tc.none g' st' a' w' → FrzP st' s ∧ RvIs (st'.frz s) rs rv →
      a'.defers = [] ∧ ∃ v, (results fn a'.tmps).run P w' = .ok v w' ∧ ∃ val mu', Ending.returned v = .returned val ∧ Ext (fun _ => False) w w' ∧ mu.le mu' ∧ MemOK mu' w' ∧ (∀ b j, b < w.heap.size → mu' b j = mu b j) ∧ RetRep w.heap.size mu' w' rv val := by
    intro g0 st0 hs0 hq0
    obtain ⟨hfz, hq⟩ := hq0
    obtain ⟨g', hs⟩ := hs0.frzP hfz
    obtain ⟨us, q1, q2⟩ := ret_rep hs hr hnd hq
    refine ⟨hs.defers, _, results_list fn a'.tmps q1, _, g'.mu, rfl, hs.ext.mono (fun k hk => by rcases hk with ⟨s, hs⟩ | hk; cases hs; exact hk), hs.mule, hs.mem, fun b j hb => hs.mem0 b j hb (fun q => q), by have := q2; rw [hs.okx] at this; exact this⟩
  cases e with
  | normal => obtain ⟨g', st', q1, q2, q3⟩ := hp; exact fin g' st' q1 q3
  | ret => obtain ⟨g', st', q1, q2, q3⟩ := hp; exact fin g' st' q1 q3
  | exit id => obtain ⟨g', st', q1, q2, q3⟩ := hp; exact q3.elim
  | goto l => exact hp.elim
  | panic ch => exact hp.elim
  | outgrown => exact hp.elim

/-! ### a function that works on one object -/
def St.enterE (n : Nat) (cells args : List SV) : St := { n := n, sl := (0, .lptr 0 0) :: argSl 1 args, bx := [(0, cells.map .sv)], hp := fun _ => none }

def T1 (b : Nat) : Tc := ⟨fun s => if s = 0 then some b else none, fun _ => False⟩
theorem sim_enterE {mu : Mem} {b : Nat} {vs : List Value} {cells args : List SV} {n : Nat} (hm : MemOK mu w) (hh : HeapAt mu w b cells) (hr : RepArgs mu args vs) (hn : args.length + 1 ≤ n) :
    Sim w mu (T1 b) { mu := mu, x := fun _ => none, bx := (T1 b).bx, okx := fun b' => b' < w.heap.size → (T1 b).ar b', okb := fun b' => b' < w.heap.size → TB (T1 b) b' } (St.enterE n cells args)
      { tmps := (.pointer (some ⟨b, 0, none⟩) :: vs).toArray ++ Array.replicate (n - (.pointer (some ⟨b, 0, none⟩) :: vs).toArray.size) undef, defers := [] } w := by
  obtain ⟨h0, c, e, fr, h1, h2, h3, h4⟩ := hh
  have hlt : b < w.heap.size := by
    apply Classical.byContradiction; intro q
    rw [Array.getElem?_eq_none (by omega)] at h1; cases h1
  constructor
  · simp [St.enterE]; have := hr.1; omega
  · rfl
  · intro s
    cases s with
    | zero => exact ⟨b, by simp [T1], by simp [Array.getD_eq_getD_getElem?, Array.getElem?_append]⟩
    | succ s =>
      simp only [St.enterE]
      rw [lk_cons_other _ _ (by omega), lk_argSl]
      split
      · rename_i hs
        have hs2 : s < args.length := by omega
        have := hr.2 s hs2
        have hlt : s < vs.length := by rw [hr.1]; exact hs2
        simpa [RepL, Array.getD_eq_getD_getElem?, Array.getElem?_append, hlt, List.getD_eq_getElem?_getD] using this
      · exact .undef _
  · intro s cs hc
    simp only [St.enterE, lkb] at hc
    split at hc
    case isFalse => cases hc
    rename_i q
    cases hc
    subst q
    refine ⟨b, by simp [T1], fun _ => ⟨0, by simp [T1]⟩, h0, rfl, c, e, fr, h1, h2, by simpa using h3, fun j hj => ?_⟩
    have hj' : j < cells.length := by simpa using hj
    simpa [List.getD_eq_getElem?_getD, hj', RepR] using h4 j hj'
  · intro s s' b' e1 e2
    simp only [T1] at e1 e2
    split at e1
    · split at e2
      · omega
      · cases e2
    · cases e1
  · intro b' cs hc; simp [St.enterE] at hc
  · exact hm
  · intro _ _ _ _; rfl
  · exact Mem.le_refl _
  · exact Ext.refl _ _
  · rfl
  · intro b' p hb; simp at hb
  · intro s b' hb
    simp only [T1] at hb
    split at hb
    · cases hb; exact hlt
    · cases hb
  · intro s b' p hb; simp at hb
  · rfl
  · intro s b' hb
    refine ⟨hb, ?_⟩
    by_cases q : s = 0
    · exact .inl q
    · simp [q, T1] at hb

/-- The object's cells, in the end. -/
def ObjIs (st : St) (cells' : List SV) : Prop := match lkb st.bx 0 with
  | some c => c.map RV.share = cells'
  | none => False

theorem eff_of {f : FuncId} {fn : Func} {body : Code} {ac : AC} {rs : List AR} {cells args : List SV} {rv : LV} {cells' : List SV} (hf : P.funcs[f]? = some fn) (hb : fn.body = some body)
    (hc : comp P fn.ntmps body = some ac) (hr : compRes P fn.results.toList = some rs) (hnd : (arSlots rs).Nodup) (hn : args.length + 1 ≤ fn.ntmps)
    (h : awp P ac (fun e st => match e with | .exit _ => False | _ => RvIs st rs rv ∧ ObjIs st cells') (St.enterE fn.ntmps cells args)) : Eff1 P f cells args rv cells' := by
  intro mu w b vs hm hh hargs
  refine calls_of_wp hf hb ?_
  have hsim := sim_enterE hm hh hargs hn
  refine wp_mono (awp_ok body ac _ _ _ _ w hc hsim rfl h) fun e a' w' hp => ?_
  have fin : ∀ g' st', Sim w mu (T1 b) g' st' a' w' → RvIs st' rs rv ∧ ObjIs st' cells' →
      a'.defers = [] ∧ ∃ v, (results fn a'.tmps).run P w' = .ok v w' ∧ ∃ val mu', Ending.returned v = .returned val ∧ Ext (fun k => k = b) w w' ∧ mu.le mu' ∧ MemOK mu' w' ∧ (∀ b' j, b' < w.heap.size → mu' b' j = mu b' j) ∧ HeapAt mu' w' b cells' ∧ RetRep w.heap.size mu' w' rv val := by
    intro g' st' hs hq
    obtain ⟨us, q1, q2⟩ := ret_rep hs hr hnd hq.1
    refine ⟨hs.defers, _, results_list fn a'.tmps q1, _, g'.mu, rfl, hs.ext.mono (fun k hk => by
      rcases hk with ⟨s, hs⟩ | hk
      · by_cases q : s = 0
        · simp [q, T1] at hs; exact hs.symm
        · simp [q, T1] at hs
      · exact hk.elim), hs.mule, hs.mem, fun b j hb => hs.mem0 b j hb (fun q => q), ?_, by have := q2; rw [hs.okx] at this; exact this⟩
    · have hq2 := hq.2
      unfold ObjIs at hq2
      split at hq2
      case h_2 => exact hq2.elim
      rename_i cs hcs
      subst hq2
      obtain ⟨b2, hb2, hbox⟩ := hs.boxes 0 cs hcs
      have hpin := (hs.pin 0 b (by simp [T1])).1
      rw [hpin] at hb2
      cases hb2
      exact hbox.heapAt
  cases e with
  | normal => obtain ⟨g', st', q1, q2, q3⟩ := hp; exact fin g' st' q1 q3
  | ret => obtain ⟨g', st', q1, q2, q3⟩ := hp; exact fin g' st' q1 q3
  | exit id => obtain ⟨g', st', q1, q2, q3⟩ := hp; exact q3.elim
  | goto l => exact hp.elim
  | panic ch => exact hp.elim
  | outgrown => exact hp.elim

/-! ### a function that returns a new object -/
def NewIs (st : St) (rs : List AR) (cells : List SV) : Prop := match rs with
  | [.t s] => match (lk st.sl s).gv with
    | (g, .lptr s' 0) => match lkb st.bx s' with
      | some c => g = true ∧ c.map RV.share = cells
      | none => False
    | _ => False
  | _ => False

theorem new_of {f : FuncId} {fn : Func} {body : Code} {ac : AC} {rs : List AR} {args : List SV} {cells : List SV} (hf : P.funcs[f]? = some fn) (hb : fn.body = some body)
    (hc : comp P fn.ntmps body = some ac) (hr : compRes P fn.results.toList = some rs) (hn : args.length ≤ fn.ntmps)
    (h : awp P ac (fun e st => match e with | .exit _ => False | _ => NewIs st rs cells) (St.enter fn.ntmps args)) : PureN P f args cells := by
  intro mu w vs hm hargs
  refine calls_of_wp hf hb ?_
  have hsim := sim_enter hm hargs hn
  refine wp_mono (awp_ok body ac _ _ _ _ w hc hsim rfl h) fun e a' w' hp => ?_
  have fin : ∀ g' st', Sim w mu Tc.none g' st' a' w' → NewIs st' rs cells →
      a'.defers = [] ∧ ∃ v, (results fn a'.tmps).run P w' = .ok v w' ∧ ∃ b mu', Ending.returned v = .returned (.pointer (some ⟨b, 0, none⟩)) ∧ Ext (fun _ => False) w w' ∧ mu.le mu' ∧ MemOK mu' w' ∧ (∀ b j, b < w.heap.size → mu' b j = mu b j) ∧ w.heap.size ≤ b ∧ HeapAt mu' w' b cells := by
    intro g' st' hs hq
    unfold NewIs at hq
    split at hq
    case h_2 => exact hq.elim
    rename_i s
    split at hq
    case h_2 => exact hq.elim
    rename_i gg s' hgv
    split at hq
    case h_2 => exact hq.elim
    rename_i c hcb
    obtain ⟨rfl, rfl⟩ := hq
    have hslot := (hs.slots s).gv (by rw [hgv])
    rw [hgv] at hslot
    obtain ⟨b, hb1, hval⟩ := hslot
    obtain ⟨b2, hb2, hbox⟩ := hs.boxes s' c hcb
    rw [hb1] at hb2; cases hb2
    have hres : fn.results.toList = [.tmp s] := by
      cases hl : fn.results.toList with
      | nil => rw [hl] at hr; cases hr
      | cons x r =>
        rw [hl] at hr
        cases x with
        | tmp t =>
          simp only [compRes] at hr
          obtain ⟨z, hz, he⟩ := opt_map_some hr
          cases he
          cases r with
          | nil => rfl
          | cons y r' =>
            cases y with
            | tmp t => simp only [compRes] at hz; obtain ⟨z', _, he⟩ := opt_map_some hz; cases he
            | cell t ty => simp only [compRes] at hz; split at hz <;> cases hz
        | cell t ty => simp only [compRes] at hr; split at hr <;> cases hr
    have hrun : (fn.results.toList.mapM (resOne a'.tmps)).run P w' = .ok [.pointer (some ⟨b, 0, none⟩)] w' := by
      rw [hres]; simp [List.mapM_cons, Sem.run_bind, resOne, Result.andThen]; rw [Array.getD_eq_getD_getElem?] at hval; exact hval
    have hok := hbox.1
    rw [hs.okb] at hok
    refine ⟨hs.defers, _, results_list fn a'.tmps hrun, b, g'.mu, rfl, hs.ext.mono (fun k hk => by rcases hk with ⟨s, hs⟩ | hk; cases hs; exact hk), hs.mule, hs.mem, fun b j hb => hs.mem0 b j hb (fun q => q), ?_, hbox.heapAt⟩
    · exact Nat.le_of_not_lt fun q => by obtain ⟨s, hs⟩ := hok q; cases hs
  cases e with
  | normal => obtain ⟨g', st', q1, q2, q3⟩ := hp; exact fin g' st' q1 q3
  | ret => obtain ⟨g', st', q1, q2, q3⟩ := hp; exact fin g' st' q1 q3
  | exit id => obtain ⟨g', st', q1, q2, q3⟩ := hp; exact q3.elim
  | goto l => exact hp.elim
  | panic ch => exact hp.elim
  | outgrown => exact hp.elim
end Go.Av
