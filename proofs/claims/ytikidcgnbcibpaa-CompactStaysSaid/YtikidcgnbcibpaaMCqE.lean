import Derived.Test.YtikidcgnbcibpaaMCpY
import Derived.Test.YtikidcgnbcibpaaAvL3

set_option linter.unusedVariables false
set_option linter.unusedSimpArgs false

/- Compact: what stays, beside what was (plain). -/

set_option linter.unusedSimpArgs false
set_option linter.unusedVariables false
set_option maxHeartbeats 4000000
namespace Go.Proofs.Ytikidcgnbcibpaa

open Go.Av Go.Cp
theorem part_mem (few : List Rec) : ∀ (all : List Rec) (n : Nat), n ≤ few.length → partN few n all = few.length → ∀ r ∈ few.drop n, r ∈ all
  | [], n, hn, h, r, hr => by
    unfold partN at h
    subst h
    simp at hr
  | a :: all, n, hn, h, r, hr => by
    unfold partN at h
    by_cases h1 : n < few.length
    · rw [if_pos h1] at h
      by_cases h2 : recS (few.getD n rec0) a = true
      · rw [if_pos h2] at h
        rw [List.drop_eq_getElem_cons h1] at hr
        rcases List.mem_cons.1 hr with rfl | hr
        · have := (recS_iff _ _).1 h2
          rw [List.getD_eq_getElem?_getD, List.getElem?_eq_getElem h1] at this
          simp only [Option.getD_some] at this
          rw [this]; simp
        · exact List.mem_cons_of_mem _ (part_mem few all (n + 1) (by omega) h r hr)
      · rw [if_neg h2] at h
        exact List.mem_cons_of_mem _ (part_mem few all n (by omega) h r hr)
    · rw [List.drop_eq_nil_of_le (by omega)] at hr
      cases hr
theorem part_filter (p : Rec → Bool) (few : List Rec) : ∀ (all : List Rec) (n : Nat), n ≤ few.length → few.drop n = all.filter p → partN few n all = few.length
  | [], n, hn, h => by
    unfold partN
    have : few.length - n = 0 := by rw [← List.length_drop, h]; rfl
    omega
  | a :: all, n, hn, h => by
    unfold partN
    by_cases h1 : n < few.length
    · rw [if_pos h1]
      rw [List.filter_cons] at h
      have hd := List.drop_eq_getElem_cons h1
      have hg : few.getD n rec0 = few[n] := by rw [List.getD_eq_getElem?_getD, List.getElem?_eq_getElem h1]; rfl
      by_cases hp : p a = true
      · rw [if_pos hp, hd] at h
        injection h with e1 e2
        rw [if_pos (by rw [hg, e1]; exact (recS_iff _ _).2 rfl)]
        exact part_filter p few all (n + 1) (by omega) e2
      · rw [if_neg hp] at h
        rw [if_neg (fun q => hp (by
          have e := (recS_iff _ _).1 q
          have hm : few[n] ∈ all.filter p := by rw [← h, hd]; exact List.mem_cons_self
          rw [← e, hg]
          exact (List.mem_filter.1 hm).2))]
        exact part_filter p few all n (by omega) h
    · rw [if_neg h1]; omega
/-- The record that comes next, beside those that stay. -/
theorem filt_succ (p : Rec → Bool) (rs : List Rec) {m : Nat} (hm : m < rs.length) : (rs.take (m + 1)).filter p = (rs.take m).filter p ++ (if p (rs.getD m rec0) = true then [rs.getD m rec0] else []) := by
  rw [List.take_add_one, List.filter_append, List.getD_eq_getElem?_getD, List.getElem?_eq_getElem hm]
  simp only [Option.toList_some, List.filter_cons, List.filter_nil, Option.getD_some]
theorem filt_split (p : Rec → Bool) (rs : List Rec) (m : Nat) : rs.filter p = (rs.take m).filter p ++ (rs.drop m).filter p := by
  rw [← List.filter_append, List.take_append_drop]
theorem filt_next (p : Rec → Bool) (rs : List Rec) {m : Nat} (hm : m < rs.length) : (p (rs.getD m rec0) = true → ((rs.take m).filter p).length < (rs.filter p).length ∧ (rs.filter p).getD ((rs.take m).filter p).length rec0 = rs.getD m rec0) ∧ (p (rs.getD m rec0) = false → ((rs.take m).filter p).length < (rs.filter p).length → (rs.filter p).getD ((rs.take m).filter p).length rec0 ≠ rs.getD m rec0) := by
  have hs := filt_split p rs m
  have hd : rs.drop m = rs.getD m rec0 :: rs.drop (m + 1) := by
    rw [List.drop_eq_getElem_cons hm, List.getD_eq_getElem?_getD, List.getElem?_eq_getElem hm]; rfl
  rw [hd, List.filter_cons] at hs
  refine ⟨fun hp => ?_, fun hp hl e => ?_⟩
  · rw [if_pos hp] at hs
    rw [hs]
    refine ⟨by simp, ?_⟩
    rw [List.getD_eq_getElem?_getD, List.getElem?_append_right (Nat.le_refl _)]
    simp
  · have hmem : (rs.filter p).getD ((rs.take m).filter p).length rec0 ∈ rs.filter p := by
      rw [List.getD_eq_getElem?_getD, List.getElem?_eq_getElem hl]; exact List.getElem_mem hl
    rw [e] at hmem
    rw [(List.mem_filter.1 hmem).2] at hp
    cases hp
theorem last_gen (k : ByteArray) (ps : List (Bat × Rec)) : ∀ (o : Option Int) (a : Int), (o = some a → ∃ c, ps.foldl (stepS k) o = some c ∧ a ≤ c) := by
  induction ps with
  | nil => intro o a h; exact ⟨a, h, Int.le_refl _⟩
  | cons p ps ih =>
    intro o a h
    subst h
    rw [List.foldl_cons]
    unfold stepS
    split
    · simp only
      split
      · obtain ⟨c, h1, h2⟩ := ih (some (atS p.1 p.2)) _ rfl
        exact ⟨c, h1, by omega⟩
      · exact ih _ a rfl
    · exact ih _ a rfl
theorem last_up (k : ByteArray) (ps : List (Bat × Rec)) : ∀ (o : Option Int) (p : Bat × Rec), p ∈ ps → p.2.kd = true → p.2.key = k → ∃ c, ps.foldl (stepS k) o = some c ∧ atS p.1 p.2 ≤ c := by
  induction ps with
  | nil => intro o p h; cases h
  | cons q ps ih =>
    intro o p hp hk hy
    rw [List.foldl_cons]
    rcases List.mem_cons.1 hp with rfl | hp
    · have : ∃ a, stepS k o p = some a ∧ atS p.1 p.2 ≤ a := by
        unfold stepS
        rw [if_pos ⟨hk, hy⟩]
        cases o with
        | none => exact ⟨_, rfl, Int.le_refl _⟩
        | some a =>
          simp only
          split
          · exact ⟨_, rfl, Int.le_refl _⟩
          · exact ⟨_, rfl, by omega⟩
      obtain ⟨a, h1, h2⟩ := this
      obtain ⟨c, h3, h4⟩ := last_gen k ps _ a h1
      exact ⟨c, h3, by omega⟩
    · exact ih _ p hp hk hy
/-- A record that goes had a later one of its key, or was dead. -/
theorem goes {ps : List (Bat × Rec)} {now grace : Int} {b : Bat} {r : Rec} (hm : (b, r) ∈ ps) (h : keepP ps now grace b r = false) : r.kd = true ∧ (r.dd = true ∨ ¬ (atS b r ≥ (lastP ps r.key).getD 0)) := by
  unfold keepP at h
  cases hk : r.kd with
  | false => rw [hk] at h; simp at h
  | true =>
    refine ⟨rfl, ?_⟩
    cases hd : r.dd with
    | true => exact .inl rfl
    | false =>
      refine .inr fun hge => ?_
      obtain ⟨c, h1, h2⟩ := last_up r.key ps none (b, r) hm hk rfl
      have h1' : lastP ps r.key = some c := h1
      rw [h1'] at h hge
      simp only [Option.getD_some] at h hge
      simp only at h2
      have : atS b r = c := by omega
      rw [this, hk] at h
      simp [lateS, hd] at h
def kept (ps : List (Bat × Rec)) (now grace : Int) (x : Bat) : Bool := !(x.rs.filter (keepP ps now grace x)).isEmpty || decide (x.pr ≠ 0)
theorem clean_at {ps : List (Bat × Rec)} {now grace : Int} {l : List Bat} {i : Nat} (hi : i < l.length) (hk : kept ps now grace (l.getD i bat0) = true) :
    (cleanT ps now grace (l.take (i + 1))).length = (cleanT ps now grace (l.take i)).length + 1 ∧ (cleanT ps now grace (l.take i)).length < (cleanT ps now grace l).length ∧ (cleanT ps now grace l).getD (cleanT ps now grace (l.take i)).length bat0 = { (l.getD i bat0) with rs := (l.getD i bat0).rs.filter (keepP ps now grace (l.getD i bat0)) } := by
  have hs := cleanT_succ ps now grace l hi
  unfold kept at hk
  rw [if_pos hk] at hs
  have hl : cleanT ps now grace l = cleanT ps now grace (l.take (i + 1)) ++ cleanT ps now grace (l.drop (i + 1)) := by
    conv => lhs; rw [← List.take_append_drop (i + 1) l]
    unfold cleanT
    rw [List.map_append, List.filter_append]
  rw [hl, hs]
  refine ⟨by simp, by simp, ?_⟩
  rw [List.getD_eq_getElem?_getD, List.append_assoc, List.getElem?_append_right (Nat.le_refl _)]
  simp
theorem clean_skip {ps : List (Bat × Rec)} {now grace : Int} {l : List Bat} {i : Nat} (hi : i < l.length) (hk : kept ps now grace (l.getD i bat0) = false) :
    cleanT ps now grace (l.take (i + 1)) = cleanT ps now grace (l.take i) := by
  have hs := cleanT_succ ps now grace l hi
  unfold kept at hk
  rw [hk] at hs
  simpa using hs
/-- What goes is like none of those that stay. -/
theorem clean_unlike {ps : List (Bat × Rec)} {now grace : Int} {l : List Bat} {x : Bat} (hk : kept ps now grace x = false) {n : Nat} (hn : n < (cleanT ps now grace l).length) (h1 : ((cleanT ps now grace l).getD n bat0).ba = x.ba) (h2 : ((cleanT ps now grace l).getD n bat0).pr = x.pr) :
    partN ((cleanT ps now grace l).getD n bat0).rs 0 x.rs ≠ ((cleanT ps now grace l).getD n bat0).rs.length := by
  intro hp
  have hm : (cleanT ps now grace l).getD n bat0 ∈ cleanT ps now grace l := by
    rw [List.getD_eq_getElem?_getD, List.getElem?_eq_getElem hn]; exact List.getElem_mem hn
  generalize (cleanT ps now grace l).getD n bat0 = y at hm h1 h2 hp
  unfold cleanT at hm
  obtain ⟨hm1, hm2⟩ := List.mem_filter.1 hm
  obtain ⟨b, hb, rfl⟩ := List.mem_map.1 hm1
  simp only at h1 h2 hp hm2
  unfold kept at hk
  simp only [Bool.or_eq_false_iff, decide_eq_false_iff_not] at hk
  have hpr : x.pr = 0 := by have := hk.2; omega
  have hbp : b.pr = 0 := by omega
  cases hf : b.rs.filter (keepP ps now grace b) with
  | nil => rw [hf, hbp] at hm2; simp at hm2
  | cons r rest =>
    have hr : r ∈ b.rs.filter (keepP ps now grace b) := by rw [hf]; simp
    have hx := part_mem _ x.rs 0 (Nat.zero_le _) hp r (by rw [List.drop_zero]; exact hr)
    have hkr := (List.mem_filter.1 hr).2
    have e : keepP ps now grace x r = keepP ps now grace b r := by
      unfold keepP atS
      rw [h1]
    have : r ∈ x.rs.filter (keepP ps now grace x) := List.mem_filter.2 ⟨hx, by rw [e]; exact hkr⟩
    have h3 := hk.1
    cases hq : x.rs.filter (keepP ps now grace x) with
    | nil => rw [hq] at this; cases this
    | cons a b => rw [hq] at h3; simp at h3
end Go.Proofs.Ytikidcgnbcibpaa

/- Pieces of code by the layer, between pieces that are walked otherwise. -/

set_option linter.unusedSimpArgs false
set_option linter.unusedVariables false
set_option maxRecDepth 100000
set_option maxHeartbeats 4000000
namespace Go.Av

variable {P : Program} {w0 : World} {mu0 : Mem} {n : Nat} {Q : AEx → St → Prop} {st : St}
/-- A piece of code, from a state on. -/
def SW (P : Program) (w0 : World) (mu0 : Mem) (n : Nat) (c : Code) (Q : AEx → St → Prop) (st : St) : Prop :=
  ∀ g a w, Sim w0 mu0 Tc.none g st a w → st.n = n → c.wp P (Post w0 mu0 Tc.none n Q) a w
theorem SW.mono {c : Code} {Q' : AEx → St → Prop} (h : SW P w0 mu0 n c Q st) (hq : ∀ e st, Q e st → Q' e st) : SW P w0 mu0 n c Q' st := fun g a w hs hn => by
  refine wp_mono (h g a w hs hn) fun e a' w' hp => ?_
  cases e with
  | normal => obtain ⟨g', st', q1, q2, q3⟩ := hp; exact ⟨g', st', q1, q2, hq _ _ q3⟩
  | exit id => obtain ⟨g', st', q1, q2, q3⟩ := hp; exact ⟨g', st', q1, q2, hq _ _ q3⟩
  | ret => obtain ⟨g', st', q1, q2, q3⟩ := hp; exact ⟨g', st', q1, q2, hq _ _ q3⟩
  | goto l => exact hp
  | panic ch => exact hp
  | outgrown => exact hp
theorem SW.ac {R : Orc} (hR : R.ok P) {c : Code} {ac : AC} (hc : comp P n c = some ac) (h : awpR R ac Q st) : SW P w0 mu0 n c Q st := fun g a w hs hn =>
  awp_ok c ac Q g st a w hc hs hn (awpR_ok hR ac Q Q st (fun _ _ h => h) h)
theorem SW.seq {x y : Code} (h : SW P w0 mu0 n x (fun e st' => match e with | .normal => SW P w0 mu0 n y Q st' | e => Q e st') st) : SW P w0 mu0 n (x.seq y) Q st := fun g a w hs hn => by
  refine wp_seq (wp_mono (h g a w hs hn) fun e a' w' hp => ?_)
  cases e with
  | normal => obtain ⟨g', st', q1, q2, q3⟩ := hp; exact q3 g' a' w' q1 q2
  | exit id => exact hp
  | ret => exact hp
  | goto l => exact hp
  | panic ch => exact hp
  | outgrown => exact hp
theorem SW.block {id : Nat} {b : Code} (h : SW P w0 mu0 n b (fun e st' => match e with | .exit j => if j = id then Q .normal st' else Q (.exit j) st' | e => Q e st') st) : SW P w0 mu0 n (.block id b) Q st := fun g a w hs hn => by
  refine wp_block (wp_mono (h g a w hs hn) fun e a' w' hp => ?_)
  cases e with
  | normal => exact hp
  | exit id' =>
    simp only [Exit.inBlock]
    obtain ⟨g', st', q1, q2, q3⟩ := hp
    simp only [] at q3
    split
    · rename_i e; rw [if_pos e] at q3; exact ⟨g', st', q1, q2, q3⟩
    · rename_i e; rw [if_neg e] at q3; exact ⟨g', st', q1, q2, q3⟩
  | ret => exact hp
  | goto l => exact hp
  | panic ch => exact hp
  | outgrown => exact hp
theorem SW.loop {b : Code} {α : Type} (inv : α → Prop) (stOf : α → St) (meas : α → Nat) (a0 : α) (h0 : inv a0) (hw : Wk st (stOf a0))
    (h : ∀ x, inv x → SW P w0 mu0 n b (fun e st' => match e with | .normal => ∃ x', inv x' ∧ meas x' < meas x ∧ Wk st' (stOf x') | e => Q e st') (stOf x)) : SW P w0 mu0 n (.loop b) Q st := by
  intro g a w hs hn bd k cs
  have key : ∀ (m : Nat) (x : α) (g : Gh) (a : Act) (w : World), meas x = m → inv x → Sim w0 mu0 Tc.none g (stOf x) a w → (stOf x).n = n →
      ∃ e a' w', Post w0 mu0 Tc.none n Q e a' w' ∧ Arrives P (lone (bd.at a (.code b :: .inLoop b :: k)) cs w) bd k cs e a' w' := by
    intro m
    induction m using Nat.strongRecOn with
    | _ m ih =>
      intro x g a w hm hi h1 hn
      obtain ⟨e, a', w', hp, harr⟩ := h x hi g a w h1 hn bd (.inLoop b :: k) cs
      cases e with
      | normal =>
        obtain ⟨g', st', q1, q2, x', hi', hlt, hwk⟩ := hp
        obtain ⟨e2, a2, w2, r1, r2⟩ := ih (meas x') (by omega) x' g' a' w' rfl hi' (q1.wk hwk) (hwk.1.trans q2)
        exact ⟨e2, a2, w2, r1, .of_steps (Steps.trans harr (.one step_inLoop)) r2⟩
      | exit id => obtain ⟨g', st', q1, q2, q3⟩ := hp; exact ⟨.exit id, a', w', ⟨g', st', q1, q2, q3⟩, .pass (x := .inLoop b) rfl (fun _ _ => .inl (by simp)) harr⟩
      | ret => obtain ⟨g', st', q1, q2, q3⟩ := hp; exact ⟨.ret, a', w', ⟨g', st', q1, q2, q3⟩, .pass (x := .inLoop b) rfl (fun _ _ => .inl (by simp)) harr⟩
      | goto l => exact hp.elim
      | panic ch => exact hp.elim
      | outgrown => exact hp.elim
  obtain ⟨e, a', w', r1, r2⟩ := key (meas a0) a0 g a w rfl h0 (hs.wk hw) (hw.1.trans hn)
  exact ⟨e, a', w', r1, .of_steps (.one step_loop) r2⟩
theorem SW.seq_k {x y : Code} (h : ∀ K : St → Prop, (∀ st', SW P w0 mu0 n y Q st' → K st') → SW P w0 mu0 n x (fun e st' => match e with | .normal => K st' | e => Q e st') st) : SW P w0 mu0 n (x.seq y) Q st :=
  SW.seq (h (fun st' => SW P w0 mu0 n y Q st') (fun _ h => h))
theorem SW.hide {c : Code} (h : ∀ Q' : AEx → St → Prop, (∀ e st', Q e st' → Q' e st') → SW P w0 mu0 n c Q' st) : SW P w0 mu0 n c Q st := h Q (fun _ _ h => h)
/-- A list of a given length, letter by letter. -/
def Ex {α : Type} : Nat → (List α → Prop) → Prop
  | 0, p => p []
  | n + 1, p => ∃ v, Ex n fun l => p (v :: l)
theorem Ex.of {α : Type} : ∀ {n : Nat} {p : List α → Prop} (l : List α), l.length = n → p l → Ex n p
  | 0, p, l, h, hp => by
    have : l = [] := List.eq_nil_of_length_eq_zero h
    subst this; exact hp
  | n + 1, p, [], h, hp => by simp at h
  | n + 1, p, v :: l, h, hp => ⟨v, Ex.of (p := fun l => p (v :: l)) l (by simpa using h) hp⟩
/-- The frame, written out. -/
theorem Sim.lit {T : Tc} {g : Gh} {a : Act} {w : World} (h : Sim w0 mu0 T g st a w) (hn : st.n = n) : Ex n fun l => a = { tmps := l.toArray, defers := [] } := by
  refine Ex.of a.tmps.toList (by simp [h.size, hn]) ?_
  have := h.defers
  cases a
  simp only at this
  subst this
  simp
/-- Other temporaries. -/
theorem Sim.other {T : Tc} {g : Gh} {a a' : Act} {w : World} (h : Sim w0 mu0 T g st a w) (hs : a'.tmps.size = st.n) (hd : a'.defers = []) {sl : List (Nat × LV)}
    (hk : ∀ s, RepL g w s (lk sl s) (a'.tmps.getD s Go.undef)) : Sim w0 mu0 T g { st with sl := sl } a' w :=
  { size := hs, defers := hd, slots := hk, boxes := h.boxes, bxinj := h.bxinj, heap := h.heap, mem := h.mem, mem0 := h.mem0, mule := h.mule, ext := h.ext, okx := h.okx, xlt := h.xlt, blt := h.blt, bxx := h.bxx, okb := h.okb, pin := h.pin }
end Go.Av

/- Compact: the laws' pieces. -/

set_option maxRecDepth 100000
namespace Go.Proofs.Ytikidcgnbcibpaa

open Go.Av
def p4_0 : AC :=
 (.reg [⟨(some 6), none, .mv (.c (.bool false))⟩])
def p4_1 : AC :=
 (.seq
  (.reg [⟨(some 15), none, .mv (.t 0)⟩,
    ⟨(some 16), none, .call 6 [(.t 15)]⟩,
    ⟨(some 17), none, .una .not (.t 16)⟩])
  (.cond (.t 17)
   (.seq
    (.reg [⟨(some 18), none, .call 7 []⟩,
      ⟨(some 6), none, .take 18⟩])
    .ret)
   .skip))
def p4_2 : AC :=
 (.reg [⟨(some 19), none, .mv (.t 0)⟩,
   ⟨(some 20), none, .mv (.t 1)⟩,
   ⟨(some 21), none, .mv (.t 2)⟩,
   ⟨(some 22), none, .call 12 [(.t 19), (.t 20), (.t 21)]⟩,
   ⟨(some 7), none, .take 22⟩])
def p4_3 : AC :=
 (.reg [⟨(some 23), none, .mv (.t 0)⟩,
   ⟨(some 24), none, .call 8 [(.t 23)]⟩,
   ⟨(some 8), none, .take 24⟩])
def p4_4 : AC :=
 (.reg [⟨(some 9), none, .mv (.c (.int .i64 0))⟩])
def p4_5 : AC :=
 (.reg [⟨(some 10), none, .mv (.c (.int .i64 0))⟩])
def p4_6 : AC :=
 (.seq
  (.reg [⟨(some 25), none, .mv (.t 10)⟩,
    ⟨(some 26), none, .mv (.t 0)⟩,
    ⟨(some 27), none, .len false (.t 26)⟩,
    ⟨(some 28), none, .bin .lss (.t 25) (.t 27)⟩])
  (.cond (.t 28)
   .skip
   (.exit 0)))
def p4_7 : AC :=
 (.reg [⟨(some 11), none, .alloc [(.int .i64 0), (.int .i64 0), (.int .i64 0), (.int .i64 0), (.int .i64 0), .nils]⟩])
def p4_8 : AC :=
 (.seq
  (.dreg [] [⟨(some 31), none, .mv (.t 9)⟩,
    ⟨(some 32), none, .mv (.t 7)⟩,
    ⟨(some 33), none, .len false (.t 32)⟩,
    ⟨(some 34), none, .bin .lss (.t 31) (.t 33)⟩,
    ⟨(some 35), none, .mv (.t 34)⟩,
    ⟨(some 36), (some (35, true)), .mv (.t 7)⟩,
    ⟨(some 37), (some (35, true)), .mv (.t 9)⟩,
    ⟨(some 38), (some (35, true)), .iaddr 6 (.t 36) (.t 37)⟩,
    ⟨(some 39), (some (35, true)), .faddr (.t 38) 0⟩,
    ⟨(some 40), (some (35, true)), .load none (.t 39)⟩,
    ⟨(some 41), (some (35, true)), .mv (.t 0)⟩,
    ⟨(some 42), (some (35, true)), .mv (.t 10)⟩,
    ⟨(some 43), (some (35, true)), .iaddr 6 (.t 41) (.t 42)⟩,
    ⟨(some 44), (some (35, true)), .faddr (.t 43) 0⟩,
    ⟨(some 45), (some (35, true)), .load none (.t 44)⟩,
    ⟨(some 46), (some (35, true)), .bin .eql (.t 40) (.t 45)⟩,
    ⟨(some 47), none, .pick (.t 35) (.t 46) (.c (.bool false))⟩,
    ⟨(some 48), none, .mv (.t 47)⟩,
    ⟨(some 49), (some (48, true)), .mv (.t 7)⟩,
    ⟨(some 50), (some (48, true)), .mv (.t 9)⟩,
    ⟨(some 51), (some (48, true)), .iaddr 6 (.t 49) (.t 50)⟩,
    ⟨(some 52), (some (48, true)), .faddr (.t 51) 1⟩,
    ⟨(some 53), (some (48, true)), .load none (.t 52)⟩,
    ⟨(some 54), (some (48, true)), .mv (.t 0)⟩,
    ⟨(some 55), (some (48, true)), .mv (.t 10)⟩,
    ⟨(some 56), (some (48, true)), .iaddr 6 (.t 54) (.t 55)⟩,
    ⟨(some 57), (some (48, true)), .faddr (.t 56) 1⟩,
    ⟨(some 58), (some (48, true)), .load none (.t 57)⟩,
    ⟨(some 59), (some (48, true)), .bin .eql (.t 53) (.t 58)⟩,
    ⟨(some 60), none, .pick (.t 48) (.t 59) (.c (.bool false))⟩,
    ⟨(some 61), none, .mv (.t 60)⟩,
    ⟨(some 62), (some (61, true)), .mv (.t 7)⟩,
    ⟨(some 63), (some (61, true)), .mv (.t 9)⟩,
    ⟨(some 64), (some (61, true)), .iaddr 6 (.t 62) (.t 63)⟩,
    ⟨(some 65), (some (61, true)), .faddr (.t 64) 2⟩,
    ⟨(some 66), (some (61, true)), .load none (.t 65)⟩,
    ⟨(some 67), (some (61, true)), .mv (.t 0)⟩,
    ⟨(some 68), (some (61, true)), .mv (.t 10)⟩,
    ⟨(some 69), (some (61, true)), .iaddr 6 (.t 67) (.t 68)⟩,
    ⟨(some 70), (some (61, true)), .faddr (.t 69) 2⟩,
    ⟨(some 71), (some (61, true)), .load none (.t 70)⟩,
    ⟨(some 72), (some (61, true)), .bin .eql (.t 66) (.t 71)⟩,
    ⟨(some 73), none, .pick (.t 61) (.t 72) (.c (.bool false))⟩,
    ⟨(some 74), none, .mv (.t 73)⟩,
    ⟨(some 75), (some (74, true)), .mv (.t 7)⟩,
    ⟨(some 76), (some (74, true)), .mv (.t 9)⟩,
    ⟨(some 77), (some (74, true)), .iaddr 6 (.t 75) (.t 76)⟩,
    ⟨(some 78), (some (74, true)), .faddr (.t 77) 3⟩,
    ⟨(some 79), (some (74, true)), .load none (.t 78)⟩,
    ⟨(some 80), (some (74, true)), .mv (.t 0)⟩,
    ⟨(some 81), (some (74, true)), .mv (.t 10)⟩,
    ⟨(some 82), (some (74, true)), .iaddr 6 (.t 80) (.t 81)⟩,
    ⟨(some 83), (some (74, true)), .faddr (.t 82) 3⟩,
    ⟨(some 84), (some (74, true)), .load none (.t 83)⟩,
    ⟨(some 85), (some (74, true)), .bin .eql (.t 79) (.t 84)⟩,
    ⟨(some 86), none, .pick (.t 74) (.t 85) (.c (.bool false))⟩,
    ⟨(some 87), none, .mv (.t 86)⟩,
    ⟨(some 88), (some (87, true)), .mv (.t 7)⟩,
    ⟨(some 89), (some (87, true)), .mv (.t 9)⟩,
    ⟨(some 90), (some (87, true)), .iaddr 6 (.t 88) (.t 89)⟩,
    ⟨(some 91), (some (87, true)), .faddr (.t 90) 4⟩,
    ⟨(some 92), (some (87, true)), .load none (.t 91)⟩,
    ⟨(some 93), (some (87, true)), .mv (.t 0)⟩,
    ⟨(some 94), (some (87, true)), .mv (.t 10)⟩,
    ⟨(some 95), (some (87, true)), .iaddr 6 (.t 93) (.t 94)⟩,
    ⟨(some 96), (some (87, true)), .faddr (.t 95) 4⟩,
    ⟨(some 97), (some (87, true)), .load none (.t 96)⟩,
    ⟨(some 98), (some (87, true)), .bin .eql (.t 92) (.t 97)⟩,
    ⟨(some 99), none, .pick (.t 87) (.t 98) (.c (.bool false))⟩,
    ⟨(some 100), none, .mv (.t 99)⟩,
    ⟨(some 101), (some (100, true)), .mv (.t 7)⟩,
    ⟨(some 102), (some (100, true)), .mv (.t 9)⟩,
    ⟨(some 103), (some (100, true)), .iaddr 6 (.t 101) (.t 102)⟩,
    ⟨(some 104), (some (100, true)), .faddr (.t 103) 5⟩,
    ⟨(some 105), (some (100, true)), .load none (.t 104)⟩,
    ⟨(some 106), (some (100, true)), .mv (.t 0)⟩,
    ⟨(some 107), (some (100, true)), .mv (.t 10)⟩,
    ⟨(some 108), (some (100, true)), .iaddr 6 (.t 106) (.t 107)⟩,
    ⟨(some 109), (some (100, true)), .faddr (.t 108) 5⟩,
    ⟨(some 110), (some (100, true)), .load none (.t 109)⟩,
    ⟨(some 111), (some (100, true)), .call 13 [(.t 105), (.t 110)]⟩,
    ⟨(some 112), none, .pick (.t 100) (.t 111) (.c (.bool false))⟩,
    ⟨(some 113), none, .mv (.t 112)⟩,
    ⟨(some 114), (some (113, true)), .mv (.t 7)⟩,
    ⟨(some 115), (some (113, true)), .mv (.t 9)⟩,
    ⟨(some 116), (some (113, true)), .iaddr 6 (.t 114) (.t 115)⟩,
    ⟨(some 117), (some (113, true)), .faddr (.t 116) 5⟩,
    ⟨(some 118), (some (113, true)), .load none (.t 117)⟩,
    ⟨(some 119), (some (113, true)), .len false (.t 118)⟩,
    ⟨(some 120), (some (113, true)), .bin .gtr (.t 119) (.c (.int .i64 0))⟩,
    ⟨(some 121), (some (113, true)), .mv (.t 120)⟩,
    ⟨(some 122), (some (121, false)), .mv (.t 0)⟩,
    ⟨(some 123), (some (121, false)), .mv (.t 10)⟩,
    ⟨(some 124), (some (121, false)), .iaddr 6 (.t 122) (.t 123)⟩,
    ⟨(some 125), (some (121, false)), .faddr (.t 124) 2⟩,
    ⟨(some 126), (some (121, false)), .load none (.t 125)⟩,
    ⟨(some 127), (some (121, false)), .bin .neq (.t 126) (.c (.int .i64 0))⟩,
    ⟨(some 128), (some (113, true)), .pick (.t 121) (.c (.bool true)) (.t 127)⟩,
    ⟨(some 129), none, .pick (.t 113) (.t 128) (.c (.bool false))⟩])
  (.cond (.t 129)
   (.reg [⟨(some 130), none, .mv (.t 7)⟩,
     ⟨(some 131), none, .mv (.t 9)⟩,
     ⟨(some 132), none, .iaddr 6 (.t 130) (.t 131)⟩,
     ⟨(some 133), none, .load (some 6) (.t 132)⟩,
     ⟨none, none, .store 6 (.t 11) (.t 133)⟩])
   .skip))
def p4_9 : AC :=
 (.reg [⟨(some 12), none, .mv (.c (.int .i64 0))⟩])
def p4_10 : AC :=
 (.reg [⟨(some 13), none, .mv (.c (.int .i64 0))⟩])
def p4_11 : AC :=
 (.seq
  (.reg [⟨(some 134), none, .mv (.t 13)⟩,
    ⟨(some 135), none, .mv (.t 0)⟩,
    ⟨(some 136), none, .mv (.t 10)⟩,
    ⟨(some 137), none, .iaddr 6 (.t 135) (.t 136)⟩,
    ⟨(some 138), none, .faddr (.t 137) 5⟩,
    ⟨(some 139), none, .load none (.t 138)⟩,
    ⟨(some 140), none, .len false (.t 139)⟩,
    ⟨(some 141), none, .bin .lss (.t 134) (.t 140)⟩])
  (.cond (.t 141)
   .skip
   (.exit 2)))
def p4_12 : AC :=
 (.reg [⟨(some 144), none, .mv (.t 0)⟩,
   ⟨(some 145), none, .mv (.t 10)⟩,
   ⟨(some 146), none, .iaddr 6 (.t 144) (.t 145)⟩,
   ⟨(some 147), none, .faddr (.t 146) 5⟩,
   ⟨(some 148), none, .load none (.t 147)⟩,
   ⟨(some 149), none, .mv (.t 13)⟩,
   ⟨(some 150), none, .iaddr 6 (.t 148) (.t 149)⟩,
   ⟨(some 151), none, .load (some 6) (.t 150)⟩,
   ⟨(some 14), none, .alloc [(.int .i64 0), (.int .i64 0), (.bool false), (.str (ByteArray.mk #[])), (.bool false), (.str (ByteArray.mk #[]))]⟩,
   ⟨none, none, .store 6 (.t 14) (.t 151)⟩])
def p4_13 : AC :=
 (.seq
  (.dreg [] [⟨(some 152), none, .mv (.t 12)⟩,
    ⟨(some 153), none, .faddr (.t 11) 5⟩,
    ⟨(some 154), none, .load none (.t 153)⟩,
    ⟨(some 155), none, .len false (.t 154)⟩,
    ⟨(some 156), none, .bin .lss (.t 152) (.t 155)⟩,
    ⟨(some 157), none, .mv (.t 156)⟩,
    ⟨(some 158), (some (157, true)), .faddr (.t 11) 5⟩,
    ⟨(some 159), (some (157, true)), .load none (.t 158)⟩,
    ⟨(some 160), (some (157, true)), .mv (.t 12)⟩,
    ⟨(some 161), (some (157, true)), .iaddr 6 (.t 159) (.t 160)⟩,
    ⟨(some 162), (some (157, true)), .load (some 6) (.t 161)⟩,
    ⟨(some 163), (some (157, true)), .load (some 6) (.t 14)⟩,
    ⟨(some 164), (some (157, true)), .eqs [1, 1, 0, 2, 0, 2] false (.t 162) (.t 163)⟩,
    ⟨(some 165), none, .pick (.t 157) (.t 164) (.c (.bool false))⟩])
  (.cond (.t 165)
   (.seq
    (.reg [⟨(some 166), none, .take 12⟩,
      ⟨(some 167), none, .bin .add (.t 166) (.c (.int .i64 1))⟩,
      ⟨(some 12), none, .take 167⟩])
    (.exit 3))
   .skip))
def p4_14 : AC :=
 (.cond (.t 190)
  (.seq
   (.reg [⟨(some 6), none, .mv (.c (.bool false))⟩])
   .ret)
  .skip)
def p4_15 : AC :=
 (.reg [⟨(some 142), none, .take 13⟩,
   ⟨(some 143), none, .bin .add (.t 142) (.c (.int .i64 1))⟩,
   ⟨(some 13), none, .take 143⟩])
def p4_16 : AC :=
 (.seq
  (.reg [⟨(some 191), none, .mv (.t 12)⟩,
    ⟨(some 192), none, .bin .gtr (.t 191) (.c (.int .i64 0))⟩,
    ⟨(some 193), none, .take 192⟩,
    ⟨(some 194), (some (193, false)), .mv (.t 0)⟩,
    ⟨(some 195), (some (193, false)), .mv (.t 10)⟩,
    ⟨(some 196), (some (193, false)), .iaddr 6 (.t 194) (.t 195)⟩,
    ⟨(some 197), (some (193, false)), .faddr (.t 196) 2⟩,
    ⟨(some 198), (some (193, false)), .load none (.t 197)⟩,
    ⟨(some 199), (some (193, false)), .bin .neq (.t 198) (.c (.int .i64 0))⟩,
    ⟨(some 200), none, .pick (.t 193) (.c (.bool true)) (.t 199)⟩])
  (.cond (.t 200)
   (.reg [⟨(some 201), none, .take 9⟩,
     ⟨(some 202), none, .bin .add (.t 201) (.c (.int .i64 1))⟩,
     ⟨(some 9), none, .take 202⟩])
   .skip))
def p4_17 : AC :=
 (.reg [⟨(some 29), none, .take 10⟩,
   ⟨(some 30), none, .bin .add (.t 29) (.c (.int .i64 1))⟩,
   ⟨(some 10), none, .take 30⟩])
def p4_18 : AC :=
 (.seq
  (.reg [⟨(some 203), none, .mv (.t 9)⟩,
    ⟨(some 204), none, .mv (.t 7)⟩,
    ⟨(some 205), none, .len false (.t 204)⟩,
    ⟨(some 206), none, .bin .eql (.t 203) (.t 205)⟩,
    ⟨(some 207), none, .take 206⟩,
    ⟨(some 208), (some (207, true)), .call 7 []⟩,
    ⟨(some 209), none, .pick (.t 207) (.t 208) (.c (.bool false))⟩,
    ⟨(some 6), none, .take 209⟩])
  .ret)
def p5_0 : AC :=
 (.reg [⟨(some 6), none, .mv (.c (.bool false))⟩])
def p5_1 : AC :=
 (.seq
  (.reg [⟨(some 17), none, .mv (.t 0)⟩,
    ⟨(some 18), none, .call 6 [(.t 17)]⟩,
    ⟨(some 19), none, .una .not (.t 18)⟩])
  (.cond (.t 19)
   (.seq
    (.reg [⟨(some 20), none, .call 7 []⟩,
      ⟨(some 6), none, .take 20⟩])
    .ret)
   .skip))
def p5_2 : AC :=
 (.reg [⟨(some 7), none, .mv (.c (.int .i64 0))⟩,
   ⟨(some 8), none, .mv (.c (.bool false))⟩])
def p5_3 : AC :=
 (.seq
  (.reg [⟨(some 9), none, .mv (.c (.int .i64 0))⟩])
  (.block 0
   (.loop
    (.seq
     (.seq
      (.reg [⟨(some 21), none, .mv (.t 9)⟩,
        ⟨(some 22), none, .mv (.t 0)⟩,
        ⟨(some 23), none, .len false (.t 22)⟩,
        ⟨(some 24), none, .bin .lss (.t 21) (.t 23)⟩])
      (.cond (.t 24)
       .skip
       (.exit 0)))
     (.seq
      (.block 1
       (.seq
        (.seq
         (.reg [⟨(some 27), none, .mv (.t 0)⟩,
           ⟨(some 28), none, .mv (.t 9)⟩,
           ⟨(some 29), none, .iaddr 6 (.t 27) (.t 28)⟩,
           ⟨(some 30), none, .load (some 6) (.t 29)⟩,
           ⟨(some 31), none, .call 14 [(.t 30)]⟩,
           ⟨(some 32), none, .bin .neq (.t 31) (.c (.int .i64 0))⟩,
           ⟨(some 33), none, .take 32⟩,
           ⟨(some 34), (some (33, false)), .mv (.t 0)⟩,
           ⟨(some 35), (some (33, false)), .mv (.t 9)⟩,
           ⟨(some 36), (some (33, false)), .iaddr 6 (.t 34) (.t 35)⟩,
           ⟨(some 37), (some (33, false)), .faddr (.t 36) 0⟩,
           ⟨(some 38), (some (33, false)), .load none (.t 37)⟩,
           ⟨(some 39), (some (33, false)), .mv (.t 7)⟩,
           ⟨(some 40), (some (33, false)), .bin .lss (.t 38) (.t 39)⟩,
           ⟨(some 41), none, .pick (.t 33) (.c (.bool true)) (.t 40)⟩])
         (.cond (.t 41)
          (.seq
           (.reg [⟨(some 42), none, .call 7 []⟩,
             ⟨(some 6), none, .take 42⟩])
           .ret)
          .skip))
        (.seq
         (.reg [⟨(some 43), none, .mv (.t 0)⟩,
           ⟨(some 44), none, .mv (.t 9)⟩,
           ⟨(some 45), none, .iaddr 6 (.t 43) (.t 44)⟩,
           ⟨(some 46), none, .load (some 6) (.t 45)⟩,
           ⟨(some 47), none, .call 15 [(.t 46)]⟩,
           ⟨(some 7), none, .take 47⟩])
         (.seq
          (.reg [⟨(some 10), none, .mv (.c (.int .i64 0))⟩])
          (.block 2
           (.loop
            (.seq
             (.seq
              (.reg [⟨(some 48), none, .mv (.t 10)⟩,
                ⟨(some 49), none, .mv (.t 0)⟩,
                ⟨(some 50), none, .mv (.t 9)⟩,
                ⟨(some 51), none, .iaddr 6 (.t 49) (.t 50)⟩,
                ⟨(some 52), none, .faddr (.t 51) 5⟩,
                ⟨(some 53), none, .load none (.t 52)⟩,
                ⟨(some 54), none, .len false (.t 53)⟩,
                ⟨(some 55), none, .bin .lss (.t 48) (.t 54)⟩])
              (.cond (.t 55)
               .skip
               (.exit 2)))
             (.seq
              (.block 3
               (.reg [⟨(some 58), none, .take 8⟩,
                 ⟨(some 59), none, .take 58⟩,
                 ⟨(some 60), (some (59, false)), .mv (.t 0)⟩,
                 ⟨(some 61), (some (59, false)), .mv (.t 9)⟩,
                 ⟨(some 62), (some (59, false)), .iaddr 6 (.t 60) (.t 61)⟩,
                 ⟨(some 63), (some (59, false)), .faddr (.t 62) 5⟩,
                 ⟨(some 64), (some (59, false)), .load none (.t 63)⟩,
                 ⟨(some 65), (some (59, false)), .mv (.t 10)⟩,
                 ⟨(some 66), (some (59, false)), .iaddr 6 (.t 64) (.t 65)⟩,
                 ⟨(some 67), (some (59, false)), .faddr (.t 66) 4⟩,
                 ⟨(some 68), (some (59, false)), .load none (.t 67)⟩,
                 ⟨(some 69), none, .pick (.t 59) (.c (.bool true)) (.t 68)⟩,
                 ⟨(some 8), none, .take 69⟩]))
              (.reg [⟨(some 56), none, .take 10⟩,
                ⟨(some 57), none, .bin .add (.t 56) (.c (.int .i64 1))⟩,
                ⟨(some 10), none, .take 57⟩])))))))))
      (.reg [⟨(some 25), none, .take 9⟩,
        ⟨(some 26), none, .bin .add (.t 25) (.c (.int .i64 1))⟩,
        ⟨(some 9), none, .take 26⟩]))))))
def p5_4 : AC :=
 (.reg [⟨(some 70), none, .mv (.t 0)⟩,
   ⟨(some 71), none, .mv (.t 1)⟩,
   ⟨(some 72), none, .mv (.t 2)⟩,
   ⟨(some 73), none, .call 12 [(.t 70), (.t 71), (.t 72)]⟩,
   ⟨(some 11), none, .take 73⟩])
def p5_5 : AC :=
 (.reg [⟨(some 12), none, .mv (.c .nils)⟩])
def p5_6 : AC :=
 (.seq
  (.reg [⟨(some 13), none, .mv (.c (.int .i64 0))⟩])
  (.block 4
   (.loop
    (.seq
     (.seq
      (.reg [⟨(some 74), none, .mv (.t 13)⟩,
        ⟨(some 75), none, .mv (.t 11)⟩,
        ⟨(some 76), none, .len false (.t 75)⟩,
        ⟨(some 77), none, .bin .lss (.t 74) (.t 76)⟩])
      (.cond (.t 77)
       .skip
       (.exit 4)))
     (.seq
      (.block 5
       (.seq
        (.reg [⟨(some 14), none, .mv (.c (.int .i64 0))⟩])
        (.block 6
         (.loop
          (.seq
           (.seq
            (.reg [⟨(some 80), none, .mv (.t 14)⟩,
              ⟨(some 81), none, .mv (.t 11)⟩,
              ⟨(some 82), none, .mv (.t 13)⟩,
              ⟨(some 83), none, .iaddr 6 (.t 81) (.t 82)⟩,
              ⟨(some 84), none, .faddr (.t 83) 5⟩,
              ⟨(some 85), none, .load none (.t 84)⟩,
              ⟨(some 86), none, .len false (.t 85)⟩,
              ⟨(some 87), none, .bin .lss (.t 80) (.t 86)⟩])
            (.cond (.t 87)
             .skip
             (.exit 6)))
           (.seq
            (.block 7
             (.seq
              (.reg [⟨(some 90), none, .mv (.t 11)⟩,
                ⟨(some 91), none, .mv (.t 13)⟩,
                ⟨(some 92), none, .iaddr 6 (.t 90) (.t 91)⟩,
                ⟨(some 93), none, .faddr (.t 92) 5⟩,
                ⟨(some 94), none, .load none (.t 93)⟩,
                ⟨(some 95), none, .mv (.t 14)⟩,
                ⟨(some 96), none, .iaddr 6 (.t 94) (.t 95)⟩,
                ⟨(some 97), none, .load (some 6) (.t 96)⟩,
                ⟨(some 15), none, .alloc [(.int .i64 0), (.int .i64 0), (.bool false), (.str (ByteArray.mk #[])), (.bool false), (.str (ByteArray.mk #[]))]⟩,
                ⟨none, none, .store 6 (.t 15) (.t 97)⟩])
              (.seq
               (.seq
                (.reg [⟨(some 16), none, .mv (.c (.int .i64 0))⟩])
                (.block 8
                 (.loop
                  (.seq
                   (.seq
                    (.reg [⟨(some 98), none, .mv (.t 16)⟩,
                      ⟨(some 99), none, .mv (.t 12)⟩,
                      ⟨(some 100), none, .len false (.t 99)⟩,
                      ⟨(some 101), none, .bin .lss (.t 98) (.t 100)⟩,
                      ⟨(some 102), none, .take 101⟩,
                      ⟨(some 103), (some (102, true)), .faddr (.t 15) 2⟩,
                      ⟨(some 104), (some (102, true)), .load none (.t 103)⟩,
                      ⟨(some 105), none, .pick (.t 102) (.t 104) (.c (.bool false))⟩])
                    (.cond (.t 105)
                     .skip
                     (.exit 8)))
                   (.seq
                    (.block 9
                     (.seq
                      (.dreg [] [⟨(some 108), none, .mv (.t 12)⟩,
                        ⟨(some 109), none, .mv (.t 16)⟩,
                        ⟨(some 110), none, .iaddr 1 (.t 108) (.t 109)⟩,
                        ⟨(some 111), none, .load none (.t 110)⟩,
                        ⟨(some 112), none, .faddr (.t 15) 3⟩,
                        ⟨(some 113), none, .load none (.t 112)⟩,
                        ⟨(some 114), none, .bin .eql (.t 111) (.t 113)⟩])
                      (.cond (.t 114)
                       (.seq
                        (.reg [⟨(some 6), none, .mv (.c (.bool false))⟩])
                        .ret)
                       .skip)))
                    (.reg [⟨(some 106), none, .take 16⟩,
                      ⟨(some 107), none, .bin .add (.t 106) (.c (.int .i64 1))⟩,
                      ⟨(some 16), none, .take 107⟩]))))))
               (.seq
                (.reg [⟨(some 115), none, .faddr (.t 15) 2⟩,
                  ⟨(some 116), none, .load none (.t 115)⟩])
                (.cond (.t 116)
                 (.reg [⟨(some 117), none, .take 12⟩,
                   ⟨(some 118), none, .faddr (.t 15) 3⟩,
                   ⟨(some 119), none, .load none (.t 118)⟩,
                   ⟨(some 120), none, .bsl 1 1 [(.str (ByteArray.mk #[]))] [(0, (.t 119))]⟩,
                   ⟨(some 121), none, .app 1 16 117 (.t 120)⟩,
                   ⟨(some 12), none, .take 121⟩])
                 .skip)))))
            (.reg [⟨(some 88), none, .take 14⟩,
              ⟨(some 89), none, .bin .add (.t 88) (.c (.int .i64 1))⟩,
              ⟨(some 14), none, .take 89⟩])))))))
      (.reg [⟨(some 78), none, .take 13⟩,
        ⟨(some 79), none, .bin .add (.t 78) (.c (.int .i64 1))⟩,
        ⟨(some 13), none, .take 79⟩]))))))
def p5_7 : AC :=
 .ret
end Go.Proofs.Ytikidcgnbcibpaa

/- Compact: from a raw walk to the layer's pieces, and back. -/


set_option linter.unusedSimpArgs false
set_option linter.unusedVariables false
set_option maxRecDepth 100000
set_option maxHeartbeats 4000000
namespace Go.Proofs.Ytikidcgnbcibpaa
open Go.RowKit
open Go.Av Go.Cp
def g0 (mu : Mem) (w : World) : Gh := { mu := mu, x := fun _ => none, bx := fun _ => none, okx := fun b => b < w.heap.size → Tc.none.ar b, okb := fun b => b < w.heap.size → TB Tc.none b }
theorem slots_of {g : Gh} {w : World} {a : Act} : ∀ {sl : List (Nat × LV)}, (∀ p ∈ sl, RepL g w p.1 p.2 (a.tmps.getD p.1 Go.undef)) → ∀ s, RepL g w s (lk sl s) (a.tmps.getD s Go.undef)
  | [], _, s => .undef _
  | (t, v) :: r, h, s => by
    by_cases e : t = s
    · subst e; rw [lk_cons_same]; exact h (t, v) (by simp)
    · rw [lk_cons_other _ _ e]; exact slots_of (fun p hp => h p (by simp [hp])) s
theorem sim_start {mu : Mem} {w : World} (hm : MemOK mu w) {a : Act} {n : Nat} (hs : a.tmps.size = n) (hd : a.defers = []) {sl : List (Nat × LV)} (h : ∀ p ∈ sl, RepL (g0 mu w) w p.1 p.2 (a.tmps.getD p.1 Go.undef)) :
    Sim w mu Tc.none (g0 mu w) { n := n, sl := sl, bx := [], hp := fun _ => none } a w := by
  constructor
  · exact hs
  · exact hd
  · exact slots_of h
  · intro s c e; simp [lkb] at e
  · intro s s' b e; simp [g0] at e
  · intro b c e; simp at e
  · exact hm
  · intro b j hb _; rfl
  · exact Mem.le_refl _
  · exact Ext.refl _ _
  · rfl
  · intro b p e; simp [g0] at e
  · intro s b e; simp [g0] at e
  · intro s b p e; simp [g0] at e
  · rfl
  · intro s b hb; cases hb
theorem end_true {fn : Func} {rs : List AR} (hr : compRes Try.prog fn.results.toList = some rs) (hnd : (arSlots rs).Nodup) {w0 w3 : World} (hx : Ext (fun _ => False) w0 w3) {mu : Mem} {n : Nat} {e : Exit} {a : Act} {w : World} (hp : Post w3 mu Tc.none n (Done rs (.sv (.bool true))) e a w) : bodyPost Try.prog fn (LawP w0) e a w := by
  have fin : ∀ g' st', Sim w3 mu Tc.none g' st' a w → RvIs st' rs (.sv (.bool true)) → a.defers = [] ∧ ∃ v, (results fn a.tmps).run Try.prog w = .ok v w ∧ LawP w0 (.returned v) w := by
    intro g' st' hs hq
    obtain ⟨us, q1, q2⟩ := ret_rep hs hr hnd hq
    refine ⟨hs.defers, _, results_list fn a.tmps q1, ?_, hx.trans (hs.ext.mono (fun k hk => by rcases hk with ⟨s, hs⟩ | hk; cases hs; exact hk))⟩
    obtain ⟨gx, hrep, _⟩ := q2
    have h : Rep g'.mu (.bool true) _ := hrep
    rw [Rep.inv_bool h]
  cases e with
  | normal => obtain ⟨g', st', q1, q2, q3⟩ := hp; exact fin g' st' q1 q3
  | ret => obtain ⟨g', st', q1, q2, q3⟩ := hp; exact fin g' st' q1 q3
  | exit id => obtain ⟨g', st', q1, q2, q3⟩ := hp; exact q3.elim
  | goto l => exact hp.elim
  | panic ch => exact hp.elim
  | outgrown => exact hp.elim
theorem SW.wk {w0 : World} {mu0 : Mem} {n : Nat} {c : Code} {Q : AEx → St → Prop} {st : St} (st' : St) (hw : Wk st st') (h : SW Try.prog w0 mu0 n c Q st') : SW Try.prog w0 mu0 n c Q st := fun g a w hs hn => h g a w (hs.wk hw) (hw.1.trans hn)
theorem awake_pure : Pure Try.prog 7 [] (.sv (.bool true)) := by
  refine pure_true fun mu w vs hm hr => ?_
  match vs, hr.1 with
  | [], _ => exact awake_raw w
def eP (x : List Rec × List Rec) : List SV := [.sl 6 (RcL x.1), .sl 6 (RcL x.2)]
theorem eP_inj : ∀ a b, eP a = eP b → a = b := fun a b h => by
  obtain ⟨a1, a2⟩ := a
  obtain ⟨b1, b2⟩ := b
  simp [eP] at h
  obtain ⟨h1, h2⟩ := h
  rw [RcL_inj _ _ h1, RcL_inj _ _ h2]
def eU (x : Unit) : List SV := []
noncomputable def RS : Orc := { p := fun f l => match f with
    | 7 => row eU (fun _ => (True, .sv (.bool true))) l
    | 13 => row eP (fun x => (x.1.length ≤ 50000 ∧ x.2.length ≤ 50000, .sv (.bool (decide (partN x.1 0 x.2 = x.1.length))))) l
    | _ => none }
theorem RS_ok : RS.ok Try.prog := by
  refine ⟨fun f l c rv h hc => ?_, fun _ _ _ _ _ _ h => (by cases h), fun _ _ _ _ h => (by cases h), fun _ h => (by cases h), fun _ _ _ _ _ _ h => (by cases h), fun _ _ _ _ _ _ _ h => (by cases h)⟩
  simp only [RS] at h
  split at h
  · exact row_ok h hc (fun _ _ => awake_pure)
  · exact row_ok h hc (fun x hx => part_pure x.1 x.2 hx.1 hx.2)
  · cases h
theorem RS_7 : RS.p 7 [] = some (True, .sv (.bool true)) := row_eq (enc := eU) (fun _ _ _ => rfl) _ ()
theorem RS_13 (x y : List Rec) : RS.p 13 [.sl 6 (RcL x), .sl 6 (RcL y)] = some (x.length ≤ 50000 ∧ y.length ≤ 50000, .sv (.bool (decide (partN x 0 y = x.length)))) := row_eq eP_inj _ (x, y)
theorem RS_13u (v : SV) : RS.p 13 [.undef, v] = none := by
  cases h : RS.p 13 [.undef, v] with
  | none => rfl
  | some y =>
    obtain ⟨a, h1, _⟩ := row_some (show row eP _ _ = some y from h)
    simp [eP] at h1
end Go.Proofs.Ytikidcgnbcibpaa

/- Frames, written out. -/

set_option linter.unusedSimpArgs false
set_option linter.unusedVariables false
set_option maxRecDepth 100000
set_option maxHeartbeats 4000000
namespace Go.Proofs.Ytikidcgnbcibpaa

open Go.Av Go.Cp
/-- What a slot holds. -/
def slotv (a : Act) (k : Nat) : Value := a.tmps.getD k Go.undef
theorem lit_list (t : Array Value) (n : Nat) (h : t.size = n) : t = ((List.range n).map fun k => t.getD k Go.undef).toArray := by
  subst h
  apply Array.ext'
  apply List.ext_getElem
  · simp
  · intro i h1 h2
    simp at h1
    simp [Array.getD_eq_getD_getElem?, h1]
theorem lit210 (a : Act) (h : a.tmps.size = 210) (hd : a.defers = []) : a = { tmps := List.toArray (slotv a 0 :: slotv a 1 :: slotv a 2 :: slotv a 3 :: slotv a 4 :: slotv a 5 :: slotv a 6 :: slotv a 7 :: slotv a 8 :: slotv a 9 :: slotv a 10 :: slotv a 11 :: slotv a 12 :: slotv a 13 :: slotv a 14 :: slotv a 15 :: slotv a 16 :: slotv a 17 :: slotv a 18 :: slotv a 19 :: slotv a 20 :: slotv a 21 :: slotv a 22 :: slotv a 23 :: slotv a 24 :: slotv a 25 :: slotv a 26 :: slotv a 27 :: slotv a 28 :: slotv a 29 :: slotv a 30 :: slotv a 31 :: slotv a 32 :: slotv a 33 :: slotv a 34 :: slotv a 35 :: slotv a 36 :: slotv a 37 :: slotv a 38 :: slotv a 39 :: slotv a 40 :: slotv a 41 :: slotv a 42 :: slotv a 43 :: slotv a 44 :: slotv a 45 :: slotv a 46 :: slotv a 47 :: slotv a 48 :: slotv a 49 :: slotv a 50 :: slotv a 51 :: slotv a 52 :: slotv a 53 :: slotv a 54 :: slotv a 55 :: slotv a 56 :: slotv a 57 :: slotv a 58 :: slotv a 59 :: slotv a 60 :: slotv a 61 :: slotv a 62 :: slotv a 63 :: slotv a 64 :: slotv a 65 :: slotv a 66 :: slotv a 67 :: slotv a 68 :: slotv a 69 :: slotv a 70 :: slotv a 71 :: slotv a 72 :: slotv a 73 :: slotv a 74 :: slotv a 75 :: slotv a 76 :: slotv a 77 :: slotv a 78 :: slotv a 79 :: slotv a 80 :: slotv a 81 :: slotv a 82 :: slotv a 83 :: slotv a 84 :: slotv a 85 :: slotv a 86 :: slotv a 87 :: slotv a 88 :: slotv a 89 :: slotv a 90 :: slotv a 91 :: slotv a 92 :: slotv a 93 :: slotv a 94 :: slotv a 95 :: slotv a 96 :: slotv a 97 :: slotv a 98 :: slotv a 99 :: slotv a 100 :: slotv a 101 :: slotv a 102 :: slotv a 103 :: slotv a 104 :: slotv a 105 :: slotv a 106 :: slotv a 107 :: slotv a 108 :: slotv a 109 :: slotv a 110 :: slotv a 111 :: slotv a 112 :: slotv a 113 :: slotv a 114 :: slotv a 115 :: slotv a 116 :: slotv a 117 :: slotv a 118 :: slotv a 119 :: slotv a 120 :: slotv a 121 :: slotv a 122 :: slotv a 123 :: slotv a 124 :: slotv a 125 :: slotv a 126 :: slotv a 127 :: slotv a 128 :: slotv a 129 :: slotv a 130 :: slotv a 131 :: slotv a 132 :: slotv a 133 :: slotv a 134 :: slotv a 135 :: slotv a 136 :: slotv a 137 :: slotv a 138 :: slotv a 139 :: slotv a 140 :: slotv a 141 :: slotv a 142 :: slotv a 143 :: slotv a 144 :: slotv a 145 :: slotv a 146 :: slotv a 147 :: slotv a 148 :: slotv a 149 :: slotv a 150 :: slotv a 151 :: slotv a 152 :: slotv a 153 :: slotv a 154 :: slotv a 155 :: slotv a 156 :: slotv a 157 :: slotv a 158 :: slotv a 159 :: slotv a 160 :: slotv a 161 :: slotv a 162 :: slotv a 163 :: slotv a 164 :: slotv a 165 :: slotv a 166 :: slotv a 167 :: slotv a 168 :: slotv a 169 :: slotv a 170 :: slotv a 171 :: slotv a 172 :: slotv a 173 :: slotv a 174 :: slotv a 175 :: slotv a 176 :: slotv a 177 :: slotv a 178 :: slotv a 179 :: slotv a 180 :: slotv a 181 :: slotv a 182 :: slotv a 183 :: slotv a 184 :: slotv a 185 :: slotv a 186 :: slotv a 187 :: slotv a 188 :: slotv a 189 :: slotv a 190 :: slotv a 191 :: slotv a 192 :: slotv a 193 :: slotv a 194 :: slotv a 195 :: slotv a 196 :: slotv a 197 :: slotv a 198 :: slotv a 199 :: slotv a 200 :: slotv a 201 :: slotv a 202 :: slotv a 203 :: slotv a 204 :: slotv a 205 :: slotv a 206 :: slotv a 207 :: slotv a 208 :: slotv a 209 :: []), defers := [] } := by
  have h1 := lit_list a.tmps 210 h
  cases a
  simp only at hd h1
  subst hd
  exact congrArg (fun t => ({ tmps := t, defers := [] } : Act)) h1
theorem lit149 (a : Act) (h : a.tmps.size = 149) (hd : a.defers = []) : a = { tmps := List.toArray (slotv a 0 :: slotv a 1 :: slotv a 2 :: slotv a 3 :: slotv a 4 :: slotv a 5 :: slotv a 6 :: slotv a 7 :: slotv a 8 :: slotv a 9 :: slotv a 10 :: slotv a 11 :: slotv a 12 :: slotv a 13 :: slotv a 14 :: slotv a 15 :: slotv a 16 :: slotv a 17 :: slotv a 18 :: slotv a 19 :: slotv a 20 :: slotv a 21 :: slotv a 22 :: slotv a 23 :: slotv a 24 :: slotv a 25 :: slotv a 26 :: slotv a 27 :: slotv a 28 :: slotv a 29 :: slotv a 30 :: slotv a 31 :: slotv a 32 :: slotv a 33 :: slotv a 34 :: slotv a 35 :: slotv a 36 :: slotv a 37 :: slotv a 38 :: slotv a 39 :: slotv a 40 :: slotv a 41 :: slotv a 42 :: slotv a 43 :: slotv a 44 :: slotv a 45 :: slotv a 46 :: slotv a 47 :: slotv a 48 :: slotv a 49 :: slotv a 50 :: slotv a 51 :: slotv a 52 :: slotv a 53 :: slotv a 54 :: slotv a 55 :: slotv a 56 :: slotv a 57 :: slotv a 58 :: slotv a 59 :: slotv a 60 :: slotv a 61 :: slotv a 62 :: slotv a 63 :: slotv a 64 :: slotv a 65 :: slotv a 66 :: slotv a 67 :: slotv a 68 :: slotv a 69 :: slotv a 70 :: slotv a 71 :: slotv a 72 :: slotv a 73 :: slotv a 74 :: slotv a 75 :: slotv a 76 :: slotv a 77 :: slotv a 78 :: slotv a 79 :: slotv a 80 :: slotv a 81 :: slotv a 82 :: slotv a 83 :: slotv a 84 :: slotv a 85 :: slotv a 86 :: slotv a 87 :: slotv a 88 :: slotv a 89 :: slotv a 90 :: slotv a 91 :: slotv a 92 :: slotv a 93 :: slotv a 94 :: slotv a 95 :: slotv a 96 :: slotv a 97 :: slotv a 98 :: slotv a 99 :: slotv a 100 :: slotv a 101 :: slotv a 102 :: slotv a 103 :: slotv a 104 :: slotv a 105 :: slotv a 106 :: slotv a 107 :: slotv a 108 :: slotv a 109 :: slotv a 110 :: slotv a 111 :: slotv a 112 :: slotv a 113 :: slotv a 114 :: slotv a 115 :: slotv a 116 :: slotv a 117 :: slotv a 118 :: slotv a 119 :: slotv a 120 :: slotv a 121 :: slotv a 122 :: slotv a 123 :: slotv a 124 :: slotv a 125 :: slotv a 126 :: slotv a 127 :: slotv a 128 :: slotv a 129 :: slotv a 130 :: slotv a 131 :: slotv a 132 :: slotv a 133 :: slotv a 134 :: slotv a 135 :: slotv a 136 :: slotv a 137 :: slotv a 138 :: slotv a 139 :: slotv a 140 :: slotv a 141 :: slotv a 142 :: slotv a 143 :: slotv a 144 :: slotv a 145 :: slotv a 146 :: slotv a 147 :: slotv a 148 :: []), defers := [] } := by
  have h1 := lit_list a.tmps 149 h
  cases a
  simp only at hd h1
  subst hd
  exact congrArg (fun t => ({ tmps := t, defers := [] } : Act)) h1
theorem bat_at {mu : Mem} {w : World} (hm : MemOK mu w) {l : List Bat} {p : Option Addr} {n c : Nat} (h : Rep mu (.sl 6 (BtL l)) (.slice p n c)) {i : Nat} (hi : i < l.length) : ∃ b o rp rc, p = some ⟨b, o, none⟩ ∧ BatW w b (o + i * 6) (l.getD i bat0) rp rc ∧ Rep mu (.sl 6 (RcL (l.getD i bat0).rs)) (.slice rp (l.getD i bat0).rs.length rc) := by
  rcases h.inv_sl with ⟨⟨pp, cap, e, hp⟩, hx⟩ | ⟨b, off, cap, vals, e, h1, h2, h3, h4⟩
  · have : l = [] := by simpa [BtL] using hx
    subst this
    simp at hi
  · cases e
    have hg : (BtL l).getD i .undef = (l.getD i bat0).sv := by simp [BtL, List.getD_eq_getElem?_getD, hi]
    have hc : ∀ j, j < 6 → ∃ v, w.cell? ⟨b, off + i * 6 + j, none⟩ = some v ∧ Rep mu ((l.getD i bat0).sv.cell j) v := fun j hj => by
      have k1 := h3 i j (by simpa using hi) hj
      have k2 := h4 i j (by simpa using hi) hj
      rw [hg] at k2
      exact ⟨_, (hm _ _ _ k1).1, k2⟩
    obtain ⟨v0, c0, r0⟩ := hc 0 (by omega)
    obtain ⟨v1, c1, r1⟩ := hc 1 (by omega)
    obtain ⟨v2, c2, r2⟩ := hc 2 (by omega)
    obtain ⟨v3, c3, r3⟩ := hc 3 (by omega)
    obtain ⟨v4, c4, r4⟩ := hc 4 (by omega)
    obtain ⟨v5, c5, r5⟩ := hc 5 (by omega)
    generalize l.getD i bat0 = r at r0 r1 r2 r3 r4 r5
    have e0 : v0 = .int .i64 r.ba := Rep.inv_int r0
    have e1 : v1 = .int .i64 r.co := Rep.inv_int r1
    have e2 : v2 = .int .i64 r.pr := Rep.inv_int r2
    have e3 : v3 = .int .i64 r.ep := Rep.inv_int r3
    have e4 : v4 = .int .i64 r.sq := Rep.inv_int r4
    have r5' : Rep mu (.sl 6 (RcL r.rs)) v5 := r5
    obtain ⟨rp, rc, e5⟩ := sl_shape r5'
    rw [RcL_length] at e5
    subst e0 e1 e2 e3 e4 e5
    exact ⟨b, off, rp, rc, rfl, ⟨c0, c1, c2, c3, c4, c5⟩, r5'⟩
theorem le_all {mu : Mem} {w : World} (h : MemOK mu w) : mu.le (memAll w) := fun b j v e => memAll_get (h b j v e).1 (h b j v e).2
theorem map_inv {mu : Mem} {b : Nat} {v : Value} (h : Rep mu (.map b) v) : v = .map (some b) := by cases h; rfl
/-- A box's cells. -/
theorem box_cell {g : Gh} {w : World} {s b : Nat} {cells : List RV} (h : BoxAt g w s b cells) {j : Nat} (hj : j < cells.length) : ∃ v, w.cell? ⟨b, j, none⟩ = some v ∧ RepR g w (.cell s j) (cells.getD j (.sv .undef)) v := by
  obtain ⟨_, _, _, c, e, fr, h1, _, h2, h3⟩ := h
  refine ⟨_, ?_, h3 j hj⟩
  rw [cell_of_block h1]
  simp [Array.getD_eq_getD_getElem?, h2, hj]
end Go.Proofs.Ytikidcgnbcibpaa
