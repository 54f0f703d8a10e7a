import Derived.Test.YtmfkliabjfngmaaHgK
import Derived.Test.YtmfkliabjfngmaaMGaB
import Derived.Test.YtmfkliabjfngmaaAvAD
import Derived.KernelRfl

set_option linter.unusedVariables false
set_option linter.unusedSimpArgs false

/- Group: what the program and the document answer is alike. -/

set_option linter.unusedSimpArgs false
set_option linter.unusedVariables false
set_option maxHeartbeats 4000000
namespace Go.Proofs.Ytmfkliabjfngmaa

open Go.Av

theorem chk0 {g : Grp} (h : chkG g = 0) : g.ms.length ≤ 16 ∧ timeB g.ge = true ∧ g.ph = phaseP g.ms ∧ badM g.ms = false := by
  unfold chkG at h
  split at h
  · cases h
  · rename_i q
    refine ⟨?_, ?_, ?_, ?_⟩
    · exact Nat.le_of_not_lt fun z => q (.inl z)
    · cases t : timeB g.ge with
      | true => rfl
      | false => exact absurd (.inr (.inl t)) q
    · exact Classical.byContradiction fun z => q (.inr (.inr (.inl z)))
    · cases t : badM g.ms with
      | false => rfl
      | true => exact absurd (.inr (.inr (.inr t))) q
theorem chk4 {g : Grp} (h : chkG g ≠ 0) : chkG g = 4 := (chk_or g).resolve_left h
/-- Two answers are alike: the same error, and, if there is none, the same group. -/
def Alike (x y : Grp × Int) : Prop := x.2 = y.2 ∧ (y.2 = 0 → x.1 = y.1)
theorem alike_of {x y : Grp × Int} (h : x = y) : Alike x y := by subst h; exact ⟨by rfl, fun _ => by rfl⟩
theorem alike_err {g h : Grp} {n : Int} (hn : n ≠ 0) : Alike (g, n) (h, n) := ⟨by rfl, fun q => absurd q hn⟩
theorem any_set_sy (l : List Mb) (i : Nat) (m : Mb) (h : m.sy = (l.getD i mb0).sy) : (l.set i m).any (fun m => !m.sy) = l.any (fun m => !m.sy) := by
  by_cases hi : i < l.length
  · have e : (l.set i m).map Mb.sy = l.map Mb.sy := by
      rw [List.map_set, h]
      refine List.ext_getElem (by simp) fun j h1 h2 => ?_
      rw [List.getElem_set]
      split
      · rename_i q; subst q
        simp [List.getD_eq_getElem?_getD, List.getElem?_eq_getElem hi]
      · rfl
    have e2 : ∀ k : List Mb, k.any (fun m => !m.sy) = (k.map Mb.sy).any (fun b => !b) := fun k => by rw [List.any_map]; rfl
    rw [e2, e2, e]
  · rw [List.set_eq_of_length_le (by omega)]
theorem set_nil (l : List Mb) (i : Nat) (m : Mb) : (l.set i m = []) ↔ l = [] := by
  constructor
  · intro h
    have := congrArg List.length h
    simpa using this
  · rintro rfl; rfl
theorem phase_set_sy (l : List Mb) (i : Nat) (m : Mb) (h : m.sy = (l.getD i mb0).sy) : phaseP (l.set i m) = phaseP l := by
  unfold phaseP
  rw [any_set_sy l i m h]
  simp only [set_nil]
theorem seen_false (g : Grp) (h : chkG g = 0) (i : Nat) (now : Int) : seenG false g i now = ⟨g.ge, g.ph, g.ms.set i ⟨(g.ms.getD i mb0).id, max (g.ms.getD i mb0).sn now, (g.ms.getD i mb0).sy⟩⟩ := by
  have e : seenM false now (g.ms.getD i mb0) = ⟨(g.ms.getD i mb0).id, max (g.ms.getD i mb0).sn now, (g.ms.getD i mb0).sy⟩ := by simp [seenM]
  have e2 := phase_set_sy g.ms i ⟨(g.ms.getD i mb0).id, max (g.ms.getD i mb0).sn now, (g.ms.getD i mb0).sy⟩ (by rfl)
  rw [seenG, e, e2, (chk0 h).2.2.1]
theorem insM_ne (l : List Mb) (i : Nat) (m : Mb) : insM l i m ≠ [] := by simp [insM]
theorem turn_eq (g : Grp) (l : List Mb) : turnG g l = ⟨IntKind.i64.wrap (g.ge + 1), phaseP (offM l), offM l⟩ := by rw [turnG, off_phase]
theorem join_alike (g : Grp) (id : ByteArray) (now : Int) : Alike (joinG g id now) (rjoinG g id now) := by
  unfold joinG rjoinG
  by_cases h : chkG g = 0
  · have hn : ¬ (chkG g ≠ 0) := by simpa using h
    rw [if_neg hn, if_neg hn]
    by_cases h1 : nameB id = false
    · rw [if_pos h1, if_pos h1]; exact alike_err (by decide)
    rw [if_neg h1, if_neg h1]
    by_cases h2 : timeB now = false
    · rw [if_pos h2, if_pos h2]; exact alike_err (by decide)
    rw [if_neg h2, if_neg h2]
    by_cases h3 : 0 ≤ placeP id g.ms
    · rw [if_pos h3, if_pos h3, seen_false g h]; exact alike_of rfl
    rw [if_neg h3, if_neg h3]
    by_cases h4 : 16 ≤ g.ms.length
    · rw [if_pos h4, if_pos h4]; exact alike_err (by decide)
    rw [if_neg h4, if_neg h4]
    by_cases h5 : 1099511627776 ≤ g.ge
    · rw [if_pos h5, if_pos h5]; exact alike_err (by decide)
    rw [if_neg h5, if_neg h5, turn_eq]; exact alike_of rfl
  · rw [if_pos h, if_pos h, chk4 h]
    exact alike_err (by decide)
theorem beat_alike (g : Grp) (id : ByteArray) (gen now : Int) : Alike (beatG false g id gen now) (rbeatG g id gen now) := by
  unfold beatG rbeatG
  by_cases h : chkG g = 0
  · have hn : ¬ (chkG g ≠ 0) := by simpa using h
    rw [if_neg hn, if_neg hn]
    by_cases h2 : timeB now = false
    · rw [if_pos h2, if_pos h2]; exact alike_err (by decide)
    rw [if_neg h2, if_neg h2]
    by_cases h3 : placeP id g.ms < 0
    · rw [if_pos h3, if_pos h3]; exact alike_err (by decide)
    rw [if_neg h3, if_neg h3]
    by_cases h4 : gen ≠ g.ge
    · rw [if_pos h4, if_pos h4]; exact alike_err (by decide)
    rw [if_neg h4, if_neg h4, seen_false g h]; exact alike_of rfl
  · rw [if_pos h, if_pos h, chk4 h]
    exact alike_err (by decide)
theorem leave_alike (g : Grp) (id : ByteArray) : Alike (leaveG g id) (rleaveG g id) := by
  unfold leaveG rleaveG
  by_cases h : chkG g = 0
  · have hn : ¬ (chkG g ≠ 0) := by simpa using h
    rw [if_neg hn, if_neg hn]
    by_cases h3 : placeP id g.ms < 0
    · rw [if_pos h3, if_pos h3]; exact alike_err (by decide)
    rw [if_neg h3, if_neg h3]
    by_cases h5 : 1099511627776 ≤ g.ge
    · rw [if_pos h5, if_pos h5]; exact alike_err (by decide)
    rw [if_neg h5, if_neg h5, turn_eq]; exact alike_of rfl
  · rw [if_pos h, if_pos h, chk4 h]
    exact alike_err (by decide)
theorem tick_alike (g : Grp) (now pat : Int) : tickG g now pat = rtickG g now pat := by
  unfold tickG rtickG
  by_cases h : chkG g ≠ 0 ∨ 1099511627776 ≤ g.ge
  · rw [if_pos h, if_pos (by rcases h with h | h; exact .inl h; exact .inr (.inl h))]
  · rw [if_neg h]
    by_cases hn : now < 0
    · rw [if_pos (.inr (.inr hn)), if_pos]
      rw [List.filter_eq_self.2]
      intro m _
      simp [keepM, hn]
    · have e : (g.ms.filter fun m => !lateM now pat m) = g.ms.filter (keepM now pat) := by
        congr 1
        funext m
        simp only [keepM, lateM, hn, decide_false, Bool.false_or]
        by_cases q : IntKind.i64.wrap (now - m.sn) ≤ max 0 pat
        · have q2 : ¬ max 0 pat < IntKind.i64.wrap (now - m.sn) := by omega
          simp only [q, q2, decide_true, decide_false, Bool.not_false]
        · have q2 : max 0 pat < IntKind.i64.wrap (now - m.sn) := by omega
          simp only [q, q2, decide_true, decide_false, Bool.not_true]
      rw [if_neg (by rintro (q | q | q); exact h (.inl q); exact h (.inr q); exact hn q), e, turn_eq]
theorem ids_set' (l : List Mb) (i : Nat) (m : Mb) (h : m.id = (l.getD i mb0).id) : (l.set i m).map Mb.id = l.map Mb.id := by
  by_cases hi : i < l.length
  · exact ids_set l i m h hi
  · rw [List.set_eq_of_length_le (by omega)]
theorem place_set (id : ByteArray) (l : List Mb) (i : Nat) (m : Mb) (h : m.id = (l.getD i mb0).id) : placeP id (l.set i m) = placeP id l := idx_ids id _ _ 0 (ids_set' l i m h)
theorem getD_set_self (l : List Mb) (i : Nat) (m : Mb) (h : i < l.length) : (l.set i m).getD i mb0 = m := by
  rw [List.getD_eq_getElem?_getD, List.getElem?_set_self h]; rfl
/-- What Sync leaves. -/
theorem sync_alike (g : Grp) (id : ByteArray) (gen parts now : Int) : (syncG g id gen parts now).2.2 = (rsyncG g id gen parts now).2.2 ∧ ((rsyncG g id gen parts now).2.2 = 0 → (syncG g id gen parts now).1 = (rsyncG g id gen parts now).1) ∧ (syncG g id gen parts now).2.1 = (rsyncG g id gen parts now).2.1 := by
  unfold syncG rsyncG
  by_cases h : chkG g = 0
  · by_cases ht : timeB now = false
    · have e1 : beatG true g id gen now = (grp0, 11) := by rw [beatG, if_neg (by simpa using h), if_pos ht]
      have e2 : rbeatG g id gen now = (g, 11) := by rw [rbeatG, if_neg (by simpa using h), if_pos ht]
      rw [e1, e2]
      exact ⟨rfl, fun q => absurd q (by simp), rfl⟩
    · by_cases hp : placeP id g.ms < 0
      · have e1 : beatG true g id gen now = (grp0, 20) := by rw [beatG, if_neg (by simpa using h), if_neg ht, if_pos hp]
        have e2 : rbeatG g id gen now = (g, 20) := by rw [rbeatG, if_neg (by simpa using h), if_neg ht, if_pos hp]
        rw [e1, e2]
        exact ⟨rfl, fun q => absurd q (by simp), rfl⟩
      · by_cases hg : gen = g.ge
        · have e1 : beatG true g id gen now = (seenG true g (placeP id g.ms).toNat now, 0) := by rw [beatG, if_neg (by simpa using h), if_neg ht, if_neg hp, if_neg (by simpa using hg)]
          have e2 : rbeatG g id gen now = (⟨g.ge, g.ph, g.ms.set (placeP id g.ms).toNat ⟨(g.ms.getD (placeP id g.ms).toNat mb0).id, max (g.ms.getD (placeP id g.ms).toNat mb0).sn now, (g.ms.getD (placeP id g.ms).toNat mb0).sy⟩⟩, 0) := by rw [rbeatG, if_neg (by simpa using h), if_neg ht, if_neg hp, if_neg (by simpa using hg)]
          rw [e1, e2]
          have hpr := place_range id g.ms
          have hpe : ∀ m : Mb, m.id = (g.ms.getD (placeP id g.ms).toNat mb0).id → placeP id (g.ms.set (placeP id g.ms).toNat m) = placeP id g.ms := fun m hm => place_set id g.ms _ m hm
          obtain ⟨i, hi⟩ : ∃ i : Nat, placeP id g.ms = i := ⟨(placeP id g.ms).toNat, by omega⟩
          rw [hi] at hpr hpe
          have hil : i < g.ms.length := by omega
          have hti : ((i : Nat) : Int).toNat = i := by omega
          have hph := (chk0 h).2.2.1
          simp only [hi, hti] at hpe ⊢
          have e3 : onM (g.ms.set i ⟨(g.ms.getD i mb0).id, max (g.ms.getD i mb0).sn now, (g.ms.getD i mb0).sy⟩) i = g.ms.set i (seenM true now (g.ms.getD i mb0)) := by
            rw [onM, getD_set_self _ _ _ hil, List.set_set]
            simp [seenM]
          have hp2 := hpe ⟨(g.ms.getD i mb0).id, max (g.ms.getD i mb0).sn now, (g.ms.getD i mb0).sy⟩ rfl
          simp only [hp2, hti, e3]
          refine ⟨rfl, fun _ => ?_, rfl⟩
          simp only [seenG, ne_eq, not_true, if_false]
          have hne : g.ms ≠ [] := by rintro q; rw [q] at hil; simp at hil
          have key : phaseP (g.ms.set i (seenM true now (g.ms.getD i mb0))) = if synP (g.ms.set i (seenM true now (g.ms.getD i mb0))) = true then 2 else g.ph := by
            have hn2 : ¬ (g.ms.set i (seenM true now (g.ms.getD i mb0)) = []) := by rw [set_nil]; exact hne
            have hlen : 0 < (g.ms.set i (seenM true now (g.ms.getD i mb0))).length := by simp; omega
            have hsyn : synP (g.ms.set i (seenM true now (g.ms.getD i mb0))) = !(g.ms.set i (seenM true now (g.ms.getD i mb0))).any (fun m => !m.sy) := by
              rw [synP, decide_eq_true hlen, Bool.and_true, List.all_eq_not_any_not]
            rw [phaseP, if_neg hn2, hsyn]
            cases q : (g.ms.set i (seenM true now (g.ms.getD i mb0))).any (fun m => !m.sy) with
            | false => simp
            | true =>
              simp only [if_true, Bool.not_true, Bool.false_eq_true, if_false]
              rw [hph, phaseP, if_neg hne, if_pos]
              obtain ⟨m, hm, hs⟩ := List.any_eq_true.1 q
              rw [List.any_eq_true]
              rcases List.mem_or_eq_of_mem_set hm with hm | rfl
              · exact ⟨m, hm, hs⟩
              · simp [seenM] at hs
          rw [key]
        · have e1 : beatG true g id gen now = (grp0, 19) := by rw [beatG, if_neg (by simpa using h), if_neg ht, if_neg hp, if_pos hg]
          have e2 : rbeatG g id gen now = (g, 19) := by rw [rbeatG, if_neg (by simpa using h), if_neg ht, if_neg hp, if_pos hg]
          rw [e1, e2]
          exact ⟨rfl, fun q => absurd q (by simp), rfl⟩
  · have e1 : beatG true g id gen now = (grp0, 4) := by rw [beatG, if_pos h, chk4 h]
    have e2 : rbeatG g id gen now = (g, 4) := by rw [rbeatG, if_pos h]
    rw [e1, e2]
    exact ⟨rfl, fun q => absurd q (by simp), rfl⟩
end Go.Proofs.Ytmfkliabjfngmaa

/- Group: one oracle for the laws; do. -/

set_option linter.unusedSimpArgs false
set_option linter.unusedVariables false
set_option maxHeartbeats 8000000
set_option maxRecDepth 100000
namespace Go.Proofs.Ytmfkliabjfngmaa

open Go.Av

/-- A call. -/
structure Ac where
  k : Int
  id : ByteArray
  gen : Int
  parts : Int
  now : Int
def Ac.cells (a : Ac) : List SV := [.int .u8 a.k, .str a.id, .int .i64 a.gen, .int .i64 a.parts, .int .i64 a.now]
def Ac.sv (a : Ac) : SV := .agg a.cells
theorem Ac.sv_inj (a b : Ac) (h : a.sv = b.sv) : a = b := by
  cases a; cases b
  simp [Ac.sv, Ac.cells] at h
  simp [h.1, h.2.1, h.2.2.1, h.2.2.2.1, h.2.2.2.2]
def ac0 : Ac := ⟨0, ⟨#[]⟩, 0, 0, 0⟩
def gE (r : Grp × Int) : LV := .tup [.sv r.1.sv, .sv (.int .i64 r.2)]
def gLE (r : Grp × List Int × Int) : LV := .tup [.sv r.1.sv, .sv (.sl 1 (IL r.2.1)), .sv (.int .i64 r.2.2)]
def eGSI (p : Grp × ByteArray × Int) : List SV := [p.1.sv, .str p.2.1, .int .i64 p.2.2]
theorem eGSI_inj (a b : Grp × ByteArray × Int) (h : eGSI a = eGSI b) : a = b := by simp [eGSI] at h; exact Prod.ext (Grp.sv_inj _ _ h.1) (Prod.ext h.2.1 h.2.2)
def eGSII (p : Grp × ByteArray × Int × Int) : List SV := [p.1.sv, .str p.2.1, .int .i64 p.2.2.1, .int .i64 p.2.2.2]
theorem eGSII_inj (a b : Grp × ByteArray × Int × Int) (h : eGSII a = eGSII b) : a = b := by simp [eGSII] at h; exact Prod.ext (Grp.sv_inj _ _ h.1) (Prod.ext h.2.1 (Prod.ext h.2.2.1 h.2.2.2))
def eGSIII (p : Grp × ByteArray × Int × Int × Int) : List SV := [p.1.sv, .str p.2.1, .int .i64 p.2.2.1, .int .i64 p.2.2.2.1, .int .i64 p.2.2.2.2]
theorem eGSIII_inj (a b : Grp × ByteArray × Int × Int × Int) (h : eGSIII a = eGSIII b) : a = b := by simp [eGSIII] at h; exact Prod.ext (Grp.sv_inj _ _ h.1) (Prod.ext h.2.1 (Prod.ext h.2.2.1 (Prod.ext h.2.2.2.1 h.2.2.2.2)))
def eGII (p : Grp × Int × Int) : List SV := [p.1.sv, .int .i64 p.2.1, .int .i64 p.2.2]
theorem eGII_inj (a b : Grp × Int × Int) (h : eGII a = eGII b) : a = b := by simp [eGII] at h; exact Prod.ext (Grp.sv_inj _ _ h.1) (Prod.ext h.2.1 h.2.2)
def eGG (p : Grp × Grp) : List SV := [p.1.sv, p.2.sv]
theorem eGG_inj (a b : Grp × Grp) (h : eGG a = eGG b) : a = b := by simp [eGG] at h; exact Prod.ext (Grp.sv_inj _ _ h.1) (Grp.sv_inj _ _ h.2)
def nrc : SV → SV
  | .nils => .sl 3 []
  | c => c
def nrm : SV → SV
  | .agg l => .agg (l.map nrc)
  | v => v
theorem nrc_rep {mu : Mem} {x : SV} {v : Value} (h : Rep mu x v) : Rep mu (nrc x) v := by
  cases x <;> try exact h
  rw [h.inv_nils]
  exact .slnil 3
theorem nrm_rep {mu : Mem} {x : SV} {v : Value} (h : Rep mu x v) : Rep mu (nrm x) v := by
  cases x <;> try exact h
  rename_i l
  cases h with
  | agg cs vs h1 h2 =>
    refine .agg _ vs (by simpa using h1) (fun j hj => ?_)
    have hj' : j < l.length := by simpa using hj
    have e : (l.map nrc).getD j .undef = nrc (l.getD j .undef) := by simp [List.getD_eq_getElem?_getD, hj']
    rw [e]
    exact nrc_rep (h2 j hj')
theorem pure_nrm {P : Program} {f : FuncId} {rv : LV} {l : List SV} (p : Pure P f (l.map nrm) rv) : Pure P f l rv := fun mu w vs hm hr =>
  p mu w vs hm ⟨by simpa using hr.1, fun j hj => by
    have hj' : j < l.length := by simpa using hj
    have e : (l.map nrm).getD j .undef = nrm (l.getD j .undef) := by simp [List.getD_eq_getElem?_getD, hj']
    rw [e]
    exact nrm_rep (hr.2 j hj')⟩
noncomputable def rowN {α : Type} (enc : α → List SV) (F : α → Prop × LV) (l : List SV) : Option (Prop × LV) := row enc F (l.map nrm)
theorem rowN_ok {P : Program} {α : Type} {enc : α → List SV} {F : α → Prop × LV} {f : FuncId} {l : List SV} {c : Prop} {rv : LV} (h : rowN enc F l = some (c, rv)) (hc : c) (hp : ∀ a, (F a).1 → Pure P f (enc a) (F a).2) : Pure P f l rv :=
  pure_nrm (row_ok h hc hp)
theorem rowN_eq {α : Type} {enc : α → List SV} (hinj : ∀ a b, enc a = enc b → a = b) (F : α → Prop × LV) (a : α) {l : List SV} (h : l.map nrm = enc a) : rowN enc F l = some (F a) := by
  unfold rowN
  rw [h]
  exact row_eq hinj F a

noncomputable def RgKp (f : FuncId) (l : List SV) : Option (Prop × LV) :=
  match f with
  | 19 => row eIL2 (fun p => (p.1.length < 4611686018427387904, .sv (.bool (decide (p.1 = p.2))))) l
  | 23 => row (fun g : Grp => [g.sv]) (fun g => (True, .sv (.bool (lightG g)))) l
  | 24 => row (fun _ : Unit => []) (fun _ => (Pure Try.prog 24 [] (.sv (.bool true)), .sv (.bool true))) l
  | 25 => row (fun g : Grp => [g.sv]) (fun g => (g.ms.length ≤ 1000, .sv g.sv)) l
  | 27 => row eGG (fun p => (p.1.ms.length < 4611686018427387904, .sv (.bool (sameG p.1 p.2)))) l
  | 28 => row (fun g : Grp => [g.sv]) (fun g => (g.ms.length ≤ 1000, .sv g.sv)) l
  | 29 => rowN eGSI (fun p => (p.1.ms.length ≤ 999, gE (joinG p.1 p.2.1 p.2.2))) l
  | 44 => row eGSI (fun p => (p.1.ms.length ≤ 1000 ∧ 0 ≤ p.1.ph, gE (rjoinG p.1 p.2.1 p.2.2))) l
  | 30 => row eGSIII (fun p => (p.1.ms.length ≤ 1000, gLE (syncG p.1 p.2.1 p.2.2.1 p.2.2.2.1 p.2.2.2.2))) l
  | 45 => row eGSIII (fun p => (p.1.ms.length ≤ 1000 ∧ 0 ≤ p.1.ph, gLE (rsyncG p.1 p.2.1 p.2.2.1 p.2.2.2.1 p.2.2.2.2))) l
  | 31 => row eGSII (fun p => (p.1.ms.length ≤ 1000, gE (beatG false p.1 p.2.1 p.2.2.1 p.2.2.2))) l
  | 46 => row eGSII (fun p => (p.1.ms.length ≤ 1000 ∧ 0 ≤ p.1.ph, gE (rbeatG p.1 p.2.1 p.2.2.1 p.2.2.2))) l
  | 32 => row eGS (fun p => (p.1.ms.length ≤ 1000, gE (leaveG p.1 p.2))) l
  | 47 => row eGS (fun p => (p.1.ms.length ≤ 1000 ∧ 0 ≤ p.1.ph, gE (rleaveG p.1 p.2))) l
  | 33 => row eGII (fun p => (p.1.ms.length ≤ 1000, .sv (tickG p.1 p.2.1 p.2.2).sv)) l
  | 48 => row eGII (fun p => (p.1.ms.length ≤ 1000 ∧ 0 ≤ p.1.ph, .sv (rtickG p.1 p.2.1 p.2.2).sv)) l
  | 34 => row (fun g : Grp => [g.sv]) (fun g => (g.ms.length < 4611686018427387904, .sv (.int .i64 (chkG g)))) l
  | 35 => row (fun g : Grp => [g.sv]) (fun g => (g.ms.length ≤ 1000, .own 1 (TL (namesP g.ms)))) l
  | 36 => row eGS (fun p => (p.1.ms.length ≤ 1000, .tup [.sv (findG p.1 p.2).1.sv, .sv (.bool (findG p.1 p.2).2)])) l
  | 43 => row eGG (fun p => (p.1.ms.length < 4611686018427387904, .sv (.bool (sameG p.1 p.2)))) l
  | _ => none
noncomputable def RgK : Orc := { p := RgKp }
theorem RgK_ok : RgK.ok Try.prog := by
  refine ⟨fun f l c rv h hc => ?_, fun _ _ _ _ _ _ h => (by cases h), fun _ _ _ _ h => (by cases h), fun _ h => (by cases h), fun _ _ _ _ _ _ h => (by cases h), fun _ _ _ _ _ _ _ h => (by cases h)⟩
  change RgKp f l = _ at h
  unfold RgKp at h
  split at h
  · exact row_ok h hc (fun x hp => sameOne x.1 x.2 hp)
  · exact row_ok h hc (fun x hp => light_grp x)
  · exact row_ok h hc (fun x hp => hp)
  · exact row_ok h hc (fun x hp => own_pure x hp)
  · exact row_ok h hc (fun x hp => rsame_grp x.1 x.2 hp)
  · exact row_ok h hc (fun x hp => as_pure x hp)
  · exact rowN_ok h hc (fun x hp => join_pure x.1 x.2.1 x.2.2 hp)
  · exact row_ok h hc (fun x hp => rjoin44 x.1 x.2.1 x.2.2 hp.1 hp.2)
  · exact row_ok h hc (fun x hp => sync_pure x.1 x.2.1 x.2.2.1 x.2.2.2.1 x.2.2.2.2 hp)
  · exact row_ok h hc (fun x hp => rsync_pure x.1 x.2.1 x.2.2.1 x.2.2.2.1 x.2.2.2.2 hp.1 hp.2)
  · exact row_ok h hc (fun x hp => beat31 x.1 x.2.1 x.2.2.1 x.2.2.2 hp)
  · exact row_ok h hc (fun x hp => rbeat46 x.1 x.2.1 x.2.2.1 x.2.2.2 hp.1 hp.2)
  · exact row_ok h hc (fun x hp => leave_pure x.1 x.2 hp)
  · exact row_ok h hc (fun x hp => rleave47 x.1 x.2 hp.1 hp.2)
  · exact row_ok h hc (fun x hp => tick_pure x.1 x.2.1 x.2.2 hp)
  · exact row_ok h hc (fun x hp => rtick48 x.1 x.2.1 x.2.2 hp.1 hp.2)
  · exact row_ok h hc (fun x hp => chk_pure x hp)
  · exact row_ok h hc (fun x hp => names_pure x hp)
  · exact row_ok h hc (fun x hp => find_pure x.1 x.2 hp)
  · exact row_ok h hc (fun x hp => same_grp x.1 x.2 hp)
  · cases h
/-- A group as the layer shows it. -/
abbrev gs (g : Grp) : SV := .agg [.int .i64 g.ge, .int .u8 g.ph, .sl 3 (ML g.ms)]
theorem RgK_19 (a b : List Int) : RgK.p 19 [.sl 1 (IL a), .sl 1 (IL b)] = some (a.length < 4611686018427387904, .sv (.bool (decide (a = b)))) := row_eq eIL2_inj _ (a, b)
theorem RgK_23 (g : Grp) : RgK.p 23 [gs g] = some (True, .sv (.bool (lightG g))) := row_eq (enc := fun g : Grp => [g.sv]) eG_inj _ g
theorem RgK_24 : RgK.p 24 [] = some (Pure Try.prog 24 [] (.sv (.bool true)), .sv (.bool true)) := row_eq (enc := fun _ : Unit => ([] : List SV)) (fun _ _ _ => rfl) _ ()
theorem RgK_25 (g : Grp) : RgK.p 25 [gs g] = some (g.ms.length ≤ 1000, .sv (gs g)) := row_eq (enc := fun g : Grp => [g.sv]) eG_inj _ g
theorem RgK_27 (g h : Grp) : RgK.p 27 [gs g, gs h] = some (g.ms.length < 4611686018427387904, .sv (.bool (sameG g h))) := row_eq eGG_inj _ (g, h)
theorem RgK_28 (g : Grp) : RgK.p 28 [gs g] = some (g.ms.length ≤ 1000, .sv (gs g)) := row_eq (enc := fun g : Grp => [g.sv]) eG_inj _ g
theorem RgK_29 (g : Grp) (s : ByteArray) (n : Int) : RgK.p 29 [gs g, .str s, .int .i64 n] = some (g.ms.length ≤ 999, .tup [.sv (gs (joinG g s n).1), .sv (.int .i64 (joinG g s n).2)]) := rowN_eq eGSI_inj _ (g, s, n) rfl
theorem RgK_29n (s : ByteArray) (n : Int) : RgK.p 29 [.agg [.int .i64 0, .int .u8 0, .nils], .str s, .int .i64 n] = some (grp0.ms.length ≤ 999, .tup [.sv (gs (joinG grp0 s n).1), .sv (.int .i64 (joinG grp0 s n).2)]) := rowN_eq eGSI_inj _ (grp0, s, n) rfl
theorem RgK_44 (g : Grp) (s : ByteArray) (n : Int) : RgK.p 44 [gs g, .str s, .int .i64 n] = some (g.ms.length ≤ 1000 ∧ 0 ≤ g.ph, .tup [.sv (gs (rjoinG g s n).1), .sv (.int .i64 (rjoinG g s n).2)]) := row_eq eGSI_inj _ (g, s, n)
theorem RgK_30 (g : Grp) (s : ByteArray) (a b c : Int) : RgK.p 30 [gs g, .str s, .int .i64 a, .int .i64 b, .int .i64 c] = some (g.ms.length ≤ 1000, .tup [.sv (gs (syncG g s a b c).1), .sv (.sl 1 (IL (syncG g s a b c).2.1)), .sv (.int .i64 (syncG g s a b c).2.2)]) := row_eq eGSIII_inj _ (g, s, a, b, c)
theorem RgK_45 (g : Grp) (s : ByteArray) (a b c : Int) : RgK.p 45 [gs g, .str s, .int .i64 a, .int .i64 b, .int .i64 c] = some (g.ms.length ≤ 1000 ∧ 0 ≤ g.ph, .tup [.sv (gs (rsyncG g s a b c).1), .sv (.sl 1 (IL (rsyncG g s a b c).2.1)), .sv (.int .i64 (rsyncG g s a b c).2.2)]) := row_eq eGSIII_inj _ (g, s, a, b, c)
theorem RgK_31 (g : Grp) (s : ByteArray) (a b : Int) : RgK.p 31 [gs g, .str s, .int .i64 a, .int .i64 b] = some (g.ms.length ≤ 1000, .tup [.sv (gs (beatG false g s a b).1), .sv (.int .i64 (beatG false g s a b).2)]) := row_eq eGSII_inj _ (g, s, a, b)
theorem RgK_46 (g : Grp) (s : ByteArray) (a b : Int) : RgK.p 46 [gs g, .str s, .int .i64 a, .int .i64 b] = some (g.ms.length ≤ 1000 ∧ 0 ≤ g.ph, .tup [.sv (gs (rbeatG g s a b).1), .sv (.int .i64 (rbeatG g s a b).2)]) := row_eq eGSII_inj _ (g, s, a, b)
theorem RgK_32 (g : Grp) (s : ByteArray) : RgK.p 32 [gs g, .str s] = some (g.ms.length ≤ 1000, .tup [.sv (gs (leaveG g s).1), .sv (.int .i64 (leaveG g s).2)]) := row_eq eGS_inj _ (g, s)
theorem RgK_47 (g : Grp) (s : ByteArray) : RgK.p 47 [gs g, .str s] = some (g.ms.length ≤ 1000 ∧ 0 ≤ g.ph, .tup [.sv (gs (rleaveG g s).1), .sv (.int .i64 (rleaveG g s).2)]) := row_eq eGS_inj _ (g, s)
theorem RgK_33 (g : Grp) (a b : Int) : RgK.p 33 [gs g, .int .i64 a, .int .i64 b] = some (g.ms.length ≤ 1000, .sv (gs (tickG g a b))) := row_eq eGII_inj _ (g, a, b)
theorem RgK_48 (g : Grp) (a b : Int) : RgK.p 48 [gs g, .int .i64 a, .int .i64 b] = some (g.ms.length ≤ 1000 ∧ 0 ≤ g.ph, .sv (gs (rtickG g a b))) := row_eq eGII_inj _ (g, a, b)
theorem RgK_34 (g : Grp) : RgK.p 34 [gs g] = some (g.ms.length < 4611686018427387904, .sv (.int .i64 (chkG g))) := row_eq (enc := fun g : Grp => [g.sv]) eG_inj _ g
theorem RgK_35 (g : Grp) : RgK.p 35 [gs g] = some (g.ms.length ≤ 1000, .own 1 (TL (namesP g.ms))) := row_eq (enc := fun g : Grp => [g.sv]) eG_inj _ g
theorem RgK_36 (g : Grp) (s : ByteArray) : RgK.p 36 [gs g, .str s] = some (g.ms.length ≤ 1000, .tup [.sv (.agg [.str (findG g s).1.id, .int .i64 (findG g s).1.sn, .bool (findG g s).1.sy]), .sv (.bool (findG g s).2)]) := row_eq eGS_inj _ (g, s)
theorem RgK_43 (g h : Grp) : RgK.p 43 [gs g, gs h] = some (g.ms.length < 4611686018427387904, .sv (.bool (sameG g h))) := row_eq eGG_inj _ (g, h)
/-- What a call makes of a group, and its error. -/
def actG (g : Grp) (a : Ac) : Grp × Int :=
  if a.k % 5 = 0 then joinG g a.id a.now else if a.k % 5 = 1 then ((syncG g a.id a.gen a.parts a.now).1, (syncG g a.id a.gen a.parts a.now).2.2)
  else if a.k % 5 = 2 then beatG false g a.id a.gen a.now else if a.k % 5 = 3 then leaveG g a.id else (tickG g a.now a.gen, 0)
def doG (g : Grp) (a : Ac) : Grp := if (actG g a).2 = 0 then (actG g a).1 else g
theorem sameG_self (g : Grp) : sameG g g = true := by simp [sameG]
end Go.Proofs.Ytmfkliabjfngmaa

/- Assign: what fits a kind. -/


set_option linter.unusedSimpArgs false
set_option linter.unusedVariables false
set_option maxHeartbeats 4000000
namespace Go.Proofs.Ytmfkliabjfngmaa

open Go.Av
def I64 (n : Int) : Prop := -9223372036854775808 ≤ n ∧ n < 9223372036854775808
theorem wf64 {n : Int} (h : (Lit.int .i64 n).wf = true) : I64 n := by
  simp [Lit.wf, IntKind.min, IntKind.max, IntKind.signed, IntKind.bits] at h
  exact ⟨by omega, by omega⟩
theorem wfu8 {n : Int} (h : (Lit.int .u8 n).wf = true) : 0 ≤ n ∧ n < 256 := by
  simp [Lit.wf, IntKind.min, IntKind.max, IntKind.signed, IntKind.bits] at h
  omega
def WkM (a b : SV) : Prop := ∀ (mu : Mem) (v : Value), Rep mu a v → Rep mu b v
theorem WkM.refl (a : SV) : WkM a a := fun _ _ h => h
theorem wkM_agg {l m : List SV} (hl : l.length = m.length) (h : ∀ j, j < l.length → WkM (l.getD j .undef) (m.getD j .undef)) : WkM (.agg l) (.agg m) := by
  intro mu v hr
  cases hr with
  | agg cs vs h1 h2 => exact .agg m vs (by omega) (fun j hj => h j (by omega) mu _ (h2 j (by omega)))
theorem wkM_nils (z : Nat) : WkM .nils (.sl z []) := fun mu v h => by rw [h.inv_nils]; exact .slnil z
theorem pure_wkM {P : Program} {f : FuncId} {rv : LV} {l m : List SV} (hl : l.length = m.length) (h : ∀ j, j < l.length → WkM (l.getD j .undef) (m.getD j .undef)) (p : Pure P f m rv) : Pure P f l rv :=
  fun mu w vs hm hr => p mu w vs hm ⟨by rw [hr.1]; exact hl, fun j hj => h j (by omega) mu _ (hr.2 j (by omega))⟩
theorem has_i64 {v : SV} (h : Sh.hasV (.int .i64) v) : ∃ n, v = .int .i64 n ∧ I64 n := by
  obtain ⟨n, e, w⟩ := (h : (Sh.int .i64).has [v])
  cases e
  exact ⟨n, rfl, wf64 w⟩
theorem has_u8 {v : SV} (h : Sh.hasV (.int .u8) v) : ∃ n, v = .int .u8 n ∧ 0 ≤ n ∧ n < 256 := by
  obtain ⟨n, e, w⟩ := (h : (Sh.int .u8).has [v])
  cases e
  exact ⟨n, rfl, wfu8 w⟩
theorem has_str {v : SV} (h : Sh.hasV .str v) : ∃ s, v = .str s := by
  obtain ⟨s, e, w⟩ := (h : Sh.str.has [v])
  cases e
  exact ⟨s, rfl⟩
theorem has_txts : ∀ {xs : List SV}, (∀ x ∈ xs, x = mkE x.cells ∧ Sh.str.has x.cells) → ∃ l : List ByteArray, xs = TL l
  | [], _ => ⟨[], rfl⟩
  | x :: xs, h => by
    obtain ⟨l, rfl⟩ := has_txts (xs := xs) (fun y hy => h y (by simp [hy]))
    obtain ⟨he, s, hs, _⟩ := h x (by simp)
    rw [hs] at he
    exact ⟨s :: l, by rw [he]; rfl⟩
theorem has_txtV {v : SV} (h : (Sh.sl .str).hasV v) : ∃ l : List ByteArray, WkM v (.sl 1 (TL l)) := by
  have h' : (Sh.sl .str).has [v] := h
  simp only [Sh.has] at h'
  rcases h' with h' | ⟨xs, h', _, hx⟩
  · cases h'
    exact ⟨[], wkM_nils 1⟩
  · cases h'
    obtain ⟨l, rfl⟩ := has_txts (xs := xs) (fun x hm => by have := hx x hm; simp only [Sh.has]; exact this)
    exact ⟨l, WkM.refl _⟩
end Go.Proofs.Ytmfkliabjfngmaa

/- Group: what fits a group, and a list of calls. -/


set_option linter.unusedSimpArgs false
set_option linter.unusedVariables false
set_option maxHeartbeats 4000000
namespace Go.Proofs.Ytmfkliabjfngmaa

open Go.Av

abbrev shM : Sh := .st [.str, .int .i64, .bool]
abbrev shA : Sh := .st [.int .u8, .str, .int .i64, .int .i64, .int .i64]
theorem has_mbs : ∀ {xs : List SV}, (∀ x ∈ xs, x = mkE x.cells ∧ shM.has x.cells) → ∃ l, xs = ML l
  | [], _ => ⟨[], rfl⟩
  | x :: xs, h => by
    obtain ⟨l, rfl⟩ := has_mbs (xs := xs) (fun y hy => h y (by simp [hy]))
    obtain ⟨he, hx⟩ := h x (by simp)
    simp only [Sh.has, Sh.hasL] at hx
    obtain ⟨_, _, e1, ⟨s, rfl, _⟩, _, _, rfl, ⟨n, rfl, w1⟩, _, _, rfl, ⟨b, rfl⟩, rfl⟩ := hx
    rw [e1] at he
    simp only [List.singleton_append, mkE] at he
    subst he
    exact ⟨⟨s, n, b⟩ :: l, rfl⟩
theorem has_grp {v : SV} (h : (Sh.st [.int .i64, .int .u8, .sl shM]).hasV v) : ∃ g : Grp, I64 g.ge ∧ 0 ≤ g.ph ∧ WkM v g.sv := by
  obtain ⟨l, rfl, h⟩ := h
  have h' : Sh.hasL [.int .i64, .int .u8, .sl shM] l := h
  simp only [Sh.hasL] at h'
  obtain ⟨_, _, rfl, ⟨ge, rfl, w1⟩, _, _, rfl, ⟨ph, rfl, w2⟩, x, _, rfl, hx, rfl⟩ := h'
  obtain ⟨x', ms, hxe, hbw⟩ : ∃ (x' : SV) (ms : List Mb), x = [x'] ∧ WkM x' (.sl 3 (ML ms)) := by
    rcases hx with rfl | ⟨xs, rfl, _, hx⟩
    · exact ⟨.nils, [], rfl, wkM_nils 3⟩
    · obtain ⟨l, rfl⟩ := has_mbs (xs := xs) (fun x hm => by have := hx x hm; simp only [Sh.has, Sh.hasL]; exact this)
      exact ⟨_, l, rfl, WkM.refl _⟩
  subst hxe
  refine ⟨⟨ge, ph, ms⟩, wf64 w1, (wfu8 w2).1, wkM_agg rfl (fun j hj => ?_)⟩
  match j, hj with
  | 0, _ => exact WkM.refl _
  | 1, _ => exact WkM.refl _
  | 2, _ => exact hbw
theorem has_ac {v : SV} (h : shA.hasV v) : ∃ a : Ac, 0 ≤ a.k ∧ v = a.sv := by
  obtain ⟨l, rfl, h⟩ := h
  have h' : Sh.hasL [.int .u8, .str, .int .i64, .int .i64, .int .i64] l := h
  simp only [Sh.hasL] at h'
  obtain ⟨_, _, rfl, ⟨k, rfl, w1⟩, _, _, rfl, ⟨s, rfl, _⟩, _, _, rfl, ⟨a, rfl, _⟩, _, _, rfl, ⟨b, rfl, _⟩, _, _, rfl, ⟨c, rfl, _⟩, rfl⟩ := h'
  exact ⟨⟨k, s, a, b, c⟩, (wfu8 w1).1, rfl⟩
def AL (l : List Ac) : List SV := l.map Ac.sv
@[simp] theorem AL_length (l : List Ac) : (AL l).length = l.length := by simp [AL]
theorem AL_get (l : List Ac) {i : Nat} (h : i < l.length) : (AL l)[i]?.getD .undef = (l.getD i ac0).sv := by simp [AL, List.getD_eq_getElem?_getD, h]
theorem has_acs : ∀ {xs : List SV}, (∀ x ∈ xs, x = mkE x.cells ∧ shA.has x.cells) → ∃ l : List Ac, (∀ a ∈ l, 0 ≤ a.k) ∧ xs = AL l
  | [], _ => ⟨[], fun a h => (by cases h), rfl⟩
  | x :: xs, h => by
    obtain ⟨l, hl, rfl⟩ := has_acs (xs := xs) (fun y hy => h y (by simp [hy]))
    obtain ⟨he, hx⟩ := h x (by simp)
    simp only [Sh.has, Sh.hasL] at hx
    obtain ⟨_, _, e1, ⟨k, rfl, w1⟩, _, _, rfl, ⟨s, rfl, _⟩, _, _, rfl, ⟨a, rfl, _⟩, _, _, rfl, ⟨b, rfl, _⟩, _, _, rfl, ⟨c, rfl, _⟩, rfl⟩ := hx
    rw [e1] at he
    simp only [List.singleton_append, mkE] at he
    subst he
    exact ⟨⟨k, s, a, b, c⟩ :: l, fun x hx => by
      rcases List.mem_cons.1 hx with rfl | hx
      · exact (wfu8 w1).1
      · exact hl x hx, rfl⟩
theorem has_acsV {v : SV} (h : (Sh.sl shA).hasV v) : ∃ l : List Ac, (∀ a ∈ l, 0 ≤ a.k) ∧ WkM v (.sl 5 (AL l)) := by
  have h' : (Sh.sl shA).has [v] := h
  simp only [Sh.has] at h'
  rcases h' with h' | ⟨xs, h', _, hx⟩
  · cases h'
    exact ⟨[], fun a h => (by cases h), wkM_nils 5⟩
  · cases h'
    obtain ⟨l, hl, rfl⟩ := has_acs (xs := xs) (fun x hm => by have := hx x hm; simp only [Sh.has, Sh.hasL]; exact this)
    exact ⟨l, hl, WkM.refl _⟩
end Go.Proofs.Ytmfkliabjfngmaa

/- Group: what may be stays so (plain). -/

set_option linter.unusedSimpArgs false
set_option linter.unusedVariables false
set_option maxHeartbeats 4000000
namespace Go.Proofs.Ytmfkliabjfngmaa

open Go.Av

theorem lts_trans {a b c : ByteArray} (h : lts a b = true) (k : lts b c = true) : lts a c = true :=
  (lts_iff a c).2 (List.lt_trans ((lts_iff a b).1 h) ((lts_iff b c).1 k))
theorem lts_irr (a : ByteArray) : lts a a = false := by
  cases q : lts a a with
  | false => rfl
  | true => exact absurd ((lts_iff a a).1 q) (List.lt_irrefl _)
/-- Members that may be. -/
def OkM (l : List Mb) : Prop := (∀ m ∈ l, nameB m.id = true ∧ timeB m.sn = true) ∧ (l.map Mb.id).Pairwise (fun a b => lts a b = true)
theorem okM_of {l : List Mb} (h : badM l = false) : OkM l := by
  have hb : ∀ i, i < l.length → badAt l i = false := fun i hi => by
    cases q : badAt l i with
    | false => rfl
    | true => rw [badM_at hi q] at h; cases h
  have hg : ∀ i (hi : i < l.length), l.getD i mb0 = l[i] := fun i hi => by simp [List.getD_eq_getElem?_getD, List.getElem?_eq_getElem hi]
  have hadj : ∀ i, i + 1 < l.length → lts (l.getD i mb0).id (l.getD (i + 1) mb0).id = true := fun i hi => by
    have := hb (i + 1) hi
    simp only [badAt, Bool.or_eq_false_iff, Bool.and_eq_false_iff, Nat.add_sub_cancel, decide_eq_false_iff_not] at this
    rcases this.2.2 with q | q
    · omega
    · simpa using q
  have hlt : ∀ d i, i + d + 1 < l.length → lts (l.getD i mb0).id (l.getD (i + d + 1) mb0).id = true := by
    intro d
    induction d with
    | zero => intro i hi; exact hadj i hi
    | succ d ih =>
      intro i hi
      exact lts_trans (ih i (by omega)) (hadj (i + d + 1) (by omega))
  refine ⟨fun m hm => ?_, ?_⟩
  · obtain ⟨i, hi, rfl⟩ := List.mem_iff_getElem.1 hm
    have := hb i hi
    simp only [badAt, Bool.or_eq_false_iff, hg i hi] at this
    exact ⟨by simpa using this.1, by simpa using this.2.1⟩
  · rw [List.pairwise_iff_getElem]
    intro i j h1 h2 hij
    simp only [List.length_map] at h1 h2
    have := hlt (j - i - 1) i (by omega)
    rw [show i + (j - i - 1) + 1 = j by omega, hg i h1, hg j h2] at this
    simpa using this
theorem badM_of {l : List Mb} (h : OkM l) : badM l = false := by
  refine badM_no fun j hj => ?_
  have hg : ∀ i (hi : i < l.length), l.getD i mb0 = l[i] := fun i hi => by simp [List.getD_eq_getElem?_getD, List.getElem?_eq_getElem hi]
  obtain ⟨h1, h2⟩ := h.1 l[j] (List.getElem_mem hj)
  simp only [badAt, hg j hj, h1, h2, Bool.not_true, Bool.false_or, Bool.and_eq_false_iff, decide_eq_false_iff_not]
  by_cases h0 : 0 < j
  · right
    have := (List.pairwise_iff_getElem.1 h.2) (j - 1) j (by simp; omega) (by simpa using hj) (by omega)
    simp only [List.getElem_map] at this
    rw [hg (j - 1) (by omega), this]
    rfl
  · left; exact h0
theorem okM_ids {l m : List Mb} (h : OkM l) (hi : m.map Mb.id = l.map Mb.id) (ht : ∀ x ∈ m, timeB x.sn = true) : OkM m := by
  refine ⟨fun x hx => ⟨?_, ht x hx⟩, by rw [hi]; exact h.2⟩
  have : x.id ∈ m.map Mb.id := List.mem_map.2 ⟨x, hx, rfl⟩
  rw [hi] at this
  obtain ⟨y, hy, e⟩ := List.mem_map.1 this
  rw [← e]
  exact (h.1 y hy).1
theorem off_ids (l : List Mb) : (offM l).map Mb.id = l.map Mb.id := by simp [offM]
theorem okM_off {l : List Mb} (h : OkM l) : OkM (offM l) := okM_ids h (off_ids l) fun x hx => by
  obtain ⟨y, hy, rfl⟩ := List.mem_map.1 hx
  exact (h.1 y hy).2
theorem okM_sub {l m : List Mb} (h : OkM l) (hs : m.Sublist l) : OkM m := ⟨fun x hx => h.1 x (hs.subset hx), h.2.sublist (hs.map _)⟩
theorem time_max {a b : Int} (h : timeB a = true) (k : timeB b = true) : timeB (max a b) = true := by
  simp only [timeB, Bool.and_eq_true, decide_eq_true_eq] at h k ⊢
  omega
theorem okM_seen {l : List Mb} (h : OkM l) (s : Bool) (i : Nat) (hi : i < l.length) {now : Int} (hn : timeB now = true) : OkM (l.set i (seenM s now (l.getD i mb0))) := by
  refine okM_ids h (ids_set' l i _ rfl) fun x hx => ?_
  rcases List.mem_or_eq_of_mem_set hx with hx | rfl
  · exact (h.1 x hx).2
  · have hm : l.getD i mb0 ∈ l := by rw [List.getD_eq_getElem?_getD, List.getElem?_eq_getElem hi]; exact List.getElem_mem hi
    exact time_max (h.1 _ hm).2 hn
theorem place_no {id : ByteArray} {l : List Mb} (h : placeP id l < 0) : ∀ m ∈ l, m.id ≠ id := fun m hm => by simpa using idx_neg _ l 0 h m hm
theorem okM_ins {l : List Mb} (h : OkM l) {id : ByteArray} {now : Int} (hid : nameB id = true) (hn : timeB now = true) (hp : placeP id l < 0) : OkM (insM l (posM id l) ⟨id, now, false⟩) := by
  refine ⟨fun m hm => ?_, ?_⟩
  · simp only [insM, List.mem_append, List.mem_cons] at hm
    rcases hm with hm | rfl | hm
    · exact h.1 m (List.mem_of_mem_take hm)
    · exact ⟨hid, hn⟩
    · exact h.1 m (List.mem_of_mem_drop hm)
  · have hg : ∀ i (hi : i < l.length), l.getD i mb0 = l[i] := fun i hi => by simp [List.getD_eq_getElem?_getD, List.getElem?_eq_getElem hi]
    have h2 := h.2
    rw [List.pairwise_map] at h2 ⊢
    have hpos := posM_le id l
    have hb : ∀ m ∈ l.take (posM id l), lts m.id id = true := fun m hm => by
      obtain ⟨i, hi, rfl⟩ := List.mem_iff_getElem.1 hm
      have hi' : i < posM id l := by simp at hi; omega
      have := posM_lt id l i hi'
      rw [hg i (by omega)] at this
      simpa using this
    have ha : ∀ m ∈ l.drop (posM id l), lts id m.id = true := fun m hm => by
      obtain ⟨i, hi, rfl⟩ := List.mem_iff_getElem.1 hm
      have hi' : posM id l + i < l.length := by simp at hi; omega
      have h0 : lts id (l[posM id l]'(by omega)).id = true := by
        have := posM_at id l (by omega)
        rw [hg _ (by omega)] at this
        cases q : lts id (l[posM id l]'(by omega)).id with
        | true => rfl
        | false => exact absurd (lts_tri this q) (place_no hp _ (List.getElem_mem _))
      simp only [List.getElem_drop]
      by_cases hi0 : i = 0
      · subst hi0; exact h0
      · exact lts_trans h0 ((List.pairwise_iff_getElem.1 h2) _ _ (by omega) (by omega) (by omega))
    unfold insM
    rw [List.pairwise_append, List.pairwise_cons]
    refine ⟨h2.sublist (List.take_sublist _ _), ⟨ha, h2.sublist (List.drop_sublist _ _)⟩, fun a hx b hy => ?_⟩
    rcases List.mem_cons.1 hy with rfl | hy
    · exact hb a hx
    · exact lts_trans (hb a hx) (ha b hy)
/-- What comes of a call of a group that may be. -/
structure Good (g x : Grp) : Prop where
  chk : chkG x = 0
  ge : g.ge ≤ x.ge
  same : x.ms.length = g.ms.length ↔ x.ge = g.ge
  off : x.ms.length ≠ g.ms.length → ∀ m ∈ x.ms, m.sy = false
theorem chk_of {ge ph : Int} {l : List Mb} (h1 : l.length ≤ 16) (h2 : timeB ge = true) (h3 : ph = phaseP l) (h4 : OkM l) : chkG ⟨ge, ph, l⟩ = 0 := by
  unfold chkG
  rw [if_neg]
  rintro (q | q | q | q)
  · simp at q; omega
  · simp [h2] at q
  · exact q h3
  · rw [badM_of h4] at q; cases q
theorem good_refl {g : Grp} (h : chkG g = 0) : Good g g := ⟨h, Int.le_refl _, ⟨fun _ => rfl, fun _ => rfl⟩, fun q => absurd rfl q⟩
theorem good_seen {g : Grp} (h : chkG g = 0) (s : Bool) (i : Nat) (hi : i < g.ms.length) {now : Int} (hn : timeB now = true) : Good g (seenG s g i now) := by
  obtain ⟨c1, c2, c3, c4⟩ := chk0 h
  have hl : (g.ms.set i (seenM s now (g.ms.getD i mb0))).length = g.ms.length := by simp
  refine ⟨chk_of (by rw [hl]; exact c1) c2 rfl (okM_seen (okM_of c4) s i hi hn), Int.le_refl _, ⟨fun _ => rfl, fun _ => hl⟩, fun q => absurd hl q⟩
theorem wrap_ge {n : Int} (h : timeB n = true) : IntKind.i64.wrap (n + 1) = n + 1 := by
  simp only [timeB, Bool.and_eq_true, decide_eq_true_eq] at h
  rw [IntKind.wrap_i64]; omega
theorem off_sy (l : List Mb) : ∀ m ∈ offM l, m.sy = false := fun m hm => by
  obtain ⟨y, hy, rfl⟩ := List.mem_map.1 hm
  rfl
theorem off_len (l : List Mb) : (offM l).length = l.length := by simp [offM]
theorem good_turn {g : Grp} (h : chkG g = 0) (hg : ¬ 1099511627776 ≤ g.ge) {F : List Mb} (hF : OkM F) (hl : F.length ≤ 16) (hne : F.length ≠ g.ms.length) : Good g ⟨IntKind.i64.wrap (g.ge + 1), phaseP (offM F), offM F⟩ := by
  obtain ⟨c1, c2, c3, c4⟩ := chk0 h
  rw [wrap_ge c2]
  have c2' := c2
  simp only [timeB, Bool.and_eq_true, decide_eq_true_eq] at c2'
  refine ⟨chk_of (by rw [off_len]; exact hl) (by simp [timeB]; omega) rfl (okM_off hF), by simp only; omega, ⟨fun q => absurd (by rw [← off_len]; exact q) hne, fun q => by simp only at q; omega⟩, fun _ => off_sy F⟩
theorem good_join {g : Grp} (h : chkG g = 0) {id : ByteArray} {now : Int} (h0 : (joinG g id now).2 = 0) : Good g (joinG g id now).1 := by
  unfold joinG at h0 ⊢
  obtain ⟨c1, c2, c3, c4⟩ := chk0 h
  rw [if_neg (show ¬ (chkG g ≠ 0) by simpa using h)] at h0 ⊢
  by_cases h1 : nameB id = false
  · rw [if_pos h1] at h0; simp at h0
  rw [if_neg h1] at h0 ⊢
  by_cases h2 : timeB now = false
  · rw [if_pos h2] at h0; simp at h0
  rw [if_neg h2] at h0 ⊢
  have hid : nameB id = true := by simpa using h1
  have hn : timeB now = true := by simpa using h2
  by_cases h3 : 0 ≤ placeP id g.ms
  · rw [if_pos h3]
    have := place_range id g.ms
    exact good_seen h false _ (by omega) hn
  rw [if_neg h3] at h0 ⊢
  by_cases h4 : 16 ≤ g.ms.length
  · rw [if_pos h4] at h0; simp at h0
  rw [if_neg h4] at h0 ⊢
  by_cases h5 : 1099511627776 ≤ g.ge
  · rw [if_pos h5] at h0; simp at h0
  rw [if_neg h5]
  have hl := insM_length g.ms (posM id g.ms) ⟨id, now, false⟩ (posM_le _ _)
  exact good_turn h h5 (okM_ins (okM_of c4) hid hn (by omega)) (by omega) (by omega)
theorem good_beat {g : Grp} (h : chkG g = 0) (s : Bool) {id : ByteArray} {gen now : Int} (h0 : (beatG s g id gen now).2 = 0) : Good g (beatG s g id gen now).1 := by
  unfold beatG at h0 ⊢
  rw [if_neg (show ¬ (chkG g ≠ 0) by simpa using h)] at h0 ⊢
  by_cases h2 : timeB now = false
  · rw [if_pos h2] at h0; simp at h0
  rw [if_neg h2] at h0 ⊢
  by_cases h3 : placeP id g.ms < 0
  · rw [if_pos h3] at h0; simp at h0
  rw [if_neg h3] at h0 ⊢
  by_cases h4 : gen ≠ g.ge
  · rw [if_pos h4] at h0; simp at h0
  rw [if_neg h4]
  have := place_range id g.ms
  exact good_seen h s _ (by omega) (by simpa using h2)
theorem good_sync {g : Grp} (h : chkG g = 0) {id : ByteArray} {gen parts now : Int} (h0 : (syncG g id gen parts now).2.2 = 0) : Good g (syncG g id gen parts now).1 := by
  unfold syncG at h0 ⊢
  by_cases h1 : (beatG true g id gen now).2 ≠ 0
  · rw [if_pos h1] at h0; exact absurd h0 h1
  · rw [if_neg h1]
    exact good_beat h true (by simpa using h1)
theorem good_leave {g : Grp} (h : chkG g = 0) {id : ByteArray} (h0 : (leaveG g id).2 = 0) : Good g (leaveG g id).1 := by
  unfold leaveG at h0 ⊢
  obtain ⟨c1, c2, c3, c4⟩ := chk0 h
  rw [if_neg (show ¬ (chkG g ≠ 0) by simpa using h)] at h0 ⊢
  by_cases h3 : placeP id g.ms < 0
  · rw [if_pos h3] at h0; simp at h0
  rw [if_neg h3] at h0 ⊢
  by_cases h5 : 1099511627776 ≤ g.ge
  · rw [if_pos h5] at h0; simp at h0
  rw [if_neg h5]
  have hpr := place_range id g.ms
  obtain ⟨i, hi⟩ : ∃ i : Nat, placeP id g.ms = i := ⟨(placeP id g.ms).toNat, by omega⟩
  rw [hi, show ((i : Nat) : Int).toNat = i by omega]
  have hl : (g.ms.take i ++ g.ms.drop (i + 1)).length = g.ms.length - 1 := by simp; omega
  refine good_turn h h5 (okM_sub (okM_of c4) ?_) (by omega) (by omega)
  rw [show g.ms.take i ++ g.ms.drop (i + 1) = g.ms.eraseIdx i by rw [List.eraseIdx_eq_take_drop_succ]]
  exact List.eraseIdx_sublist _ _
theorem good_tick {g : Grp} (h : chkG g = 0) (now pat : Int) : Good g (tickG g now pat) := by
  unfold tickG
  obtain ⟨c1, c2, c3, c4⟩ := chk0 h
  split
  · exact good_refl h
  rename_i q
  split
  · exact good_refl h
  rename_i r
  have := List.length_filter_le (fun m => !lateM now pat m) g.ms
  exact good_turn h (fun z => q (.inr (.inl z))) (okM_sub (okM_of c4) (List.filter_sublist)) (by omega) r
theorem chk_grp0 : chkG grp0 = 0 := chk_of (l := []) (by simp) (by decide) rfl ⟨fun m h => (by cases h), List.Pairwise.nil⟩
end Go.Proofs.Ytmfkliabjfngmaa

/- Group: members that come and sync one by one (plain). -/


set_option linter.unusedSimpArgs false
set_option linter.unusedVariables false
set_option maxHeartbeats 4000000
set_option maxRecDepth 100000
namespace Go.Proofs.Ytmfkliabjfngmaa

open Go.Av

def nmP (k : Nat) : ByteArray := ⟨#[109, UInt8.ofNat (97 + k)]⟩
def nmsP (n : Nat) : List ByteArray := (List.range n).map nmP
/-- The group of n members, of which the first i have synced. -/
def sG (n i : Nat) : Grp := ⟨n, if n = 0 then 0 else if i = n then 2 else 1, (List.range n).map fun j => ⟨nmP j, if j < i then 99 else j, decide (j < i)⟩⟩
theorem sG_names (n i : Nat) : namesP (sG n i).ms = nmsP n := by simp [namesP, sG, nmsP, Function.comp_def]
theorem sG_len (n i : Nat) : (sG n i).ms.length = n := by simp [sG]
theorem sG_0 : sG 0 0 = grp0 := rfl
theorem join_step : ∀ n, n < 7 → joinG (sG n 0) (nmP n) n = (sG (n + 1) 0, 0)
  | 0, _ => by kernel_rfl
  | 1, _ => by kernel_rfl
  | 2, _ => by kernel_rfl
  | 3, _ => by kernel_rfl
  | 4, _ => by kernel_rfl
  | 5, _ => by kernel_rfl
  | 6, _ => by kernel_rfl
  | n + 7, h => absurd h (by omega)
theorem srt_nms : ∀ n, n < 8 → srt (nmsP n) = nmsP n
  | 0, _ => by kernel_rfl
  | 1, _ => by kernel_rfl
  | 2, _ => by kernel_rfl
  | 3, _ => by kernel_rfl
  | 4, _ => by kernel_rfl
  | 5, _ => by kernel_rfl
  | 6, _ => by kernel_rfl
  | 7, _ => by kernel_rfl
  | n + 8, h => absurd h (by omega)
theorem beat_step : ∀ n i, n < 8 → i < n → beatG true (sG n i) (nmP i) n 99 = (sG n (i + 1), 0)
  | 1, 0, _, _ => by kernel_rfl
  | 2, 0, _, _ => by kernel_rfl
  | 2, 1, _, _ => by kernel_rfl
  | 3, 0, _, _ => by kernel_rfl
  | 3, 1, _, _ => by kernel_rfl
  | 3, 2, _, _ => by kernel_rfl
  | 4, 0, _, _ => by kernel_rfl
  | 4, 1, _, _ => by kernel_rfl
  | 4, 2, _, _ => by kernel_rfl
  | 4, 3, _, _ => by kernel_rfl
  | 5, 0, _, _ => by kernel_rfl
  | 5, 1, _, _ => by kernel_rfl
  | 5, 2, _, _ => by kernel_rfl
  | 5, 3, _, _ => by kernel_rfl
  | 5, 4, _, _ => by kernel_rfl
  | 6, 0, _, _ => by kernel_rfl
  | 6, 1, _, _ => by kernel_rfl
  | 6, 2, _, _ => by kernel_rfl
  | 6, 3, _, _ => by kernel_rfl
  | 6, 4, _, _ => by kernel_rfl
  | 6, 5, _, _ => by kernel_rfl
  | 7, 0, _, _ => by kernel_rfl
  | 7, 1, _, _ => by kernel_rfl
  | 7, 2, _, _ => by kernel_rfl
  | 7, 3, _, _ => by kernel_rfl
  | 7, 4, _, _ => by kernel_rfl
  | 7, 5, _, _ => by kernel_rfl
  | 7, 6, _, _ => by kernel_rfl
  | 0, i, _, h => absurd h (by omega)
  | 1, i + 1, _, h => absurd h (by omega)
  | 2, i + 2, _, h => absurd h (by omega)
  | 3, i + 3, _, h => absurd h (by omega)
  | 4, i + 4, _, h => absurd h (by omega)
  | 5, i + 5, _, h => absurd h (by omega)
  | 6, i + 6, _, h => absurd h (by omega)
  | 7, i + 7, _, h => absurd h (by omega)
  | n + 8, i, h, _ => absurd h (by omega)
theorem beat_old : ∀ n i, n < 8 → i < n → beatG true (sG n i) (nmP i) ((n : Int) - 1) 99 = (grp0, 19)
  | 1, 0, _, _ => by kernel_rfl
  | 2, 0, _, _ => by kernel_rfl
  | 2, 1, _, _ => by kernel_rfl
  | 3, 0, _, _ => by kernel_rfl
  | 3, 1, _, _ => by kernel_rfl
  | 3, 2, _, _ => by kernel_rfl
  | 4, 0, _, _ => by kernel_rfl
  | 4, 1, _, _ => by kernel_rfl
  | 4, 2, _, _ => by kernel_rfl
  | 4, 3, _, _ => by kernel_rfl
  | 5, 0, _, _ => by kernel_rfl
  | 5, 1, _, _ => by kernel_rfl
  | 5, 2, _, _ => by kernel_rfl
  | 5, 3, _, _ => by kernel_rfl
  | 5, 4, _, _ => by kernel_rfl
  | 6, 0, _, _ => by kernel_rfl
  | 6, 1, _, _ => by kernel_rfl
  | 6, 2, _, _ => by kernel_rfl
  | 6, 3, _, _ => by kernel_rfl
  | 6, 4, _, _ => by kernel_rfl
  | 6, 5, _, _ => by kernel_rfl
  | 7, 0, _, _ => by kernel_rfl
  | 7, 1, _, _ => by kernel_rfl
  | 7, 2, _, _ => by kernel_rfl
  | 7, 3, _, _ => by kernel_rfl
  | 7, 4, _, _ => by kernel_rfl
  | 7, 5, _, _ => by kernel_rfl
  | 7, 6, _, _ => by kernel_rfl
  | 0, i, _, h => absurd h (by omega)
  | 1, i + 1, _, h => absurd h (by omega)
  | 2, i + 2, _, h => absurd h (by omega)
  | 3, i + 3, _, h => absurd h (by omega)
  | 4, i + 4, _, h => absurd h (by omega)
  | 5, i + 5, _, h => absurd h (by omega)
  | 6, i + 6, _, h => absurd h (by omega)
  | 7, i + 7, _, h => absurd h (by omega)
  | n + 8, i, h, _ => absurd h (by omega)
theorem pos_step : ∀ n i, n < 8 → i < n → posK (nmP i) (nmsP n) = i
  | 1, 0, _, _ => by kernel_rfl
  | 2, 0, _, _ => by kernel_rfl
  | 2, 1, _, _ => by kernel_rfl
  | 3, 0, _, _ => by kernel_rfl
  | 3, 1, _, _ => by kernel_rfl
  | 3, 2, _, _ => by kernel_rfl
  | 4, 0, _, _ => by kernel_rfl
  | 4, 1, _, _ => by kernel_rfl
  | 4, 2, _, _ => by kernel_rfl
  | 4, 3, _, _ => by kernel_rfl
  | 5, 0, _, _ => by kernel_rfl
  | 5, 1, _, _ => by kernel_rfl
  | 5, 2, _, _ => by kernel_rfl
  | 5, 3, _, _ => by kernel_rfl
  | 5, 4, _, _ => by kernel_rfl
  | 6, 0, _, _ => by kernel_rfl
  | 6, 1, _, _ => by kernel_rfl
  | 6, 2, _, _ => by kernel_rfl
  | 6, 3, _, _ => by kernel_rfl
  | 6, 4, _, _ => by kernel_rfl
  | 6, 5, _, _ => by kernel_rfl
  | 7, 0, _, _ => by kernel_rfl
  | 7, 1, _, _ => by kernel_rfl
  | 7, 2, _, _ => by kernel_rfl
  | 7, 3, _, _ => by kernel_rfl
  | 7, 4, _, _ => by kernel_rfl
  | 7, 5, _, _ => by kernel_rfl
  | 7, 6, _, _ => by kernel_rfl
  | 0, i, _, h => absurd h (by omega)
  | 1, i + 1, _, h => absurd h (by omega)
  | 2, i + 2, _, h => absurd h (by omega)
  | 3, i + 3, _, h => absurd h (by omega)
  | 4, i + 4, _, h => absurd h (by omega)
  | 5, i + 5, _, h => absurd h (by omega)
  | 6, i + 6, _, h => absurd h (by omega)
  | 7, i + 7, _, h => absurd h (by omega)
  | n + 8, i, h, _ => absurd h (by omega)
theorem at_step : ∀ n i, n < 8 → i < n → atK (nmP i) (nmsP n) i = true
  | 1, 0, _, _ => by kernel_rfl
  | 2, 0, _, _ => by kernel_rfl
  | 2, 1, _, _ => by kernel_rfl
  | 3, 0, _, _ => by kernel_rfl
  | 3, 1, _, _ => by kernel_rfl
  | 3, 2, _, _ => by kernel_rfl
  | 4, 0, _, _ => by kernel_rfl
  | 4, 1, _, _ => by kernel_rfl
  | 4, 2, _, _ => by kernel_rfl
  | 4, 3, _, _ => by kernel_rfl
  | 5, 0, _, _ => by kernel_rfl
  | 5, 1, _, _ => by kernel_rfl
  | 5, 2, _, _ => by kernel_rfl
  | 5, 3, _, _ => by kernel_rfl
  | 5, 4, _, _ => by kernel_rfl
  | 6, 0, _, _ => by kernel_rfl
  | 6, 1, _, _ => by kernel_rfl
  | 6, 2, _, _ => by kernel_rfl
  | 6, 3, _, _ => by kernel_rfl
  | 6, 4, _, _ => by kernel_rfl
  | 6, 5, _, _ => by kernel_rfl
  | 7, 0, _, _ => by kernel_rfl
  | 7, 1, _, _ => by kernel_rfl
  | 7, 2, _, _ => by kernel_rfl
  | 7, 3, _, _ => by kernel_rfl
  | 7, 4, _, _ => by kernel_rfl
  | 7, 5, _, _ => by kernel_rfl
  | 7, 6, _, _ => by kernel_rfl
  | 0, i, _, h => absurd h (by omega)
  | 1, i + 1, _, h => absurd h (by omega)
  | 2, i + 2, _, h => absurd h (by omega)
  | 3, i + 3, _, h => absurd h (by omega)
  | 4, i + 4, _, h => absurd h (by omega)
  | 5, i + 5, _, h => absurd h (by omega)
  | 6, i + 6, _, h => absurd h (by omega)
  | 7, i + 7, _, h => absurd h (by omega)
  | n + 8, i, h, _ => absurd h (by omega)
theorem of_step (n i : Nat) (hn : n < 8) (hi : i < n) (P : Nat) (hP : P ≤ 1000) : ofL (nmsP n) P (nmP i) = rowR P n i := by
  have hm : (manyP P).toNat = P := by unfold manyP; omega
  unfold ofL
  rw [srt_nms n hn, pos_step n i hn hi, at_step n i hn hi, if_pos rfl, hm]
  have hl : (nmsP n).length = n := by simp [nmsP]
  rw [hl, rngL, List.getD_eq_getElem?_getD, List.getElem?_map, List.getElem?_range hi]
  rfl
theorem sync_step (n i : Nat) (hn : n < 8) (hi : i < n) (P : Nat) (hP : P ≤ 1000) : syncG (sG n i) (nmP i) n P 99 = (sG n (i + 1), rowR P n i, 0) := by
  unfold syncG
  rw [beat_step n i hn hi, if_neg (by simp)]
  simp only
  rw [sG_names, of_step n i hn hi P hP]
theorem sync_old (n i : Nat) (hn : n < 8) (hi : i < n) (P : Int) : syncG (sG n i) (nmP i) ((n : Int) - 1) P 99 = (grp0, [], 19) := by
  unfold syncG
  rw [beat_old n i hn hi, if_pos (by simp)]
end Go.Proofs.Ytmfkliabjfngmaa

/- Group: do. -/

set_option linter.unusedSimpArgs false
set_option linter.unusedVariables false
set_option maxHeartbeats 8000000
set_option maxRecDepth 100000
namespace Go.Proofs.Ytmfkliabjfngmaa

open Go.Av

theorem joinG_len (g : Grp) (id : ByteArray) (now : Int) : (joinG g id now).1.ms.length ≤ g.ms.length + 1 := by
  unfold joinG
  split <;> try split <;> try split <;> try split <;> try split <;> try split
  all_goals first | (simp [grp0]; done) | (simp [seenG]; done) | (simp [offM, insM_length _ _ _ (posM_le id g.ms)]; done) | skip
theorem syncG_len (g : Grp) (id : ByteArray) (a b c : Int) : (syncG g id a b c).1.ms.length ≤ g.ms.length := by
  unfold syncG
  split
  · simp [grp0]
  · exact beatG_len _ _ _ _ _
theorem ofL_small : True := trivial
theorem leaveG_len (g : Grp) (id : ByteArray) : (leaveG g id).1.ms.length ≤ g.ms.length := by
  unfold leaveG
  split <;> try split <;> try split
  all_goals first | (simp [grp0]; done) | skip
  simp [offM]; omega
theorem tickG_len (g : Grp) (a b : Int) : (tickG g a b).ms.length ≤ g.ms.length := by
  unfold tickG
  split <;> try split
  · exact Nat.le_refl _
  · exact Nat.le_refl _
  · simp [offM, List.length_filter_le]
theorem do_pure (g : Grp) (a : Ac) (hl : g.ms.length ≤ 999) (hph : 0 ≤ g.ph) (hk : 0 ≤ a.k) (hs : ∀ p, (syncG g a.id a.gen p a.now).2.1.length < 4611686018427387904) : Pure Try.prog 26 [g.sv, g.sv, a.sv] (.tup [.sv (doG g a).sv, .sv (doG g a).sv, .sv (.bool true)]) := by
  have e19 := RgK_19
  have e27 := RgK_27
  have e28 := RgK_28
  have e29 := RgK_29 g a.id a.now
  have e44 := RgK_44 g a.id a.now
  have e30 := RgK_30 g a.id a.gen a.parts a.now
  have e45 := RgK_45 g a.id a.gen a.parts a.now
  have e31 := RgK_31 g a.id a.gen a.now
  have e46 := RgK_46 g a.id a.gen a.now
  have e32 := RgK_32 g a.id
  have e47 := RgK_47 g a.id
  have e33 := RgK_33 g a.now a.gen
  have e48 := RgK_48 g a.now a.gen
  have hR := RgK_ok
  have hnf : RgK.nofz = false := rfl
  generalize RgK = R at hR hnf e19 e27 e28 e29 e44 e30 e45 e31 e46 e32 e47 e33 e48
  refine pure_go hR Try.func26 Try.ntmps26 comp26 cres26 (by decide) (by simp) ?_
  have hl3 : g.ms.length ≤ 1000 := by omega
  have hl4 : g.ms.length < 4611686018427387904 := by omega
  have htm : a.k.tmod 5 = a.k % 5 := Int.tmod_eq_emod_of_nonneg hk
  have hmr : a.k % 5 = 0 ∨ a.k % 5 = 1 ∨ a.k % 5 = 2 ∨ a.k % 5 = 3 ∨ a.k % 5 = 4 := by omega
  generalize hv : doG g a = V
  unfold doG actG at hv
  rw [show a.sv = .agg [.int .u8 a.k, .str a.id, .int .i64 a.gen, .int .i64 a.parts, .int .i64 a.now] from rfl]
  rcases hmr with hj | hj | hj | hj | hj
  · rw [hj] at hv htm
    simp only [if_true] at hv
    obtain ⟨q1, q2⟩ := join_alike g a.id a.now
    have hlen := joinG_len g a.id a.now
    generalize joinG g a.id a.now = X at *
    generalize rjoinG g a.id a.now = Y at *
    obtain ⟨X, n⟩ := X
    obtain ⟨Y, m⟩ := Y
    simp only at q1 q2 hv e29 e44 hlen
    subst q1
    by_cases hn : n = 0
    · subst hn
      rw [if_pos rfl] at hv
      obtain rfl := q2 rfl
      subst hv
      have e28x := e28 X
      have e27x := e27 X X
      rw [sameG_self] at e27x
      have hx3 : X.ms.length ≤ 1000 := by omega
      have hx4 : X.ms.length < 4611686018427387904 := by omega
      clear e28 e27 e30 e45 e31 e46 e32 e47 e33 e48 e19 hs
      simp [ac26, ar26, Grp.sv, Grp.cells, htm, e29, e44, e28x, e27x, hl, hl3, hl4, hx3, hx4, hph, hnf]
    · have hn2 : (n == 0) = false := by simpa using hn
      rw [if_neg hn] at hv
      subst hv
      clear e28 e27 e30 e45 e31 e46 e32 e47 e33 e48 e19 hs
      simp [ac26, ar26, Grp.sv, Grp.cells, htm, e29, e44, hl, hl3, hl4, hph, hnf, hn, hn2, bne]
  · rw [hj] at hv htm
    simp only [Int.reduceEq, if_false, if_true] at hv
    obtain ⟨q1, q2, q3⟩ := sync_alike g a.id a.gen a.parts a.now
    have hlen := syncG_len g a.id a.gen a.parts a.now
    have hs4 := hs a.parts
    generalize syncG g a.id a.gen a.parts a.now = X at *
    generalize rsyncG g a.id a.gen a.parts a.now = Y at *
    obtain ⟨X, lx, n⟩ := X
    obtain ⟨Y, ly, m⟩ := Y
    simp only at q1 q2 q3 hv e30 e45 hlen hs4
    subst q1
    subst q3
    have e19x := e19 lx lx
    by_cases hn : n = 0
    · subst hn
      rw [if_pos rfl] at hv
      obtain rfl := q2 rfl
      subst hv
      have e28x := e28 X
      have e27x := e27 X X
      rw [sameG_self] at e27x
      have hx3 : X.ms.length ≤ 1000 := by omega
      have hx4 : X.ms.length < 4611686018427387904 := by omega
      clear e28 e27 hs e19
      simp [ac26, ar26, Grp.sv, Grp.cells, htm, e30, e45, e19x, hs4, e28x, e27x, hl, hl3, hl4, hx3, hx4, hph, hnf]
    · have hn2 : (n == 0) = false := by simpa using hn
      rw [if_neg hn] at hv
      subst hv
      clear e28 e27 hs e19
      simp [ac26, ar26, Grp.sv, Grp.cells, htm, e30, e45, e19x, hs4, hl, hl3, hl4, hph, hnf, hn, hn2, bne]
  · rw [hj] at hv htm
    simp only [Int.reduceEq, if_false, if_true] at hv
    obtain ⟨q1, q2⟩ := beat_alike g a.id a.gen a.now
    have hlen := beatG_len false g a.id a.gen a.now
    generalize beatG false g a.id a.gen a.now = X at *
    generalize rbeatG g a.id a.gen a.now = Y at *
    obtain ⟨X, n⟩ := X
    obtain ⟨Y, m⟩ := Y
    simp only at q1 q2 hv e31 e46 hlen
    subst q1
    by_cases hn : n = 0
    · subst hn
      rw [if_pos rfl] at hv
      obtain rfl := q2 rfl
      subst hv
      have e28x := e28 X
      have e27x := e27 X X
      rw [sameG_self] at e27x
      have hx3 : X.ms.length ≤ 1000 := by omega
      have hx4 : X.ms.length < 4611686018427387904 := by omega
      clear e28 e27 hs
      simp [ac26, ar26, Grp.sv, Grp.cells, htm, e31, e46, e28x, e27x, hl, hl3, hl4, hx3, hx4, hph, hnf]
    · have hn2 : (n == 0) = false := by simpa using hn
      rw [if_neg hn] at hv
      subst hv
      clear e28 e27 hs
      simp [ac26, ar26, Grp.sv, Grp.cells, htm, e31, e46, hl, hl3, hl4, hph, hnf, hn, hn2, bne]
  · rw [hj] at hv htm
    simp only [Int.reduceEq, if_false, if_true] at hv
    obtain ⟨q1, q2⟩ := leave_alike g a.id
    have hlen := leaveG_len g a.id
    generalize leaveG g a.id = X at *
    generalize rleaveG g a.id = Y at *
    obtain ⟨X, n⟩ := X
    obtain ⟨Y, m⟩ := Y
    simp only at q1 q2 hv e32 e47 hlen
    subst q1
    by_cases hn : n = 0
    · subst hn
      rw [if_pos rfl] at hv
      obtain rfl := q2 rfl
      subst hv
      have e28x := e28 X
      have e27x := e27 X X
      rw [sameG_self] at e27x
      have hx3 : X.ms.length ≤ 1000 := by omega
      have hx4 : X.ms.length < 4611686018427387904 := by omega
      clear e28 e27 hs
      simp [ac26, ar26, Grp.sv, Grp.cells, htm, e32, e47, e28x, e27x, hl, hl3, hl4, hx3, hx4, hph, hnf]
    · have hn2 : (n == 0) = false := by simpa using hn
      rw [if_neg hn] at hv
      subst hv
      clear e28 e27 hs
      simp [ac26, ar26, Grp.sv, Grp.cells, htm, e32, e47, hl, hl3, hl4, hph, hnf, hn, hn2, bne]
  · rw [hj] at hv htm
    simp only [Int.reduceEq, if_false, if_true] at hv
    have q := tick_alike g a.now a.gen
    have hlen := tickG_len g a.now a.gen
    rw [← q] at e48
    generalize tickG g a.now a.gen = X at *
    subst hv
    have e28x := e28 X
    have e27x := e27 X X
    rw [sameG_self] at e27x
    have hx3 : X.ms.length ≤ 1000 := by omega
    have hx4 : X.ms.length < 4611686018427387904 := by omega
    clear e28 e27 hs
    simp [ac26, ar26, Grp.sv, Grp.cells, htm, e33, e48, e28x, e27x, hl, hl3, hl4, hx3, hx4, hph, hnf]
end Go.Proofs.Ytmfkliabjfngmaa
