import Derived.Test.YtmfkliabjfngmaaMGaG
import Derived.Test.YtmfkliabjfngmaaAvRg
import Derived.WalkKit
import Derived.Shelf.RegionOpenPlain
import Derived.Laws.Rows
import Derived.Deep.LoopGhost
import Derived.Deep.Draws
import Derived.Deep.RegionWith

set_option linter.unusedVariables false
set_option linter.unusedSimpArgs false

/- Group: Same, light, Find; the document's turn. -/

set_option linter.unusedSimpArgs false
set_option linter.unusedVariables false
set_option maxHeartbeats 8000000
namespace Go.Proofs.Ytmfkliabjfngmaa

open Go.Av

theorem Mb.ext' {a b : Mb} (h1 : a.id = b.id) (h2 : a.sn = b.sn) (h3 : a.sy = b.sy) : a = b := by
  cases a; cases b; simp at h1 h2 h3; simp [h1, h2, h3]
instance : DecidableEq Mb := fun a b => if h : a.id = b.id ∧ a.sn = b.sn ∧ a.sy = b.sy then isTrue (Mb.ext' h.1 h.2.1 h.2.2) else isFalse (fun e => h (by rw [e]; exact ⟨rfl, rfl, rfl⟩))
theorem mb_dec (a b : Mb) : ((a.id.toList == b.id.toList) && ((a.sn == b.sn) && (a.sy == b.sy))) = decide (a = b) := by
  rw [eq_id, Bool.eq_iff_iff]
  simp
  constructor
  · rintro ⟨h1, h2, h3⟩; exact Mb.ext' h1 h2 h3
  · rintro rfl; exact ⟨rfl, rfl, rfl⟩
theorem eqMs (a b : List Mb) (hl : a.length < 4611686018427387904) : Pure Try.prog 70 [.sl 3 (ML a), .sl 3 (ML b)] (.sv (.bool (decide (a = b)))) := by
  refine pure_go R0_ok Try.func70 Try.ntmps70 comp70 cres70 (by decide) (by simp) ?_
  by_cases h0 : a.length = b.length
  case neg =>
    have h0' : ((a.length : Int) != b.length) = true := by simp; omega
    have hne : a ≠ b := fun e => h0 (by rw [e])
    simp [ac70, ar70, R0, h0', hne]
  simp [ac70, ar70, R0, h0]
  refine awpR_loop (α := Nat) (fun i => i ≤ a.length ∧ a.take i = b.take i) (fun i => { n := 26, sl := [(0, .sv (.sl 3 (ML a))), (1, .sv (.sl 3 (ML b))), (12, .sv (.int .i64 b.length)), (13, .sv (.int .i64 i))], bx := [], hp := fun _ => none })
    (fun i => a.length - i) 0 ⟨by omega, by simp⟩ (by simp) ?_
  rintro i ⟨hi, ha⟩
  by_cases h : i < a.length
  · have hlt2 : (i : Int) < b.length := by omega
    have hlt : (i : Int) < a.length := by omega
    have hb : i < b.length := by omega
    have hw := wrap_succ h hl
    have hg := ML_get a h
    have hg' := ML_get b hb
    have hge : (ML a)[i]'(by simpa using h) = (a.getD i mb0).sv := by rw [← hg, List.getElem?_eq_getElem]; rfl
    have hge' : (ML b)[i]'(by simpa using hb) = (b.getD i mb0).sv := by rw [← hg', List.getElem?_eq_getElem]; rfl
    by_cases q : a.getD i mb0 = b.getD i mb0
    · have ht := take_eq mb0 h hb ha q
      rw [q] at hg hge
      generalize b.getD i mb0 = y at *
      simp [hlt, hlt2, h, hb, hg, hge, hg', hge', hw, Mb.sv, Mb.cells]
      exact ⟨i + 1, ⟨by omega, ht⟩, by omega, by omega⟩
    · have hne := ne_of_get mb0 q
      have hd := mb_dec (a.getD i mb0) (b.getD i mb0)
      rw [decide_eq_false q] at hd
      generalize a.getD i mb0 = x at *
      generalize b.getD i mb0 = y at *
      simp [hlt, hlt2, h, hb, hg, hge, hg', hge', hw, Mb.sv, Mb.cells, hd, hne]
  · obtain rfl : i = a.length := by omega
    have hlt : ¬ ((b.length : Nat) : Int) < b.length := by omega
    have : a = b := by
      rw [List.take_of_length_le (Nat.le_refl _), List.take_of_length_le (by omega)] at ha
      exact ha
    simp [h0, this]
/-- Are two groups one? -/
def sameG (a b : Grp) : Bool := decide (a.ge = b.ge) && (decide (a.ph = b.ph) && decide (a.ms = b.ms))
def eML2 (p : List Mb × List Mb) : List SV := [.sl 3 (ML p.1), .sl 3 (ML p.2)]
theorem eML2_inj (a b : List Mb × List Mb) (h : eML2 a = eML2 b) : a = b := by simp [eML2] at h; exact Prod.ext (ML_inj _ _ h.1) (ML_inj _ _ h.2)
noncomputable def RgE : Orc := { p := fun f l => match f with
    | 70 => row eML2 (fun p => (p.1.length < 4611686018427387904, .sv (.bool (decide (p.1 = p.2))))) l
    | _ => none }
theorem RgE_ok : RgE.ok Try.prog := by
  refine ⟨fun f l c rv h hc => ?_, fun _ _ _ _ _ _ h => (by cases h), fun _ _ _ _ h => (by cases h), fun _ h => (by cases h), fun _ _ _ _ _ _ h => (by cases h), fun _ _ _ _ _ _ _ h => (by cases h)⟩
  simp only [RgE] at h
  split at h
  · exact row_ok h hc (fun p hp => eqMs p.1 p.2 hp)
  · cases h
theorem RgE_70 (a b : List Mb) : RgE.p 70 [.sl 3 (ML a), .sl 3 (ML b)] = some (a.length < 4611686018427387904, .sv (.bool (decide (a = b)))) := row_eq eML2_inj _ (a, b)
theorem same_grp (g h : Grp) (hl : g.ms.length < 4611686018427387904) : Pure Try.prog 43 [g.sv, h.sv] (.sv (.bool (sameG g h))) := by
  have e1 := RgE_70 g.ms h.ms
  have hR := RgE_ok
  generalize RgE = R at hR e1
  refine pure_go hR Try.func43 Try.ntmps43 comp43 cres43 (by decide) (by simp) ?_
  obtain ⟨a, b, l⟩ := g
  obtain ⟨c, d, m⟩ := h
  simp only at *
  unfold sameG
  simp only
  have h1 : (a == c) = decide (a = c) := by rw [Bool.eq_iff_iff]; simp
  have h2 : (b == d) = decide (b = d) := by rw [Bool.eq_iff_iff]; simp
  generalize decide (l = m) = z at *
  simp [ac43, ar43, Grp.sv, Grp.cells, e1, hl, Bool.and_assoc]
  rw [h1, h2]
theorem rsame_grp (g h : Grp) (hl : g.ms.length < 4611686018427387904) : Pure Try.prog 27 [g.sv, h.sv] (.sv (.bool (sameG g h))) := by
  refine pure_go R0_ok Try.func27 Try.ntmps27 comp27 cres27 (by decide) (by simp) ?_
  obtain ⟨ge, ph, a⟩ := g
  obtain ⟨ge', ph', b⟩ := h
  simp only at *
  unfold sameG
  simp only
  by_cases g1 : ge = ge'
  case neg =>
    have g1' : (ge == ge') = false := by simpa using g1
    simp [ac27, ar27, R0, Grp.sv, Grp.cells, g1, bne, g1']
  subst g1
  by_cases g2 : ph = ph'
  case neg =>
    have g2' : (ph == ph') = false := by simpa using g2
    simp [ac27, ar27, R0, Grp.sv, Grp.cells, g2, bne, g2']
  subst g2
  by_cases h0 : a.length = b.length
  case neg =>
    have h0' : ((a.length : Int) == b.length) = false := by simp; omega
    have hne : a ≠ b := fun e => h0 (by rw [e])
    simp [ac27, ar27, R0, Grp.sv, Grp.cells, bne, h0', hne, h0]
  have h0' : ((a.length : Int) == b.length) = true := by simp [h0]
  simp [ac27, ar27, R0, Grp.sv, Grp.cells, h0]
  refine awpR_loop (α := Nat) (fun i => i ≤ a.length ∧ a.take i = b.take i) (fun i => { n := 45, sl := [(2, .lptr 2 0), (3, .lptr 3 0), (5, .sv (.int .i64 i))], bx := [(2, [.sv (.int .i64 ge), .sv (.int .u8 ph), .sv (.sl 3 (ML a))]), (3, [.sv (.int .i64 ge), .sv (.int .u8 ph), .sv (.sl 3 (ML b))])], hp := fun _ => none })
    (fun i => a.length - i) 0 ⟨by omega, by simp⟩ (by simp) ?_
  rintro i ⟨hi, ha⟩
  by_cases h : i < a.length
  · have hlt2 : (i : Int) < b.length := by omega
    have hlt : (i : Int) < a.length := by omega
    have hb : i < b.length := by omega
    have hw := wrap_succ h hl
    have hg := ML_get a h
    have hg' := ML_get b hb
    have hge : (ML a)[i]'(by simpa using h) = (a.getD i mb0).sv := by rw [← hg, List.getElem?_eq_getElem]; rfl
    have hge' : (ML b)[i]'(by simpa using hb) = (b.getD i mb0).sv := by rw [← hg', List.getElem?_eq_getElem]; rfl
    by_cases q : a.getD i mb0 = b.getD i mb0
    · have ht := take_eq mb0 h hb ha q
      rw [q] at hg hge
      generalize b.getD i mb0 = y at *
      simp [hlt, hlt2, h, hb, hg, hge, hg', hge', hw, Mb.sv, Mb.cells]
      exact ⟨i + 1, ⟨by omega, ht⟩, by omega, by omega⟩
    · have hne := ne_of_get mb0 q
      have hd := mb_dec (a.getD i mb0) (b.getD i mb0)
      rw [decide_eq_false q] at hd
      generalize a.getD i mb0 = x at *
      generalize b.getD i mb0 = y at *
      simp [hlt, hlt2, h, hb, hg, hge, hg', hge', hw, Mb.sv, Mb.cells, hd, hne]
  · obtain rfl : i = a.length := by omega
    have hlt : ¬ ((a.length : Nat) : Int) < a.length := by omega
    have : a = b := by
      rw [List.take_of_length_le (Nat.le_refl _), List.take_of_length_le (by omega)] at ha
      exact ha
    simp [hlt, this]
def lightG (g : Grp) : Bool := decide (g.ms.length ≤ 30) && g.ms.all fun m => decide (m.id.size ≤ 60)
theorem light_grp (g : Grp) : Pure Try.prog 23 [g.sv] (.sv (.bool (lightG g))) := by
  refine pure_go R0_ok Try.func23 Try.ntmps23 comp23 cres23 (by decide) (by simp) ?_
  obtain ⟨a, b, l⟩ := g
  unfold lightG
  simp only
  by_cases h30 : l.length ≤ 30
  case neg =>
    have h1 : (30 : Int) < l.length := by omega
    simp [ac23, ar23, R0, Grp.sv, Grp.cells, h30, h1]
  have h1 : ¬ (30 : Int) < l.length := by omega
  simp [ac23, ar23, R0, Grp.sv, Grp.cells, h30, h1]
  refine awpR_loop (α := Nat) (fun i => i ≤ l.length ∧ l.all (fun m => decide (m.id.size ≤ 60)) = (l.drop i).all (fun m => decide (m.id.size ≤ 60))) (fun i => { n := 23, sl := [(1, .lptr 1 0), (3, .sv (.int .i64 i))], bx := [(1, [.sv (.int .i64 a), .sv (.int .u8 b), .sv (.sl 3 (ML l))])], hp := fun _ => none })
    (fun i => l.length - i) 0 ⟨by omega, by simp⟩ (by simp) ?_
  rintro i ⟨hi, ha⟩
  by_cases h : i < l.length
  · have hlt : (i : Int) < l.length := by omega
    have hw := wrap_succ h (show l.length < 4611686018427387904 by omega)
    have hg := ML_get l h
    have hge : (ML l)[i]'(by simpa using h) = (l.getD i mb0).sv := by rw [← hg, List.getElem?_eq_getElem]; rfl
    rw [allM_drop _ l h] at ha
    generalize l.getD i mb0 = x at *
    by_cases q : x.id.size ≤ 60
    · have q2 : ¬ (60 : Int) < x.id.size := by omega
      rw [show decide (x.id.size ≤ 60) = true by simpa using q, Bool.true_and] at ha
      simp [hlt, h, hg, hge, hw, q2, Mb.sv, Mb.cells]
      exact ⟨i + 1, ⟨by omega, by simpa using ha⟩, by omega, by omega⟩
    · have q2 : (60 : Int) < x.id.size := by omega
      rw [show decide (x.id.size ≤ 60) = false by simpa using q, Bool.false_and] at ha
      simp [hlt, h, hg, hge, hw, q2, Mb.sv, Mb.cells]
      simpa using ha
  · obtain rfl : i = l.length := by omega
    have hlt : ¬ ((l.length : Nat) : Int) < l.length := by omega
    rw [List.drop_length] at ha
    simp [hlt]
    simpa using ha
/-- A group's turn, with these members. -/
def offM (l : List Mb) : List Mb := l.map fun m => ⟨m.id, m.sn, false⟩
def turnG (g : Grp) (l : List Mb) : Grp := ⟨IntKind.i64.wrap (g.ge + 1), if l = [] then 0 else 1, offM l⟩
theorem off_snoc {l : List Mb} {i : Nat} (h : i < l.length) : offM (l.take (i + 1)) = offM (l.take i) ++ [⟨(l.getD i mb0).id, (l.getD i mb0).sn, false⟩] := by
  unfold offM
  rw [List.take_succ_eq_append_getElem h, List.getD_eq_getElem?_getD, List.getElem?_eq_getElem h, List.map_append]
  rfl
theorem off_phase (l : List Mb) : phaseP (offM l) = if l = [] then 0 else 1 := by
  unfold phaseP offM
  cases l with
  | nil => rfl
  | cons m l => simp
theorem rturn_pure (g : Grp) (l : List Mb) (hl : l.length ≤ 1000) : Pure Try.prog 76 [g.sv, .sl 3 (ML l)] (.sv (turnG g l).sv) := by
  refine pure_go R0_ok Try.func76 Try.ntmps76 comp76 cres76 (by decide) (by simp) ?_
  obtain ⟨a, b, ms⟩ := g
  unfold turnG
  simp [ac76, ar76, R0, Grp.sv, Grp.cells]
  refine awpR_loop (α := Nat) (fun i => i ≤ l.length) (fun i => { n := 31, sl := [(1, .sv (.sl 3 (ML l))), (4, .lptr 4 0), (5, .lptr 5 0), (6, .sv (.int .i64 i))], bx := [(4, [.sv (.int .i64 0), .sv (.int .u8 0), .sv .nils]), (5, [.sv (.int .i64 (IntKind.i64.wrap (a + 1))), .sv (.int .u8 (if i = 0 then 0 else 1)), .own 3 (ML (offM (l.take i)))])], hp := fun _ => none })
    (fun i => l.length - i) 0 (by omega) (by simp [offM, ML]) ?_
  intro i hi
  by_cases h : i < l.length
  · have hlt : (i : Int) < l.length := by omega
    have hw := wrap_succ h (show l.length < 4611686018427387904 by omega)
    have hg := ML_get l h
    have hge : (ML l)[i]'(by simpa using h) = (l.getD i mb0).sv := by rw [← hg, List.getElem?_eq_getElem]; rfl
    have hs := off_snoc h
    have hlen : (offM (l.take i)).length = i := by simp [offM]; omega
    generalize l.getD i mb0 = x at *
    generalize offM (l.take i) = z at *
    simp [hlt, h, hg, hge, hw, hlen, Mb.sv, Mb.cells]
    exact ⟨by omega, i + 1, by omega, by omega, by omega, by simp, by rw [hs, ML_app]; rfl⟩
  · obtain rfl : i = l.length := by omega
    have hlt : ¬ ((l.length : Nat) : Int) < l.length := by omega
    simp [hlt]
end Go.Proofs.Ytmfkliabjfngmaa

/- Group: rows of members; seen, walked raw. -/




set_option linter.unusedSimpArgs false
set_option linter.unusedVariables false
set_option maxHeartbeats 4000000
set_option maxRecDepth 100000
namespace Go.Proofs.Ytmfkliabjfngmaa

open Go.Av Go.RowKit

def encM (m : Mb) : List Value := [.string m.id, .int .i64 m.sn, .bool m.sy]
def RowM (c : Array Value) (off : Nat) (l : List Mb) : Prop := ∀ i, i < l.length → ∀ q, q < 3 → c[off + i * 3 + q]? = some ((encM (l.getD i mb0)).getD q Go.undef)
theorem rep_encM (mu : Mem) (m : Mb) : ∀ q, q < 3 → Rep mu (m.sv.cell q) ((encM m).getD q Go.undef) := by
  intro q hq
  match q, hq with
  | 0, _ => exact .str _
  | 1, _ => exact .int _ _
  | 2, _ => exact .bool _
theorem rep_encM_inv {mu : Mem} {m : Mb} {q : Nat} (hq : q < 3) {v : Value} (h : Rep mu (m.sv.cell q) v) : v = (encM m).getD q Go.undef := by
  match q, hq, h with
  | 0, _, h => exact Rep.inv_str h
  | 1, _, h => exact Rep.inv_int h
  | 2, _, h => exact Rep.inv_bool h
theorem one_encM (m : Mb) {q : Nat} (hq : q < 3) : ((encM m).getD q Go.undef).oneCell' = true := by
  match q, hq with
  | 0, _ => rfl
  | 1, _ => rfl
  | 2, _ => rfl
theorem ML_getD {l : List Mb} {i : Nat} (h : i < l.length) : (ML l).getD i .undef = (l.getD i mb0).sv := by rw [List.getD_eq_getElem?_getD]; exact ML_get l h
theorem row_of_rep {mu : Mem} {w : World} (hm : MemOK mu w) {l : List Mb} {v : Value} (h : Rep mu (.sl 3 (ML l)) v) (h0 : 0 < l.length) : ∃ b off cap, v = .slice (some ⟨b, off, none⟩) l.length cap ∧ l.length ≤ cap ∧
    ∀ i, i < l.length → ∀ q, q < 3 → mu b (off + i * 3 + q) = some ((encM (l.getD i mb0)).getD q Go.undef) := by
  rcases h.inv_sl with ⟨_, hx⟩ | ⟨b, off, cap, vals, rfl, h1, h2, h3, h4⟩
  · have : l = [] := by simpa [ML] using hx
    subst this; simp at h0
  · refine ⟨b, off, cap, by rw [ML_length], by simpa using h1, fun i hi q hq => ?_⟩
    have hi' : i < (ML l).length := by simpa using hi
    have h5 := h4 i q hi' hq
    rw [ML_getD hi] at h5
    rw [h3 i q hi' hq, rep_encM_inv hq h5]
theorem clone_raw {mu : Mem} {w : World} (hm : MemOK mu w) {l : List Mb} {v : Value} (hv : Rep mu (.sl 3 (ML l)) v) (h0 : 0 < l.length) (hl : l.length ≤ 1000) :
    Calls Try.prog 58 #[v] w fun e w' => ∃ b off cap c te fr, e = .returned (.slice (some ⟨b, off, none⟩) l.length cap) ∧ w.heap.size ≤ b ∧ Ext (fun _ => False) w w' ∧ w'.heap[b]? = some (.cells c te fr) ∧ Unfrozen c fr ∧ l.length ≤ cap ∧ off + cap * 3 ≤ c.size ∧ RowM c off l := by
  have h := clone_pure l hl mu w [v] hm (repArgs1 hv)
  refine h.mono ?_
  rintro e w' ⟨val, mu', rfl, q1, q2, q3, q4, x, q5, q6⟩
  rcases q5 with ⟨q5, rfl⟩ | ⟨b, off, cap, rfl, q5, hx, hok, ⟨c, te, fr, k1, k2, k3⟩, k4⟩
  · obtain ⟨b, off, cap, q7, _⟩ := row_of_rep q3 q5 h0
    cases q7
  · obtain ⟨b', off', cap', e1, hc, hrow⟩ := row_of_rep q3 q5 h0
    simp only [Value.slice.injEq, Option.some.injEq, Addr.mk.injEq, and_true] at e1
    obtain ⟨⟨rfl, rfl⟩, _, rfl⟩ := e1
    have hge : w.heap.size ≤ b := Nat.le_of_not_lt fun q => hok q
    refine ⟨b, off, cap, c, te, fr, by rw [ML_length], hge, q1, k1, k3, hc, k2, fun i hi q hq => ?_⟩
    rw [← cell_of_block k1]
    exact (q3 _ _ _ (hrow i hi q hq)).1
/-- The memory with a row more. -/
def memRow (mu : Mem) (b off n : Nat) (c : Array Value) : Mem := fun b' j => if b' = b ∧ off ≤ j ∧ j < off + n * 3 then c[j]? else mu b' j
theorem memRow_spec {mu : Mem} {w : World} {b off : Nat} {c : Array Value} {te : TypeId} {fr : Nat × Nat} {l : List Mb} (hm : MemOK mu w) (hb : w.heap[b]? = some (.cells c te fr)) (hn : ∀ j, mu b j = none) (hr : RowM c off l) :
    MemOK (memRow mu b off l.length c) w ∧ mu.le (memRow mu b off l.length c) ∧ (∀ b' j, b' ≠ b → memRow mu b off l.length c b' j = mu b' j) ∧
    ∀ cap, l.length ≤ cap → Rep (memRow mu b off l.length c) (.sl 3 (ML l)) (.slice (some ⟨b, off, none⟩) l.length cap) := by
  refine ⟨?_, ?_, ?_, ?_⟩
  · intro b' j v hv
    unfold memRow at hv
    split at hv
    · rename_i q
      obtain ⟨rfl, q1, q2⟩ := q
      refine ⟨by rw [cell_of_block hb]; exact hv, ?_⟩
      have := hr ((j - off) / 3) (by omega) ((j - off) % 3) (by omega)
      rw [show off + (j - off) / 3 * 3 + (j - off) % 3 = j by omega, hv] at this
      cases this
      exact one_encM _ (by omega)
    · exact hm b' j v hv
  · intro b' j v hv
    unfold memRow
    rw [if_neg (fun q => by rw [q.1, hn] at hv; cases hv)]
    exact hv
  · intro b' j hne
    unfold memRow
    rw [if_neg (fun q => hne q.1)]
  · intro cap hc
    have := Rep.sl (mu := memRow mu b off l.length c) 3 (ML l) b off cap (fun i q => (encM (l.getD i mb0)).getD q Go.undef) (by simpa using hc) (fun x hx => by
      simp only [ML, List.mem_map] at hx
      obtain ⟨r, _, rfl⟩ := hx
      rfl) (fun i j hi hj => by
      have hi2 : i < l.length := by simpa using hi
      unfold memRow
      rw [if_pos ⟨rfl, by omega, by omega⟩]
      exact hr i hi2 j hj) (fun i j hi hj => by
      have hi2 : i < l.length := by simpa using hi
      rw [ML_getD hi2]
      exact rep_encM _ _ j hj)
    rwa [ML_length] at this
theorem ret_grp {mu : Mem} {w w' : World} {b off cap : Nat} {c : Array Value} {te : TypeId} {fr : Nat × Nat} {l : List Mb} (ge ph : Int) (hm : MemOK mu w) (hx : Ext (fun _ => False) w w') (hge : w.heap.size ≤ b) (hb : w'.heap[b]? = some (.cells c te fr)) (hc : l.length ≤ cap) (hr : RowM c off l) :
    ∃ val mu', Ending.returned (.agg #[.int .i64 ge, .int .u8 ph, .slice (some ⟨b, off, none⟩) l.length cap]) = .returned val ∧ Ext (fun _ => False) w w' ∧ mu.le mu' ∧ MemOK mu' w' ∧ (∀ b j, b < w.heap.size → mu' b j = mu b j) ∧ RetRep w.heap.size mu' w' (.sv (Grp.sv ⟨ge, ph, l⟩)) val := by
  have hm' : MemOK mu w' := fun b' j v hv => by
    obtain ⟨q1, q2⟩ := hm b' j v hv
    refine ⟨?_, q2⟩
    rw [← q1]
    exact World.cell?_of_block (hx.block b' (hm.lt hv) id)
  have hn : ∀ j, mu b j = none := fun j => by
    cases q : mu b j with
    | none => rfl
    | some v => have := hm.lt q; omega
  obtain ⟨k1, k2, k3, k4⟩ := memRow_spec hm' hb hn hr
  refine ⟨_, _, rfl, hx, k2, k1, fun b' j hlt => k3 b' j (by omega), fun _ => none, ?_, fun _ _ q => by cases q⟩
  exact .agg _ [.int .i64 ge, .int .u8 ph, .slice (some ⟨b, off, none⟩) l.length cap] rfl (fun j hj => by
    match j, hj with
    | 0, _ => exact .int _ _
    | 1, _ => exact .int _ _
    | 2, _ => exact k4 cap hc)
theorem phase_raw {mu : Mem} {w : World} (hm : MemOK mu w) {b off cap : Nat} {c : Array Value} {te : TypeId} {fr : Nat × Nat} {l : List Mb} (hb : w.heap[b]? = some (.cells c te fr)) (hn : ∀ j, mu b j = none) (hr : RowM c off l) (hc : l.length ≤ cap) (hl : l.length ≤ 1000) :
    Calls Try.prog 65 #[.slice (some ⟨b, off, none⟩) l.length cap] w fun e w' => e = .returned (.int .u8 (phaseP l)) ∧ Ext (fun _ => False) w w' := by
  obtain ⟨k1, k2, k3, k4⟩ := memRow_spec hm hb hn hr
  refine (phase_pure l (by omega) _ w [_] k1 (repArgs1 (k4 cap hc))).mono ?_
  rintro e w' ⟨val, mu', rfl, q1, q2, q3, q4, x, q5, q6⟩
  exact ⟨by rw [Rep.inv_int q5], q1⟩

def chW (s : Bool) (W : World) (b o : Nat) : World := if s then W.setCell ⟨b, o + 2, none⟩ (.bool true) else W
theorem ch53 (W : World) (a : Value) : Calls Try.prog 53 #[a] W fun e w' => e = .returned (.tuple #[]) ∧ w' = W := by
  go_enter Try.func53, Try.ntmps53
  go_wp2
  go_end0
  exact ⟨rfl, rfl⟩
theorem ch61 (W : World) (a : Value) : Calls Try.prog 61 #[a] W fun e w' => e = .returned (.tuple #[]) ∧ w' = W := by
  go_enter Try.func61, Try.ntmps61
  go_wp2
  go_end0
  exact ⟨rfl, rfl⟩
theorem ch60 (W : World) (b o : Nat) (v : Value) (hc : W.cell? ⟨b, o + 2, none⟩ = some v) (hf : W.frozen? ⟨b, o + 2, none⟩ = false) : Calls Try.prog 60 #[.pointer (some ⟨b, o, none⟩)] W fun e w' => e = .returned (.tuple #[]) ∧ w' = W.setCell ⟨b, o + 2, none⟩ (.bool true) := by
  go_enter Try.func60, Try.ntmps60
  go_wp2
  go_end0
  exact ⟨rfl, rfl⟩
end Go.Proofs.Ytmfkliabjfngmaa

/- Group: seen, walked raw. -/


set_option linter.unusedSimpArgs false
set_option linter.unusedVariables false
set_option maxHeartbeats 4000000
set_option maxRecDepth 100000
namespace Go.Proofs.Ytmfkliabjfngmaa

open Go.Av Go.RowKit

theorem blk_same {w : World} {b j : Nat} {c : Array Value} {te : TypeId} {fr : Nat × Nat} (h : w.heap[b]? = some (.cells c te fr)) (v : Value) : (w.setCell ⟨b, j, none⟩ v).heap[b]? = some (.cells (c.setIfInBounds j v) te fr) := by
  simp [World.setCell, Array.getElem?_modify, h]
theorem blk_other {w : World} {b j k : Nat} (h : k ≠ b) (v : Value) : (w.setCell ⟨b, j, none⟩ v).heap[k]? = w.heap[k]? := by
  simp [World.setCell, Array.getElem?_modify, Ne.symm h]
theorem ext_set {T : Nat → Prop} {w w1 : World} (h : Ext T w w1) {b : Nat} (hb : w.heap.size ≤ b) (j : Nat) (v : Value) : Ext T w (w1.setCell ⟨b, j, none⟩ v) :=
  ⟨h.os, h.tape, h.output, by have := h.size; simp [World.setCell]; omega, fun k hk ht => (blk_other (by omega) v).trans (h.block k hk ht)⟩
theorem RowM.upd {c : Array Value} {off : Nat} {l : List Mb} (h : RowM c off l) {i : Nat} (hi : i < l.length) (m : Mb) {c2 : Array Value}
    (h0 : c2[off + i * 3]? = some (.string m.id)) (h1 : c2[off + i * 3 + 1]? = some (.int .i64 m.sn)) (h2 : c2[off + i * 3 + 2]? = some (.bool m.sy)) (ho : ∀ j, ¬ (off + i * 3 ≤ j ∧ j < off + i * 3 + 3) → c2[j]? = c[j]?) : RowM c2 off (l.set i m) := by
  intro k hk q hq
  rw [List.length_set] at hk
  by_cases e : k = i
  · subst e
    have : (l.set k m).getD k mb0 = m := by rw [List.getD_eq_getElem?_getD, List.getElem?_set_self hk]; rfl
    rw [this]
    match q, hq with
    | 0, _ => exact h0
    | 1, _ => exact h1
    | 2, _ => exact h2
  · have : (l.set i m).getD k mb0 = l.getD k mb0 := by rw [List.getD_eq_getElem?_getD, List.getD_eq_getElem?_getD, List.getElem?_set_ne (Ne.symm e)]
    rw [this, ho _ (by rcases Nat.lt_or_ge k i with z | z <;> omega)]
    exact h k hk q hq
/-- What a closure has changed: the world's cells. -/
theorem chW_block (s : Bool) {W : World} {b o : Nat} {c : Array Value} {te : TypeId} {fr : Nat × Nat} (h : W.heap[b]? = some (.cells c te fr)) : (chW s W b o).heap[b]? = some (.cells (if s then c.setIfInBounds (o + 2) (.bool true) else c) te fr) := by
  cases s
  · exact h
  · exact blk_same h _
theorem chW_other (s : Bool) {W : World} {b o k : Nat} (hk : k ≠ b) : (chW s W b o).heap[k]? = W.heap[k]? := by
  cases s
  · rfl
  · exact blk_other hk _
theorem seen_raw (F : FuncId) (s : Bool) (eg : ∀ args w, (callFunc F args).run Try.prog w = .ok (.enter F args) w)
    (hch : ∀ (W : World) (b o : Nat) (v : Value), W.cell? ⟨b, o + 2, none⟩ = some v → W.frozen? ⟨b, o + 2, none⟩ = false → Calls Try.prog F #[.pointer (some ⟨b, o, none⟩)] W fun e w' => e = .returned (.tuple #[]) ∧ w' = chW s W b o)
    {mu : Mem} {w : World} (hm : MemOK mu w) (ge ph : Int) {v : Value} {l : List Mb} (hv : Rep mu (.sl 3 (ML l)) v) (i : Nat) (hi : i < l.length) (hl : l.length ≤ 1000) (now : Int) :
    Calls Try.prog 52 #[.agg #[.int .i64 ge, .int .u8 ph, v], .int .i64 i, .int .i64 now, .func (.func F) #[] #[]] w fun e w' => ∃ b off cap c te fr,
      e = .returned (.agg #[.int .i64 ge, .int .u8 (phaseP (l.set i ⟨(l.getD i mb0).id, max (l.getD i mb0).sn now, s || (l.getD i mb0).sy⟩)), .slice (some ⟨b, off, none⟩) l.length cap]) ∧ Ext (fun _ => False) w w' ∧ w.heap.size ≤ b ∧ w'.heap[b]? = some (.cells c te fr) ∧ l.length ≤ cap ∧
      RowM c off (l.set i ⟨(l.getD i mb0).id, max (l.getD i mb0).sn now, s || (l.getD i mb0).sy⟩) := by
  have HM : Aside (MemOK mu w) := hm
  have HV : Aside (Rep mu (.sl 3 (ML l)) v) := hv
  have HC : Aside _ := hch
  clear hm hv hch
  have hiz : (i : Int) < (l.length : Int) := by omega
  go_enter Try.func52, Try.ntmps52
  go_wp2_with (first
    | (go_at_call 58
       refine (clone_raw ((HM.out.alloc _).alloc _) HV.out (by omega) hl).mono ?_
       rintro e w2 ⟨b, off, cap, c, te, fr, rfl, hge, hx, hb, hfr, hcap, hsz, hrow⟩
       have hbn : w.heap.size + 2 ≤ b := by simp at hge; omega
       have q0 : w2.heap[w.heap.size]? = some (.cells #[.int .i64 ge, .int .u8 ph, v] 43) := by
         rw [hx.block _ (by simp; omega) id, alloc_get, if_neg (by simp), alloc_get, if_pos rfl]
       have q1 : w2.heap[w.heap.size + 1]? = some (.cells #[.int .i64 0, .int .u8 0, .slice none 0 0] 43) := by
         rw [hx.block _ (by simp) id, alloc_get, if_pos (by simp)]
       have c00 : w2.cell? ⟨w.heap.size, 0, none⟩ = some (.int .i64 ge) := by simp [World.cell?, q0]
       have c01 : w2.cell? ⟨w.heap.size, 1, none⟩ = some (.int .u8 ph) := by simp [World.cell?, q0]
       have c02 : w2.cell? ⟨w.heap.size, 2, none⟩ = some v := by simp [World.cell?, q0]
       have f00 : w2.frozen? ⟨w.heap.size, 0, none⟩ = false := by simp [World.frozen?, q0]
       have f01 : w2.frozen? ⟨w.heap.size, 1, none⟩ = false := by simp [World.frozen?, q0]
       have f02 : w2.frozen? ⟨w.heap.size, 2, none⟩ = false := by simp [World.frozen?, q0]
       have hii : off + i * 3 + 2 < c.size := by have : (i + 1) * 3 ≤ cap * 3 := Nat.mul_le_mul_right _ (by omega); omega
       have r0 : w2.cell? ⟨b, off + i * 3, none⟩ = some (.string (l.getD i mb0).id) := by rw [cell_of_block hb]; exact hrow i hi 0 (by omega)
       have r1 : w2.cell? ⟨b, off + i * 3 + 1, none⟩ = some (.int .i64 (l.getD i mb0).sn) := by rw [cell_of_block hb]; exact hrow i hi 1 (by omega)
       have r2 : w2.cell? ⟨b, off + i * 3 + 2, none⟩ = some (.bool (l.getD i mb0).sy) := by rw [cell_of_block hb]; exact hrow i hi 2 (by omega)
       have g1 : w2.frozen? ⟨b, off + i * 3 + 1, none⟩ = false := by
         have := hfr.not _ (show off + i * 3 + 1 < c.size by omega)
         simp only [World.frozen?, hb]; simp; omega
       have g2 : w2.frozen? ⟨b, off + i * 3 + 2, none⟩ = false := by
         have := hfr.not _ hii
         simp only [World.frozen?, hb]; simp; omega
       have HX : Aside (Ext (fun _ => False) _ w2) := hx
       have HB : Aside (w2.heap[b]? = some (.cells c te fr)) := hb
       have HFR : Aside (Unfrozen c fr) := hfr
       have HROW : Aside (RowM c off l) := hrow
       have HQ1 : Aside (w2.heap[w.heap.size + 1]? = some (.cells #[.int .i64 0, .int .u8 0, .slice none 0 0] 43)) := q1
       have HQ0 : Aside (w2.heap[w.heap.size]? = some (.cells #[.int .i64 ge, .int .u8 ph, v] 43)) := q0
       have HSZ : Aside (off + cap * 3 ≤ c.size) := hsz
       clear hx hb hfr hrow q0 q1 hsz hge
       )
    | go_in)
  have hlz : l[i].sn = (l.getD i mb0).sn := by rw [List.getD_eq_getElem?_getD, List.getElem?_eq_getElem hi]; rfl
  refine (HC.out _ b (off + i * 3) (.bool (l.getD i mb0).sy) ?_ ?_).mono ?_
  · have z1 : (⟨b, off + i * 3 + 1, none⟩ : Addr) ≠ ⟨b, off + i * 3 + 2, none⟩ := by simp
    have z2 : (⟨w.heap.size, 2, none⟩ : Addr) ≠ ⟨b, off + i * 3 + 2, none⟩ := fun q => by
      have := congrArg Addr.block q; simp at this; omega
    exact (World.cell?_setCell_other _ _ _ _ z1).trans ((World.cell?_setCell_other _ _ _ _ z2).trans r2)
  · exact (World.frozen?_setCell ..).trans ((World.frozen?_setCell ..).trans g2)
  rintro e w3 ⟨rfl, hw3⟩
  obtain ⟨mb, hmb⟩ : ∃ mb : Mb, mb = ⟨(l.getD i mb0).id, max (l.getD i mb0).sn now, s || (l.getD i mb0).sy⟩ := ⟨_, rfl⟩
  have hszb : b ≠ w.heap.size := by omega
  have hszb1 : b ≠ w.heap.size + 1 := by omega
  have B1 := blk_same (j := off + i * 3 + 1) ((blk_other (w := w2) (b := w.heap.size) (j := 2) hszb (.slice (some ⟨b, off, none⟩) l.length cap)).trans HB.out) (.int .i64 (max l[i].sn now))
  have B2 := chW_block s (o := off + i * 3) B1
  rw [← hw3] at B2
  have q0 : w3.heap[w.heap.size]? = some (.cells #[.int .i64 ge, .int .u8 ph, .slice (some ⟨b, off, none⟩) l.length cap] 43) := by
    rw [hw3, chW_other s (Ne.symm hszb), blk_other (Ne.symm hszb), blk_same HQ0.out]; rfl
  have q1 : w3.heap[w.heap.size + 1]? = some (.cells #[.int .i64 0, .int .u8 0, .slice none 0 0] 43) := by
    rw [hw3, chW_other s (Ne.symm hszb1), blk_other (Ne.symm hszb1), blk_other (by omega)]; exact HQ1.out
  have hfr3 : Unfrozen (if s then (c.setIfInBounds (off + i * 3 + 1) (.int .i64 (max l[i].sn now))).setIfInBounds (off + i * 3 + 2) (.bool true) else c.setIfInBounds (off + i * 3 + 1) (.int .i64 (max l[i].sn now))) fr := by
    cases s <;> simpa [Unfrozen] using HFR.out
  have hrow3 : RowM (if s then (c.setIfInBounds (off + i * 3 + 1) (.int .i64 (max l[i].sn now))).setIfInBounds (off + i * 3 + 2) (.bool true) else c.setIfInBounds (off + i * 3 + 1) (.int .i64 (max l[i].sn now))) off (l.set i mb) := by
    have a0 := HROW.out i hi 0 (by omega)
    have a2 := HROW.out i hi 2 (by omega)
    simp only [encM, List.getD_cons_zero, List.getD_cons_succ, Nat.add_zero] at a0 a2
    refine HROW.out.upd hi mb ?_ ?_ ?_ (fun j hj => ?_)
    · cases s <;> simp [hmb, Array.getElem?_setIfInBounds, a0]
    · cases s <;> simp [hmb, Array.getElem?_setIfInBounds, hlz] <;> omega
    · obtain ⟨_, a3⟩ := Array.getElem?_eq_some_iff.1 a2
      cases s <;> simp [hmb, Array.getElem?_setIfInBounds, a3, hii]
    · cases s <;> simp [Array.getElem?_setIfInBounds] <;> (try rw [if_neg (by omega), if_neg (by omega)]) <;> (intros; omega)
  generalize (if s then (c.setIfInBounds (off + i * 3 + 1) (.int .i64 (max l[i].sn now))).setIfInBounds (off + i * 3 + 2) (.bool true) else c.setIfInBounds (off + i * 3 + 1) (.int .i64 (max l[i].sn now))) = c3 at B2 hfr3 hrow3
  have HM3 : Aside (MemOK mu w3) := by
    intro b' j' v' hv'
    have hlt := HM.out.lt hv'
    obtain ⟨t1, t2⟩ := HM.out b' j' v' hv'
    refine ⟨?_, t2⟩
    rw [← t1]
    refine World.cell?_of_block ?_
    have e1 : b' ≠ b := by omega
    have e2 : b' ≠ w.heap.size := by omega
    rw [hw3, chW_other s e1, blk_other e1, blk_other e2, HX.out.block b' (by simp; omega) id, alloc_get, if_neg (by simp; omega), alloc_get, if_neg (by omega)]
  have HX3 : Aside (Ext (fun _ => False) w w3) := by
    have x2 := HX.out
    rw [hw3]
    have es : ∀ W : World, ∀ b' j v, (W.setCell ⟨b', j, none⟩ v).heap.size = W.heap.size := fun W b' j v => by simp [World.setCell]
    refine ⟨?_, ?_, ?_, ?_, fun k hk _ => ?_⟩
    · cases s <;> exact x2.os
    · cases s <;> exact x2.tape
    · cases s <;> exact x2.output
    · have := x2.size
      simp at this
      cases s <;> simp [chW, es] <;> omega
    · have e1 : k ≠ b := by omega
      have e2 : k ≠ w.heap.size := by omega
      rw [chW_other s e1, blk_other e1, blk_other e2, x2.block k (by simp; omega) id, alloc_get, if_neg (by simp; omega), alloc_get, if_neg (by omega)]
  have HB3 : Aside (w3.heap[b]? = some (.cells c3 te fr)) := B2
  have HR3 : Aside (RowM c3 off (l.set i mb)) := hrow3
  have c02 : w3.cell? ⟨w.heap.size, 2, none⟩ = some (.slice (some ⟨b, off, none⟩) l.length cap) := by simp [World.cell?, q0]
  have hl2 : (l.set i mb).length = l.length := List.length_set
  have Q0 : Aside _ := q0
  have Q1 : Aside _ := q1
  have hnb : ∀ j, mu b j = none := fun j => by
    cases q : mu b j with
    | none => rfl
    | some v => have := HM.out.lt q; omega
  have HNB : Aside (∀ j, mu b j = none) := hnb
  have HMB : Aside _ := hmb
  clear q0 q1 B1 B2 hrow3 hw3 c00 c01 f00 f01 f02 r0 r1 r2 g1 g2 hnb hmb
  rename_i c02old
  have hph := phase_raw HM3.out HB3.out HNB.out HR3.out (show (l.set i mb).length ≤ cap by omega) (by omega)
  rw [hl2] at hph
  simp only []
  go_wp2_with (first
    | (go_at_call 65
       refine hph.mono ?_
       rintro e w4 ⟨rfl, hx4⟩
       have p0 : w4.heap[w.heap.size]? = some (.cells #[.int .i64 ge, .int .u8 ph, .slice (some ⟨b, off, none⟩) l.length cap] 43) :=
         (hx4.block _ (Array.getElem?_eq_some_iff.1 Q0.out).1 id).trans Q0.out
       have p1 : w4.heap[w.heap.size + 1]? = some (.cells #[.int .i64 0, .int .u8 0, .slice none 0 0] 43) :=
         (hx4.block _ (Array.getElem?_eq_some_iff.1 Q1.out).1 id).trans Q1.out
       have d0 : w4.cell? ⟨w.heap.size, 0, none⟩ = some (.int .i64 ge) := by simp [World.cell?, p0]
       have d1 : w4.cell? ⟨w.heap.size, 1, none⟩ = some (.int .u8 ph) := by simp [World.cell?, p0]
       have d2 : w4.cell? ⟨w.heap.size, 2, none⟩ = some (.slice (some ⟨b, off, none⟩) l.length cap) := by simp [World.cell?, p0]
       have d1f : w4.frozen? ⟨w.heap.size, 1, none⟩ = false := by simp [World.frozen?, p0]
       have e0 : w4.cell? ⟨w.heap.size + 1, 0, none⟩ = some (.int .i64 0) := by simp [World.cell?, p1]
       have e1 : w4.cell? ⟨w.heap.size + 1, 1, none⟩ = some (.int .u8 0) := by simp [World.cell?, p1]
       have e2 : w4.cell? ⟨w.heap.size + 1, 2, none⟩ = some (.slice none 0 0) := by simp [World.cell?, p1]
       have e0f : w4.frozen? ⟨w.heap.size + 1, 0, none⟩ = false := by simp [World.frozen?, p1]
       have e1f : w4.frozen? ⟨w.heap.size + 1, 1, none⟩ = false := by simp [World.frozen?, p1]
       have e2f : w4.frozen? ⟨w.heap.size + 1, 2, none⟩ = false := by simp [World.frozen?, p1]
       have HX4 : Aside (Ext (fun _ => False) w3 w4) := hx4
       have P0 : Aside _ := p0
       have P1 : Aside _ := p1
       clear hx4 p0 p1 c02
       simp only [])
    | go_in)
  have hne : w.heap.size + 1 ≠ w.heap.size := by omega
  have G1 := blk_same (j := 2) (blk_same (j := 1) (blk_same (j := 0) ((blk_other (b := w.heap.size) (j := 1) hne (.int .u8 (phaseP (l.set i mb)))).trans P1.out) (.int .i64 ge)) (.int .u8 (phaseP (l.set i mb)))) (.slice (some ⟨b, off, none⟩) l.length cap)
  refine bodyPost_ret (results_cell_row rfl _ _ (w.heap.size + 1) _ _ _ _ rfl G1 (show Try.prog.underlying 43 = some (Try.prog.underlying 43).get! by kernel_rfl) (by kernel_rfl) (by kernel_rfl)) rfl ?_
  refine ⟨b, off, cap, c3, te, fr, ?_, ?_, by omega, ?_, hcap, ?_⟩
  · rw [← HMB.out]; rfl
  · have hx := HX3.out.trans HX4.out
    exact ext_set (ext_set (ext_set (ext_set hx (by omega) _ _) (by omega) _ _) (by omega) _ _) (by omega) _ _
  · exact (blk_other hszb1 _).trans ((blk_other hszb1 _).trans ((blk_other hszb1 _).trans ((blk_other hszb _).trans ((HX4.out.block b (Array.getElem?_eq_some_iff.1 HB3.out).1 id).trans HB3.out))))
  · rw [← HMB.out]; exact HR3.out
end Go.Proofs.Ytmfkliabjfngmaa

/- Group: seen and with as contracts. -/

set_option linter.unusedSimpArgs false
set_option linter.unusedVariables false
set_option maxHeartbeats 4000000
set_option maxRecDepth 100000
namespace Go.Proofs.Ytmfkliabjfngmaa

open Go.Av Go.RowKit

theorem enters_okFn {P : Program} {f : FuncId} (h : okFn P f) : ∀ args w, (callFunc f args).run P w = .ok (.enter f args) w := by
  intro args w
  obtain ⟨fn, h1, h2, h3⟩ := h
  have hb' : fn.body.isNone = false := by cases hb : fn.body <;> simp [hb] at h2 ⊢
  simp only [callFunc, run_program, Sem.run_bind, Sem.run_pure, Result.andThen_ok, h1, h3, hb', Bool.false_eq_true, if_false]
theorem rep_grp {mu : Mem} {g : Grp} {x : Value} (h : Rep mu g.sv x) : ∃ v, x = .agg #[.int .i64 g.ge, .int .u8 g.ph, v] ∧ Rep mu (.sl 3 (ML g.ms)) v := by
  cases h with
  | agg _ vs h1 h2 =>
    have h3 : vs.length = 3 := by rw [h1]; rfl
    match vs, h3 with
    | [a, b, c], _ =>
      have k0 : a = .int .i64 g.ge := Rep.inv_int (h2 0 (by simp [Grp.cells]))
      have k1 : b = .int .u8 g.ph := Rep.inv_int (h2 1 (by simp [Grp.cells]))
      have k2 : Rep mu (.sl 3 (ML g.ms)) c := h2 2 (by simp [Grp.cells])
      exact ⟨c, by rw [k0, k1], k2⟩
def setM (l : List Mb) (i : Nat) (m : Mb) : List Mb := l.set i m
/-- A member that is seen, and synced. -/
def seenM (s : Bool) (now : Int) (m : Mb) : Mb := ⟨m.id, max m.sn now, s || m.sy⟩
def seenG (s : Bool) (g : Grp) (i : Nat) (now : Int) : Grp := ⟨g.ge, phaseP (g.ms.set i (seenM s now (g.ms.getD i mb0))), g.ms.set i (seenM s now (g.ms.getD i mb0))⟩
theorem seen_pure (F : FuncId) (s : Bool) (hF : okFn Try.prog F)
    (hch : ∀ (W : World) (b o : Nat) (v : Value), W.cell? ⟨b, o + 2, none⟩ = some v → W.frozen? ⟨b, o + 2, none⟩ = false → Calls Try.prog F #[.pointer (some ⟨b, o, none⟩)] W fun e w' => e = .returned (.tuple #[]) ∧ w' = chW s W b o)
    (g : Grp) (i : Nat) (hi : i < g.ms.length) (hl : g.ms.length ≤ 1000) (now : Int) :
    Pure Try.prog 52 [g.sv, .int .i64 i, .int .i64 now, .fn F [] []] (.sv (seenG s g i now).sv) := by
  intro mu w vs hm hra
  obtain ⟨x, a, b, c, rfl⟩ : ∃ x a b c, vs = [x, a, b, c] := by
    match vs, hra.1 with
    | [x, a, b, c], _ => exact ⟨x, a, b, c, rfl⟩
  obtain ⟨v, rfl, hv⟩ := rep_grp (hra.2 0 (by simp))
  obtain rfl : a = .int .i64 i := Rep.inv_int (hra.2 1 (by simp))
  obtain rfl : b = .int .i64 now := Rep.inv_int (hra.2 2 (by simp))
  have hc : Rep mu (.fn F [] []) c := hra.2 3 (by simp)
  obtain rfl : c = .func (.func F) #[] #[] := by
    cases hc with
    | fn _ _ _ vf vc h1 h2 h3 h4 =>
      obtain rfl : vf = [] := List.length_eq_zero_iff.1 h1
      obtain rfl : vc = [] := List.length_eq_zero_iff.1 h2
      rfl
  refine (seen_raw F s (enters_okFn hF) hch hm g.ge g.ph hv i hi hl now).mono ?_
  rintro e w' ⟨b, off, cap, c, te, fr, rfl, hx, hge, hb, hcap, hrow⟩
  have := ret_grp (l := g.ms.set i (seenM s now (g.ms.getD i mb0))) g.ge (phaseP (g.ms.set i (seenM s now (g.ms.getD i mb0)))) hm hx hge hb (by rw [List.length_set]; exact hcap) hrow
  rw [List.length_set] at this
  exact this
theorem ok53 : okFn Try.prog 53 := ⟨_, Try.func53, rfl, rfl⟩
theorem ok60 : okFn Try.prog 60 := ⟨_, Try.func60, rfl, rfl⟩
theorem ok61 : okFn Try.prog 61 := ⟨_, Try.func61, rfl, rfl⟩
theorem seen53 (g : Grp) (i : Nat) (hi : i < g.ms.length) (hl : g.ms.length ≤ 1000) (now : Int) : Pure Try.prog 52 [g.sv, .int .i64 i, .int .i64 now, .fn 53 [] []] (.sv (seenG false g i now).sv) :=
  seen_pure 53 false ok53 (fun W b o v _ _ => ch53 W _) g i hi hl now
theorem seen61 (g : Grp) (i : Nat) (hi : i < g.ms.length) (hl : g.ms.length ≤ 1000) (now : Int) : Pure Try.prog 52 [g.sv, .int .i64 i, .int .i64 now, .fn 61 [] []] (.sv (seenG false g i now).sv) :=
  seen_pure 61 false ok61 (fun W b o v _ _ => ch61 W _) g i hi hl now
theorem seen60 (g : Grp) (i : Nat) (hi : i < g.ms.length) (hl : g.ms.length ≤ 1000) (now : Int) : Pure Try.prog 52 [g.sv, .int .i64 i, .int .i64 now, .fn 60 [] []] (.sv (seenG true g i now).sv) :=
  seen_pure 60 true ok60 (fun W b o v h1 h2 => ch60 W b o v h1 h2) g i hi hl now
/-! ### with -/
theorem append_raw {P : Program} {mu : Mem} {W : World} (hm : MemOK mu W) {l : List Mb} {v : Value} (hv : Rep mu (.sl 3 (ML l)) v) (h0 : 0 < l.length) (hl : l.length ≤ 1000) {t e : TypeId} {i : TypeInfo} {z : Value}
    (ht : P.underlying t = some (.slice e)) (hi : P.info? e = some i) (h3 : i.size = 3) (hb : i.bytes ≤ 1000) (hz : i.zero = some z) (hzs : z.cells.size = 3) (ty : TypeId) :
    ∃ b cap c fr w2, (Builtin.append_ #[t, t] ty #[.slice none 0 0, v]).run P W = .ok (.slice (some ⟨b, 0, none⟩) l.length cap) w2 ∧ W.heap.size ≤ b ∧ Ext (fun _ => False) W w2 ∧ w2.heap[b]? = some (.cells c e fr) ∧ Unfrozen c fr ∧ l.length ≤ cap ∧ 0 + cap * 3 ≤ c.size ∧ RowM c 0 l := by
  obtain ⟨vs, f1, f2, f3, f4, f5⟩ := firstCells_sl (P := P) hm hv
  have hd : MemOK mu W.drew := hm
  obtain ⟨b0, off0, cap0, rfl, hc0, hrow⟩ := row_of_rep hm hv h0
  rw [ML_length] at f1 f2 f5
  obtain ⟨nc, hle, hrun⟩ := run_append_out (P := P) (w := W) (t := t) (tx := t) (ty := ty) (q := none) (n := 0) (m := l.length) (cap := 0) (old := #[]) (new := vs) (vx := .slice (some ⟨b0, off0, none⟩) l.length cap0) ht hi hz ht (fun _ => by simp) (by rfl) (by rw [h3]; exact f1 _ hd) (by rfl) (by omega) (by have := Nat.mul_le_mul (show 0 + l.length ≤ 1000 by omega) hb; omega) (by omega)
  rw [Nat.zero_add] at hrun hle
  refine ⟨W.heap.size, nc, #[] ++ vs ++ Builtin.zeroCells z.cells (nc - l.length), (0, 0), _, hrun, Nat.le_refl _, ⟨rfl, rfl, rfl, by simp, fun k hk _ => ?_⟩, ?_, .inl rfl, hle, ?_, fun k hk q hq => ?_⟩
  · rw [alloc_get, if_neg (by simp; omega)]; rfl
  · rw [alloc_get, if_pos (by simp)]
  · simp [f2, Builtin.zeroCells, hzs, Nat.sub_mul]
    have : l.length * 3 ≤ nc * 3 := Nat.mul_le_mul_right _ hle
    omega
  · have hlt : k * 3 + q < vs.size := by rw [f2]; omega
    have := rep_encM_inv hq (by have := f5 k q hk hq; rwa [ML_getD hk] at this)
    rw [Array.getElem?_append_left (by simp; omega)]
    simp only [Array.empty_append, Nat.zero_add]
    rw [← this, Array.getD_eq_getD_getElem?, Array.getElem?_eq_getElem hlt]; rfl
theorem at_app {P : Program} (w : World) {ops : Array Oper} {rest : List Oper} {o : Oper} {a : Act} {Q : Exit → Act → World → Prop} (hg : o.guard = none) (s x : Operand) (t : TypeId)
    (hop : o.op = .call { callee := .builtin .append, args := #[s, x], argTypes := #[t, t] }) {v u : Value} (hs : a.eval s = v) (hx : a.eval x = u) {v2 : Value} {w2 : World}
    (hrun : (Builtin.append_ #[t, t] o.type #[v, u]).run P w = .ok v2 w2) (hK : wpList P ops Q rest (a.put o.dst v2) w2) : wpList P ops Q (o :: rest) a w := by
  refine wpList_plain hg fun K hK' => ?_
  unfold Oper.wp
  simp [execOp, hop, resolve, invoke, builtin, hs, hx, hrun, Result.andThen]
  exact hK' _ _ hK
theorem with_raw {mu : Mem} {w : World} (hm : MemOK mu w) (ge ph : Int) {v : Value} {l : List Mb} (hv : Rep mu (.sl 3 (ML l)) v) (i : Nat) (hi : i < l.length) (hl : l.length ≤ 1000) (m : Mb) :
    Calls Try.prog 75 #[.agg #[.int .i64 ge, .int .u8 ph, v], .int .i64 i, .agg (encM m).toArray] w fun e w' => ∃ b off cap c te fr,
      e = .returned (.agg #[.int .i64 ge, .int .u8 ph, .slice (some ⟨b, off, none⟩) l.length cap]) ∧ Ext (fun _ => False) w w' ∧ w.heap.size ≤ b ∧ w'.heap[b]? = some (.cells c te fr) ∧ l.length ≤ cap ∧ RowM c off (l.set i m) := by
  have HM : Aside (MemOK mu w) := hm
  have HV : Aside (Rep mu (.sl 3 (ML l)) v) := hv
  clear hm hv
  have hiz : (i : Int) < (l.length : Int) := by omega
  obtain ⟨b, cap, c, fr, w2, hrun, hge, hx, hb, hfr, hcap, hsz, hrow⟩ := append_raw (P := Try.prog) (W := ((w.alloc (.cells #[.int .i64 ge, .int .u8 ph, v] 37)).alloc (.cells (encM m).toArray 74)).alloc (.cells #[.int .i64 0, .int .u8 0, .slice none 0 0] 37)) (((HM.out.alloc _).alloc _).alloc _) HV.out (by omega) hl (t := 35) (e := 74) (i := (Try.prog.info? 74).get!) (z := .agg #[.string ⟨#[]⟩, .int .i64 0, .bool false]) (by kernel_rfl) (by kernel_rfl) (by kernel_rfl) (by decide +kernel) (by kernel_rfl) (by kernel_rfl) 35
  have hge2 : w.heap.size + 1 + 1 + 1 ≤ b := by simpa using hge
  have x0 : w2.heap[w.heap.size]? = some (.cells #[.int .i64 ge, .int .u8 ph, v] 37) := by
    rw [hx.block _ (by simp; omega) id, alloc_get, if_neg (by simp; omega), alloc_get, if_neg (by simp), alloc_get, if_pos rfl]
  have x1 : w2.heap[w.heap.size + 1]? = some (.cells #[.string m.id, .int .i64 m.sn, .bool m.sy] 74) := by
    rw [hx.block _ (by simp) id, alloc_get, if_neg (by simp), alloc_get, if_pos (by simp)]; rfl
  have x2 : w2.heap[w.heap.size + 1 + 1]? = some (.cells #[.int .i64 0, .int .u8 0, .slice none 0 0] 37) := by
    rw [hx.block _ (by simp) id, alloc_get, if_pos (by simp)]
  have c0 : w2.cell? ⟨w.heap.size, 0, none⟩ = some (.int .i64 ge) := by simp [World.cell?, x0]
  have c1 : w2.cell? ⟨w.heap.size, 1, none⟩ = some (.int .u8 ph) := by simp [World.cell?, x0]
  have c2 : w2.cell? ⟨w.heap.size, 2, none⟩ = some v := by simp [World.cell?, x0]
  have f2 : w2.frozen? ⟨w.heap.size, 2, none⟩ = false := by simp [World.frozen?, x0]
  have d0 : w2.cell? ⟨w.heap.size + 1, 0, none⟩ = some (.string m.id) := by simp [World.cell?, x1]
  have d1 : w2.cell? ⟨w.heap.size + 1, 1, none⟩ = some (.int .i64 m.sn) := by simp [World.cell?, x1]
  have d2 : w2.cell? ⟨w.heap.size + 1, 2, none⟩ = some (.bool m.sy) := by simp [World.cell?, x1]
  have e0 : w2.cell? ⟨w.heap.size + 1 + 1, 0, none⟩ = some (.int .i64 0) := by simp [World.cell?, x2]
  have e1 : w2.cell? ⟨w.heap.size + 1 + 1, 1, none⟩ = some (.int .u8 0) := by simp [World.cell?, x2]
  have e2 : w2.cell? ⟨w.heap.size + 1 + 1, 2, none⟩ = some (.slice none 0 0) := by simp [World.cell?, x2]
  have g0 : w2.frozen? ⟨w.heap.size + 1 + 1, 0, none⟩ = false := by simp [World.frozen?, x2]
  have g1 : w2.frozen? ⟨w.heap.size + 1 + 1, 1, none⟩ = false := by simp [World.frozen?, x2]
  have g2 : w2.frozen? ⟨w.heap.size + 1 + 1, 2, none⟩ = false := by simp [World.frozen?, x2]
  have hii : 0 + i * 3 + 2 < c.size := by have : (i + 1) * 3 ≤ cap * 3 := Nat.mul_le_mul_right _ (by omega); omega
  have r0 : w2.cell? ⟨b, 0 + i * 3, none⟩ = some (.string (l.getD i mb0).id) := by rw [cell_of_block hb]; exact hrow i hi 0 (by omega)
  have r1 : w2.cell? ⟨b, 0 + i * 3 + 1, none⟩ = some (.int .i64 (l.getD i mb0).sn) := by rw [cell_of_block hb]; exact hrow i hi 1 (by omega)
  have r2 : w2.cell? ⟨b, 0 + i * 3 + 2, none⟩ = some (.bool (l.getD i mb0).sy) := by rw [cell_of_block hb]; exact hrow i hi 2 (by omega)
  have hfz : ∀ j, j < c.size → w2.frozen? ⟨b, j, none⟩ = false := fun j hj => by
    have := hfr.not _ hj
    simp only [World.frozen?, hb]; simp; omega
  have h0 := hfz (0 + i * 3) (by omega)
  have h1 := hfz (0 + i * 3 + 1) (by omega)
  have h2 := hfz (0 + i * 3 + 2) (by omega)
  rw [Nat.zero_add] at r0 r1 r2 h0 h1 h2
  have hR := hrun
  have HB : Aside (w2.heap[b]? = some (.cells c 74 fr)) := hb
  have HX : Aside (Ext (fun _ => False) _ w2) := hx
  have HROW : Aside (RowM c 0 l) := hrow
  have HRUN : Aside _ := hrun
  clear hb hx hrow hfr hfz hR hrun
  have X2 : Aside _ := x2
  have X0 : Aside _ := x0
  clear x0 x1 x2
  go_enter Try.func75, Try.ntmps75
  go_wp2_with (first
    | (refine at_app _ rfl _ _ 35 rfl (v := .slice none 0 0) (u := v) rfl rfl HRUN.out ?_)
    | go_in)
  have nb : b ≠ w.heap.size := by omega
  have nb2 : b ≠ w.heap.size + 1 + 1 := by omega
  have nn : w.heap.size + 1 + 1 ≠ w.heap.size := by omega
  have G1 := blk_same (j := 2) (blk_same (j := 1) (blk_same (j := 0) ((blk_other (j := i * 3 + 2) (Ne.symm nb2) (.bool m.sy)).trans ((blk_other (j := i * 3 + 1) (Ne.symm nb2) (.int .i64 m.sn)).trans ((blk_other (j := i * 3) (Ne.symm nb2) (.string m.id)).trans ((blk_other (j := 2) nn (.slice (some ⟨b, 0, none⟩) l.length cap)).trans X2.out)))) (.int .i64 ge)) (.int .u8 ph)) (.slice (some ⟨b, 0, none⟩) l.length cap)
  have B1 := (blk_other (j := 2) nb2 (.slice (some ⟨b, 0, none⟩) l.length cap)).trans ((blk_other (j := 1) nb2 (.int .u8 ph)).trans ((blk_other (j := 0) nb2 (.int .i64 ge)).trans (blk_same (j := i * 3 + 2) (blk_same (j := i * 3 + 1) (blk_same (j := i * 3) ((blk_other (j := 2) nb (.slice (some ⟨b, 0, none⟩) l.length cap)).trans HB.out) (.string m.id)) (.int .i64 m.sn)) (.bool m.sy))))
  refine bodyPost_ret (results_cell_row rfl _ _ (w.heap.size + 1 + 1) _ _ _ _ rfl G1 (show Try.prog.underlying 37 = some (Try.prog.underlying 37).get! by kernel_rfl) (by kernel_rfl) (by kernel_rfl)) rfl ?_
  refine ⟨b, 0, cap, _, _, _, rfl, ?_, by omega, B1, hcap, ?_⟩
  · have hx : Ext (fun _ => False) w w2 := ⟨HX.out.os, HX.out.tape, HX.out.output, by have := HX.out.size; simp at this; omega, fun k hk _ => by
      rw [HX.out.block k (by simp; omega) id, alloc_get, if_neg (by simp; omega), alloc_get, if_neg (by simp; omega), alloc_get, if_neg (by omega)]⟩
    exact ext_set (ext_set (ext_set (ext_set (ext_set (ext_set (ext_set hx (by omega) _ _) (by omega) _ _) (by omega) _ _) (by omega) _ _) (by omega) _ _) (by omega) _ _) (by omega) _ _
  · have a0 := HROW.out i hi 0 (by omega)
    have a1 := HROW.out i hi 1 (by omega)
    refine HROW.out.upd hi m ?_ ?_ ?_ (fun j hj => ?_)
    · simp [Array.getElem?_setIfInBounds]; omega
    · simp [Array.getElem?_setIfInBounds]; omega
    · simp [Array.getElem?_setIfInBounds]; omega
    · simp [Array.getElem?_setIfInBounds]
      rw [if_neg (by omega), if_neg (by omega), if_neg (by omega)]
theorem with_pure (g : Grp) (i : Nat) (hi : i < g.ms.length) (hl : g.ms.length ≤ 1000) (m : Mb) : Pure Try.prog 75 [g.sv, .int .i64 i, m.sv] (.sv (Grp.sv ⟨g.ge, g.ph, g.ms.set i m⟩)) := by
  intro mu w vs hm hra
  obtain ⟨x, a, b, rfl⟩ : ∃ x a b, vs = [x, a, b] := by
    match vs, hra.1 with
    | [x, a, b], _ => exact ⟨x, a, b, rfl⟩
  obtain ⟨v, rfl, hv⟩ := rep_grp (hra.2 0 (by simp))
  obtain rfl : a = .int .i64 i := Rep.inv_int (hra.2 1 (by simp))
  have hb : Rep mu m.sv b := hra.2 2 (by simp)
  obtain rfl : b = .agg (encM m).toArray := by
    cases hb with
    | agg _ vs h1 h2 =>
      have h3 : vs.length = 3 := by rw [h1]; rfl
      match vs, h3 with
      | [p, q, r], _ =>
        have k0 : p = .string m.id := Rep.inv_str (h2 0 (by simp [Mb.cells]))
        have k1 : q = .int .i64 m.sn := Rep.inv_int (h2 1 (by simp [Mb.cells]))
        have k2 : r = .bool m.sy := Rep.inv_bool (h2 2 (by simp [Mb.cells]))
        rw [k0, k1, k2]; rfl
  refine (with_raw hm g.ge g.ph hv i hi hl m).mono ?_
  rintro e w' ⟨b, off, cap, c, te, fr, rfl, hx, hge, hb, hcap, hrow⟩
  have := ret_grp (l := g.ms.set i m) g.ge g.ph hm hx hge hb (by rw [List.length_set]; exact hcap) hrow
  rw [List.length_set] at this
  exact this
end Go.Proofs.Ytmfkliabjfngmaa

/- Group: turn, walked raw. -/




set_option linter.unusedSimpArgs false
set_option linter.unusedVariables false
set_option maxHeartbeats 4000000
set_option maxRecDepth 100000
namespace Go.Proofs.Ytmfkliabjfngmaa

open Go.Av Go.RowKit

theorem part_len (l : List Mb) (k : Nat) : (offM (l.take k) ++ l.drop k).length = l.length := by simp [offM]; omega
theorem part_get (l : List Mb) {k : Nat} (h : k < l.length) : (offM (l.take k) ++ l.drop k).getD k mb0 = l.getD k mb0 := by
  have hl : (offM (l.take k)).length = k := by simp [offM]; omega
  rw [List.getD_eq_getElem?_getD, List.getElem?_append_right (by omega), hl, List.getD_eq_getElem?_getD]
  simp
theorem part_set (l : List Mb) {k : Nat} (h : k < l.length) : (offM (l.take k) ++ l.drop k).set k ⟨(l.getD k mb0).id, (l.getD k mb0).sn, false⟩ = offM (l.take (k + 1)) ++ l.drop (k + 1) := by
  have hl : (offM (l.take k)).length = k := by simp [offM]; omega
  rw [off_snoc h, List.set_append_right _ _ (by omega), hl, Nat.sub_self, List.drop_eq_getElem_cons h, List.set_cons_zero, List.append_assoc]
  rfl
theorem turn_raw {mu : Mem} {w : World} (hm : MemOK mu w) (ge ph : Int) (vg : Value) {v : Value} {l : List Mb} (hv : Rep mu (.sl 3 (ML l)) v) (h0 : 0 < l.length) (hl : l.length ≤ 1000) :
    Calls Try.prog 56 #[.agg #[.int .i64 ge, .int .u8 ph, vg], v] w fun e w' => ∃ b off cap c te fr,
      e = .returned (.agg #[.int .i64 (IntKind.i64.wrap (ge + 1)), .int .u8 (phaseP (offM l)), .slice (some ⟨b, off, none⟩) l.length cap]) ∧ Ext (fun _ => False) w w' ∧ w.heap.size ≤ b ∧ w'.heap[b]? = some (.cells c te fr) ∧ l.length ≤ cap ∧ RowM c off (offM l) := by
  have HM : Aside (MemOK mu w) := hm
  have HV : Aside (Rep mu (.sl 3 (ML l)) v) := hv
  clear hm hv
  go_enter Try.func56, Try.ntmps56
  go_wp2_with (first
    | (go_at_call 58
       refine (clone_raw ((HM.out.alloc _).alloc _) HV.out (by omega) hl).mono ?_
       rintro e w2 ⟨b, off, cap, c, te, fr, rfl, hgeb, hx, hb, hfr, hcap, hsz, hrow⟩
       have hbn : w.heap.size + 2 ≤ b := by simp at hgeb; omega
       have q0 : w2.heap[w.heap.size]? = some (.cells #[.int .i64 ge, .int .u8 ph, vg] 43) := by
         rw [hx.block _ (by simp; omega) id, alloc_get, if_neg (by simp), alloc_get, if_pos rfl]
       have q1 : w2.heap[w.heap.size + 1]? = some (.cells #[.int .i64 0, .int .u8 0, .slice none 0 0] 43) := by
         rw [hx.block _ (by simp) id, alloc_get, if_pos (by simp)]
       have hI : Aside (Ext (fun _ => False) w w2 ∧ w2.heap[w.heap.size]? = some (.cells #[.int .i64 ge, .int .u8 ph, vg] 43) ∧ w2.heap[w.heap.size + 1]? = some (.cells #[.int .i64 0, .int .u8 0, .slice none 0 0] 43) ∧
           ∃ c', w2.heap[b]? = some (.cells c' te fr) ∧ Unfrozen c' fr ∧ c'.size = c.size ∧ RowM c' off (offM (l.take 0) ++ l.drop 0)) :=
         ⟨⟨hx.os, hx.tape, hx.output, by have := hx.size; simp at this; omega, fun k hk _ => by
           rw [hx.block k (by simp; omega) id, alloc_get, if_neg (by simp; omega), alloc_get, if_neg (by omega)]⟩, q0, q1, c, hb, hfr, rfl, by simpa [offM] using hrow⟩
       clear q0 q1 hx hb hfr hrow hgeb
       simp only [])
    | go_in)
  go_loopg [5, 10] l.length (fun gg _ s10 wr => ∃ (k : Nat), s10 = .int .i64 k ∧ k ≤ l.length ∧ l.length - k ≤ gg ∧
      Aside (Ext (fun _ => False) w wr ∧ wr.heap[w.heap.size]? = some (.cells #[.int .i64 ge, .int .u8 ph, vg] 43) ∧ wr.heap[w.heap.size + 1]? = some (.cells #[.int .i64 0, .int .u8 0, .slice none 0 0] 43) ∧
           ∃ c', wr.heap[b]? = some (.cells c' te fr) ∧ Unfrozen c' fr ∧ c'.size = c.size ∧ RowM c' off (offM (l.take k) ++ l.drop k)))
  case atStart => exact ⟨0, rfl, by omega, by omega, hI⟩
  case round =>
    obtain ⟨k, rfl, hk, hgg, H2⟩ := hrel
    clear hI
    by_cases hlt : k < l.length
    · have hltz : (k : Int) < (l.length : Int) := by omega
      obtain ⟨x1, p0, p1, c', k1, k2, k3, k4⟩ := H2.out
      have hii : off + k * 3 + 2 < c'.size := by have : (k + 1) * 3 ≤ cap * 3 := Nat.mul_le_mul_right _ (by omega); omega
      have hr := k4 k (by rw [part_len]; omega)
      rw [part_get l hlt] at hr
      have r2 : wr.cell? ⟨b, off + k * 3 + 2, none⟩ = some (.bool (l.getD k mb0).sy) := by rw [cell_of_block k1]; exact hr 2 (by omega)
      have g2 : wr.frozen? ⟨b, off + k * 3 + 2, none⟩ = false := by
        have := k2.not _ hii
        simp only [World.frozen?, k1]; simp; omega
      clear x1 p0 p1 k1 k4 hr
      go_wp2
      go_roundg (l.length - (k + 1))
      case measure => omega
      case rel =>
        obtain ⟨x1, p0, p1, c', k1, k2, k3, k4⟩ := H2.out
        have nb : b ≠ w.heap.size := by omega
        have nb2 : b ≠ w.heap.size + 1 := by omega
        have hr := k4 k (by rw [part_len]; omega)
        rw [part_get l hlt] at hr
        refine ⟨k + 1, by go_num, by omega, Nat.le_refl _, (show Aside (Ext _ _ _ ∧ _ ∧ _ ∧ ∃ c', _) from ⟨ext_set x1 (by omega) _ _, (blk_other (Ne.symm nb) _).trans p0, (blk_other (Ne.symm nb2) _).trans p1, _, blk_same k1 _, ?_, by simpa using k3, ?_⟩)⟩
        · simpa [Unfrozen] using k2
        · rw [← part_set l hlt]
          have a0 := hr 0 (by omega)
          have a1 := hr 1 (by omega)
          refine k4.upd (by rw [part_len]; exact hlt) _ ?_ ?_ ?_ (fun j hj => ?_)
          · simpa [Array.getElem?_setIfInBounds, encM] using a0
          · simpa [Array.getElem?_setIfInBounds, encM] using a1
          · simp [Array.getElem?_setIfInBounds]; omega
          · simp [Array.getElem?_setIfInBounds]; intros; omega
    · obtain rfl : k = l.length := by omega
      obtain ⟨x1, p0, p1, c', k1, k2, k3, k4⟩ := H2.out
      rw [List.take_length, List.drop_length, List.append_nil] at k4
      have hl2 : (offM l).length = l.length := by simp [offM]
      have hnb : ∀ j, mu b j = none := fun j => by
        cases q : mu b j with
        | none => rfl
        | some v => have := HM.out.lt q; omega
      have hph : ∀ W : World, W.heap = wr.heap → Calls Try.prog 65 #[.slice (some ⟨b, off, none⟩) l.length cap] W fun e w' => e = .returned (.int .u8 (phaseP (offM l))) ∧ Ext (fun _ => False) W w' := fun W hW => by
        have hmW : MemOK mu W := fun b' j' v' hv' => by
          obtain ⟨t1, t2⟩ := HM.out b' j' v' hv'
          refine ⟨?_, t2⟩
          rw [← t1]
          exact World.cell?_of_block (by rw [hW]; exact x1.block b' (HM.out.lt hv') id)
        have := phase_raw hmW (by rw [hW]; exact k1) hnb k4 (show (offM l).length ≤ cap by omega) (by omega)
        rwa [hl2] at this
      have HPH : Aside _ := hph
      have HP0 : Aside (wr.heap[w.heap.size]? = some (.cells #[.int .i64 ge, .int .u8 ph, vg] 43)) := p0
      have HP1 : Aside (wr.heap[w.heap.size + 1]? = some (.cells #[.int .i64 0, .int .u8 0, .slice none 0 0] 43)) := p1
      have HK1 : Aside (wr.heap[b]? = some (.cells c' te fr)) := k1
      have HK4 : Aside (RowM c' off (offM l)) := k4
      have HX1 : Aside (Ext (fun _ => False) w wr) := x1
      have d0 : wr.cell? ⟨w.heap.size, 0, none⟩ = some (.int .i64 ge) := by simp [World.cell?, p0]
      clear hph x1 p0 p1 k1 k2 k4
      go_wp2
      go_region_with (
        go_at_call 65
        refine (HPH.out wr.drew rfl).mono ?_
        rintro e w4 ⟨rfl, hx4⟩
        have p1 : w4.heap[w.heap.size + 1]? = some (.cells #[.int .i64 0, .int .u8 0, .slice none 0 0] 43) := (hx4.block _ (Array.getElem?_eq_some_iff.1 HP1.out).1 id).trans HP1.out
        have d0' : w4.cell? ⟨w.heap.size, 0, none⟩ = some (.int .i64 ge) := (by
          have p0 : w4.heap[w.heap.size]? = some (.cells #[.int .i64 ge, .int .u8 ph, vg] 43) := (hx4.block _ (Array.getElem?_eq_some_iff.1 HP0.out).1 id).trans HP0.out
          simp [World.cell?, p0])
        have e0 : w4.cell? ⟨w.heap.size + 1, 0, none⟩ = some (.int .i64 0) := (by simp [World.cell?, p1])
        have e1 : w4.cell? ⟨w.heap.size + 1, 1, none⟩ = some (.int .u8 0) := (by simp [World.cell?, p1])
        have e2 : w4.cell? ⟨w.heap.size + 1, 2, none⟩ = some (.slice none 0 0) := (by simp [World.cell?, p1])
        have e0f : w4.frozen? ⟨w.heap.size + 1, 0, none⟩ = false := (by simp [World.frozen?, p1])
        have e1f : w4.frozen? ⟨w.heap.size + 1, 1, none⟩ = false := (by simp [World.frozen?, p1])
        have e2f : w4.frozen? ⟨w.heap.size + 1, 2, none⟩ = false := (by simp [World.frozen?, p1])
        have P1 : Aside (w4.heap[w.heap.size + 1]? = some (.cells #[.int .i64 0, .int .u8 0, .slice none 0 0] 43)) := p1
        have HX4 : Aside (Ext (fun _ => False) wr.drew w4) := hx4
        clear p1 hx4)
      all_goals go_wp2
      all_goals (
        have hne : w.heap.size + 1 ≠ w.heap.size := by omega
        have nb : b ≠ w.heap.size + 1 := by omega
        have G1 := blk_same (j := 2) (blk_same (j := 1) (blk_same (j := 0) P1.out (.int .i64 (IntKind.i64.wrap (ge + 1)))) (.int .u8 (phaseP (offM l)))) (.slice (some ⟨b, off, none⟩) l.length cap)
        refine bodyPost_ret (results_cell_row rfl _ _ (w.heap.size + 1) _ _ _ _ rfl G1 (show Try.prog.underlying 43 = some (Try.prog.underlying 43).get! by kernel_rfl) (by kernel_rfl) (by kernel_rfl)) rfl ?_
        refine ⟨b, off, cap, c', te, fr, rfl, ?_, by omega, ?_, hcap, HK4.out⟩
        · have hx : Ext (fun _ => False) w w4 := HX1.out.trans (Ext.trans (b := wr.drew) ⟨rfl, rfl, rfl, Nat.le_refl _, fun _ _ _ => rfl⟩ HX4.out)
          exact ext_set (ext_set (ext_set hx (by omega) _ _) (by omega) _ _) (by omega) _ _
        · exact (blk_other nb _).trans ((blk_other nb _).trans ((blk_other nb _).trans ((HX4.out.block b (Array.getElem?_eq_some_iff.1 HK1.out).1 id).trans HK1.out))))
end Go.Proofs.Ytmfkliabjfngmaa
