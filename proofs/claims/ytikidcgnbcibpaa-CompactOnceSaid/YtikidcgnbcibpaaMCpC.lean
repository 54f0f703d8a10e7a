import Derived.Test.YtikidcgnbcibpaaMCpN
import Derived.Lib.SlKept
import Derived.Lib.SliceRun
import Derived.Shelf.RegionOpenPlain
import Derived.WalkKit
import Derived.Deep.LoopGhost
import Derived.Deep.Draws
import Derived.Lib.Walk
import Derived.Sort.WalkB12
import Derived.Maps.AppendAt

set_option linter.unusedVariables false
set_option linter.unusedSimpArgs false

/- Compact: late and keeps. -/


set_option linter.unusedSimpArgs false
set_option linter.unusedVariables false
set_option maxHeartbeats 4000000
set_option maxRecDepth 1000000
namespace Go.Proofs.Ytikidcgnbcibpaa
open Go.RowKit
open Go.Av Go.Maps Go.Cp
def R0 : Orc := { p := fun f l => none }
theorem R0_ok : R0.ok Try.prog := ⟨fun _ _ _ _ h => (by cases h), fun _ _ _ _ _ _ h => (by cases h), fun _ _ _ _ h => (by cases h), fun _ h => (by cases h), fun _ _ _ _ _ _ h => (by cases h), fun _ _ _ _ _ _ _ h => (by cases h)⟩
theorem late_pure (r : Rec) (now grace : Int) : Pure Try.prog 29 [.agg [.undef, .int .i64 now, .int .i64 grace], r.sv] (.sv (.bool (lateS r now grace))) := by
  refine pure_go R0_ok Try.func29 Try.ntmps29 comp29 cres29 (by decide) (by simp) ?_
  simp [ac29, ar29, lateS, Rec.sv, Rec.cells]
theorem rlate_pure (r : Rec) (now grace : Int) : Pure Try.prog 21 [r.sv, .int .i64 now, .int .i64 grace] (.sv (.bool (lateS r now grace))) := by
  refine pure_go R0_ok Try.func21 Try.ntmps21 comp21 cres21 (by decide) (by simp) ?_
  simp [ac21, ar21, lateS, Rec.sv, Rec.cells]
theorem argsCons {mu : Mem} {a : SV} {al : List SV} {v : Value} {vs : List Value} (h : Rep mu a v) (hs : RepArgs mu al vs) : RepArgs mu (a :: al) (v :: vs) := by
  refine ⟨by simp [hs.1], fun j hj => ?_⟩
  cases j with
  | zero => exact h
  | succ j => simpa using hs.2 j (by simpa using hj)
theorem argsNil {mu : Mem} : RepArgs mu [] [] := ⟨rfl, fun j hj => by simp at hj⟩
/-- A record as a value. -/
def recV (r : Rec) : Value := .agg #[.int .i64 r.dl, .int .i64 r.tm, .bool r.kd, .string r.key, .bool r.dd, .string r.val]
theorem rep_recV (mu : Mem) (r : Rec) : Rep mu r.sv (recV r) := by
  show Rep mu (.agg r.cells) (.agg [.int .i64 r.dl, .int .i64 r.tm, .bool r.kd, .string r.key, .bool r.dd, .string r.val].toArray)
  refine .agg _ _ rfl (fun j hj => ?_)
  match j, hj with
  | 0, _ => exact .int _ _
  | 1, _ => exact .int _ _
  | 2, _ => exact .bool _
  | 3, _ => exact .str _
  | 4, _ => exact .bool _
  | 5, _ => exact .str _
/-- A call that computes alone, of no memory. -/
theorem bool_call {f : FuncId} {args : List SV} {b : Bool} (hp : Pure Try.prog f args (.sv (.bool b))) {vs : List Value} (ha : RepArgs (fun _ _ => none) args vs) (w : World) :
    Calls Try.prog f vs.toArray w fun e w' => e = .returned (.bool b) ∧ Ext (fun _ => False) w w' := by
  refine (hp (fun _ _ => none) w vs (fun b j v e => by cases e) ha).mono ?_
  rintro e w' ⟨val, mu', rfl, hx, hle, hm', hag, ⟨gx, hrep, _⟩⟩
  have h : Rep mu' (.bool b) val := hrep
  rw [Rep.inv_bool h]
  exact ⟨rfl, hx⟩
theorem late_call (w : World) (m : Value) (r : Rec) (now grace : Int) : Calls Try.prog 29 #[.agg #[m, .int .i64 now, .int .i64 grace], recV r] w fun e w' => e = .returned (.bool (lateS r now grace)) ∧ Ext (fun _ => False) w w' := by
  refine bool_call (late_pure r now grace) (argsCons ?_ (argsCons (rep_recV _ r) argsNil)) w
  show Rep _ (.agg [.undef, .int .i64 now, .int .i64 grace]) (.agg [m, .int .i64 now, .int .i64 grace].toArray)
  refine .agg _ _ rfl (fun j hj => ?_)
  match j, hj with
  | 0, _ => exact .undef _
  | 1, _ => exact .int _ _
  | 2, _ => exact .int _ _
def keepP (ps : List (Bat × Rec)) (now grace : Int) (b : Bat) (r : Rec) : Bool := !r.kd || (decide (atS b r = (lastP ps r.key).getD 0) && !lateS r now grace)
theorem keeps_raw {w : World} {mb n : Nat} {ps : List (Bat × Rec)} (h : LastM w mb n ps) (b : Bat) (r : Rec) (rp : Option Addr) (rn rc : Nat) (now grace : Int) (hk : r.key.size ≤ 100000) (hat : IntKind.i64.wrap (b.ba + r.dl) = atS b r) :
    Calls Try.prog 20 #[.agg #[.map (some mb), .int .i64 now, .int .i64 grace], .agg #[.int .i64 b.ba, .int .i64 b.co, .int .i64 b.pr, .int .i64 b.ep, .int .i64 b.sq, .slice rp rn rc], recV r] w fun e w' => e = .returned (.bool (keepP ps now grace b r)) ∧ Ext (fun _ => False) w w' := by
  have HM := asideI h
  have HLC := asideI (fun W => late_call W (.map (some mb)) r now grace)
  have hlk := (((h.ext (extA w (.cells #[.map (some mb), .int .i64 now, .int .i64 grace] 48))).ext (extA _ (.cells #[.int .i64 b.ba, .int .i64 b.co, .int .i64 b.pr, .int .i64 b.ep, .int .i64 b.sq, .slice rp rn rc] 30))).ext (extA _ (.cells #[.int .i64 r.dl, .int .i64 r.tm, .bool r.kd, .string r.key, .bool r.dd, .string r.val] 32))).look hk
  have HX := asideI (((extA w (.cells #[.map (some mb), .int .i64 now, .int .i64 grace] 48)).trans (extA _ (.cells #[.int .i64 b.ba, .int .i64 b.co, .int .i64 b.pr, .int .i64 b.ep, .int .i64 b.sq, .slice rp rn rc] 30))).trans (extA _ (.cells #[.int .i64 r.dl, .int .i64 r.tm, .bool r.kd, .string r.key, .bool r.dd, .string r.val] 32)))
  unfold keepP
  unfold recV at HLC ⊢
  clear h
  generalize (lastP ps r.key).getD 0 = la at hlk ⊢
  generalize atS b r = at_ at hat ⊢
  cases hkd : r.kd with
  | false =>
    rw [hkd] at hlk HX
    go_enter Try.func20, Try.ntmps20
    go_wp2
    go_ret
    exact ⟨rfl, HX.out⟩
  | true =>
    rw [hkd] at hlk HX
    simp only [hkd] at HLC
    by_cases he : at_ = la
    · subst he
      generalize lateS r now grace = lt at HLC ⊢
      go_enter Try.func20, Try.ntmps20
      go_wp2_with (first
        | (go_at_call 29; refine (HLC.out _).mono ?_; rintro e w2 ⟨rfl, hx⟩; have HX2 := asideI (HX.out.trans hx); clear hx; simp only [])
        | go_in)
      go_ret
      exact ⟨by simp, HX2.out⟩
    · have heb : (at_ == la) = false := by simpa using he
      go_enter Try.func20, Try.ntmps20
      go_wp2
      go_ret
      exact ⟨by simp [he], HX.out⟩
end Go.Proofs.Ytikidcgnbcibpaa

/- Compact: Keeps (the walk). -/

set_option linter.unusedSimpArgs false
set_option linter.unusedVariables false
set_option maxHeartbeats 4000000
set_option maxRecDepth 1000000
namespace Go.Proofs.Ytikidcgnbcibpaa
open Go.RowKit
open Go.Av Go.Maps Go.Cp
theorem keepP_prs (l : List Bat) (now grace : Int) (b : Bat) (r : Rec) : keepP (prs l) now grace b r = keepS l now grace b r := rfl
/-- What Keeps answers. -/
def keepsL (l : List Bat) (i k now grace : Int) : Bool := if 0 ≤ i ∧ i < l.length ∧ 0 ≤ k ∧ k < (l.getD i.toNat bat0).rs.length then keepS l now grace (l.getD i.toNat bat0) ((l.getD i.toNat bat0).rs.getD k.toNat rec0) else false
theorem keeps10_raw {w : World} {lp : Option Addr} {lc : Nat} {l : List Bat} (h : BatsW w lp l) (hl : LOK l) (i k now grace : Int) : Calls Try.prog 10 #[.slice lp l.length lc, .int .i64 i, .int .i64 k, .int .i64 now, .int .i64 grace] w fun e w' => e = .returned (.bool (keepsL l i k now grace)) ∧ Ext (fun _ => False) w w' := by
  have HB := asideI h
  have HL := asideI hl
  clear h hl
  unfold keepsL
  by_cases h0 : 0 ≤ i
  · by_cases h1 : i < l.length
    · obtain ⟨n, rfl⟩ := Int.eq_ofNat_of_zero_le h0
      have hn : n < l.length := by omega
      have h0' : ¬ ((n : Int) < 0) := by omega
      have h1' : ¬ ((l.length : Int) ≤ (n : Int)) := by omega
      rw [show ((n : Int)).toNat = n by omega]
      obtain ⟨b, o, rp, rc, rfl, hbat, hrs⟩ := HB.out n hn
      obtain ⟨c0, c1, c2, c3, c4, c5⟩ := hbat
      have HRS := asideI hrs.1
      have HMEM := asideI (fun k (hk : k < (l.getD n bat0).rs.length) => prs_mem hn hk)
      clear hrs
      generalize l.getD n bat0 = x at HRS HMEM c0 c1 c2 c3 c4 c5 ⊢
      by_cases h2 : 0 ≤ k
      · by_cases h3 : k < x.rs.length
        · obtain ⟨m, rfl⟩ := Int.eq_ofNat_of_zero_le h2
          have hm : m < x.rs.length := by omega
          have h2' : ¬ ((m : Int) < 0) := by omega
          have h3' : ¬ ((x.rs.length : Int) ≤ (m : Int)) := by omega
          rw [if_pos ⟨h0, h1, h2, h3⟩, show ((m : Int)).toNat = m by omega]
          obtain ⟨rb, ro, rfl, d0, d1, d2, d3, d4, d5⟩ := HRS.out m hm
          have hmem := HMEM.out m hm
          have HKA := asideI (And.intro (HL.out.key _ hmem) (HL.out.at_ _ hmem))
          generalize x.rs.getD m rec0 = r at d0 d1 d2 d3 d4 d5 HKA ⊢
          clear hmem
          rw [← keepP_prs]
          generalize hkk : keepP (prs l) now grace x r = kk
          have HKK := asideI hkk
          clear hkk
          go_enter Try.func10, Try.ntmps10
          go_wp2
          first
            | go_region_held3 (fun W' => W'.cell? ⟨b, o + n * 6, none⟩ = some (.int .i64 x.ba) ∧ W'.cell? ⟨b, o + n * 6 + 1, none⟩ = some (.int .i64 x.co) ∧ W'.cell? ⟨b, o + n * 6 + 2, none⟩ = some (.int .i64 x.pr) ∧ W'.cell? ⟨b, o + n * 6 + 3, none⟩ = some (.int .i64 x.ep) ∧ W'.cell? ⟨b, o + n * 6 + 4, none⟩ = some (.int .i64 x.sq) ∧ W'.cell? ⟨b, o + n * 6 + 5, none⟩ = some (.slice (some ⟨rb, ro, none⟩) x.rs.length rc) ∧
                W'.cell? ⟨rb, ro + m * 6, none⟩ = some (.int .i64 r.dl) ∧ W'.cell? ⟨rb, ro + m * 6 + 1, none⟩ = some (.int .i64 r.tm) ∧ W'.cell? ⟨rb, ro + m * 6 + 2, none⟩ = some (.bool r.kd) ∧ W'.cell? ⟨rb, ro + m * 6 + 3, none⟩ = some (.string r.key) ∧ W'.cell? ⟨rb, ro + m * 6 + 4, none⟩ = some (.bool r.dd) ∧ W'.cell? ⟨rb, ro + m * 6 + 5, none⟩ = some (.string r.val) ∧ Ext (fun _ => False) w W')
                (refine ⟨?_, ?_, ?_, ?_, ?_, ?_, ?_, ?_, ?_, ?_, ?_, ?_, ?_⟩ <;> first | assumption | exact extD _ | (go_keep; done)) (first
              | (go_at_call 20; (try dsimp only at *); go_split_ands; refine (keeps_raw HM.out x r _ _ rc now grace HKA.out.1 HKA.out.2).mono ?_; rintro e w3 ⟨rfl, hx⟩
                 have hx3 : Ext (fun _ => False) w w3 := Ext.trans (by assumption) hx
                 have g0 := cell_ext hx3 c0
                 have g1 := cell_ext hx3 c1
                 have g2 := cell_ext hx3 c2
                 have g3 := cell_ext hx3 c3
                 have g4 := cell_ext hx3 c4
                 have g5 := cell_ext hx3 c5
                 have k0 := cell_ext hx3 d0
                 have k1 := cell_ext hx3 d1
                 have k2 := cell_ext hx3 d2
                 have k3 := cell_ext hx3 d3
                 have k4 := cell_ext hx3 d4
                 have k5 := cell_ext hx3 d5
                 rw [HKK.out]
                 clear hx)
              | (go_at_call 8; (try dsimp only at *); go_split_ands; refine (last_raw (HB.out.ext (by assumption)) HL.out).mono ?_; rintro e w2 ⟨mb, nn, rfl, hmb, hm2, hx⟩
                 have hx2 : Ext (fun _ => False) w w2 := Ext.trans (by assumption) hx
                 have g0 := cell_ext hx2 c0
                 have g1 := cell_ext hx2 c1
                 have g2 := cell_ext hx2 c2
                 have g3 := cell_ext hx2 c3
                 have g4 := cell_ext hx2 c4
                 have g5 := cell_ext hx2 c5
                 have k0 := cell_ext hx2 d0
                 have k1 := cell_ext hx2 d1
                 have k2 := cell_ext hx2 d2
                 have k3 := cell_ext hx2 d3
                 have k4 := cell_ext hx2 d4
                 have k5 := cell_ext hx2 d5
                 have HM := asideI hm2
                 clear hm2 hx))
            | fail
          all_goals (
            go_wp2
            go_ret
            exact ⟨rfl, by assumption⟩)
        · have h2' : ¬ (k < 0) := by omega
          have h3' : (x.rs.length : Int) ≤ k := by omega
          rw [if_neg (fun q => h3 q.2.2.2)]
          go_enter Try.func10, Try.ntmps10
          go_wp2
          go_ret
          exact ⟨rfl, Ext.refl _ _⟩
      · have h2' : k < 0 := by omega
        rw [if_neg (fun q => h2 q.2.2.1)]
        go_enter Try.func10, Try.ntmps10
        go_wp2
        go_ret
        exact ⟨rfl, Ext.refl _ _⟩
    · have h0' : ¬ (i < 0) := by omega
      have h1' : (l.length : Int) ≤ i := by omega
      rw [if_neg (fun q => h1 q.2.1)]
      go_enter Try.func10, Try.ntmps10
      go_wp2
      go_ret
      exact ⟨rfl, Ext.refl _ _⟩
  · have h0' : i < 0 := by omega
    rw [if_neg (fun q => h0 q.1)]
    go_enter Try.func10, Try.ntmps10
    go_wp2
    go_ret
    exact ⟨rfl, Ext.refl _ _⟩
end Go.Proofs.Ytikidcgnbcibpaa

/- Compact: DeleteFunc (the walk). -/









set_option linter.unusedSimpArgs false
set_option linter.unusedVariables false
set_option maxRecDepth 100000
set_option maxHeartbeats 4000000
namespace Go.Proofs.Ytikidcgnbcibpaa
open Go.RowKit Go.Lib Go.Sort
open Go.Av Go.Cp

instance : Inhabited Rec := ⟨rec0⟩
def encL (r : Rec) : List Value := [.int .i64 r.dl, .int .i64 r.tm, .bool r.kd, .string r.key, .bool r.dd, .string r.val]
def RowR (c : Array Value) (off : Nat) (dk : Array Rec) : Prop := ∀ m, m < dk.size → ∀ q, q < 6 → c[off + m * 6 + q]? = some ((encL dk[m]!).getD q Go.undef)

def idxP (p : Rec → Bool) : List Rec → Nat → Int
  | [], _ => -1
  | r :: l, i => if p r then i else idxP p l (i + 1)
theorem idxP_drop (p : Rec → Bool) (l : List Rec) (i : Nat) (h : i < l.length) : idxP p (l.drop i) i = if p (l.getD i rec0) then (i : Int) else idxP p (l.drop (i + 1)) (i + 1) := by
  rw [List.drop_eq_getElem_cons h]
  simp [idxP, List.getD_eq_getElem?_getD, h]
theorem idxP_spec (p : Rec → Bool) : ∀ (l : List Rec) (i : Nat), idxP p l i = -1 ∧ (∀ r ∈ l, p r = false) ∨ ∃ k, k < l.length ∧ idxP p l i = ((i + k : Nat) : Int) ∧ p (l.getD k rec0) = true ∧ ∀ j, j < k → p (l.getD j rec0) = false
  | [], i => .inl ⟨rfl, fun r h => by cases h⟩
  | r :: l, i => by
    cases hq : p r with
    | true => exact .inr ⟨0, by simp, by simp [idxP, hq], by simpa using hq, fun j hj => absurd hj (Nat.not_lt_zero _)⟩
    | false =>
      rcases idxP_spec p l (i + 1) with ⟨h1, h2⟩ | ⟨k, h1, h2, h3, h4⟩
      · exact .inl ⟨by simp [idxP, hq, h1], fun x hx => by rcases List.mem_cons.1 hx with rfl | hx; exact hq; exact h2 x hx⟩
      · refine .inr ⟨k + 1, by simpa using h1, by simp [idxP, hq, h2]; omega, by simpa using h3, fun j hj => ?_⟩
        cases j with
        | zero => simpa using hq
        | succ j => simpa using h4 j (by omega)
/-- The record of an offset, and whether there is one. -/
theorem zeroCells_spec (cs : Array Value) (n : Nat) (h : ∀ v ∈ cs, v.oneCell' = true) (hcs : 0 < cs.size) : (Builtin.zeroCells cs n).toList.length = n * cs.size ∧ ∀ v ∈ (Builtin.zeroCells cs n).toList, v.oneCell' = true := by
  refine ⟨by simp [Builtin.zeroCells], fun v hv => ?_⟩
  simp only [Builtin.zeroCells, Array.toList_map, List.mem_map] at hv
  obtain ⟨i, _, rfl⟩ := hv
  have hlt : i % cs.size < cs.size := Nat.mod_lt _ hcs
  rw [getElem!_pos cs _ hlt]
  exact h _ (Array.getElem_mem hlt)
theorem run_clear_k {P : Program} (w : World) (t e ty : TypeId) (z : Value) (ht : P.underlying t = some (.slice e)) (hv : ∀ w, (zeroValue e).run P w = .ok z w) (h1 : ∀ v ∈ z.cells, v.oneCell' = true) (hz : 0 < z.cells.size) (b o n cap : Nat) (hn : 0 < n)
    {c : Array Value} {te : TypeId} {fr : Nat × Nat} (hb : w.heap[b]? = some (.cells c te fr)) (hf : Unfrozen c fr) (hle : o + n * z.cells.size ≤ c.size) :
    (Builtin.clear_ #[t] ty #[.slice (some ⟨b, o, none⟩) n cap]).run P w = .ok (.tuple #[]) (w.setCells b o (Builtin.zeroCells z.cells n).toList) := by
  obtain ⟨e1, e2⟩ := zeroCells_spec z.cells n h1 hz
  have hst := (setCells_at (P := P) (o := o) (vs := (Builtin.zeroCells z.cells n).toList) hb hf (by rw [e1]; exact hle) e2).1
  obtain ⟨m, rfl⟩ : ∃ m, n = m + 1 := ⟨n - 1, by omega⟩
  simp [Builtin.clear_, run_underlying ht, hv, hst]
theorem RowR.set {c c2 : Array Value} {off i : Nat} {dk : Array Rec} {r : Rec} (h : RowR c off dk) (hi : i < dk.size) (hsz : c2.size = c.size) (hget : ∀ j, c2.getD j Go.undef = if off + i * 6 ≤ j ∧ j < off + i * 6 + (encL r).length then (encL r).getD (j - (off + i * 6)) Go.undef else c.getD j Go.undef) :
    RowR c2 off (dk.setIfInBounds i r) := by
  intro m hm q hq
  rw [Array.size_setIfInBounds] at hm
  have hold := h m hm q hq
  have hlt : off + m * 6 + q < c.size := (Array.getElem?_eq_some_iff.1 hold).1
  have hg := hget (off + m * 6 + q)
  have e0 : c2[off + m * 6 + q]? = some (c2.getD (off + m * 6 + q) Go.undef) := by
    rw [Array.getD_eq_getD_getElem?, Array.getElem?_eq_getElem (by omega)]; rfl
  have hlen : (encL r).length = 6 := rfl
  rw [e0, hg]
  by_cases e : m = i
  · subst e
    rw [if_pos (by omega), getElem!_set_same dk m r hi]
    congr 2; omega
  · have : ¬ (off + i * 6 ≤ off + m * 6 + q ∧ off + m * 6 + q < off + i * 6 + (encL r).length) := by
      rw [hlen]
      rcases Nat.lt_or_ge m i with z | z <;> omega
    rw [if_neg this, getElem!_set_other dk i m r e, Array.getD_eq_getD_getElem?, hold]
    rfl
theorem del_raw (pf : FuncId) (lb : Array Value) (p : Rec → Bool) (eg : ∀ args w, (callFunc pf args).run Try.prog w = .ok (.enter pf args) w)     (d : Array Rec) (I : World → Prop) (hcall : ∀ (W : World) (r : Rec), (∃ j, j < d.size ∧ r = d[j]!) → I W → Calls Try.prog pf (#[.agg (encL r).toArray] ++ lb) W fun e' w' => e' = .returned (.bool (p r)) ∧ Ext (fun _ => False) W w' ∧ I w') (hl : d.size ≤ 50000) (w : World) (blk off cap : Nat) (c : Array Value) (e : TypeId) (fr : Nat × Nat) (hm : I w) (hI0 : ∀ W W', I W → Ext (fun k => k = blk) W W' → I W') (hb : w.heap[blk]? = some (.cells c e fr)) (hfr : Unfrozen c fr)
    (hcap : d.size ≤ cap) (hsz : off + cap * 6 ≤ c.size) (hrow : RowR c off d)
    (hIF : Calls Try.prog 30 #[.slice (some ⟨blk, off, none⟩) d.size cap, .func (.func pf) #[] lb] w fun e' w' => e' = .returned (.int .i64 (idxP p d.toList 0)) ∧ Ext (fun _ => False) w w' ∧ I w') :
    Calls Try.prog 22 #[.slice (some ⟨blk, off, none⟩) d.size cap, .func (.func pf) #[] lb] w fun e' w' => e' = .returned (.slice (some ⟨blk, off, none⟩) (d.toList.filter fun r => !p r).length cap) ∧ Ext (fun k => k = blk) w w' ∧ I w' ∧
      ∃ c' fr', w'.heap[blk]? = some (.cells c' e fr') ∧ Unfrozen c' fr' ∧ c'.size = c.size ∧ RowR c' off (d.toList.filter fun r => !p r).toArray := by
  rcases idxP_spec p d.toList 0 with ⟨h1, hall⟩ | ⟨k0, hk0, h1, ht, hall⟩
  · rw [h1] at hIF
    go_enter Try.func22, Try.ntmps22
    go_wp2_with (go_at_call 30; refine hIF.mono ?_; rintro e1 w1 ⟨rfl, hx1, hm1⟩)
    go_ret
    have hfil : d.toList.filter (fun r => !p r) = d.toList := List.filter_eq_self.2 (fun r hr => by rw [hall r hr]; rfl)
    rw [hfil]
    have hlt : blk < w.heap.size := (Array.getElem?_eq_some_iff.1 hb).1
    refine ⟨by simp, hx1.mono (fun _ q => q.elim), hm1, c, fr, (hx1.block blk hlt id).trans hb, hfr, rfl, ?_⟩
    simpa using hrow
  · rw [Nat.zero_add] at h1
    rw [h1] at hIF
    go_enter Try.func22, Try.ntmps22
    go_wp2_with (go_at_call 30; refine hIF.mono ?_; rintro e1 w1 ⟨rfl, hx1, hm1⟩)
    have hk0' : k0 < d.size := by simpa using hk0
    obtain ⟨kp, HK⟩ : ∃ kp : Nat → Bool, Hid (kp = fun j => !p d[j]!) := ⟨_, rfl⟩
    have tl : ∀ j, j < d.size → d.toList.getD j rec0 = d[j]! := fun j hj => by
      rw [getElem!_pos d j hj, List.getD_eq_getElem?_getD]; simp [hj]
    have hkeep : ∀ j, j < k0 → kp j = true := fun j hj => by rw [HK.out]; show (!p d[j]!) = true; rw [← tl j (by omega), hall j hj]; rfl
    have hdrop : kp k0 = false := by rw [HK.out]; show (!p d[k0]!) = false; rw [← tl k0 hk0', ht]; rfl
    have hlt0 : blk < w.heap.size := (Array.getElem?_eq_some_iff.1 hb).1
    have hst : Aside (Ext (fun k => k = blk) w w1 ∧ I w1 ∧ ∃ c', w1.heap[blk]? = some (.cells c' e fr) ∧ Unfrozen c' fr ∧ c'.size = c.size ∧ RowR c' off d) :=
      ⟨hx1.mono (fun _ q => q.elim), hm1, c, (hx1.block blk hlt0 id).trans hb, hfr, rfl, hrow⟩
    have HC : Aside _ := hcall
    clear hcall hIF hall ht h1 tl hrow hm1 hx1 hb hfr hm
    go_loopg [5, 6, 7] d.size (fun gg s5 s6 _ wr => ∃ (i j : Nat) (dk : Array Rec), s5 = .int .i64 i ∧ s6 = .int .i64 j ∧ j ≤ d.size ∧ d.size - j ≤ gg ∧ Aside (KeptInv kp d j i dk) ∧ Aside (Ext (fun k => k = blk) w wr ∧ I wr ∧ ∃ c', wr.heap[blk]? = some (.cells c' e fr) ∧ Unfrozen c' fr ∧ c'.size = c.size ∧ RowR c' off dk))
    case atStart => exact ⟨k0, k0 + 1, d, rfl, by congr 1; unfold wrap64; omega, by omega, by omega, KeptInv.start hkeep hdrop, hst⟩
    case round =>
      obtain ⟨i, j, dk, rfl, rfl, hjd, hgg, I2, H2⟩ := hrel
      have hI := I2.out
      obtain ⟨x1, m1, c', k1, k2, k3, k4⟩ := H2.out
      have hij := hI.lt
      have hds := hI.size
      by_cases hlt : j < d.size
      · have hltz : (j : Int) < (d.size : Int) := by omega
        obtain ⟨r, hr⟩ : ∃ r, Aside (r = d[j]!) := ⟨_, rfl⟩
        have hrow := k4 j (by omega)
        rw [hI.high j (by omega), ← hr.out] at hrow
        have cj0 : wr.cell? ⟨blk, off + j * 6, none⟩ = some (.int .i64 r.dl) := by rw [cell_of_block k1]; exact hrow 0 (by omega)
        have cj1 : wr.cell? ⟨blk, off + j * 6 + 1, none⟩ = some (.int .i64 r.tm) := by rw [cell_of_block k1]; exact hrow 1 (by omega)
        have cj2 : wr.cell? ⟨blk, off + j * 6 + 2, none⟩ = some (.bool r.kd) := by rw [cell_of_block k1]; exact hrow 2 (by omega)
        have cj3 : wr.cell? ⟨blk, off + j * 6 + 3, none⟩ = some (.string r.key) := by rw [cell_of_block k1]; exact hrow 3 (by omega)
        have cj4 : wr.cell? ⟨blk, off + j * 6 + 4, none⟩ = some (.bool r.dd) := by rw [cell_of_block k1]; exact hrow 4 (by omega)
        have cj5 : wr.cell? ⟨blk, off + j * 6 + 5, none⟩ = some (.string r.val) := by rw [cell_of_block k1]; exact hrow 5 (by omega)
        have HX : Aside (Ext (fun k => k = blk) w wr) := x1
        have HM : Aside (I wr) := m1
        have HK1 : Aside (wr.heap[blk]? = some (.cells c' e fr)) := k1
        have HK4 : Aside (RowR c' off dk) := k4
        clear x1 m1 k1 k4 hI hrow
        go_wp2
        refine (HC.out _ r ⟨j, hlt, hr.out⟩ (hI0 _ _ HM.out ((extA _ _).mono fun _ e => e.elim))).mono ?_
        rintro e2 w2 ⟨rfl, x2, m2⟩
        obtain ⟨X, hX⟩ : ∃ X : Obj, X = .cells #[.int .i64 r.dl, .int .i64 r.tm, .bool r.kd, .string r.key, .bool r.dd, .string r.val] 32 := ⟨_, rfl⟩
        rw [← hX] at x2
        have hblt : blk < wr.heap.size := (Array.getElem?_eq_some_iff.1 HK1.out).1
        have b2 : w2.heap[blk]? = some (.cells c' e fr) := by
          rw [x2.block _ (by simp; omega) id, alloc_get, if_neg (by omega)]; exact HK1.out
        have q2 : w2.heap[wr.heap.size]? = some X := by
          rw [x2.block _ (by simp) id, alloc_get, if_pos rfl]
        have y2 : Aside (Ext (fun k => k = blk) w w2) := by
          have := x2
          refine HX.out.trans ⟨x2.os, x2.tape, x2.output, by have := x2.size; simp at this; omega, fun k hk _ => ?_⟩
          rw [x2.block _ (by simp; omega) id, alloc_get, if_neg (by omega)]
        have hlen : (encL r).length = 6 := rfl
        have hone : ∀ v ∈ encL r, v.oneCell' = true := by
          intro v hv
          simp only [encL, List.mem_cons, List.not_mem_nil, or_false] at hv
          rcases hv with rfl | rfl | rfl | rfl | rfl | rfl <;> rfl
        obtain ⟨hst2, c2, z1, z2, z3, z4⟩ := setCells_at (P := Try.prog) (o := off + i * 6) (vs := encL r) b2 k2 (by rw [hlen]; omega) hone
        subst hX
        have d0 : w2.cell? ⟨wr.heap.size, 0, none⟩ = some (.int .i64 r.dl) := by simp [World.cell?, q2]
        have d1 : w2.cell? ⟨wr.heap.size, 1, none⟩ = some (.int .i64 r.tm) := by simp [World.cell?, q2]
        have d2 : w2.cell? ⟨wr.heap.size, 2, none⟩ = some (.bool r.kd) := by simp [World.cell?, q2]
        have d3 : w2.cell? ⟨wr.heap.size, 3, none⟩ = some (.string r.key) := by simp [World.cell?, q2]
        have d4 : w2.cell? ⟨wr.heap.size, 4, none⟩ = some (.bool r.dd) := by simp [World.cell?, q2]
        have d5 : w2.cell? ⟨wr.heap.size, 5, none⟩ = some (.string r.val) := by simp [World.cell?, q2]
        have Z : Aside (Ext (fun _ => False) (wr.alloc (.cells #[.int .i64 r.dl, .int .i64 r.tm, .bool r.kd, .string r.key, .bool r.dd, .string r.val] 32)) w2 ∧ I w2 ∧ w2.heap[blk]? = some (.cells c' e fr)) := ⟨x2, m2, b2⟩
        have Z2 : Aside ((w2.setCells blk (off + i * 6) (encL r)).heap[blk]? = some (.cells c2 e fr) ∧ c2.size = c'.size ∧ Unfrozen c2 fr ∧ ∀ j, c2.getD j Go.undef = if off + i * 6 ≤ j ∧ j < off + i * 6 + (encL r).length then (encL r).getD (j - (off + i * 6)) Go.undef else c'.getD j Go.undef) := ⟨z1, z2, z3, z4⟩
        have hcs : ∀ q, q < 6 → ∃ v, w2.cell? ⟨blk, off + i * 6 + q, none⟩ = some v ∧ w2.frozen? ⟨blk, off + i * 6 + q, none⟩ = false := by
          intro q hq
          have hlt : off + i * 6 + q < c'.size := by omega
          refine ⟨c'[off + i * 6 + q], by rw [cell_of_block b2]; simp [hlt], ?_⟩
          have := k2.not _ hlt
          simp only [World.frozen?, b2]
          simp; omega
        obtain ⟨o0, s0, f0⟩ := hcs 0 (by omega)
        obtain ⟨o1, s1, f1⟩ := hcs 1 (by omega)
        obtain ⟨o2, s2, f2⟩ := hcs 2 (by omega)
        obtain ⟨o3, s3, f3⟩ := hcs 3 (by omega)
        obtain ⟨o4, s4, f4⟩ := hcs 4 (by omega)
        obtain ⟨o5, s5, f5⟩ := hcs 5 (by omega)
        rw [Nat.add_zero] at s0 f0
        clear x2 m2 b2 q2 z1 z2 z3 z4 hone hcs hst2
        cases hq : p r with
        | true =>
          go_wp2
          go_roundg (d.size - (j + 1))
          case measure => omega
          case rel =>
            exact ⟨i, j + 1, dk, rfl, by go_num, by omega, Nat.le_refl _, I2.out.skip (by rw [HK.out]; show (!p d[j]!) = false; rw [← hr.out, hq]; rfl), y2.out, Z.out.2.1, c', Z.out.2.2, k2, k3, HK4.out⟩
        | false =>
          go_wp2
          go_roundg (d.size - (j + 1))
          case measure => omega
          case rel =>
            obtain ⟨z1, z2, z3, z4⟩ := Z2.out
            obtain ⟨g1, g2, g3, g4, g5, _⟩ := setCells_heap blk (encL r) (off + i * 6) w2
            have hI := I2.out
            refine ⟨i + 1, j + 1, dk.setIfInBounds i r, by go_num, by go_num, by omega, Nat.le_refl _, (show Aside _ from ?_), (show Aside (Ext (fun k => k = blk) w (w2.setCells blk (off + i * 6) (encL r)) ∧ I (w2.setCells blk (off + i * 6) (encL r)) ∧ ∃ c', (w2.setCells blk (off + i * 6) (encL r)).heap[blk]? = some (Obj.cells c' e fr) ∧ Unfrozen c' fr ∧ c'.size = c.size ∧ RowR c' off (dk.setIfInBounds i r)) from ?_)⟩
            · have := hI.keep hlt (by rw [HK.out]; show (!p d[j]!) = true; rw [← hr.out, hq]; rfl)
              rwa [← hr.out] at this
            · refine ⟨y2.out.trans ⟨g1, g2, g3, by rw [g4]; exact Nat.le_refl _, fun k _ hk => g5 k hk⟩, ?_, c2, z1, z3, by rw [z2, k3], HK4.out.set (by omega) z2 z4⟩
              exact hI0 _ _ Z.out.2.1 ⟨g1, g2, g3, by rw [g4]; exact Nat.le_refl _, fun k _ hk => g5 k hk⟩
      · obtain rfl : j = d.size := by omega
        have hid : i < d.size := hij
        have hu50 : Try.prog.underlying 28 = some (.slice 32) := by kernel_rfl
        have hz65 : ∀ w, (zeroValue 32).run Try.prog w = .ok (.agg (encL rec0).toArray) w := Try.zeroValue32
        have hce : (Value.agg (encL rec0).toArray).cells = (encL rec0).toArray := rfl
        have hone : ∀ v ∈ (Value.agg (encL rec0).toArray).cells, v.oneCell' = true := by
          intro v hv
          rw [hce] at hv
          simp only [encL, List.mem_toArray, List.mem_cons, List.not_mem_nil, or_false] at hv
          rcases hv with rfl | rfl | rfl | rfl | rfl | rfl <;> rfl
        have hsz6 : (Value.agg (encL rec0).toArray).cells.size = 6 := rfl
        have hcl : ∀ ty, (Builtin.clear_ #[28] ty #[.slice (some ⟨blk, off + i * 6, none⟩) (d.size - i) (cap - i)]).run Try.prog wr = .ok (.tuple #[]) (wr.setCells blk (off + i * 6) (Builtin.zeroCells (Value.agg (encL rec0).toArray).cells (d.size - i)).toList) := fun ty =>
          run_clear_k wr 28 32 ty _ hu50 hz65 hone (by rw [hsz6]; omega) blk (off + i * 6) (d.size - i) (cap - i) (by omega) k1 k2 (by rw [hsz6, k3]; omega)
        obtain ⟨v1, v2⟩ := zeroCells_spec _ (d.size - i) hone (by rw [hsz6]; omega)
        rw [hsz6] at v1
        have HX : Aside (Ext (fun k => k = blk) w wr) := x1
        have HM : Aside (I wr) := m1
        have HK1 : Aside (wr.heap[blk]? = some (.cells c' e fr)) := k1
        have HK4 : Aside (RowR c' off dk) := k4
        clear x1 m1 k1 k4 hI hz65 hone hsz6 hce
        generalize (Builtin.zeroCells (Value.agg (encL rec0).toArray).cells (d.size - i)).toList = zs at hcl v1 v2
        go_wp2
        go_ret
        have hI := I2.out
        have hfil : (d.toList.filter fun r => !p r) = keptUpTo kp d d.size := by rw [HK.out]; exact (keptUpTo_filter (fun x => !p x) d).symm
        rw [hfil]
        obtain ⟨_, c3, z1, z2, z3, z4⟩ := setCells_at (P := Try.prog) (o := off + i * 6) (vs := zs) HK1.out k2 (by rw [v1, k3]; omega) v2
        obtain ⟨g1, g2, g3, g4, g5, _⟩ := setCells_heap blk zs (off + i * 6) wr
        refine ⟨by rw [hI.len]; rfl, HX.out.trans ⟨g1, g2, g3, by rw [g4]; exact Nat.le_refl _, fun k _ hk => g5 k hk⟩, ?_, c3, fr, z1, z3, by rw [z2, k3], ?_⟩
        · exact hI0 _ _ HM.out ⟨g1, g2, g3, by rw [g4]; exact Nat.le_refl _, fun k _ hk => g5 k hk⟩
        · intro m hm q hq
          have hm' : m < i := by simpa [hI.len] using hm
          have hold := HK4.out m (by omega) q hq
          have hlt2 : off + m * 6 + q < c'.size := (Array.getElem?_eq_some_iff.1 hold).1
          have e0 : c3[off + m * 6 + q]? = some (c3.getD (off + m * 6 + q) Go.undef) := by
            rw [Array.getD_eq_getD_getElem?, Array.getElem?_eq_getElem (by omega)]; rfl
          have hl := hI.low m hm'
          have e1 : (keptUpTo kp d d.size).toArray[m]! = dk[m]! := by
            rw [getElem!_pos _ m (by simpa using hm)]
            have : m < (keptUpTo kp d d.size).length := by simpa using hm
            rw [List.getElem?_eq_getElem this] at hl
            simpa using hl
          rw [e0, z4, if_neg (by omega), Array.getD_eq_getD_getElem?, hold, e1]
          rfl
end Go.Proofs.Ytikidcgnbcibpaa

/- Compact: IndexFunc, DeleteFunc. -/

set_option linter.unusedSimpArgs false
set_option linter.unusedVariables false
set_option maxRecDepth 100000
set_option maxHeartbeats 4000000
namespace Go.Proofs.Ytikidcgnbcibpaa
open Go.RowKit Go.Lib Go.Sort
open Go.Av Go.Cp
theorem idxP_bound (p : Rec → Bool) (l : List Rec) : ∀ i, -1 ≤ idxP p l i := by
  induction l with
  | nil => intro i; simp [idxP]
  | cons r l ih => intro i; unfold idxP; split; omega; exact ih _
theorem idx_raw (pf : FuncId) (lb : Array Value) (p : Rec → Bool) (eg : ∀ args w, (callFunc pf args).run Try.prog w = .ok (.enter pf args) w)
    (d : Array Rec) (I : World → Prop) (hcall : ∀ (W : World) (r : Rec), (∃ j, j < d.size ∧ r = d[j]!) → I W → Calls Try.prog pf (#[.agg (encL r).toArray] ++ lb) W fun e' w' => e' = .returned (.bool (p r)) ∧ Ext (fun _ => False) W w' ∧ I w') (hl : d.size ≤ 50000) (w : World) (blk off cap : Nat) (c : Array Value) (e : TypeId) (fr : Nat × Nat) (hm : I w) (hb : w.heap[blk]? = some (.cells c e fr)) (hrow : RowR c off d) :
    Calls Try.prog 30 #[.slice (some ⟨blk, off, none⟩) d.size cap, .func (.func pf) #[] lb] w fun e' w' => e' = .returned (.int .i64 (idxP p d.toList 0)) ∧ Ext (fun _ => False) w w' ∧ I w' := by
  have HB := asideI hb
  have HR := asideI hrow
  have HC := asideI hcall
  have HM := asideI hm
  have tl : ∀ j, j < d.size → d.toList.getD j rec0 = d[j]! := fun j hj => by
    rw [getElem!_pos d j hj, List.getD_eq_getElem?_getD]; simp [hj]
  have HTL := asideI tl
  clear hb hrow hcall hm tl
  go_enter Try.func30, Try.ntmps30
  go_wp2
  go_loopg [8] d.size (fun gg s8 wr => ∃ (k : Nat), s8 = .int .i64 k ∧ k ≤ d.size ∧ d.size - k ≤ gg ∧ Aside (idxP p d.toList 0 = idxP p (d.toList.drop k) k ∧ Ext (fun _ => False) w wr ∧ I wr))
  case atStart => exact ⟨0, rfl, by omega, by omega, rfl, Ext.refl _ _, HM.out⟩
  case round =>
    obtain ⟨k, rfl, hk, hgg, H⟩ := hrel
    by_cases hlt : k < d.size
    · have hz : (k : Int) < (d.size : Int) := by omega
      have hw : IntKind.i64.wrap ((k : Int) + 1) = (k : Int) + 1 := by rw [IntKind.wrap_i64]; omega
      obtain ⟨r, hr⟩ : ∃ r, Aside (r = d[k]!) := ⟨_, rfl⟩
      have hrow := HR.out k hlt
      rw [← hr.out] at hrow
      have hbk := (H.out.2.1.block blk (Array.getElem?_eq_some_iff.1 HB.out).1 id).trans HB.out
      have cj0 : wr.cell? ⟨blk, off + k * 6, none⟩ = some (.int .i64 r.dl) := by rw [cell_of_block hbk]; exact hrow 0 (by omega)
      have cj1 : wr.cell? ⟨blk, off + k * 6 + 1, none⟩ = some (.int .i64 r.tm) := by rw [cell_of_block hbk]; exact hrow 1 (by omega)
      have cj2 : wr.cell? ⟨blk, off + k * 6 + 2, none⟩ = some (.bool r.kd) := by rw [cell_of_block hbk]; exact hrow 2 (by omega)
      have cj3 : wr.cell? ⟨blk, off + k * 6 + 3, none⟩ = some (.string r.key) := by rw [cell_of_block hbk]; exact hrow 3 (by omega)
      have cj4 : wr.cell? ⟨blk, off + k * 6 + 4, none⟩ = some (.bool r.dd) := by rw [cell_of_block hbk]; exact hrow 4 (by omega)
      have cj5 : wr.cell? ⟨blk, off + k * 6 + 5, none⟩ = some (.string r.val) := by rw [cell_of_block hbk]; exact hrow 5 (by omega)
      have hdrop := idxP_drop p d.toList k (by simpa using hlt)
      rw [HTL.out k hlt, ← hr.out] at hdrop
      have HD := asideI hdrop
      clear hrow hbk hdrop
      go_wp2
      refine (HC.out _ r ⟨k, hlt, hr.out⟩ H.out.2.2).mono ?_
      rintro e2 w2 ⟨rfl, x2, m2⟩
      have H2 := asideI (And.intro (H.out.2.1.trans x2) m2)
      clear x2 m2
      cases hq : p r with
      | true =>
        have HQ : Aside (idxP p d.toList 0 = (k : Int)) := by
          show _ = _
          rw [H.out.1, HD.out, hq, if_pos rfl]
        go_wp2
        go_ret
        exact ⟨by rw [HQ.out]; rfl, H2.out.1, H2.out.2⟩
      | false =>
        have HQ : Aside (idxP p d.toList 0 = idxP p (d.toList.drop (k + 1)) (k + 1)) := by
          show _ = _
          rw [H.out.1, HD.out, hq, if_neg (by simp)]
        go_wp2
        go_roundg (d.size - (k + 1))
        case measure => omega
        case rel => exact ⟨k + 1, by simp, by omega, by omega, HQ.out, H2.out.1, H2.out.2⟩
    · obtain rfl : k = d.size := by omega
      have HQ : Aside (idxP p d.toList 0 = -1) := by
        show _ = _
        rw [H.out.1, List.drop_of_length_le (by simp)]
        rfl
      go_wp2
      go_ret
      exact ⟨by rw [HQ.out]; rfl, H.out.2.1, H.out.2.2⟩
/-- DeleteFunc of no array. -/
theorem del_none (w : World) (f : Value) : Calls Try.prog 22 #[.slice none 0 0, f] w fun e' w' => e' = .returned (.slice none 0 0) ∧ w' = w := by
  have h30 : Calls Try.prog 30 #[.slice none 0 0, f] w fun e' w' => e' = .returned (.int .i64 (-1)) ∧ w' = w := by
    go_enter Try.func30, Try.ntmps30
    go_wp2
    go_loopg [8] 0 (fun gg s8 wr => s8 = .int .i64 0 ∧ wr = w)
    case atStart => exact ⟨rfl, rfl⟩
    case round =>
      obtain ⟨rfl, rfl⟩ := hrel
      go_wp2
      go_ret
      exact ⟨rfl, rfl⟩
  go_enter Try.func22, Try.ntmps22
  go_wp2_with (go_at_call 30; refine h30.mono ?_; rintro e1 w1 ⟨rfl, rfl⟩)
  go_ret
  exact ⟨rfl, rfl⟩
end Go.Proofs.Ytikidcgnbcibpaa

/- Compact: Clone of records. -/

set_option linter.unusedSimpArgs false
set_option linter.unusedVariables false
set_option maxRecDepth 100000
set_option maxHeartbeats 4000000
namespace Go.Proofs.Ytikidcgnbcibpaa
open Go.RowKit
open Go.Av Go.Cp
def flatR (l : List Rec) : List Value := l.flatMap encL
theorem flatR_len (l : List Rec) : (flatR l).length = l.length * 6 := by
  induction l with
  | nil => rfl
  | cons r l ih =>
    have h : (flatR (r :: l)).length = 6 + (flatR l).length := by simp [flatR, encL]; omega
    rw [h, ih, List.length_cons]
    omega
theorem flatR_get (l : List Rec) : ∀ k q, k < l.length → q < 6 → (flatR l)[k * 6 + q]? = some ((encL (l.getD k rec0)).getD q Go.undef) := by
  induction l with
  | nil => intro k q hk; simp at hk
  | cons r l ih =>
    intro k q hk hq
    have e : flatR (r :: l) = encL r ++ flatR l := rfl
    have h6 : (encL r).length = 6 := rfl
    rw [e]
    cases k with
    | zero =>
      rw [List.getElem?_append_left (by omega), Nat.zero_mul, Nat.zero_add]
      simp [List.getD_eq_getElem?_getD, h6, hq]
    | succ k =>
      rw [List.getElem?_append_right (by omega), h6, show (k + 1) * 6 + q - 6 = k * 6 + q by omega, ih k q (by simpa using hk) hq]
      simp [List.getD_eq_getElem?_getD]
theorem flatR_one (l : List Rec) : ∀ u ∈ flatR l, u.oneCell' = true := fun u hu => by
  obtain ⟨r, _, hu⟩ := List.mem_flatMap.1 hu
  simp only [encL, List.mem_cons, List.not_mem_nil, or_false] at hu
  rcases hu with rfl | rfl | rfl | rfl | rfl | rfl <;> rfl
/-- An array of one's own that holds records. -/
def RRow (w : World) (B : Nat) (p : Option Addr) (c : Nat) (l : List Rec) : Prop := (p = none ∧ c = 0 ∧ l = []) ∨ ∃ g cur fr, p = some ⟨g, 0, none⟩ ∧ B ≤ g ∧ w.heap[g]? = some (.cells cur 32 fr) ∧ Unfrozen cur fr ∧ l.length ≤ c ∧ c * 6 ≤ cur.size ∧ RowR cur 0 l.toArray
theorem recs_news {w : World} {ad : Addr} {rs : List Rec} (h : RecsW w (some ad) rs) : ∀ j u, (flatR rs)[j]? = some u → w.cell? (ad.add j) = some u := fun j u hj => by
  have hjl := (List.getElem?_eq_some_iff.1 hj).1
  rw [flatR_len] at hjl
  have hk : j / 6 < rs.length := by omega
  have hq : j % 6 < 6 := Nat.mod_lt _ (by omega)
  have h1 := flatR_get rs (j / 6) (j % 6) hk hq
  rw [show j / 6 * 6 + j % 6 = j by omega, hj] at h1
  obtain ⟨b, o, e, h0, h2, h3, h4, h5, h6⟩ := h (j / 6) hk
  cases e
  rw [Addr.add_lit, h1]
  have e2 : o + j = o + j / 6 * 6 + j % 6 := by omega
  rw [e2]
  generalize j % 6 = q at hq
  match q, hq with
  | 0, _ => exact h0
  | 1, _ => exact h2
  | 2, _ => exact h3
  | 3, _ => exact h4
  | 4, _ => exact h5
  | 5, _ => exact h6
theorem clone_raw {w : World} {rp : Option Addr} {rc : Nat} {rs : List Rec} (h : RecsW w rp rs) (hn : rp = none → rs = [] ∧ rc = 0) (hl : rs.length ≤ 50000) :
    Calls Try.prog 23 #[.slice rp rs.length rc] w fun e w' => ∃ p c, e = .returned (.slice p rs.length c) ∧ RRow w' w.heap.size p c rs ∧ Ext (fun _ => False) w w' := by
  obtain ⟨i0, hi, hz0, hz1, hz2⟩ := info_parts (P := Try.prog) (e := 32) (z := .agg #[.int .i64 0, .int .i64 0, .bool false, .string ByteArray.empty, .bool false, .string ByteArray.empty]) (size := 6) (bytes := 64) (by kernel_rfl)
  have hu : Try.prog.underlying 28 = some (.slice 32) := by kernel_rfl
  have q28 : ∀ (w : World) (a : Option Addr) (n c n' c' : Nat), (binOp .eql 28 (.slice a n c) (.slice none n' c')).run Try.prog w = .ok (.bool a.isNone) w := fun w a n c n' c' => Go.Lib.run_eql_slice_nil w _ _ a n c n' c' hu
  cases rp with
  | none =>
    obtain ⟨rfl, rfl⟩ := hn rfl
    go_enter Try.func23, Try.ntmps23
    go_wp2
    go_ret
    exact ⟨none, 0, rfl, .inl ⟨rfl, rfl, rfl⟩, Ext.refl _ _⟩
  | some ad =>
    have A := asideI (recs_news h)
    clear h hn
    go_enter Try.func23, Try.ntmps23
    go_wp2_with (at_builtin; refine wpList_append_own _ rfl _ _ 28 rfl w.heap.size 32 i0 (.agg #[.int .i64 0, .int .i64 0, .bool false, .string ByteArray.empty, .bool false, .string ByteArray.empty]) 6 64 hu hi hz0 hz1 hz2 rfl (by decide) _ _ _ rfl (World.ownsRow_made w #[] 0 (Nat.le_refl _) (Nat.zero_le _) rfl) ad rs.length rc (flatR rs) rfl ?qc1 ?qc2 ?qc3 ?qc4 ?qc5 ?qc6 ?_)
    case qc1 => exact flatR_len _
    case qc2 =>
      intro j u hj
      exact cell_ext (extA w _) (A.out j u hj)
    case qc3 => exact flatR_one _
    case qc4 => unfold maxLen; omega
    case qc5 => omega
    try (case qc6 => simp)
    intro v' w1 hown hgrow hnil
    go_wp2
    go_ret
    have hB := ((Below.refl w.heap.size w).alloc (Nat.le_refl _) _).grown hgrow (by simp) (by intro k hk; simp [Value.ownBlock] at hk; omega)
    obtain ⟨hl2, hor⟩ := hown
    rcases hor with ⟨e, _⟩ | ⟨g, cap, cur, rfl, hb, hg, hn, _, hs, ht⟩
    · exact (hnil e).elim
    · refine ⟨some ⟨g, 0, none⟩, cap, rfl, .inr ⟨g, cur, (0, 0), rfl, hb, hg, .inl rfl, hn, Nat.le_of_eq hs.symm, fun i hi q hq => ?_⟩, ⟨hB.os, hB.tape, hB.output, hB.size, fun k hk _ => hB.block k hk⟩⟩
      have hil : i < rs.length := by simpa using hi
      have hg2 := flatR_get rs i q hil hq
      have e1 : rs.toArray[i]! = rs.getD i rec0 := by
        rw [getElem!_pos _ i hi, List.getD_eq_getElem?_getD, List.getElem?_eq_getElem hil]; rfl
      rw [e1, ← hg2, ← ht, List.getElem?_take, if_pos (by omega), Array.getElem?_toList, Nat.zero_add]
end Go.Proofs.Ytikidcgnbcibpaa

/- Compact: what Clean asks of each record. -/

set_option linter.unusedSimpArgs false
set_option linter.unusedVariables false
set_option maxRecDepth 100000
set_option maxHeartbeats 4000000
namespace Go.Proofs.Ytikidcgnbcibpaa
open Go.RowKit
open Go.Av Go.Cp
/-- What Clean's closure looks at: the map, the cleaner's box, the batch's box. -/
structure CI (mb n : Nat) (ps : List (Bat × Rec)) (cb bb : Nat) (now grace : Int) (b : Bat) (rp : Option Addr) (rn rc : Nat) (W : World) : Prop where
  m : LastM W mb n ps
  c : W.heap[cb]? = some (.cells #[.map (some mb), .int .i64 now, .int .i64 grace] 48)
  b : W.heap[bb]? = some (.cells #[.int .i64 b.ba, .int .i64 b.co, .int .i64 b.pr, .int .i64 b.ep, .int .i64 b.sq, .slice rp rn rc] 30)
theorem CI.keep {mb n : Nat} {ps : List (Bat × Rec)} {cb bb : Nat} {now grace : Int} {b : Bat} {rp : Option Addr} {rn rc : Nat} {W W' : World} (h : CI mb n ps cb bb now grace b rp rn rc W) {T : Nat → Prop} (k : Ext T W W') (h1 : ¬ T mb) (h2 : ¬ T cb) (h3 : ¬ T bb) : CI mb n ps cb bb now grace b rp rn rc W' :=
  ⟨h.m.keep (k.block mb h.m.lt h1), (k.block cb (Array.getElem?_eq_some_iff.1 h.c).1 h2).trans h.c, (k.block bb (Array.getElem?_eq_some_iff.1 h.b).1 h3).trans h.b⟩
theorem box3 {w : World} {b : Nat} {a0 a1 a2 : Value} {t : TypeId} (h : w.heap[b]? = some (.cells #[a0, a1, a2] t)) : w.cell? ⟨b, 0, none⟩ = some a0 ∧ w.cell? ⟨b, 1, none⟩ = some a1 ∧ w.cell? ⟨b, 2, none⟩ = some a2 := by
  simp [World.cell?, h]
theorem box6 {w : World} {b : Nat} {a0 a1 a2 a3 a4 a5 : Value} {t : TypeId} (h : w.heap[b]? = some (.cells #[a0, a1, a2, a3, a4, a5] t)) :
    (w.cell? ⟨b, 0, none⟩ = some a0 ∧ w.cell? ⟨b, 1, none⟩ = some a1 ∧ w.cell? ⟨b, 2, none⟩ = some a2 ∧ w.cell? ⟨b, 3, none⟩ = some a3 ∧ w.cell? ⟨b, 4, none⟩ = some a4 ∧ w.cell? ⟨b, 5, none⟩ = some a5) ∧ w.frozen? ⟨b, 5, none⟩ = false := by
  simp [World.cell?, World.frozen?, h]
theorem clean1_raw {mb n : Nat} {ps : List (Bat × Rec)} {cb bb : Nat} {now grace : Int} {b : Bat} {rp : Option Addr} {rn rc : Nat} {W : World} (h : CI mb n ps cb bb now grace b rp rn rc W) (r : Rec) (hk : r.key.size ≤ 100000) (hat : IntKind.i64.wrap (b.ba + r.dl) = atS b r) :
    Calls Try.prog 24 (#[.agg (encL r).toArray] ++ #[.pointer (some ⟨cb, 0, none⟩), .pointer (some ⟨bb, 0, none⟩)]) W fun e w' => e = .returned (.bool (!keepP ps now grace b r)) ∧ Ext (fun _ => False) W w' ∧ CI mb n ps cb bb now grace b rp rn rc w' := by
  have hx := extA W (.cells #[.int .i64 r.dl, .int .i64 r.tm, .bool r.kd, .string r.key, .bool r.dd, .string r.val] 32)
  have h2 := h.keep hx id id id
  have HKR := asideI (keeps_raw h2.m b r rp rn rc now grace hk hat)
  obtain ⟨c0, c1, c2⟩ := box3 h.c
  obtain ⟨⟨b0, b1, b2, b3, b4, b5⟩, _⟩ := box6 h.b
  have l1 := (Array.getElem?_eq_some_iff.1 h.c).1
  have l2 := (Array.getElem?_eq_some_iff.1 h.b).1
  have n1 : ¬ cb = W.heap.size := by omega
  have n2 : ¬ bb = W.heap.size := by omega
  have HX := asideI hx
  have H2 := asideI h2
  clear h hx h2
  show Calls Try.prog 24 #[.agg #[.int .i64 r.dl, .int .i64 r.tm, .bool r.kd, .string r.key, .bool r.dd, .string r.val], .pointer (some ⟨cb, 0, none⟩), .pointer (some ⟨bb, 0, none⟩)] W _
  generalize keepP ps now grace b r = kk at HKR ⊢
  go_enter Try.func24, Try.ntmps24
  go_wp2_with (first
    | (go_at_call 20; refine HKR.out.mono ?_; rintro e w2 ⟨rfl, hx⟩; have HX2 := asideI hx; clear hx; simp only [])
    | go_in)
  go_ret
  exact ⟨rfl, HX.out.trans HX2.out, H2.out.keep HX2.out id id id⟩
end Go.Proofs.Ytikidcgnbcibpaa

/- Compact: DeleteFunc as Clean calls it. -/

set_option linter.unusedSimpArgs false
set_option linter.unusedVariables false
set_option maxRecDepth 100000
set_option maxHeartbeats 4000000
namespace Go.Proofs.Ytikidcgnbcibpaa
open Go.RowKit
open Go.Av Go.Cp
theorem okFn24 : ∀ args w, (callFunc 24 args).run Try.prog w = .ok (.enter 24 args) w := by
  have h : okFn Try.prog 24 := ⟨_, Try.func24, rfl, rfl⟩
  intro args w
  obtain ⟨fn, h1, h2, h3⟩ := h
  have hb' : fn.body.isNone = false := by cases hb : fn.body <;> simp [hb] at h2 ⊢
  simp only [callFunc, run_program, Sem.run_bind, Sem.run_pure, Result.andThen_ok, h1, h3, hb', Bool.false_eq_true, if_false]
theorem del_call {mb n : Nat} {ps : List (Bat × Rec)} {cb bb : Nat} {now grace : Int} {b : Bat} {rp : Option Addr} {rn rc : Nat} {W : World} (h : CI mb n ps cb bb now grace b rp rn rc W) {B : Nat} {p : Option Addr} {c : Nat} {rs : List Rec} (hr : RRow W B p c rs)
    (hp : ∀ g o, p = some ⟨g, o, none⟩ → g ≠ mb ∧ g ≠ cb ∧ g ≠ bb) (hl : rs.length ≤ 50000) (hk : ∀ r ∈ rs, r.key.size ≤ 100000 ∧ IntKind.i64.wrap (b.ba + r.dl) = atS b r) :
    Calls Try.prog 22 #[.slice p rs.length c, .func (.func 24) #[] #[.pointer (some ⟨cb, 0, none⟩), .pointer (some ⟨bb, 0, none⟩)]] W fun e w' => e = .returned (.slice p (rs.filter (keepP ps now grace b)).length c) ∧ RRow w' B p c (rs.filter (keepP ps now grace b)) ∧ Ext (fun k => ∃ o, p = some ⟨k, o, none⟩) W w' ∧ CI mb n ps cb bb now grace b rp rn rc w' := by
  rcases hr with ⟨rfl, rfl, rfl⟩ | ⟨g, cur, fr, rfl, hB, hg, hf, hc, hsz, hrow⟩
  · refine (del_none W _).mono ?_
    rintro e w' ⟨rfl, rfl⟩
    exact ⟨rfl, .inl ⟨rfl, rfl, rfl⟩, Ext.refl _ _, h⟩
  · obtain ⟨n1, n2, n3⟩ := hp g 0 rfl
    have hcall : ∀ (W : World) (r : Rec), (∃ j, j < rs.toArray.size ∧ r = rs.toArray[j]!) → CI mb n ps cb bb now grace b rp rn rc W → Calls Try.prog 24 (#[.agg (encL r).toArray] ++ #[.pointer (some ⟨cb, 0, none⟩), .pointer (some ⟨bb, 0, none⟩)]) W fun e' w' => e' = .returned (.bool (!keepP ps now grace b r)) ∧ Ext (fun _ => False) W w' ∧ CI mb n ps cb bb now grace b rp rn rc w' := by
      rintro W r ⟨j, hj, rfl⟩ hI
      have hjl : j < rs.length := by simpa using hj
      have hm : rs.toArray[j]! ∈ rs := by
        rw [getElem!_pos _ j hj]; simp
      exact clean1_raw hI _ (hk _ hm).1 (hk _ hm).2
    have hidx := idx_raw 24 _ (fun r => !keepP ps now grace b r) okFn24 rs.toArray (CI mb n ps cb bb now grace b rp rn rc) hcall (by simpa using hl) W g 0 c cur 32 fr h hg hrow
    have hdel := del_raw 24 _ (fun r => !keepP ps now grace b r) okFn24 rs.toArray (CI mb n ps cb bb now grace b rp rn rc) hcall (by simpa using hl) W g 0 c cur 32 fr h (fun W W' hI k => hI.keep k (fun e => n1 e.symm) (fun e => n2 e.symm) (fun e => n3 e.symm)) hg hf (by simpa using hc) (by simpa using hsz) hrow hidx
    have e1 : rs.toArray.toList.filter (fun r => !(!keepP ps now grace b r)) = rs.filter (keepP ps now grace b) := by simp
    rw [e1] at hdel
    have e2 : rs.toArray.size = rs.length := by simp
    rw [e2] at hdel
    refine hdel.mono ?_
    rintro e w' ⟨rfl, hx, hI, c', fr', k1, k2, k3, k4⟩
    exact ⟨rfl, .inr ⟨g, c', fr', rfl, hB, k1, k2, Nat.le_trans (List.length_filter_le _ _) hc, by rw [k3]; exact hsz, k4⟩, hx.mono (fun k e => ⟨0, by rw [e]⟩), hI⟩
end Go.Proofs.Ytikidcgnbcibpaa

/- Compact: what Clean keeps while it goes. -/


set_option linter.unusedSimpArgs false
set_option linter.unusedVariables false
set_option maxRecDepth 100000
set_option maxHeartbeats 4000000
namespace Go.Proofs.Ytikidcgnbcibpaa
open Go.RowKit
open Go.Av Go.Cp
/-- A batch of the result, and where its records lie. -/
structure En where
  b : Bat
  rp : Option Addr
  rc : Nat
def encE (e : En) : List Value := [.int .i64 e.b.ba, .int .i64 e.b.co, .int .i64 e.b.pr, .int .i64 e.b.ep, .int .i64 e.b.sq, .slice e.rp e.b.rs.length e.rc]
def flatE (l : List En) : List Value := l.flatMap encE
theorem encE_one (e : En) : ∀ u ∈ encE e, u.oneCell' = true := fun u hu => by
  simp only [encE, List.mem_cons, List.not_mem_nil, or_false] at hu
  rcases hu with rfl | rfl | rfl | rfl | rfl | rfl <;> rfl
theorem flatE_snoc (l : List En) (e : En) : flatE (l ++ [e]) = flatE l ++ encE e := by simp [flatE]
def cleanT (ps : List (Bat × Rec)) (now grace : Int) (l : List Bat) : List Bat := (l.map fun b => { b with rs := b.rs.filter (keepP ps now grace b) }).filter fun b => !b.rs.isEmpty || decide (b.pr ≠ 0)
theorem cleanT_prs (l : List Bat) (now grace : Int) : cleanT (prs l) now grace l = cleanS l now grace := rfl
theorem cleanT_succ (ps : List (Bat × Rec)) (now grace : Int) (l : List Bat) {i : Nat} (hi : i < l.length) : cleanT ps now grace (l.take (i + 1)) = cleanT ps now grace (l.take i) ++ (if (!((l.getD i bat0).rs.filter (keepP ps now grace (l.getD i bat0))).isEmpty || decide ((l.getD i bat0).pr ≠ 0)) = true then [{ (l.getD i bat0) with rs := (l.getD i bat0).rs.filter (keepP ps now grace (l.getD i bat0)) }] else []) := by
  unfold cleanT
  rw [List.take_add_one, List.map_append, List.filter_append]
  congr 1
  rw [List.getD_eq_getElem?_getD, List.getElem?_eq_getElem hi]
  simp only [Option.toList_some, List.map_cons, List.map_nil, Option.getD_some, List.filter_cons, List.filter_nil]
structure CInv (w : World) (B mb nn cb : Nat) (ps : List (Bat × Rec)) (now grace : Int) (cs : List Bat) (es : List En) (v : Value) (wr : World) : Prop where
  own : wr.ownsRow B 30 6 v es.length (flatE es)
  rows : ∀ e ∈ es, RRow wr w.heap.size e.rp e.rc e.b.rs ∧ ∀ g o, e.rp = some ⟨g, o, none⟩ → v.ownBlock ≠ some g
  con : es.map (·.b) = cs
  ext : Ext (fun _ => False) w wr
  m : LastM wr mb nn ps
  c : wr.heap[cb]? = some (.cells #[.map (some mb), .int .i64 now, .int .i64 grace] 48)
theorem RRow.keep {w w' : World} {B : Nat} {p : Option Addr} {c : Nat} {l : List Rec} (h : RRow w B p c l) {T : Nat → Prop} (k : Ext T w w') (hT : ∀ g o, p = some ⟨g, o, none⟩ → ¬ T g) : RRow w' B p c l := by
  rcases h with h | ⟨g, cur, fr, h1, h2, h3, h4⟩
  · exact .inl h
  · exact .inr ⟨g, cur, fr, h1, h2, (k.block g (Array.getElem?_eq_some_iff.1 h3).1 (hT g 0 h1)).trans h3, h4⟩
theorem RRow.lt {w : World} {B : Nat} {p : Option Addr} {c : Nat} {l : List Rec} (h : RRow w B p c l) {g o : Nat} (hp : p = some ⟨g, o, none⟩) : B ≤ g ∧ g < w.heap.size := by
  rcases h with ⟨h, _⟩ | ⟨g', cur, fr, h1, h2, h3, h4⟩
  · rw [h] at hp; cases hp
  · rw [h1] at hp; cases hp
    exact ⟨h2, (Array.getElem?_eq_some_iff.1 h3).1⟩
theorem RRow.base {w : World} {B B2 : Nat} {p : Option Addr} {c : Nat} {l : List Rec} (h : RRow w B p c l) (k : B2 ≤ B) : RRow w B2 p c l := by
  rcases h with h | ⟨g, cur, fr, h1, h2, h3⟩
  · exact .inl h
  · exact .inr ⟨g, cur, fr, h1, Nat.le_trans k h2, h3⟩
theorem own_keep {w w' : World} {base e size n : Nat} {v : Value} {xs : List Value} (h : w.ownsRow base e size v n xs) {T : Nat → Prop} (k : Ext T w w') (hT : ∀ g, v.ownBlock = some g → ¬ T g) : w'.ownsRow base e size v n xs := by
  refine ⟨h.1, ?_⟩
  rcases h.2 with h2 | ⟨g, cap, cur, h1, h2, h3, h4⟩
  · exact .inl h2
  · exact .inr ⟨g, cap, cur, h1, h2, (k.block g (Array.getElem?_eq_some_iff.1 h3).1 (hT g (by rw [h1]; rfl))).trans h3, h4⟩
theorem own_lt {w : World} {base e size n : Nat} {v : Value} {xs : List Value} (h : w.ownsRow base e size v n xs) {g : Nat} (hg : v.ownBlock = some g) : base ≤ g ∧ g < w.heap.size := by
  rcases h.2 with ⟨h1, _⟩ | ⟨g', cap, cur, h1, h2, h3, h4⟩
  · rw [h1] at hg; cases hg
  · rw [h1] at hg
    simp only [Value.ownBlock, Option.some.injEq] at hg
    subst hg
    exact ⟨h2, (Array.getElem?_eq_some_iff.1 h3).1⟩
/-- What lies apart stays. -/
theorem CInv.keep {w : World} {B mb nn cb : Nat} {ps : List (Bat × Rec)} {now grace : Int} {cs : List Bat} {es : List En} {v : Value} {wr W : World} (h : CInv w B mb nn cb ps now grace cs es v wr) {T : Nat → Prop} (k : Ext T wr W) (hT : ∀ b, T b → wr.heap.size ≤ b) : CInv w B mb nn cb ps now grace cs es v W := by
  have hws := h.ext.size
  refine ⟨own_keep h.own k (fun g e q => ?_), fun e he => ⟨(h.rows e he).1.keep k (fun g o e2 q => ?_), (h.rows e he).2⟩, h.con, extF h.ext k (fun b e => Nat.le_trans hws (hT b e)), h.m.keep (k.block mb h.m.lt (fun q => ?_)), (k.block cb (Array.getElem?_eq_some_iff.1 h.c).1 (fun q => ?_)).trans h.c⟩
  · have := own_lt h.own e; have := hT g q; omega
  · have := (h.rows e he).1.lt e2; have := hT g q; omega
  · have := h.m.lt; have := hT mb q; omega
  · have := (Array.getElem?_eq_some_iff.1 h.c).1; have := hT cb q; omega
theorem own_slice {w : World} {base e size n : Nat} {v : Value} {xs : List Value} (h : w.ownsRow base e size v n xs) : ∃ p c, v = .slice p n c := by
  rcases h.2 with ⟨h1, h2⟩ | ⟨g, cap, cur, h1, _⟩
  · rw [h1, h2]; exact ⟨_, _, rfl⟩
  · exact ⟨_, _, h1⟩
theorem enc_new (W : World) (e : En) : ∀ j u, (encE e)[j]? = some u → (W.alloc (.cells #[.int .i64 e.b.ba, .int .i64 e.b.co, .int .i64 e.b.pr, .int .i64 e.b.ep, .int .i64 e.b.sq, .slice e.rp e.b.rs.length e.rc] 30)).cell? ((⟨W.heap.size, 0, none⟩ : Addr).add j) = some u := fun j u hj => by
  have hb : (W.alloc (.cells #[.int .i64 e.b.ba, .int .i64 e.b.co, .int .i64 e.b.pr, .int .i64 e.b.ep, .int .i64 e.b.sq, .slice e.rp e.b.rs.length e.rc] 30)).heap[W.heap.size]? = some (.cells #[.int .i64 e.b.ba, .int .i64 e.b.co, .int .i64 e.b.pr, .int .i64 e.b.ep, .int .i64 e.b.sq, .slice e.rp e.b.rs.length e.rc] 30) := by rw [alloc_get, if_pos rfl]
  rw [Addr.add_lit, Nat.zero_add]
  simp only [World.cell?, hb]
  simpa [encE] using hj
/-- A batch more. -/
theorem CInv.app {w : World} {B mb nn cb : Nat} {ps : List (Bat × Rec)} {now grace : Int} {cs : List Bat} {es : List En} {v v' : Value} {W w' : World} (h : CInv w B mb nn cb ps now grace cs es v W) (hB : w.heap.size ≤ B) (hc : cb < B) (hm : mb < B) {e : En} (hr : RRow W w.heap.size e.rp e.rc e.b.rs) (hn : ∀ g o, e.rp = some ⟨g, o, none⟩ → v.ownBlock ≠ some g)
    (hown : w'.ownsRow B 30 6 v' (es.length + 1) (flatE es ++ encE e)) (hg : W.grownBy w' v.ownBlock) (hat : v'.ownBlock = v.ownBlock ∨ v'.ownBlock = some W.heap.size) : CInv w B mb nn cb ps now grace (cs ++ [e.b]) (es ++ [e]) v' w' := by
  have hx : Ext (fun b => v.ownBlock = some b) W w' := ⟨hg.1, hg.2, hg.3, hg.4, fun b hb hn => hg.5 b hb (fun e => hn e.symm)⟩
  have hnew : ∀ g o (p : Option Addr) (c : Nat) (rs : List Rec), RRow W w.heap.size p c rs → p = some ⟨g, o, none⟩ → v.ownBlock ≠ some g → v'.ownBlock ≠ some g := fun g o p c rs hr hp hn q => by
    rcases hat with e | e
    · rw [e] at q; exact hn q
    · rw [e] at q
      have := hr.lt hp
      simp only [Option.some.injEq] at q
      omega
  refine ⟨by rw [List.length_append, flatE_snoc]; exact hown, fun x hx' => ?_, by rw [List.map_append, h.con]; rfl, extF h.ext hx (fun b e => Nat.le_trans hB (own_lt h.own e).1), h.m.keep (hx.block mb h.m.lt (fun e => ?_)), (hx.block cb (Array.getElem?_eq_some_iff.1 h.c).1 (fun e => ?_)).trans h.c⟩
  · rcases List.mem_append.1 hx' with hx' | hx'
    · obtain ⟨r1, r2⟩ := h.rows x hx'
      exact ⟨r1.keep hx (fun g o e => r2 g o e), fun g o e => hnew g o _ _ _ r1 e (r2 g o e)⟩
    · rw [List.mem_singleton] at hx'
      subst hx'
      exact ⟨hr.keep hx (fun g o e => hn g o e), fun g o e => hnew g o _ _ _ hr e (hn g o e)⟩
  · have := (own_lt h.own e).1; omega
  · have := (own_lt h.own e).1; omega
/-- What Clean leaves. -/
def CleanP (l : List Bat) (now grace : Int) (w : World) (e : Ending) (w' : World) : Prop := ∃ p c es, e = .returned (.slice p es.length c) ∧ w'.ownsRow w.heap.size 30 6 (.slice p es.length c) es.length (flatE es) ∧ (∀ x ∈ es, RRow w' w.heap.size x.rp x.rc x.b.rs) ∧ es.map (·.b) = cleanS l now grace ∧ Ext (fun _ => False) w w'
end Go.Proofs.Ytikidcgnbcibpaa
