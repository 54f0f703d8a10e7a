import Derived.Test.YtifemhfpcichfaaMZuE
import Derived.Deep.RegionLaw
import Derived.Shelf.SlGeneric
import Derived.Shelf.SortM.Plain
import Derived.Ground.SlgmProg
import Derived.Test.YtifemhfpcichfaaProg
import Derived.Test.YtifemhfpcichfaaMZsF
import Derived.Shelf.SortM.SortNone
import Derived.Sort.OwnSortedInts
import Derived.Lib.OwnBridge
import Derived.Laws.BytesArg

set_option linter.unusedVariables false
set_option linter.unusedSimpArgs false

/- Zalloc: what fits a state; who owns a zone (plain). -/

set_option linter.unusedSimpArgs false
set_option linter.unusedVariables false
set_option maxHeartbeats 8000000
namespace Go.Proofs.Ytifemhfpcichfaa

open Go.Av
theorem ownC_iff (z : Int) : ∀ cs : List Chn, (ownC z cs).2.2 = decide (z ∈ (cs.map fun c => c.ls.map (·.1)).flatten)
  | [] => by simp [ownC]
  | c :: r => by
    have ih := ownC_iff z r
    have hc : hasL z c.ls = decide (z ∈ c.ls.map (·.1)) := by
      unfold hasL
      rw [Bool.eq_iff_iff, List.any_eq_true, decide_eq_true_iff, List.mem_map]
      constructor
      · rintro ⟨x, h1, h2⟩; exact ⟨x, h1, by simpa using h2⟩
      · rintro ⟨x, h1, h2⟩; exact ⟨x, h1, by simpa using h2⟩
    unfold ownC
    rw [hc]
    by_cases h : z ∈ c.ls.map (·.1)
    · rw [if_pos (decide_eq_true h)]
      symm
      rw [decide_eq_true_iff, List.map_cons, List.flatten_cons, List.mem_append]
      exact .inl h
    · rw [if_neg (by simpa using h), ih, Bool.eq_iff_iff, decide_eq_true_iff, decide_eq_true_iff, List.map_cons, List.flatten_cons, List.mem_append]
      exact ⟨.inr, fun q => q.elim (fun q => absurd q h) id⟩
abbrev shTp : Sh := .st [.int .i64, .str, .int .i64, .bool]
abbrev shLk : Sh := .st [.int .i64, .int .i64]
abbrev shCh : Sh := .st [.st [.int .i64, .int .i64], .int .i64, .sl shLk]
abbrev shSt : Sh := .st [.int .i64, .sl shTp, .sl shCh]
theorem has_tps : ∀ {xs : List SV}, (∀ x ∈ xs, x = mkE x.cells ∧ shTp.has x.cells) → ∃ l : List Tpc, xs = TpL l
  | [], _ => ⟨[], rfl⟩
  | x :: xs, h => by
    obtain ⟨l, rfl⟩ := has_tps (xs := xs) (fun y hy => h y (by simp [hy]))
    obtain ⟨he, hx⟩ := h x (by simp)
    simp only [Sh.has, Sh.hasL] at hx
    obtain ⟨_, _, e1, ⟨k, rfl, w1⟩, _, _, rfl, ⟨s, rfl, _⟩, _, _, rfl, ⟨a, rfl, _⟩, _, _, rfl, ⟨b, rfl⟩, rfl⟩ := hx
    rw [e1] at he
    simp only [List.singleton_append, mkE] at he
    subst he
    exact ⟨⟨k, s, a, b⟩ :: l, rfl⟩
theorem has_lks : ∀ {xs : List SV}, (∀ x ∈ xs, x = mkE x.cells ∧ shLk.has x.cells) → ∃ l : List (Int × Int), xs = LkL l ∧ ∀ y ∈ l, I64 y.1
  | [], _ => ⟨[], rfl, fun y h => by cases h⟩
  | x :: xs, h => by
    obtain ⟨l, rfl, hl⟩ := has_lks (xs := xs) (fun y hy => h y (by simp [hy]))
    obtain ⟨he, hx⟩ := h x (by simp)
    simp only [Sh.has, Sh.hasL] at hx
    obtain ⟨_, _, e1, ⟨k, rfl, w1⟩, _, _, rfl, ⟨a, rfl, _⟩, rfl⟩ := hx
    rw [e1] at he
    simp only [List.singleton_append, mkE] at he
    subst he
    exact ⟨(k, a) :: l, rfl, fun y hy => by
      rcases List.mem_cons.1 hy with rfl | hy
      · exact wfi64 w1
      · exact hl y hy⟩
theorem has_chL {l : List SV} (h : Sh.hasL [.st [.int .i64, .int .i64], .int .i64, .sl shLk] l) : ∃ c : Chn, (∀ y ∈ c.ls, I64 y.1) ∧ l.length = 4 ∧ ∀ j, j < 4 → WkM (l.getD j .undef) (c.cells.getD j .undef) := by
  simp only [Sh.hasL, Sh.has] at h
  obtain ⟨_, _, rfl, ⟨_, _, rfl, ⟨t, rfl, _⟩, _, _, rfl, ⟨i, rfl, _⟩, rfl⟩, _, _, rfl, ⟨s, rfl, _⟩, x, _, rfl, hx, rfl⟩ := h
  obtain ⟨x', ls, rfl, hL, hw⟩ : ∃ (x' : SV) (ls : List (Int × Int)), x = [x'] ∧ (∀ y ∈ ls, I64 y.1) ∧ WkM x' (.sl 2 (LkL ls)) := by
    rcases hx with rfl | ⟨xs, rfl, _, hx⟩
    · exact ⟨.nils, [], rfl, fun y h => (by cases h), wkM_nils 2⟩
    · obtain ⟨ls, rfl, hL⟩ := has_lks (xs := xs) (fun x hm => by have := hx x hm; simp only [Sh.has, Sh.hasL]; exact this)
      exact ⟨_, ls, rfl, hL, WkM.refl _⟩
  refine ⟨⟨t, i, s, ls⟩, hL, rfl, fun j hj => ?_⟩
  match j, hj with
  | 0, _ => exact WkM.refl _
  | 1, _ => exact WkM.refl _
  | 2, _ => exact WkM.refl _
  | 3, _ => exact hw
theorem has_chs : ∀ {xs : List SV}, (∀ x ∈ xs, x = mkE x.cells ∧ shCh.has x.cells) → ∃ l : List Chn, (∀ c ∈ l, ∀ y ∈ c.ls, I64 y.1) ∧ xs.length = l.length ∧ ∀ i j, i < xs.length → j < 4 → WkM ((xs.getD i .undef).cell j) ((l.getD i ch0).sv.cell j)
  | [], _ => ⟨[], fun c h => (by cases h), rfl, fun i j hi => by simp at hi⟩
  | x :: xs, h => by
    obtain ⟨l, hI, hl, hw⟩ := has_chs (xs := xs) (fun y hy => h y (by simp [hy]))
    obtain ⟨he, hx⟩ := h x (by simp)
    simp only [Sh.has] at hx
    obtain ⟨c, hc, h4, ha⟩ := has_chL hx
    refine ⟨c :: l, fun d hd => ?_, by simp [hl], fun i j hi hj => ?_⟩
    · rcases List.mem_cons.1 hd with rfl | hd
      · exact hc
      · exact hI d hd
    · cases i with
      | zero => exact ha j hj
      | succ i => simpa using hw i j (by simpa using hi) hj
theorem has_st {v : SV} (h : shSt.hasV v) : ∃ s : Stt, (∀ z ∈ s.zs.flatten, I64 z) ∧ WkM v s.sv := by
  obtain ⟨l, rfl, h⟩ := h
  have h' : Sh.hasL [.int .i64, .sl shTp, .sl shCh] l := h
  simp only [Sh.hasL] at h'
  obtain ⟨_, _, rfl, ⟨nx, rfl, _⟩, x, _, rfl, hx, y, _, rfl, hy, rfl⟩ := h'
  obtain ⟨x', ts, rfl, hw1⟩ : ∃ (x' : SV) (ts : List Tpc), x = [x'] ∧ WkM x' (.sl 4 (TpL ts)) := by
    rcases hx with rfl | ⟨xs, rfl, _, hx⟩
    · exact ⟨.nils, [], rfl, wkM_nils 4⟩
    · obtain ⟨ts, rfl⟩ := has_tps (xs := xs) (fun x hm => by have := hx x hm; simp only [Sh.has, Sh.hasL]; exact this)
      exact ⟨_, ts, rfl, WkM.refl _⟩
  obtain ⟨y', cs, rfl, hI, hw2⟩ : ∃ (y' : SV) (cs : List Chn), y = [y'] ∧ (∀ c ∈ cs, ∀ y ∈ c.ls, I64 y.1) ∧ WkM y' (.sl 4 (ChL cs)) := by
    rcases hy with rfl | ⟨xs, rfl, _, hx⟩
    · exact ⟨.nils, [], rfl, fun c h => (by cases h), wkM_nils 4⟩
    · obtain ⟨cs, hI, hl, hw⟩ := has_chs (xs := xs) (fun x hm => by have := hx x hm; simp only [Sh.has]; exact this)
      refine ⟨_, cs, rfl, hI, wkM_sl (by simpa using hl) (fun y hy => ?_) (fun i j hi hj => ?_)⟩
      · obtain ⟨a, _, rfl⟩ := List.mem_map.1 hy; rfl
      · have := hw i j hi hj
        rwa [show (ChL cs).getD i .undef = (cs.getD i ch0).sv by simp [ChL, List.getD_eq_getElem?_getD, show i < cs.length by omega]]
  refine ⟨⟨nx, ts, cs⟩, fun z hz => ?_, wkM_agg rfl (fun j hj => ?_)⟩
  · obtain ⟨l, hl, hz⟩ := List.mem_flatten.1 hz
    obtain ⟨c, hc, rfl⟩ := List.mem_map.1 hl
    obtain ⟨y, hy, rfl⟩ := List.mem_map.1 hz
    exact hI c hc y hy
  · match j, hj with
    | 0, _ => exact WkM.refl _
    | 1, _ => exact hw1
    | 2, _ => exact hw2
end Go.Proofs.Ytifemhfpcichfaa

/- Zalloc: calls of Light and Owner at a law's memory. -/

set_option linter.unusedSimpArgs false
set_option linter.unusedVariables false
set_option maxHeartbeats 8000000
namespace Go.Proofs.Ytifemhfpcichfaa

open Go.Av
/-- The law's memory stays as it is. -/
theorem mem_ext {mu : Mem} {w w' : World} (h : MemOK mu w) (k : Ext (fun _ => False) w w') : MemOK mu w' := fun b j v hv => by
  obtain ⟨h1, h2⟩ := h b j v hv
  exact ⟨(World.cell?_of_block (k.block b (h.lt hv) id)).trans h1, h2⟩
theorem light_call {mu : Mem} {w : World} (hm : MemOK mu w) {s : Stt} {v : Value} (hv : Rep mu s.sv v) : Calls Try.prog 29 #[v] w fun e w' => e = .returned (.bool (lightS s)) ∧ Ext (fun _ => False) w w' := by
  refine (light_st s mu w [v] hm (RepArgs.cons hv ⟨rfl, fun j hj => by simp at hj⟩)).mono ?_
  rintro e w' ⟨val, mu', rfl, hx, _, _, _, ⟨gx, hrep, _⟩⟩
  have h : Rep mu' (.bool (lightS s)) val := hrep
  rw [h.inv_bool]
  exact ⟨rfl, hx⟩
theorem owner_call {mu : Mem} {w : World} (hm : MemOK mu w) {s : Stt} {v : Value} (hv : Rep mu s.sv v) (hc : s.cs.length ≤ 1000) (hl : ∀ c ∈ s.cs, c.ls.length ≤ 1000) (z : Int) :
    Calls Try.prog 32 #[v, .int .i64 z] w fun e w' => e = .returned (.tuple #[.agg #[.int .i64 (ownC z s.cs).1, .int .i64 (ownC z s.cs).2.1], .bool (ownC z s.cs).2.2]) ∧ Ext (fun _ => False) w w' := by
  refine (owner_st s z hc hl mu w [v, .int .i64 z] hm (RepArgs.cons hv (RepArgs.cons (.int _ _) ⟨rfl, fun j hj => by simp at hj⟩))).mono ?_
  rintro e w' ⟨val, mu', rfl, hx, _, _, _, ⟨gx, hrep, _⟩⟩
  obtain ⟨us, rfl, hlu, hu⟩ := hrep
  match us, hlu with
  | [x, y], _ =>
    have h0 : Rep mu' (.agg [.int .i64 (ownC z s.cs).1, .int .i64 (ownC z s.cs).2.1]) x := hu 0 (by simp)
    have h1 : Rep mu' (.bool (ownC z s.cs).2.2) y := hu 1 (by simp)
    obtain ⟨vs, rfl, hl2, hc2⟩ := h0.inv_agg
    match vs, hl2 with
    | [a, b], _ =>
      have e0 : a = .int .i64 (ownC z s.cs).1 := Rep.inv_int (hc2 0 (by simp))
      have e1 : b = .int .i64 (ownC z s.cs).2.1 := Rep.inv_int (hc2 1 (by simp))
      rw [h1.inv_bool, e0, e1]
      exact ⟨rfl, hx⟩
/-- A light state is of moderate size. -/
theorem light_size {s : Stt} (h : lightS s = true) : s.cs.length ≤ 60 ∧ (∀ c ∈ s.cs, c.ls.length ≤ 70) ∧ s.zs.flatten.length ≤ 50000 ∧ s.zs.length ≤ 1000000 := by
  simp only [lightS, Bool.and_eq_true, decide_eq_true_eq, List.all_eq_true] at h
  obtain ⟨⟨⟨h1, h2⟩, h3⟩, h4⟩ := h
  refine ⟨h2, h4, ?_, by simp [Stt.zs]; omega⟩
  have : ∀ l : List Chn, (∀ c ∈ l, c.ls.length ≤ 70) → ((l.map fun c => c.ls.map (·.1)).flatten).length ≤ 70 * l.length := by
    intro l
    induction l with
    | nil => intro _; simp
    | cons c r ih =>
      intro hc
      have a := ih (fun d hd => hc d (by simp [hd]))
      have b := hc c (by simp)
      rw [List.map_cons, List.flatten_cons, List.length_append, List.length_map, List.length_cons]
      omega
  have q := this s.cs h4
  unfold Stt.zs
  omega
end Go.Proofs.Ytifemhfpcichfaa

/- Zalloc: Sweep; a state that owns some zones (the walks). -/

set_option linter.unusedSimpArgs false
set_option linter.unusedVariables false
set_option maxHeartbeats 4000000
set_option maxRecDepth 1000000
namespace Go.Proofs.Ytifemhfpcichfaa
open Go.RowKit
open Go.Av Go.Maps

def sweepD (d : Dv) (S : List Int) : Dv × Int × Int := match ofD d S 3 with
  | [] => (d, 0, 8)
  | z :: _ => if (resetD d z).2 = 0 then ((resetD d z).1, z, 0) else ((resetD d z).1, 0, (resetD d z).2)
theorem sweep_raw (hS : SortC) {w : World} {q : Dp} {d : Dv} (hD : DevAt w q d) (hw : ∀ i, i < d.zs.length → (d.zs.getD i z0).wr ≤ 100000) {v : Value} {cs : List (List Int)} (h : StOK w v cs) :
    Calls Try.prog 34 #[.pointer (some ⟨q.p, 0, none⟩), v] w fun e w' => e = .returned (.tuple #[.int .i64 (sweepD d cs.flatten).2.1, .int .i64 (sweepD d cs.flatten).2.2]) ∧ EffD q w w' (sweepD d cs.flatten).1 := by
  have hv := h.st
  obtain ⟨nx, tp, tn, tc, cp, cc, rfl, hC⟩ := hv
  have HX := asideI (ext_alloc1 w (.cells #[.int .i64 nx, .slice tp tn tc, .slice cp cs.length cc] 58))
  have hO := waiting_raw hS (hD.ext HX.out) (h.ext HX.out)
  have HO : Aside (Calls Try.prog 33 #[.pointer (some ⟨q.p, 0, none⟩), .agg #[.int .i64 nx, .slice tp tn tc, .slice cp cs.length cc]] _ _) := hO
  have HD := asideI (hD.ext HX.out)
  clear hC h hD hO
  show Calls Try.prog 34 #[.pointer (some ⟨q.p, 0, none⟩), .agg #[.int .i64 nx, .slice tp tn tc, .slice cp cs.length cc]] w _
  rcases hl : ofD d cs.flatten 3 with _ | ⟨z, t⟩
  · have hN : sweepD d cs.flatten = (d, 0, 8) := by unfold sweepD; rw [hl]
    rw [hN]
    rw [hl] at HO
    clear hl hN
    go_enter Try.func34, Try.ntmps34
    go_wp2_with (first
      | (go_at_call 33; refine HO.out.mono ?_
         rintro e w1 ⟨zv, rfl, hu1, hu2⟩
         obtain ⟨zp, zc, rfl⟩ := own_slice hu1
         have HR := asideI (And.intro hu1 hu2)
         clear hu1 hu2
         simp only [])
      | go_in)
    go_ret2
    exact ⟨rfl, HD.out.ext HR.out.2, extQ (HX.out.trans HR.out.2)⟩
  · have hN : sweepD d cs.flatten = if (resetD d z).2 = 0 then ((resetD d z).1, z, 0) else ((resetD d z).1, 0, (resetD d z).2) := by unfold sweepD; rw [hl]
    rw [hN]
    rw [hl] at HO
    clear hl hN
    have hne : ¬ ((t.length : Int) + 1 = 0) := by omega
    have HRS := asideI (fun (W : World) (k : DevAt W q d) => reset_raw k z hw)
    by_cases hr : (resetD d z).2 = 0
    · rw [if_pos hr]
      rw [hr] at HRS
      generalize (resetD d z).1 = d2 at HRS ⊢
      clear hr hw
      go_enter Try.func34, Try.ntmps34
      go_wp2_with (first
        | (go_at_call 13; refine (HRS.out _ (HD.out.ext HR.out.2)).mono ?_; rintro e w2 ⟨rfl, hd2, hx2⟩; have HD2 := asideI hd2; have HX2 := asideI hx2
           have hz0' := (World.cell?_of_block (hx2.block zb (by have := HZB.out.2; omega) HZB.out.1)).trans hz0
           clear hd2 hx2 hz0; simp only [])
        | (go_at_call 33; refine HO.out.mono ?_
           rintro e w1 ⟨zv, rfl, hu1, hu2⟩
           obtain ⟨zb, zc, rfl, hb1, hb2, hz0⟩ := row_cell hu1 (i := 0) (by simp)
           have HR := asideI (And.intro hu1 hu2)
           have HZB : Aside (¬ EQ q zb ∧ zb < w1.heap.size) := ⟨fun e => by obtain ⟨l0, l1, l2⟩ := HD.out.lt; rcases e with e | e | e <;> omega, hb2⟩
           clear hu1 hu2 hb1 hb2
           simp only [])
        | go_in)
      go_ret2
      exact ⟨rfl, HD2.out, (extQ (HX.out.trans HR.out.2)).trans HX2.out⟩
    · rw [if_neg hr]
      have hrb : ((resetD d z).2 == 0) = false := by simpa using hr
      generalize (resetD d z).1 = d2 at HRS ⊢
      generalize (resetD d z).2 = rr at HRS hr hrb ⊢
      clear hw
      go_enter Try.func34, Try.ntmps34
      go_wp2_with (first
        | (go_at_call 13; refine (HRS.out _ (HD.out.ext HR.out.2)).mono ?_; rintro e w2 ⟨rfl, hd2, hx2⟩; have HD2 := asideI hd2; have HX2 := asideI hx2
           clear hd2 hx2 hz0; simp only [])
        | (go_at_call 33; refine HO.out.mono ?_
           rintro e w1 ⟨zv, rfl, hu1, hu2⟩
           obtain ⟨zb, zc, rfl, hb1, hb2, hz0⟩ := row_cell hu1 (i := 0) (by simp)
           have HR := asideI (And.intro hu1 hu2)
           clear hu1 hu2 hb1 hb2
           simp only [])
        | go_in)
      go_ret2
      exact ⟨rfl, HD2.out, (extQ (HX.out.trans HR.out.2)).trans HX2.out⟩
end Go.Proofs.Ytifemhfpcichfaa

/- Zalloc: a state that owns some zones (the walk). -/


set_option linter.unusedSimpArgs false
set_option linter.unusedVariables false
set_option maxHeartbeats 4000000
set_option maxRecDepth 1000000
namespace Go.Proofs.Ytifemhfpcichfaa
open Go.RowKit
open Go.Av Go.Maps

/-- Numbers that may be read. -/
def IntsW (w : World) (p : Option Addr) (xs : List Int) : Prop := ∀ i, i < xs.length → ∃ b o, p = some ⟨b, o, none⟩ ∧ w.cell? ⟨b, o + i, none⟩ = some (.int .i64 (xs.getD i 0))
def L2 (xs : List Int) : List Value := xs.flatMap fun z => [.int .i64 z, .int .i64 0]
theorem L2_len (xs : List Int) : (L2 xs).length = xs.length * 2 := by
  induction xs with
  | nil => rfl
  | cons x r ih => simp only [L2, List.flatMap_cons, List.length_append, List.length_cons, List.length_nil] at ih ⊢; omega
theorem two_new (W : World) (z : Value) (u : Value) (t : TypeId) (b : Nat) (hb : W.heap.size = b) : ∀ j x, [z, u][j]? = some x → (W.alloc (.cells #[z, u] t)).cell? ((⟨b, 0, none⟩ : Addr).add j) = some x := by
  intro j x hj
  have h : (W.alloc (.cells #[z, u] t)).heap[b]? = some (.cells #[z, u] t) := by rw [alloc_get, if_pos hb.symm]
  rw [Addr.add_lit, cell_of_block h, Nat.zero_add]
  match j with
  | 0 => simpa using hj
  | 1 => simpa using hj
  | j + 2 => simp at hj
structure OInv (w wr : World) (g : Nat) (xs : List Int) (lv : Value) : Prop where
  box : wr.heap[g]? = some (.cells #[.int .i64 0, .int .i64 0, .int .i64 0, lv] 98)
  own : wr.ownsRow (g + 1) 100 2 lv xs.length (L2 xs)
  ext : Ext (fun _ => False) w wr
theorem OInv.next {w wr Wn w6 : World} {g : Nat} {xs : List Int} {lv v' : Value} {z : Int} (h : OInv w wr g xs lv) (hg : w.heap.size ≤ g) (k : Ext (fun _ => False) wr Wn) (h1 : w6.ownsRow (g + 1) 100 2 v' (xs.length + 1) (L2 xs ++ [.int .i64 z, .int .i64 0])) (h2 : Wn.grownBy w6 lv.ownBlock) :
    w6.heap[g]? = some (.cells #[.int .i64 0, .int .i64 0, .int .i64 0, lv] 98) ∧ OInv w (w6.setCell ⟨g, 3, none⟩ v') g (xs ++ [z]) v' := by
  have hlt := (Array.getElem?_eq_some_iff.1 h.box).1
  have hne : some g ≠ lv.ownBlock := by
    rcases h.own.2 with ⟨e, _⟩ | ⟨g', cap, cur, e, hg, _⟩
    · rw [e]; simp [Value.ownBlock]
    · rw [e]; simp only [Value.ownBlock]; intro q; injection q with q; omega
  have hb : w6.heap[g]? = some (.cells #[.int .i64 0, .int .i64 0, .int .i64 0, lv] 98) := (h2.5 g (Nat.lt_of_lt_of_le hlt k.size) hne).trans ((k.block g hlt id).trans h.box)
  have hx := grown_ext (w0 := w) (own_ext h.own k) h2 (by omega) (h.ext.trans k)
  refine ⟨hb, blk_same hb _, ?_, extF hx (ext_set1 w6 g 3 v') (fun b e => by have e2 : b = g := e; omega)⟩
  have e : L2 (xs ++ [z]) = L2 xs ++ [.int .i64 z, .int .i64 0] := by simp [L2]
  rw [e, List.length_append]
  refine ⟨h1.1, ?_⟩
  rcases h1.2 with q | ⟨g', cap, cur, e1, e2, e3, e4⟩
  · exact .inl q
  · exact .inr ⟨g', cap, cur, e1, e2, (blk_other (by omega) _).trans e3, e4⟩
theorem L2_get : ∀ (xs : List Int) (k : Nat), k < xs.length → (L2 xs)[k * 2]? = some (.int .i64 (xs.getD k 0)) ∧ (L2 xs)[k * 2 + 1]? = some (.int .i64 0)
  | [], k, h => by simp at h
  | x :: xs, 0, _ => ⟨rfl, rfl⟩
  | x :: xs, k + 1, h => by
    have := L2_get xs k (by simpa using h)
    have e : L2 (x :: xs) = [.int .i64 x, .int .i64 0] ++ L2 xs := rfl
    rw [e]
    refine ⟨?_, ?_⟩
    · rw [List.getElem?_append_right (by simp; omega), show (k + 1) * 2 - [Value.int .i64 x, Value.int .i64 0].length = k * 2 by simp; omega, this.1]
      simp
    · rw [List.getElem?_append_right (by simp; omega), show (k + 1) * 2 + 1 - [Value.int .i64 x, Value.int .i64 0].length = k * 2 + 1 by simp; omega, this.2]
theorem lk_of_own {w : World} {base : Nat} {p : Option Addr} {c : Nat} {xs : List Int} (h : w.ownsRow base 100 2 (.slice p xs.length c) xs.length (L2 xs)) : LkW w p xs := by
  intro k hk
  rcases h.2 with ⟨_, h2⟩ | ⟨g, cap, cur, h1, h2, h3, h4, h5, h6, h7⟩
  · omega
  · cases h1
    obtain ⟨a1, a2⟩ := L2_get xs k hk
    refine ⟨g, 0, 0, rfl, ?_, ?_⟩
    · rw [cell_of_block h3, ← a1, ← h7, List.getElem?_take_of_lt (by omega), Array.getElem?_toList, Nat.zero_add]
    · rw [cell_of_block h3, ← a2, ← h7, List.getElem?_take_of_lt (by omega), Array.getElem?_toList, Nat.zero_add]
theorem owned_raw {w : World} {p : Option Addr} {c : Nat} {xs : List Int} (hxs : IntsW w p xs) (hn : xs.length ≤ 1000) (hI : ∀ z ∈ xs, I64 z) :
    Calls Try.prog 25 #[.slice p xs.length c] w fun e w' => ∃ v, e = .returned v ∧ StOK w' v [xs] ∧ Ext (fun _ => False) w w' := by
  obtain ⟨i0, hi, hz0, hz1, hz2⟩ := info_parts (P := Try.prog) (e := 100) (z := .agg #[.int .i64 0, .int .i64 0]) (size := 2) (bytes := 16) (by kernel_rfl)
  have hu : Try.prog.underlying 96 = some (.slice 100) := by kernel_rfl
  have HI := asideI hi
  have HZ0 := asideI hz0
  have HZ1 := asideI hz1
  have HZ2 := asideI hz2
  have HU := asideI hu
  have HXS := asideI hxs
  clear hi hz0 hz1 hz2 hu hxs
  go_enter Try.func25, Try.ntmps25
  go_wp2
  go_loopg [4] xs.length (fun gg s4 wr => ∃ (i : Nat), s4 = .int .i64 i ∧ i ≤ xs.length ∧ xs.length - i ≤ gg ∧ Aside (∃ lv, OInv w wr (w.heap.size + 1) (xs.take i) lv ∧ wr.heap[w.heap.size]? = some (.cells #[.int .i64 0, .slice none 0 0, .slice none 0 0] 58)))
  case atStart =>
    refine ⟨0, rfl, by omega, by omega, .slice none 0 0, ⟨?_, ⟨rfl, .inl ⟨rfl, rfl⟩⟩, (ext_alloc1 _ _).trans (ext_alloc1 _ _)⟩, ?_⟩
    · rw [alloc_get, if_pos (by simp)]
    · rw [alloc_get, if_neg (by simp), alloc_get, if_pos rfl]
  case round =>
    obtain ⟨i, rfl, hi2, hgg, H2⟩ := hrel
    obtain ⟨lv, hO, hT⟩ := H2.out
    obtain ⟨sp, sc, rfl⟩ := own_slice hO.own
    have HO := asideI hO
    have HT := asideI hT
    have hb := hO.box
    have c3 : wr.cell? ⟨w.heap.size + 1, 3, none⟩ = some (.slice sp (xs.take i).length sc) := by simp [World.cell?, hb]
    by_cases hlt : i < xs.length
    · have hz : (i : Int) < (xs.length : Int) := by omega
      have hw : IntKind.i64.wrap ((i : Int) + 1) = (i : Int) + 1 := by rw [IntKind.wrap_i64]; omega
      obtain ⟨b, o, rfl, hb3⟩ := HXS.out i hlt
      replace hb3 := cell_ext hO.ext hb3
      have htk : xs.take (i + 1) = xs.take i ++ [xs.getD i 0] := by rw [List.take_add_one, List.getD_eq_getElem?_getD, List.getElem?_eq_getElem hlt]; rfl
      have hll : (xs.take i).length ≤ 1000 := by rw [List.length_take]; omega
      generalize xs.getD i 0 = zz at hb3 htk
      have HTK := asideI htk
      clear htk H2 hO hT hb
      generalize hys : xs.take i = ys at HO c3 hll
      have HYS := asideI hys
      clear hys
      go_wp2
      have hone : ∀ u ∈ [Value.int .i64 zz, Value.int .i64 0], u.oneCell' = true := fun u hu => by
        simp only [List.mem_cons, List.not_mem_nil, or_false] at hu
        rcases hu with rfl | rfl <;> rfl
      have hbs : w.heap.size + 1 + 1 ≤ wr.heap.size := (Array.getElem?_eq_some_iff.1 HO.out.box).1
      have hds : (wr.alloc (.cells #[.int .i64 zz, .int .i64 0] 100)).drew.heap.size = wr.heap.size + 1 := by show (wr.alloc _).heap.size = _; simp
      have HEX := asideI ((ext_alloc1 wr (.cells #[.int .i64 zz, .int .i64 0] 100)).trans (ext_drew _))
      have htw : ∀ j x, [Value.int .i64 zz, Value.int .i64 0][j]? = some x → ((wr.alloc (.cells #[.int .i64 zz, .int .i64 0] 100)).drew).cell? ((⟨wr.heap.size, 0, none⟩ : Addr).add j) = some x := fun j x hj => two_new wr _ _ _ _ rfl j x hj
      have HTW := asideI htw
      clear htw
      have hl63 : ys.length + 1 ≤ maxLen := by unfold maxLen; omega
      have hg1 : w.heap.size + 1 < wr.heap.size := by omega
      have hg2 : ¬ w.heap.size + 1 = wr.heap.size := by omega
      go_region_law (refine wp_append_own _ (.tmp 13) (.tmp 19) 96 rfl (w.heap.size + 1 + 1) 100 i0 (.agg #[.int .i64 0, .int .i64 0]) 2 16 HU.out HI.out HZ0.out HZ1.out HZ2.out rfl (by decide) (.slice sp ys.length sc) ys.length (L2 ys) (by simp [Act.eval, Act.put]) (own_ext HO.out.own HEX.out) ⟨wr.heap.size, 0, none⟩ 1 1 [.int .i64 zz, .int .i64 0] (by simp [Act.eval, Act.put]) rfl HTW.out hone hl63 (by omega) (by rw [hds]; omega) ?_
                     intro v' w6 hown6 hgrow hnil
                     obtain ⟨p6, c6, rfl⟩ := own_slice hown6
                     have hnx := OInv.next HO.out (by omega) HEX.out hown6 hgrow
                     have hf := hnx.1
                     have hfz : w6.frozen? ⟨w.heap.size + 1, 3, none⟩ = false := by simp [World.frozen?, hf]
                     have hfc : w6.cell? ⟨w.heap.size + 1, 3, none⟩ = some (.slice sp ys.length sc) := by simp [World.cell?, hf]
                     have HNX := asideI hnx.2
                     have HT6 : Aside (w6.heap[w.heap.size]? = some (.cells #[.int .i64 0, .slice none 0 0, .slice none 0 0] 58)) := by
                       refine (hgrow.5 w.heap.size (by rw [hds]; omega) ?_).trans ((HEX.out.block w.heap.size (by omega) id).trans HT.out)
                       rcases HO.out.own.2 with ⟨e, _⟩ | ⟨g', cap, cur, e, hg, _⟩
                       · rw [e]; simp [Value.ownBlock]
                       · rw [e]; simp only [Value.ownBlock]; intro q; injection q with q; omega
                     clear hown6 hgrow hnil hnx hf)
      all_goals (
        go_wp2
        go_roundg (xs.length - (i + 1))
        case measure => omega
        case rel => exact ⟨i + 1, by simp, by omega, by omega, _, by rw [HTK.out, HYS.out]; exact HNX.out, (blk_other (by omega) _).trans HT6.out⟩)
    · obtain rfl : i = xs.length := by omega
      have hO2 := HO.out
      rw [List.take_length] at hO2
      have c0 : wr.cell? ⟨w.heap.size + 1, 0, none⟩ = some (.int .i64 0) := by simp [World.cell?, hb]
      have c1 : wr.cell? ⟨w.heap.size + 1, 1, none⟩ = some (.int .i64 0) := by simp [World.cell?, hb]
      have c2 : wr.cell? ⟨w.heap.size + 1, 2, none⟩ = some (.int .i64 0) := by simp [World.cell?, hb]
      have d0 : wr.frozen? ⟨w.heap.size, 0, none⟩ = false := by simp [World.frozen?, hT]
      have d1 : wr.frozen? ⟨w.heap.size, 1, none⟩ = false := by simp [World.frozen?, hT]
      have d2 : wr.frozen? ⟨w.heap.size, 2, none⟩ = false := by simp [World.frozen?, hT]
      have hsz : w.heap.size + 1 < wr.heap.size := (Array.getElem?_eq_some_iff.1 hb).1
      have e0 : wr.cell? ⟨w.heap.size, 0, none⟩ = some (.int .i64 0) := by simp [World.cell?, hT]
      have e1 : wr.cell? ⟨w.heap.size, 1, none⟩ = some (.slice none 0 0) := by simp [World.cell?, hT]
      have e2 : wr.cell? ⟨w.heap.size, 2, none⟩ = some (.slice none 0 0) := by simp [World.cell?, hT]
      have g0 : w.heap.size < wr.heap.size := by omega
      have g1 : ¬ w.heap.size = wr.heap.size := by omega
      have g2 : ¬ w.heap.size = wr.heap.size + 1 := by omega
      have g3 : w.heap.size < wr.heap.size + 1 := by omega
      have g4 : w.heap.size + 1 < wr.heap.size + 1 := by omega
      have g5 : ¬ w.heap.size + 1 = wr.heap.size := by omega
      have HO2 := asideI hO2
      clear hO hb hT H2 hO2
      go_wp2
      obtain ⟨Y, hY⟩ : ∃ Y, Y = ((wr.setCell ⟨w.heap.size, 0, none⟩ (.int .i64 1)).setCell ⟨w.heap.size, 1, none⟩ (.slice (some ⟨wr.heap.size, 0, none⟩) 1 1)).setCell ⟨w.heap.size, 2, none⟩ (.slice (some ⟨wr.heap.size + 1, 0, none⟩) 1 1) := ⟨_, rfl⟩
      have y0 : Y.heap[w.heap.size]? = some (.cells #[.int .i64 1, .slice (some ⟨wr.heap.size, 0, none⟩) 1 1, .slice (some ⟨wr.heap.size + 1, 0, none⟩) 1 1] 58) := by rw [hY]; exact blk_same (blk_same (blk_same HT.out _) _) _
      have ys : Y.heap.size = wr.heap.size := by rw [hY]; simp [World.setCell]
      have yx : Ext (fun k => k = w.heap.size) wr Y := by rw [hY]; exact ((ext_set1 wr w.heap.size 0 _).trans (ext_set1 _ w.heap.size 1 _)).trans (ext_set1 _ w.heap.size 2 _)
      rw [← hY]
      clear hY
      obtain ⟨Z, hZ⟩ : ∃ Z, Z = (Y.alloc (.cells #[.int .i64 0, .string ⟨#[97]⟩, .int .i64 1, .bool false] 102)).alloc (.cells #[.int .i64 0, .int .i64 0, .int .i64 0, .slice sp xs.length sc] 98) := ⟨_, rfl⟩
      have z0 : Z.heap[w.heap.size]? = some (.cells #[.int .i64 1, .slice (some ⟨wr.heap.size, 0, none⟩) 1 1, .slice (some ⟨wr.heap.size + 1, 0, none⟩) 1 1] 58) := by rw [hZ, alloc_get, if_neg (by simp; omega), alloc_get, if_neg (by omega)]; exact y0
      have z1 : Z.heap[wr.heap.size + 1]? = some (.cells #[.int .i64 0, .int .i64 0, .int .i64 0, .slice sp xs.length sc] 98) := by rw [hZ, alloc_get, if_pos (by simp; omega)]
      have zx : Ext (fun _ => False) Y Z := by rw [hZ]; exact (ext_alloc1 _ _).trans (ext_alloc1 _ _)
      rw [← hZ]
      clear hZ
      refine bodyPost_ret (results_cell_row rfl _ _ w.heap.size _ _ _ _ rfl z0 (show Try.prog.underlying 58 = some (Try.prog.underlying 58).get! by kernel_rfl) (by kernel_rfl) (by kernel_rfl)) rfl ?_
      have hxx : Ext (fun _ => False) w Z := extF HO2.out.ext ((yx.mono (T' := fun k => k = w.heap.size) fun _ e => e).trans (zx.mono fun _ e => e.elim)) (fun b e => by have e2 : b = w.heap.size := e; omega)
      refine ⟨_, rfl, ⟨⟨1, _, 1, 1, _, 1, rfl, ?_⟩, by simpa using Nat.le_trans hn (by omega), by simp, by simpa using hI⟩, hxx⟩
      intro j hj
      have e : j = 0 := by simpa using hj
      subst e
      refine ⟨wr.heap.size + 1, 0, 0, 0, 0, sp, sc, rfl, ⟨?_, ?_, ?_, ?_⟩, ?_⟩
      · simp [World.cell?, z1]
      · simp [World.cell?, z1]
      · simp [World.cell?, z1]
      · simp [World.cell?, z1]
      · refine lk_of_own (w := Z) (base := w.heap.size + 1 + 1) (c := sc) ?_
        refine ⟨HO2.out.own.1, ?_⟩
        rcases HO2.out.own.2 with q | ⟨g', cap, cur, q1, q2, q3, q4⟩
        · exact .inl q
        · have hl := (Array.getElem?_eq_some_iff.1 q3).1
          exact .inr ⟨g', cap, cur, q1, q2, (zx.block g' (by rw [ys]; exact hl) id).trans ((yx.block g' hl (by omega)).trans q3), q4⟩
end Go.Proofs.Ytifemhfpcichfaa

/- Zalloc: the sort of a row of numbers, off the shelf, in plain words. -/




namespace Go.Proofs.Ytifemhfpcichfaa

open Go.Shelf
def Try.sort67_ren : Go.Shelf.Ren := ⟨fun | 5 => 67 | 8 => 69 | 7 => 68 | 19 => 79 | 20 => 80 | 10 => 70 | 11 => 71 | 12 => 72 | 13 => 73 | 14 => 74 | 15 => 75 | 16 => 76 | 17 => 77 | 18 => 78 | 30 => 81 | 31 => 82 | 32 => 83 | 33 => 84 | 34 => 85 | 35 => 86 | 40 => 87 | n => n, fun | 23 => 53 | 25 => 3 | 3 => 3 | 32 => 117 | 22 => 53 | 0 => 0 | 44 => 128 | 46 => 130 | 4 => 4 | 36 => 120 | 35 => 119 | 41 => 125 | 5 => 5 | 9 => 9 | 53 => 131 | 57 => 135 | 63 => 137 | 64 => 138 | n => n, fun | n => n⟩
theorem Try.sort67 : Go.Proofs.SlLaysM.n5 Try.prog Try.sort67_ren := {
  mixed := by kernel_rfl
  f5 := ⟨Try.f67.name, by decide, Try.func67.trans (congrArg some (by kernel_rfl))⟩
  f7 := ⟨Try.f68.name, by decide, Try.func68.trans (congrArg some (by kernel_rfl))⟩
  f8 := Try.func69.trans (congrArg some (by kernel_rfl))
  f10 := ⟨Try.f70.name, by decide, Try.func70.trans (congrArg some (by kernel_rfl))⟩
  f11 := ⟨Try.f71.name, by decide, Try.func71.trans (congrArg some (by kernel_rfl))⟩
  f12 := ⟨Try.f72.name, by decide, Try.func72.trans (congrArg some (by kernel_rfl))⟩
  f13 := ⟨Try.f73.name, by decide, Try.func73.trans (congrArg some (by kernel_rfl))⟩
  f14 := ⟨Try.f74.name, by decide, Try.func74.trans (congrArg some (by kernel_rfl))⟩
  f15 := ⟨Try.f75.name, by decide, Try.func75.trans (congrArg some (by kernel_rfl))⟩
  f16 := ⟨Try.f76.name, by decide, Try.func76.trans (congrArg some (by kernel_rfl))⟩
  f17 := ⟨Try.f77.name, by decide, Try.func77.trans (congrArg some (by kernel_rfl))⟩
  f18 := ⟨Try.f78.name, by decide, Try.func78.trans (congrArg some (by kernel_rfl))⟩
  f19 := Try.func79.trans (congrArg some (by kernel_rfl))
  f20 := Try.func80.trans (congrArg some (by kernel_rfl))
  f30 := ⟨Try.f81.name, by decide, Try.func81.trans (congrArg some (by kernel_rfl))⟩
  f31 := Try.func82.trans (congrArg some (by kernel_rfl))
  f32 := Try.func83.trans (congrArg some (by kernel_rfl))
  f33 := ⟨Try.f84.name, by decide, Try.func84.trans (congrArg some (by kernel_rfl))⟩
  f34 := ⟨Try.f85.name, by decide, Try.func85.trans (congrArg some (by kernel_rfl))⟩
  f35 := ⟨Try.f86.name, by decide, Try.func86.trans (congrArg some (by kernel_rfl))⟩
  f40 := ⟨Try.f87.name, by decide, Try.func87.trans (congrArg some (by kernel_rfl))⟩
  t0 := Try.underlying0
  a0 := Try.isAgg0
  z0 := Try.sizeOf0
  v0 := Try.zeroValue0
  t3 := Try.underlying3
  a3 := Try.isAgg3
  z3 := Try.sizeOf3
  v3 := Try.zeroValue3
  t4 := Try.underlying4
  a4 := Try.isAgg4
  z4 := Try.sizeOf4
  v4 := Try.zeroValue4
  t5 := Try.underlying5
  a5 := Try.isAgg5
  z5 := Try.sizeOf5
  v5 := Try.zeroValue5
  t9 := Try.underlying9
  a9 := Try.isAgg9
  z9 := Try.sizeOf9
  v9 := Try.zeroValue9
  t22 := Try.underlying53
  a22 := Try.isAgg53
  z22 := Try.sizeOf53
  v22 := Try.zeroValue53
  t23 := Try.underlying53
  a23 := Try.isAgg53
  z23 := Try.sizeOf53
  v23 := Try.zeroValue53
  t25 := Try.underlying3
  a25 := Try.isAgg3
  z25 := Try.sizeOf3
  v25 := Try.zeroValue3
  t32 := Try.underlying117
  a32 := Try.isAgg117
  z32 := Try.sizeOf117
  v32 := Try.zeroValue117
  t35 := Try.underlying119
  a35 := Try.isAgg119
  z35 := Try.sizeOf119
  v35 := Try.zeroValue119
  t36 := Try.underlying120
  a36 := Try.isAgg120
  z36 := Try.sizeOf120
  v36 := Try.zeroValue120
  t41 := Try.underlying125
  a41 := Try.isAgg125
  z41 := Try.sizeOf125
  v41 := Try.zeroValue125
  t44 := Try.underlying128
  a44 := Try.isAgg128
  z44 := Try.sizeOf128
  v44 := Try.zeroValue128
  t46 := Try.underlying130
  a46 := Try.isAgg130
  z46 := Try.sizeOf130
  v46 := Try.zeroValue130
  t53 := Try.underlying131
  a53 := Try.isAgg131
  z53 := Try.sizeOf131
  v53 := Try.zeroValue131
  t57 := Try.underlying135
  a57 := Try.isAgg135
  z57 := Try.sizeOf135
  v57 := Try.zeroValue135
  t63 := Try.underlying137
  a63 := Try.isAgg137
  z63 := Try.sizeOf137
  v63 := Try.zeroValue137
  t64 := Try.underlying138
  a64 := Try.isAgg138
  z64 := Try.sizeOf138
  v64 := Try.zeroValue138 }
end Go.Proofs.Ytifemhfpcichfaa

/- Zalloc: the sort of a state's zones, off the shelf. -/








set_option linter.unusedSimpArgs false
set_option linter.unusedVariables false
set_option maxHeartbeats 4000000
namespace Go.Proofs.Ytifemhfpcichfaa

open Go.RowKit Go.Maps Go.Sort Go.Shelf Go.Av
theorem sort67 : SortC := by
  intro W base v ts hb hown
  by_cases hv : v = .slice none 0 0
  · subst hv
    have ht : ts = [] := by
      rcases hown.2 with ⟨_, h⟩ | ⟨g, cap, cur, h, _⟩
      · exact List.eq_nil_of_length_eq_zero h
      · cases h
    subst ht
    refine (AnyM.slices_Sort_int_none Try.sort67 none 0 W).mono ?_
    rintro e w' ⟨rfl, rfl⟩
    exact ⟨rfl, [], fun z => Iff.rfl, rfl, hown, ⟨rfl, rfl, rfl, Nat.le_refl _, fun _ _ _ => rfl⟩⟩
  · obtain ⟨g, cap, rfl, hbg, hgl, hncap, hcm, hlen, hH⟩ := Lib.holds_of_ownsRow hown hv
    refine (AnyM.slices_Sort_int Try.sort67 g 0 cap ts W hH hgl (by omega)).mono ?_
    rintro e w' ⟨rfl, n, os, rfl⟩
    have hp := List.mergeSort_perm ts (fun x y => decide (x ≤ y))
    rcases hown.2 with ⟨h0, _⟩ | ⟨g', cap', cur, hv', hbase, hgb, h1, h2, h3, h4⟩
    · exact absurd h0 hv
    cases hv'
    have hl2 : (ts.mergeSort fun x y => decide (x ≤ y)).length = ts.length := List.length_mergeSort ts
    refine ⟨rfl, ts.mergeSort fun x y => decide (x ≤ y), fun z => hp.mem_iff, hl2, ?_, grownBy_sortedI _⟩
    rw [hl2]
    exact ownsRow_sortedI (n := n) (os := os) hl2 hbase hgb h1 h2 h3
end Go.Proofs.Ytifemhfpcichfaa

/- Zalloc: the law's own run on a fixed device (awake): what it computes. -/




set_option linter.unusedSimpArgs false
set_option linter.unusedVariables false
set_option maxHeartbeats 4000000
set_option maxRecDepth 1000000
namespace Go.Proofs.Ytifemhfpcichfaa
open Go.RowKit
open Go.Av Go.Maps

def k1 : List UInt8 := List.replicate 64 1
def vA : Dv := (appendD (newD 6 4) 4 64 (u8s k1)).1
def S3 : List Int := [[(3 : Int)]].flatten
def vB : Dv := (sweepD vA S3).1
theorem vA_2 : (appendD (newD 6 4) 4 64 (u8s k1)).2 = (0, 0) := by decide +kernel
theorem vA_k : kindsB vA S3 = [1, 1, 0, 2, 3, 0] := by decide +kernel
theorem vA_n : nextD vA S3 = (2, 0) := by decide +kernel
theorem vA_o : (ofD vA S3 3).length = 1 := by decide +kernel
theorem vA_s : (sweepD vA S3).2 = (4, 0) := by decide +kernel
theorem vB_w : wrD vB 4 = 0 := by decide +kernel
theorem vB_r : roomD vB = 12 := by decide +kernel
theorem vB_l : 2 ≤ vB.zs.length := by decide +kernel
theorem vA_l : vA.zs.length = 6 := by decide +kernel
theorem Q0 : OkN 6 4 0 (newD 6 4) := OkN.new (z := 6) (b := 4) (by decide)
theorem QA : OkN 6 4 1 vA := Q0.append 4 64 (bs := k1) (fun _ => rfl)
theorem full1 (w : World) : Calls Try.prog 16 #[.int .u8 1] w fun e w' => e = .returned (.slice (some ⟨w.heap.size, 0, none⟩) 64 64) ∧ BB w' w.heap.size k1 ∧ Ext (fun _ => False) w w' := full_raw w 1
theorem app1 {w : World} {q : Dp} (h : DevAt w q (newD 6 4)) {b : Nat} (hb : BB w b k1) (hn : ¬ EQ q b) :
    Calls Try.prog 15 #[.pointer (some ⟨q.p, 0, none⟩), .int .i64 4, .slice (some ⟨b, 0, none⟩) 64 64] w fun en w' => en = .returned (.tuple #[.int .i64 0, .int .i64 0]) ∧ DevAt w' q vA ∧ Ext (EQ q) w w' := by
  unfold vA
  exact app_full h Q0 (by omega) 4 hb hn (by simp [k1]) vA_2
theorem owned3 (W : World) : Calls Try.prog 25 #[.slice (some ⟨W.heap.size, 0, none⟩) 1 1] (W.alloc (.cells #[.int .i64 3] 3)) fun e w' => ∃ nx tp tn tc cp cn cc, e = .returned (.agg #[.int .i64 nx, .slice tp tn tc, .slice cp cn cc]) ∧ StOK w' (.agg #[.int .i64 nx, .slice tp tn tc, .slice cp cn cc]) [[3]] ∧ Ext (fun _ => False) W w' := by
  refine (owned_raw (w := W.alloc (.cells #[.int .i64 3] 3)) (p := some ⟨W.heap.size, 0, none⟩) (c := 1) (xs := [3]) ?_ (by decide) (by intro z hz; rw [List.mem_singleton] at hz; rw [hz]; exact ⟨by omega, by omega⟩)).mono ?_
  · intro i hi
    have e : i = 0 := by simpa using hi
    subst e
    refine ⟨W.heap.size, 0, rfl, ?_⟩
    rw [cell_of_block (show (W.alloc (.cells #[.int .i64 3] 3)).heap[W.heap.size]? = some (.cells #[.int .i64 3] 3) by rw [alloc_get, if_pos rfl])]
    rfl
  · rintro e w' ⟨v, rfl, hs, hx⟩
    obtain ⟨nx, tp, tn, tc, cp, cc, rfl, _⟩ := hs.st
    exact ⟨nx, tp, tn, tc, cp, _, cc, rfl, hs, (ext_alloc1 _ _).trans hx⟩
theorem kindsW {w : World} {q : Dp} (h : DevAt w q vA) {v : Value} (hs : StOK w v [[3]]) : Calls Try.prog 31 #[.pointer (some ⟨q.p, 0, none⟩), v] w fun e w' => ∃ g c, e = .returned (.slice (some ⟨g, 0, none⟩) 6 c) ∧ w.heap.size ≤ g ∧ (∃ cur, w'.heap[g]? = some (.cells cur 5 (0, 0)) ∧ cur.toList.take 6 = u8s [1, 1, 0, 2, 3, 0]) ∧ Ext (fun _ => False) w w' := by
  refine (kinds_raw sort67 h hs.st hs.n hs.c hs.i).mono ?_
  rintro e w' ⟨v, rfl, ho, hx⟩
  rw [show kindsB vA [[(3 : Int)]].flatten = [1, 1, 0, 2, 3, 0] from vA_k, vA_l] at ho
  rcases ho.2 with ⟨_, q⟩ | ⟨g, cap, cur, rfl, h2, h3, _, _, _, h7⟩
  · cases q
  · exact ⟨g, cap, rfl, h2, ⟨cur, h3, h7⟩, hx⟩
theorem nextW {w : World} {q : Dp} (h : DevAt w q vA) {v : Value} (hs : StOK w v [[3]]) : Calls Try.prog 24 #[.pointer (some ⟨q.p, 0, none⟩), v] w fun e w' => e = .returned (.tuple #[.int .i64 2, .int .i64 0]) ∧ Ext (fun _ => False) w w' := by
  have := next_raw2 sort67 h (by rw [vA_l]; omega) hs
  rw [show nextD vA [[(3 : Int)]].flatten = (2, 0) from vA_n] at this
  exact this
theorem waitW {w : World} {q : Dp} (h : DevAt w q vA) {v : Value} (hs : StOK w v [[3]]) : Calls Try.prog 33 #[.pointer (some ⟨q.p, 0, none⟩), v] w fun e w' => ∃ p c, e = .returned (.slice p 1 c) ∧ Ext (fun _ => False) w w' := by
  refine (waiting_raw sort67 h hs).mono ?_
  rintro e w' ⟨v, rfl, ho, hx⟩
  rw [show (ofD vA [[(3 : Int)]].flatten 3).length = 1 from vA_o] at ho
  obtain ⟨p, c, rfl⟩ := own_slice ho
  exact ⟨p, c, rfl, hx⟩
theorem sweepW {w : World} {q : Dp} (h : DevAt w q vA) {v : Value} (hs : StOK w v [[3]]) : Calls Try.prog 34 #[.pointer (some ⟨q.p, 0, none⟩), v] w fun e w' => e = .returned (.tuple #[.int .i64 4, .int .i64 0]) ∧ DevAt w' q vB ∧ Ext (EQ q) w w' := by
  have := sweep_raw sort67 h (fun i hi => (okw QA i hi).2.1) hs
  rw [show (sweepD vA [[(3 : Int)]].flatten).2 = (4, 0) from vA_s] at this
  exact this
theorem writB {w : World} {q : Dp} (h : DevAt w q vB) : Calls Try.prog 17 #[.pointer (some ⟨q.p, 0, none⟩), .int .i64 4] w fun e w' => e = .returned (.int .i64 0) ∧ w' = w := by
  have := written_raw h 4
  rw [vB_w] at this
  exact this
theorem roomB {w : World} {q : Dp} (h : DevAt w q vB) : Calls Try.prog 26 #[.pointer (some ⟨q.p, 0, none⟩)] w fun e w' => e = .returned (.int .i64 12) ∧ Ext (fun _ => False) w w' := by
  have := room_raw h vB_l
  rw [vB_r] at this
  exact this
theorem convB {w : World} {g : Nat} {cur : Array Value} {c : Nat} (h : w.heap[g]? = some (.cells cur 5 (0, 0))) (h7 : cur.toList.take 6 = u8s [1, 1, 0, 2, 3, 0]) : (convert 24 9 (.slice (some ⟨g, 0, none⟩) 6 c)).run Try.prog w = .ok (.string ⟨#[1, 1, 0, 2, 3, 0]⟩) w := by
  have := run_convert_bytes_arg (P := Try.prog) w 24 5 (by kernel_rfl) (by kernel_rfl) g 0 6 c [1, 1, 0, 2, 3, 0] rfl (fun i hi => by
    rw [Nat.zero_add, cell_of_block h]
    have e : (cur.toList.take 6)[i]? = (u8s [1, 1, 0, 2, 3, 0])[i]? := by rw [h7]
    rw [List.getElem?_take_of_lt hi, Array.getElem?_toList] at e
    rw [e]
    match i, hi with
    | 0, _ => rfl
    | 1, _ => rfl
    | 2, _ => rfl
    | 3, _ => rfl
    | 4, _ => rfl
    | 5, _ => rfl) 9 (by kernel_rfl)
  rw [this]
  rfl
end Go.Proofs.Ytifemhfpcichfaa

/- Zalloc: the law's own run on a fixed device (awake): the walk. -/

set_option linter.unusedSimpArgs false
set_option linter.unusedVariables false
set_option maxHeartbeats 4000000
set_option maxRecDepth 1000000
namespace Go.Proofs.Ytifemhfpcichfaa
open Go.RowKit
open Go.Av Go.Maps

/-- The kinds' row stands where it stood. -/
def GK (q : Dp) (g : Nat) (cur : Array Value) (w : World) : Prop := ¬ EQ q g ∧ w.heap[g]? = some (.cells cur 5 (0, 0)) ∧ cur.toList.take 6 = u8s [1, 1, 0, 2, 3, 0] ∧ g < w.heap.size
theorem gkeep {q : Dp} {g : Nat} {cur : Array Value} {w w' : World} (h : GK q g cur w) (k : Ext (fun _ => False) w w') : GK q g cur w' := ⟨h.1, (k.block g h.2.2.2 id).trans h.2.1, h.2.2.1, Nat.lt_of_lt_of_le h.2.2.2 k.size⟩
theorem gkeepQ {q : Dp} {g : Nat} {cur : Array Value} {w w' : World} (h : GK q g cur w) (k : Ext (EQ q) w w') : GK q g cur w' := ⟨h.1, (k.block g h.2.2.2 h.1).trans h.2.1, h.2.2.1, Nat.lt_of_lt_of_le h.2.2.2 k.size⟩
theorem convG {q : Dp} {g c : Nat} {cur : Array Value} {w : World} (h : GK q g cur w) : (convert 24 9 (.slice (some ⟨g, 0, none⟩) 6 c)).run Try.prog w = .ok (.string ⟨#[1, 1, 0, 2, 3, 0]⟩) w := convB h.2.1 h.2.2.1
theorem awake11_raw (w : World) : Calls Try.prog 27 #[] w fun e w' => e = .returned (.bool true) ∧ Ext (fun _ => False) w w' := by
  go_enter Try.func27, Try.ntmps27
  go_wp2_with (first
    | (go_at_call 26; refine (roomB HD8.out).mono ?_; rintro e w10 ⟨rfl, hx10⟩; have HX10 := asideI (HX8.out.trans (extQ hx10)); clear hx10; simp only [])
    | (go_at_call 17; refine (writB HD8.out).mono ?_; rintro e w9 ⟨rfl, h9⟩; obtain rfl := h9.symm; simp only [])
    | (go_at_call 34; refine (sweepW (HDC.out.ext HOD.out.2) HOD.out.1).mono ?_; rintro e w8 ⟨rfl, hd8, hx8⟩; have HD8 := asideI hd8; have HX8 := asideI ((HXC.out.trans (extQ HOD.out.2)).trans hx8)
       have hcv := convG (c := gc) (gkeepQ (gkeep HG.out HOD.out.2) hx8)
       clear hd8 hx8; simp only [])
    | (go_at_call 25; have hh := HXC; clear hh; refine (owned3 _).mono ?_; rintro e wd ⟨nx4, tp4, tn4, tc4, cp4, cn4, cc4, rfl, hs4, hx4⟩; have HOD := asideI (And.intro hs4 hx4); clear hs4 hx4; simp only [])
    | (go_at_call 33; refine (waitW (HDB.out.ext HOC.out.2) HOC.out.1).mono ?_; rintro e w7 ⟨p7, c7, rfl, hx7⟩; have HXC := asideI (HXB.out.trans (extQ (HOC.out.2.trans hx7))); have HDC := asideI ((HDB.out.ext HOC.out.2).ext hx7)
       have HG := asideI (gkeep HF.out (HOC.out.2.trans hx7))
       clear hx7; simp only [])
    | (go_at_call 25; have hh := HXB; clear hh; refine (owned3 _).mono ?_; rintro e wc ⟨nx3, tp3, tn3, tc3, cp3, cn3, cc3, rfl, hs3, hx3⟩; have HOC := asideI (And.intro hs3 hx3); clear hs3 hx3; simp only [])
    | (go_at_call 24; refine (nextW (HDA.out.ext HOB.out.2) HOB.out.1).mono ?_; rintro e w6 ⟨rfl, hx6⟩; have HXB := asideI (HXA.out.trans (extQ (HOB.out.2.trans hx6))); have HDB := asideI ((HDA.out.ext HOB.out.2).ext hx6)
       have HF := asideI (gkeep HE.out (HOB.out.2.trans hx6))
       clear hx6; simp only [])
    | (go_at_call 25; have hh := HXA; clear hh; refine (owned3 _).mono ?_; rintro e wb ⟨nx2, tp2, tn2, tc2, cp2, cn2, cc2, rfl, hs2, hx2⟩; have HOB := asideI (And.intro hs2 hx2); clear hs2 hx2; simp only [])
    | (go_at_call 31; refine (kindsW (HD3.out.ext HOA.out.2) HOA.out.1).mono ?_; rintro e w5 ⟨g, gc, rfl, hg1, ⟨cur, hg2, hg3⟩, hx5⟩; have HXA := asideI (HX3.out.trans (extQ (HOA.out.2.trans hx5))); have HDA := asideI ((HD3.out.ext HOA.out.2).ext hx5)
       have HE := asideI (show GK q g cur w5 from ⟨fun e => by obtain ⟨l0, l1, l2⟩ := (HD3.out.ext HOA.out.2).lt; rcases e with e | e | e <;> omega, hg2, hg3, (Array.getElem?_eq_some_iff.1 hg2).1⟩)
       clear hg1 hg2 hg3 hx5; simp only [])
    | (go_at_call 25; refine (owned3 _).mono ?_; rintro e wa ⟨nx1, tp1, tn1, tc1, cp1, cn1, cc1, rfl, hs1, hx1⟩; have HOA := asideI (And.intro hs1 hx1); clear hs1 hx1; simp only [])
    | (go_at_call 15; refine (app1 (HD1.out.ext HX2.out) HB2.out (HL1.out _ (Nat.le_refl _))).mono ?_; rintro e w3 ⟨rfl, hd3, hx3⟩; have HD3 := asideI hd3; have HX3 := asideI ((extQ HX2.out).trans hx3); clear hd3 hx3; simp only [])
    | (go_at_call 16; refine (full1 w1).mono ?_; rintro e w2 ⟨rfl, hb2, hx2⟩; have HB2 := asideI hb2; have HX2 := asideI hx2; clear hb2 hx2; simp only [])
    | (go_at_call 23; refine (new_raw w 6 4).mono ?_
       rintro e w1 ⟨hx1, h1⟩
       rcases h1 with ⟨h1, _⟩ | ⟨_, q, rfl, hq1, hd1⟩
       · exact absurd h1 (by decide)
       have HX1 := asideI hx1
       have HD1 := asideI hd1
       have HQ1 : Aside (∀ k, EQ q k → w.heap.size ≤ k) := hq1
       have HL1 : Aside (∀ W, w1.heap.size ≤ W → ¬ EQ q W) := fun W hW e => by obtain ⟨l0, l1, l2⟩ := hd1.lt; rcases e with e | e | e <;> omega
       clear hx1 hd1 hq1
       simp only [])
    | go_in)
  go_ret
  exact ⟨rfl, extF HX1.out HX10.out HQ1.out⟩
end Go.Proofs.Ytifemhfpcichfaa

/- Zalloc: both devices as a law of Zalloc begins them. -/



set_option linter.unusedSimpArgs false
set_option linter.unusedVariables false
set_option maxHeartbeats 4000000
set_option maxRecDepth 1000000
namespace Go.Proofs.Ytifemhfpcichfaa
open Go.RowKit
open Go.Av Go.Maps
theorem both_new {W w1 w2 : World} {q : Dp} {z b : Int} {x : Value} (h : newOk z b = true) (hd : DevAt w1 q (newD z b)) (hx1 : Ext (fun _ => False) W w1) (hr : RefAt w2 (fun k => k < w1.heap.size) (rnewD z b) x) (hx2 : Ext (fun _ => False) w1 w2) :
    Both w2 q (fun k => k < W.heap.size) z.toNat b 0 (newD z b) (rnewD z b) x := by
  obtain ⟨l0, l1, l2⟩ := hd.lt
  have s1 := hx1.size
  have s2 := hx2.size
  refine ⟨hd.ext hx2, OkN.new h, hr.sub fun k e => ?_, RN.new h, fun k e => ?_⟩
  · show k < w1.heap.size
    rcases e with (e | e | e) | e
    · omega
    · omega
    · omega
    · have e2 : k < W.heap.size := e
      omega
  · have e2 : k < W.heap.size := e
    omega
/-- Number of zones of these laws. -/
theorem zn_n (zb : UInt8) : ∃ n : Nat, n = 4 + zb.toNat % 30 ∧ 4 ≤ n ∧ n ≤ 33 ∧ IntKind.i64.wrap (zb.toNat : Int) = zb.toNat ∧ IntKind.i64.wrap ((zb.toNat : Int).tmod 30) = ((zb.toNat % 30 : Nat) : Int) ∧ IntKind.i64.wrap (4 + ((zb.toNat % 30 : Nat) : Int)) = (n : Int) ∧ (4 + (zb.toNat : Int) % 30) = (n : Int) ∧ newOk n 5 = true := by
  have hz := zb.toNat_lt
  refine ⟨4 + zb.toNat % 30, rfl, by omega, by omega, ?_, ?_, ?_, by omega, ?_⟩
  · rw [IntKind.wrap_i64]; omega
  · rw [Int.tmod_eq_emod_of_nonneg (by omega), IntKind.wrap_i64]; omega
  · rw [IntKind.wrap_i64]; omega
  · simp [newOk]; omega
/-- The two early ways out of Zalloc's laws. -/
theorem one_early {mu : Mem} {w0 : World} (hm : MemOK mu w0) {s : Stt} {nx : Int} {tp cp lp : Option Addr} {tn tc cn cc ln lc : Nat} (hs : Rep mu s.sv (.agg [.int .i64 nx, .slice tp tn tc, .slice cp cn cc].toArray)) (zb : UInt8) (h : 40 < ln ∨ lightS s = false) :
    Calls Try.prog 7 #[.int .u8 zb.toNat, .slice lp ln lc, .agg #[.int .i64 nx, .slice tp tn tc, .slice cp cn cc]] w0 (LawP w0) := by
  have HX := asideI (ext_alloc1 w0 (.cells #[.int .i64 nx, .slice tp tn tc, .slice cp cn cc] 58))
  have HLC := asideI (light_call (mem_ext hm HX.out) hs)
  by_cases h1 : 40 < ln
  · have h1' : (40 : Int) < (ln : Int) := by omega
    clear h
    go_enter Try.func7, Try.ntmps7
    go_wp2_with (first
      | (go_at_call 27; refine (awake11_raw _).mono ?_; rintro e w9 ⟨rfl, hx9⟩; have HX9 := asideI hx9; clear hx9; simp only [])
      | go_in)
    go_ret
    exact ⟨rfl, HX.out.trans HX9.out⟩
  · have h1' : ¬ (40 : Int) < (ln : Int) := by omega
    have hL : lightS s = false := by rcases h with h | h; · exact absurd h h1
                                     · exact h
    rw [hL] at HLC
    clear h hL
    go_enter Try.func7, Try.ntmps7
    go_wp2_with (first
      | (go_at_call 27; refine (awake11_raw _).mono ?_; rintro e w9 ⟨rfl, hx9⟩; have HX9 := asideI (HX8.out.trans hx9); clear hx9; simp only [])
      | (go_at_call 29; refine HLC.out.mono ?_; rintro e w8 ⟨rfl, hx8⟩; have HX8 := asideI hx8; clear hx8; simp only [])
      | go_in)
    go_ret
    exact ⟨rfl, HX.out.trans HX9.out⟩
end Go.Proofs.Ytifemhfpcichfaa
