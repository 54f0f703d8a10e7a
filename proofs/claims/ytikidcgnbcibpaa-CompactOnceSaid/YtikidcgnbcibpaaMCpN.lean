import Derived.Test.YtikidcgnbcibpaaAvAD
import Derived.Test.YtikidcgnbcibpaaProg
import Derived.Test.YtikidcgnbcibpaaAvRg
import Derived.Maps.OwnSet
import Derived.Maps.Views
import Derived.DeepKeys4
import Derived.StringKeys
import Derived.KernelRfl
import Derived.WalkKit
import Derived.Deep.LoopGhost
import Derived.Deep.Draws
import Derived.Deep.RegionWith
import Derived.Deep.RegionHeld3
import Derived.Test.YtikidcgnbcibpaaAvL3

set_option linter.unusedVariables false
set_option linter.unusedSimpArgs false

/- Compact: records, batches, where a key stands last (plain). -/

set_option linter.unusedSimpArgs false
set_option linter.unusedVariables false
set_option maxHeartbeats 4000000
namespace Go.Cp

open Go.Av
structure Rec where
  dl : Int
  tm : Int
  kd : Bool
  key : ByteArray
  dd : Bool
  val : ByteArray
  deriving DecidableEq
def rec0 : Rec := ⟨0, 0, false, ⟨#[]⟩, false, ⟨#[]⟩⟩
def Rec.cells (r : Rec) : List SV := [.int .i64 r.dl, .int .i64 r.tm, .bool r.kd, .str r.key, .bool r.dd, .str r.val]
def Rec.sv (r : Rec) : SV := .agg r.cells
def RcL (l : List Rec) : List SV := l.map Rec.sv
structure Bat where
  ba : Int
  co : Int
  pr : Int
  ep : Int
  sq : Int
  rs : List Rec
  deriving DecidableEq
def bat0 : Bat := ⟨0, 0, 0, 0, 0, []⟩
def Bat.cells (b : Bat) : List SV := [.int .i64 b.ba, .int .i64 b.co, .int .i64 b.pr, .int .i64 b.ep, .int .i64 b.sq, .sl 6 (RcL b.rs)]
def Bat.sv (b : Bat) : SV := .agg b.cells
def BtL (l : List Bat) : List SV := l.map Bat.sv
@[simp] theorem RcL_length (l : List Rec) : (RcL l).length = l.length := by simp [RcL]
@[simp] theorem BtL_length (l : List Bat) : (BtL l).length = l.length := by simp [BtL]
/-- Where a record stands. -/
def atS (b : Bat) (r : Rec) : Int := b.ba + r.dl
def prs (l : List Bat) : List (Bat × Rec) := l.flatMap fun b => b.rs.map fun r => (b, r)
def stepS (k : ByteArray) (o : Option Int) (p : Bat × Rec) : Option Int :=
  if p.2.kd = true ∧ p.2.key = k then (match o with | none => some (atS p.1 p.2) | some a => if atS p.1 p.2 > a then some (atS p.1 p.2) else some a) else o
def lastP (ps : List (Bat × Rec)) (k : ByteArray) : Option Int := ps.foldl (stepS k) none
def lastS (l : List Bat) (k : ByteArray) : Option Int := lastP (prs l) k
/-- The keys, each once. -/
def keyS (ks : List ByteArray) (p : Bat × Rec) : List ByteArray := if p.2.kd = true ∧ (∀ y ∈ ks, y ≠ p.2.key) then ks ++ [p.2.key] else ks
def keysP (ps : List (Bat × Rec)) : List ByteArray := ps.foldl keyS []
theorem lastP_snoc (ps : List (Bat × Rec)) (p : Bat × Rec) (k : ByteArray) : lastP (ps ++ [p]) k = stepS k (lastP ps k) p := by simp [lastP]
theorem keysP_snoc (ps : List (Bat × Rec)) (p : Bat × Rec) : keysP (ps ++ [p]) = keyS (keysP ps) p := by simp [keysP]
theorem stepS_other {k : ByteArray} {o : Option Int} {p : Bat × Rec} (h : ¬ (p.2.kd = true ∧ p.2.key = k)) : stepS k o p = o := by unfold stepS; rw [if_neg h]
theorem keyS_mem (ks : List ByteArray) (p : Bat × Rec) (k : ByteArray) : k ∈ keyS ks p ↔ k ∈ ks ∨ (p.2.kd = true ∧ p.2.key = k) := by
  unfold keyS
  by_cases h : p.2.kd = true ∧ (∀ y ∈ ks, y ≠ p.2.key)
  · rw [if_pos h, List.mem_append, List.mem_singleton]
    exact ⟨fun q => q.elim .inl (fun q => .inr ⟨h.1, q.symm⟩), fun q => q.elim .inl (fun q => .inr q.2.symm)⟩
  · rw [if_neg h]
    refine ⟨.inl, fun q => q.elim id (fun q => ?_)⟩
    apply Classical.byContradiction
    intro hn
    exact h ⟨q.1, fun y hy e => hn (by rw [← q.2, ← e]; exact hy)⟩
theorem stepS_some (k : ByteArray) (o : Option Int) (p : Bat × Rec) : (stepS k o p).isSome = true ↔ o.isSome = true ∨ (p.2.kd = true ∧ p.2.key = k) := by
  unfold stepS
  by_cases h : p.2.kd = true ∧ p.2.key = k
  · rw [if_pos h]
    refine ⟨fun _ => .inr h, fun _ => ?_⟩
    cases o with
    | none => rfl
    | some a => simp only; split <;> rfl
  · rw [if_neg h]
    exact ⟨.inl, fun q => q.elim id (fun q => absurd q h)⟩
theorem keys_gen (ps : List (Bat × Rec)) : ∀ (ks : List ByteArray) (o : ByteArray → Option Int), (∀ k, k ∈ ks ↔ (o k).isSome = true) → ∀ k, k ∈ ps.foldl keyS ks ↔ (ps.foldl (stepS k) (o k)).isSome = true := by
  induction ps with
  | nil => intro ks o h k; exact h k
  | cons p ps ih =>
    intro ks o h k
    rw [List.foldl_cons, List.foldl_cons]
    refine ih (keyS ks p) (fun k => stepS k (o k) p) (fun k => ?_) k
    rw [keyS_mem, stepS_some, h k]
theorem keysP_last (ps : List (Bat × Rec)) (k : ByteArray) : k ∈ keysP ps ↔ (lastP ps k).isSome = true :=
  keys_gen ps [] (fun _ => none) (fun k => by simp) k
def lateS (r : Rec) (now grace : Int) : Bool := r.dd && decide (0 ≤ now) && decide (0 ≤ r.tm) && decide (IntKind.i64.wrap (now - r.tm) > (if 0 < grace then grace else 0))
def keepS (l : List Bat) (now grace : Int) (b : Bat) (r : Rec) : Bool := !r.kd || (decide (atS b r = (lastS l r.key).getD 0) && !lateS r now grace)
def cleanB (l : List Bat) (now grace : Int) (b : Bat) : Bat := { b with rs := b.rs.filter (keepS l now grace b) }
def cleanS (l : List Bat) (now grace : Int) : List Bat := (l.map (cleanB l now grace)).filter fun b => !b.rs.isEmpty || decide (b.pr ≠ 0)
def countS (l : List Bat) : Nat := (l.map fun b => b.rs.length).sum
end Go.Cp

/- Compact: batches in memory; where each key stands last, as a map. -/














set_option linter.unusedSimpArgs false
set_option linter.unusedVariables false
set_option maxHeartbeats 4000000
set_option maxRecDepth 1000000
namespace Go.Proofs.Ytikidcgnbcibpaa
open Go.RowKit
open Go.Av Go.Maps Go.Cp
theorem asideI {p : Prop} (h : p) : Aside p := h
theorem extD (w : World) : Ext (fun _ => False) w w.drew := ⟨rfl, rfl, rfl, Nat.le_refl _, fun _ _ _ => rfl⟩
theorem extA (w : World) (o : Obj) : Ext (fun _ => False) w (w.alloc o) := ⟨rfl, rfl, rfl, by simp, fun k hk _ => by rw [alloc_get, if_neg (by omega)]⟩
theorem cell_ext {w w' : World} (k : Ext (fun _ => False) w w') {a : Addr} {v : Value} (h : w.cell? a = some v) : w'.cell? a = some v :=
  (World.cell?_of_block (k.block a.block (World.block_lt_of_cell? w a h) id)).trans h
/-- From a world on only what is new has changed. -/
theorem extF {w wr W : World} (h : Ext (fun _ => False) w wr) {T : Nat → Prop} (k : Ext T wr W) (hT : ∀ b, T b → w.heap.size ≤ b) : Ext (fun _ => False) w W :=
  ⟨k.os.trans h.os, k.tape.trans h.tape, k.output.trans h.output, Nat.le_trans h.size k.size, fun j hj _ => (k.block j (Nat.lt_of_lt_of_le hj h.size) (fun q => by have := hT j q; omega)).trans (h.block j hj id)⟩
def RecW (w : World) (b o : Nat) (r : Rec) : Prop := w.cell? ⟨b, o, none⟩ = some (.int .i64 r.dl) ∧ w.cell? ⟨b, o + 1, none⟩ = some (.int .i64 r.tm) ∧ w.cell? ⟨b, o + 2, none⟩ = some (.bool r.kd) ∧ w.cell? ⟨b, o + 3, none⟩ = some (.string r.key) ∧ w.cell? ⟨b, o + 4, none⟩ = some (.bool r.dd) ∧ w.cell? ⟨b, o + 5, none⟩ = some (.string r.val)
def RecsW (w : World) (p : Option Addr) (rs : List Rec) : Prop := ∀ k, k < rs.length → ∃ b o, p = some ⟨b, o, none⟩ ∧ RecW w b (o + k * 6) (rs.getD k rec0)
def BatW (w : World) (b o : Nat) (x : Bat) (rp : Option Addr) (rc : Nat) : Prop := w.cell? ⟨b, o, none⟩ = some (.int .i64 x.ba) ∧ w.cell? ⟨b, o + 1, none⟩ = some (.int .i64 x.co) ∧ w.cell? ⟨b, o + 2, none⟩ = some (.int .i64 x.pr) ∧ w.cell? ⟨b, o + 3, none⟩ = some (.int .i64 x.ep) ∧ w.cell? ⟨b, o + 4, none⟩ = some (.int .i64 x.sq) ∧ w.cell? ⟨b, o + 5, none⟩ = some (.slice rp x.rs.length rc)
def BatsW (w : World) (p : Option Addr) (l : List Bat) : Prop := ∀ i, i < l.length → ∃ b o rp rc, p = some ⟨b, o, none⟩ ∧ BatW w b (o + i * 6) (l.getD i bat0) rp rc ∧ RecsW w rp (l.getD i bat0).rs ∧ (rp = none → (l.getD i bat0).rs = [] ∧ rc = 0)
theorem RecW.ext {w w' : World} {b o : Nat} {r : Rec} (h : RecW w b o r) (k : Ext (fun _ => False) w w') : RecW w' b o r := by
  obtain ⟨h0, h1, h2, h3, h4, h5⟩ := h
  exact ⟨cell_ext k h0, cell_ext k h1, cell_ext k h2, cell_ext k h3, cell_ext k h4, cell_ext k h5⟩
theorem RecsW.ext {w w' : World} {p : Option Addr} {rs : List Rec} (h : RecsW w p rs) (k : Ext (fun _ => False) w w') : RecsW w' p rs := fun i hi => by
  obtain ⟨b, o, e, h1⟩ := h i hi
  exact ⟨b, o, e, h1.ext k⟩
theorem BatW.ext {w w' : World} {b o : Nat} {x : Bat} {rp : Option Addr} {rc : Nat} (h : BatW w b o x rp rc) (k : Ext (fun _ => False) w w') : BatW w' b o x rp rc := by
  obtain ⟨h0, h1, h2, h3, h4, h5⟩ := h
  exact ⟨cell_ext k h0, cell_ext k h1, cell_ext k h2, cell_ext k h3, cell_ext k h4, cell_ext k h5⟩
theorem BatsW.ext {w w' : World} {p : Option Addr} {l : List Bat} (h : BatsW w p l) (k : Ext (fun _ => False) w w') : BatsW w' p l := fun i hi => by
  obtain ⟨b, o, rp, rc, e, h1, h2, h3⟩ := h i hi
  exact ⟨b, o, rp, rc, e, h1.ext k, h2.ext k, h3⟩
theorem sl_shape {mu : Mem} {z : Nat} {xs : List SV} {v : Value} (h : Rep mu (.sl z xs) v) : ∃ p c, v = .slice p xs.length c := by
  rcases h.inv_sl with ⟨⟨pp, cap, rfl, _⟩, hx⟩ | ⟨b, off, cap, vals, rfl, _⟩
  · subst hx; exact ⟨_, _, rfl⟩
  · exact ⟨_, _, rfl⟩
theorem recs_of {mu : Mem} {w : World} (hm : MemOK mu w) {rs : List Rec} {p : Option Addr} {n c : Nat} (h : Rep mu (.sl 6 (RcL rs)) (.slice p n c)) : RecsW w p rs := fun k hk => by
  rcases h.inv_sl with ⟨⟨pp, cap, e, hp⟩, hx⟩ | ⟨b, off, cap, vals, e, h1, h2, h3, h4⟩
  · have : rs = [] := by simpa [RcL] using hx
    subst this
    simp at hk
  · cases e
    have hg : (RcL rs).getD k .undef = (rs.getD k rec0).sv := by simp [RcL, List.getD_eq_getElem?_getD, hk]
    have hc : ∀ j, j < 6 → ∃ v, w.cell? ⟨b, off + k * 6 + j, none⟩ = some v ∧ Rep mu ((rs.getD k rec0).sv.cell j) v := fun j hj => by
      have k1 := h3 k j (by simpa using hk) hj
      have k2 := h4 k j (by simpa using hk) hj
      rw [hg] at k2
      exact ⟨_, (hm _ _ _ k1).1, k2⟩
    refine ⟨b, off, rfl, ?_⟩
    obtain ⟨v0, c0, r0⟩ := hc 0 (by omega)
    obtain ⟨v1, c1, r1⟩ := hc 1 (by omega)
    obtain ⟨v2, c2, r2⟩ := hc 2 (by omega)
    obtain ⟨v3, c3, r3⟩ := hc 3 (by omega)
    obtain ⟨v4, c4, r4⟩ := hc 4 (by omega)
    obtain ⟨v5, c5, r5⟩ := hc 5 (by omega)
    generalize rs.getD k rec0 = r at r0 r1 r2 r3 r4 r5
    have e0 : v0 = .int .i64 r.dl := Rep.inv_int r0
    have e1 : v1 = .int .i64 r.tm := Rep.inv_int r1
    have e2 : v2 = .bool r.kd := Rep.inv_bool r2
    have e3 : v3 = .string r.key := Rep.inv_str r3
    have e4 : v4 = .bool r.dd := Rep.inv_bool r4
    have e5 : v5 = .string r.val := Rep.inv_str r5
    subst e0 e1 e2 e3 e4 e5
    exact ⟨c0, c1, c2, c3, c4, c5⟩
theorem recs_nil {mu : Mem} {rs : List Rec} {p : Option Addr} {n c : Nat} (h : Rep mu (.sl 6 (RcL rs)) (.slice p n c)) : p = none → rs = [] ∧ c = 0 := fun hp => by
  rcases h.inv_sl with ⟨⟨pp, cap, e, hp2⟩, hx⟩ | ⟨b, off, cap, vals, e, _⟩
  · injection e with e1 e2 e3
    exact ⟨by simpa [RcL] using hx, by rw [e3]; exact hp2 (e1.symm.trans hp)⟩
  · injection e with e1 e2 e3
    rw [hp] at e1; cases e1
theorem bats_of {mu : Mem} {w : World} (hm : MemOK mu w) {l : List Bat} {p : Option Addr} {n c : Nat} (h : Rep mu (.sl 6 (BtL l)) (.slice p n c)) : BatsW w p l := fun k hk => by
  rcases h.inv_sl with ⟨⟨pp, cap, e, hp⟩, hx⟩ | ⟨b, off, cap, vals, e, h1, h2, h3, h4⟩
  · have : l = [] := by simpa [BtL] using hx
    subst this
    simp at hk
  · cases e
    have hg : (BtL l).getD k .undef = (l.getD k bat0).sv := by simp [BtL, List.getD_eq_getElem?_getD, hk]
    have hc : ∀ j, j < 6 → ∃ v, w.cell? ⟨b, off + k * 6 + j, none⟩ = some v ∧ Rep mu ((l.getD k bat0).sv.cell j) v := fun j hj => by
      have k1 := h3 k j (by simpa using hk) hj
      have k2 := h4 k j (by simpa using hk) hj
      rw [hg] at k2
      exact ⟨_, (hm _ _ _ k1).1, k2⟩
    obtain ⟨v0, c0, r0⟩ := hc 0 (by omega)
    obtain ⟨v1, c1, r1⟩ := hc 1 (by omega)
    obtain ⟨v2, c2, r2⟩ := hc 2 (by omega)
    obtain ⟨v3, c3, r3⟩ := hc 3 (by omega)
    obtain ⟨v4, c4, r4⟩ := hc 4 (by omega)
    obtain ⟨v5, c5, r5⟩ := hc 5 (by omega)
    generalize l.getD k bat0 = r at r0 r1 r2 r3 r4 r5
    have e0 : v0 = .int .i64 r.ba := Rep.inv_int r0
    have e1 : v1 = .int .i64 r.co := Rep.inv_int r1
    have e2 : v2 = .int .i64 r.pr := Rep.inv_int r2
    have e3 : v3 = .int .i64 r.ep := Rep.inv_int r3
    have e4 : v4 = .int .i64 r.sq := Rep.inv_int r4
    have r5' : Rep mu (.sl 6 (RcL r.rs)) v5 := r5
    obtain ⟨rp, rc, e5⟩ := sl_shape r5'
    rw [RcL_length] at e5
    subst e0 e1 e2 e3 e4 e5
    exact ⟨b, off, rp, rc, rfl, ⟨c0, c1, c2, c3, c4, c5⟩, recs_of hm r5', recs_nil r5'⟩
def RH (v : Value) : Option (DataW Value × List MemPlace) := some (.held v, [])
theorem und9 : Try.prog.underlying 9 = some .string := by kernel_rfl
theorem und26 : Try.prog.underlying 26 = some (.map 9 3) := by kernel_rfl
theorem K9 : Keyed Try.prog 9 := string_keyed und9
theorem zero3 (w : World) : (zeroValue 3).run Try.prog w = .ok (.int .i64 0) w := by kernel_rfl
def kL (k : ByteArray) : Lit := .string k.data.toList
theorem kL_ne {a b : ByteArray} (h : a ≠ b) : kL a ≠ kL b := fun e => h (by
  unfold kL at e
  injection e with e
  exact ByteArray.ext (Array.ext' e))
theorem key9 {k : ByteArray} (h : k.size ≤ 100000) : keyOf Try.prog 9 (.string k) = some (kL k) := Go.WideMaps.keyOf_string_mk und9 (by unfold maxLen; omega)
/-- What the map of a list of records holds. -/
def LastM (w : World) (b n : Nat) (ps : List (Bat × Rec)) : Prop := ∃ D, w.ownsMap Try.prog 9 RH b n D ∧ Maps.size D = (keysP ps).length ∧
  ∀ k, D.atKey (kL k) (.held (.int .i64 0)) = .held (.int .i64 ((lastP ps k).getD 0)) ∧ Maps.has D (kL k) = (lastP ps k).isSome
theorem LastM.new (w : World) : LastM (w.alloc (.map #[] 0)) w.heap.size 0 [] := ⟨_, World.ownsMap_made w _ _ _, rfl, fun k => ⟨rfl, rfl⟩⟩
theorem LastM.keep {w w' : World} {b n : Nat} {ps : List (Bat × Rec)} (h : LastM w b n ps) (k : w'.heap[b]? = w.heap[b]?) : LastM w' b n ps := by
  obtain ⟨D, ⟨es, clock, h1, h2⟩, h3⟩ := h
  exact ⟨D, ⟨es, clock, k.trans h1, h2⟩, h3⟩
theorem LastM.lt {w : World} {b n : Nat} {ps : List (Bat × Rec)} (h : LastM w b n ps) : b < w.heap.size := by
  obtain ⟨D, ⟨es, clock, h1, h2⟩, h3⟩ := h
  exact (Array.getElem?_eq_some_iff.1 h1).1
theorem LastM.ext {w w' : World} {b n : Nat} {ps : List (Bat × Rec)} (h : LastM w b n ps) (k : Ext (fun _ => False) w w') : LastM w' b n ps := h.keep (k.block b h.lt id)
theorem LastM.look {w : World} {b n : Nat} {ps : List (Bat × Rec)} (h : LastM w b n ps) {k : ByteArray} (hk : k.size ≤ 100000) : (Instr.lookup 26 (.map (some b)) (.string k) false).run Try.prog w = .ok (.int .i64 ((lastP ps k).getD 0)) w := by
  obtain ⟨D, h1, _, h2⟩ := h
  obtain ⟨v, qs, hrun, hv⟩ := h1.lookup (t := 26) (e := 3) K9 und26 (zero3 w) (zd := .held (.int .i64 0)) (zp := []) rfl (key9 hk)
  rw [(h2 k).1] at hv
  simp only [RH, Option.some.injEq, Prod.mk.injEq, DataW.held.injEq] at hv
  rw [← hv.1]; exact hrun
theorem LastM.look2 {w : World} {b n : Nat} {ps : List (Bat × Rec)} (h : LastM w b n ps) {k : ByteArray} (hk : k.size ≤ 100000) : (Instr.lookup 26 (.map (some b)) (.string k) true).run Try.prog w = .ok (.tuple #[.int .i64 ((lastP ps k).getD 0), .bool (lastP ps k).isSome]) w := by
  obtain ⟨D, h1, _, h2⟩ := h
  obtain ⟨v, qs, hrun, hv⟩ := h1.look_ok (t := 26) (e := 3) K9 und26 (zero3 w) (zd := .held (.int .i64 0)) (zp := []) rfl (key9 hk)
  rw [(h2 k).1] at hv
  rw [(h2 k).2] at hrun
  simp only [RH, Option.some.injEq, Prod.mk.injEq, DataW.held.injEq] at hv
  rw [← hv.1]; exact hrun
theorem LastM.len {w : World} {b n : Nat} {ps : List (Bat × Rec)} (h : LastM w b n ps) (ty : TypeId) : (Builtin.len_ #[26] ty #[.map (some b)]).run Try.prog w = .ok (.int .i64 (keysP ps).length) w := by
  obtain ⟨D, h1, h3, h2⟩ := h
  rw [← h3]
  exact h1.len und26 ty
theorem LastM.put {w : World} {b n : Nat} {ps : List (Bat × Rec)} (h : LastM w b n ps) (hn : n ≤ 100000) {p : Bat × Rec} (hk : p.2.key.size ≤ 100000) (hkd : p.2.kd = true) (hq : ∀ a, lastP ps p.2.key = some a → atS p.1 p.2 > a) :
    ∃ w', (Instr.mapUpdate 26 (.map (some b)) (.string p.2.key) (.int .i64 (atS p.1 p.2))).run Try.prog w = .ok () w' ∧ LastM w' b (n + 1) (ps ++ [p]) ∧ w.grownBy w' (some b) := by
  obtain ⟨D, h1, h3, h2⟩ := h
  obtain ⟨w', k1, k2, k3⟩ := h1.update (t := 26) (e := 3) K9 und26 (by unfold maxLen; omega) (val := .int .i64 (atS p.1 p.2)) (d := .held (.int .i64 (atS p.1 p.2))) (ps := []) (key9 hk) rfl
  have hl : ∀ k, WideAt.IsKeyLit (kL k) := fun k => trivial
  refine ⟨w', k1, ⟨_, k2, ?_, fun k => ?_⟩, k3⟩
  · rw [size_put (h1.tidy K9), (h2 p.2.key).2, keysP_snoc]
    unfold keyS
    cases hs : (lastP ps p.2.key).isSome with
    | true =>
      rw [if_pos rfl, if_neg (fun q => q.2 p.2.key ((keysP_last ps _).2 hs) rfl)]
      exact h3
    | false =>
      rw [if_neg (by simp), if_pos ⟨hkd, fun y hy e => by
        rw [e, keysP_last, hs] at hy
        cases hy⟩, h3]
      simp
  · rw [lastP_snoc]
    by_cases e : p.2.key = k
    · subst e
      rw [atKey_put_same h1.isMap (hl _), has_put_same h1.isMap (hl _)]
      unfold stepS
      rw [if_pos ⟨hkd, rfl⟩]
      cases ho : lastP ps p.2.key with
      | none => exact ⟨rfl, rfl⟩
      | some a =>
        simp only
        rw [if_pos (hq a ho)]
        exact ⟨rfl, rfl⟩
    · rw [stepS_other (fun q => e q.2), atKey_put_other (kL_ne (Ne.symm e)), has_put_other (kL_ne (Ne.symm e))]
      exact h2 k
theorem LastM.mono {w : World} {b n m : Nat} {ps : List (Bat × Rec)} (h : LastM w b n ps) (k : n ≤ m) : LastM w b m ps := by
  obtain ⟨D, ⟨es, clock, h1, h2, h3, h4⟩, h5⟩ := h
  exact ⟨D, ⟨es, clock, h1, h2, Nat.le_trans h3 k, h4⟩, h5⟩
/-- A record that changes nothing. -/
theorem LastM.skip {w : World} {b n : Nat} {ps : List (Bat × Rec)} (h0 : LastM w b n ps) {p : Bat × Rec} (hq : p.2.kd = false ∨ ∃ a, lastP ps p.2.key = some a ∧ ¬ atS p.1 p.2 > a) : LastM w b (n + 1) (ps ++ [p]) := by
  obtain ⟨D, h1, h3, h2⟩ := h0.mono (Nat.le_succ n)
  have hs : ∀ k, stepS k (lastP ps k) p = lastP ps k := fun k => by
    by_cases e : p.2.kd = true ∧ p.2.key = k
    · obtain ⟨e1, rfl⟩ := e
      rcases hq with hq | ⟨a, ha, hb⟩
      · rw [hq] at e1; cases e1
      · unfold stepS
        rw [if_pos ⟨e1, rfl⟩, ha]
        simp only
        rw [if_neg hb]
    · exact stepS_other e
  refine ⟨D, h1, ?_, fun k => by rw [lastP_snoc, hs]; exact h2 k⟩
  rw [keysP_snoc, h3]
  unfold keyS
  rw [if_neg]
  rintro ⟨e1, e2⟩
  rcases hq with hq | ⟨a, ha, _⟩
  · rw [hq] at e1; cases e1
  · exact e2 p.2.key ((keysP_last ps _).2 (by rw [ha]; rfl)) rfl
end Go.Proofs.Ytikidcgnbcibpaa

/- Compact: Last (the walk). -/

set_option linter.unusedSimpArgs false
set_option linter.unusedVariables false
set_option maxHeartbeats 4000000
set_option maxRecDepth 1000000
namespace Go.Proofs.Ytikidcgnbcibpaa
open Go.RowKit
open Go.Av Go.Maps Go.Cp
/-- Batches of moderate size. -/
structure LOK (l : List Bat) : Prop where
  key : ∀ p ∈ prs l, p.2.key.size ≤ 100000
  at_ : ∀ p ∈ prs l, IntKind.i64.wrap (p.1.ba + p.2.dl) = atS p.1 p.2
  n : (prs l).length ≤ 50000
  l : l.length ≤ 50000
def pr1 (b : Bat) (k : Nat) : List (Bat × Rec) := (b.rs.take k).map fun r => (b, r)
theorem pr1_succ (b : Bat) {k : Nat} (hk : k < b.rs.length) : pr1 b (k + 1) = pr1 b k ++ [(b, b.rs.getD k rec0)] := by
  unfold pr1
  rw [List.take_add_one, List.map_append, List.getD_eq_getElem?_getD, List.getElem?_eq_getElem hk]
  rfl
theorem prs_succ (l : List Bat) {i : Nat} (hi : i < l.length) : prs (l.take (i + 1)) = prs (l.take i) ++ pr1 (l.getD i bat0) (l.getD i bat0).rs.length := by
  unfold prs pr1
  rw [List.take_add_one, List.flatMap_append, List.take_length, List.getD_eq_getElem?_getD, List.getElem?_eq_getElem hi]
  simp
theorem prs_mem {l : List Bat} {i k : Nat} (hi : i < l.length) (hk : k < (l.getD i bat0).rs.length) : (l.getD i bat0, (l.getD i bat0).rs.getD k rec0) ∈ prs l := by
  have e1 : l.getD i bat0 = l[i] := by rw [List.getD_eq_getElem?_getD, List.getElem?_eq_getElem hi]; rfl
  rw [e1] at hk ⊢
  have e2 : l[i].rs.getD k rec0 = l[i].rs[k] := by rw [List.getD_eq_getElem?_getD, List.getElem?_eq_getElem hk]; rfl
  rw [e2]
  unfold prs
  exact List.mem_flatMap.2 ⟨l[i], List.getElem_mem hi, List.mem_map.2 ⟨_, List.getElem_mem hk, rfl⟩⟩
theorem prs_len {l : List Bat} {i k : Nat} (hi : i < l.length) (hk : k ≤ (l.getD i bat0).rs.length) : (prs (l.take i) ++ pr1 (l.getD i bat0) k).length ≤ (prs l).length := by
  have h1 : ∀ j, j ≤ l.length → (prs (l.take j)).length ≤ (prs l).length := fun j _ => by
    conv => rhs; rw [← List.take_append_drop j l]
    unfold prs
    rw [List.flatMap_append, List.length_append]
    omega
  have h2 := h1 (i + 1) (by omega)
  rw [prs_succ l hi, List.length_append] at h2
  rw [List.length_append]
  unfold pr1 at h2 ⊢
  simp only [List.length_map, List.length_take] at h2 ⊢
  omega
/-- What Last leaves. -/
def LastP (l : List Bat) (w : World) (e : Ending) (w' : World) : Prop := ∃ b n, e = .returned (.map (some b)) ∧ w.heap.size ≤ b ∧ LastM w' b n (prs l) ∧ Ext (fun _ => False) w w'
theorem last_raw {w : World} {lp : Option Addr} {lc : Nat} {l : List Bat} (h : BatsW w lp l) (hl : LOK l) : Calls Try.prog 8 #[.slice lp l.length lc] w (LastP l w) := by
  have hmm := fun w => run_makeMap (P := Try.prog) 26 w
  have HB := asideI h
  have HL := asideI hl
  have hll := hl.l
  have hlm := hl.n
  clear h hl
  go_enter Try.func8, Try.ntmps8
  go_wp2
  have HM0 := asideI (LastM.new w)
  go_loopg [14] l.length (fun gg s14 wr => ∃ (i n : Nat), s14 = .int .i64 i ∧ i ≤ l.length ∧ l.length - i ≤ gg ∧ n ≤ 50000 ∧ Aside (n = (prs (l.take i)).length ∧ LastM wr w.heap.size n (prs (l.take i)) ∧ Ext (fun _ => False) w wr))
  case atStart => exact ⟨0, 0, rfl, by omega, by omega, by omega, rfl, HM0.out, extA _ _⟩
  case round =>
    obtain ⟨i, n, rfl, hi, hgg, hn, H⟩ := hrel
    by_cases hlt : i < l.length
    · have hz : (i : Int) < (l.length : Int) := by omega
      have hw : IntKind.i64.wrap ((i : Int) + 1) = (i : Int) + 1 := by rw [IntKind.wrap_i64]; omega
      obtain ⟨wo, rfl⟩ : ∃ wo, wo = wr := ⟨_, rfl⟩
      obtain ⟨b, o, rp, rc, rfl, hbat, hrs⟩ := HB.out i hlt
      obtain ⟨c0, c1, c2, c3, c4, c5⟩ := hbat.ext H.out.2.2
      have HRS := asideI hrs.1
      have HMEM := asideI (fun k (hk : k < (l.getD i bat0).rs.length) => prs_mem hlt hk)
      have HLEN := asideI (fun k (hk : k ≤ (l.getD i bat0).rs.length) => Nat.le_trans (prs_len hlt hk) hlm)
      have HSUC := asideI (prs_succ l hlt)
      clear hrs hbat
      generalize l.getD i bat0 = x at HRS HMEM HLEN HSUC c0 c1 c2 c3 c4 c5
      generalize hP0 : prs (l.take i) = P0 at H HLEN HSUC
      clear hP0
      have hsz := H.out.2.1.lt
      have hxl : x.rs.length ≤ 50000 := by
        have := HLEN.out x.rs.length (Nat.le_refl _)
        rw [List.length_append] at this
        simp [pr1] at this
        omega
      have X5 := asideI (show (wo.alloc (.cells #[.int .i64 x.ba, .int .i64 x.co, .int .i64 x.pr, .int .i64 x.ep, .int .i64 x.sq, .slice rp x.rs.length rc] 30)).heap[wo.heap.size]? = some (.cells #[.int .i64 x.ba, .int .i64 x.co, .int .i64 x.pr, .int .i64 x.ep, .int .i64 x.sq, .slice rp x.rs.length rc] 30) by rw [alloc_get, if_pos rfl])
      have HST : Aside (LastM (wo.alloc (.cells #[.int .i64 x.ba, .int .i64 x.co, .int .i64 x.pr, .int .i64 x.ep, .int .i64 x.sq, .slice rp x.rs.length rc] 30)) w.heap.size n (P0 ++ pr1 x 0)) := by
        have := H.out.2.1.ext (extA wo (.cells #[.int .i64 x.ba, .int .i64 x.co, .int .i64 x.pr, .int .i64 x.ep, .int .i64 x.sq, .slice rp x.rs.length rc] 30))
        rw [show pr1 x 0 = [] from rfl, List.append_nil]
        exact this
      have hn0 : n = (P0 ++ pr1 x 0).length := by rw [show pr1 x 0 = [] from rfl, List.append_nil]; exact H.out.1
      have HN0 := asideI hn0
      clear hn0
      go_wp2
      go_loopg [21] x.rs.length (fun gg s21 wk => ∃ (k m : Nat), s21 = .int .i64 k ∧ k ≤ x.rs.length ∧ x.rs.length - k ≤ gg ∧ m ≤ 50000 ∧ Aside (m = (P0 ++ pr1 x k).length ∧ LastM wk w.heap.size m (P0 ++ pr1 x k) ∧ Ext (fun b => b = w.heap.size) (wo.alloc (.cells #[.int .i64 x.ba, .int .i64 x.co, .int .i64 x.pr, .int .i64 x.ep, .int .i64 x.sq, .slice rp x.rs.length rc] 30)) wk))
      case atStart => exact ⟨0, n, rfl, by omega, by omega, hn, HN0.out, HST.out, Ext.refl _ _⟩
      case round =>
        obtain ⟨k, m, rfl, hk, hgg2, hm, H2⟩ := hrel
        have hE := extF (H.out.2.2.trans (extA wo (.cells #[.int .i64 x.ba, .int .i64 x.co, .int .i64 x.pr, .int .i64 x.ep, .int .i64 x.sq, .slice rp x.rs.length rc] 30))) H2.out.2.2 (fun b e => by subst e; exact Nat.le_refl _)
        by_cases hkt : k < x.rs.length
        · have hz2 : (k : Int) < (x.rs.length : Int) := by omega
          have hw2 : IntKind.i64.wrap ((k : Int) + 1) = (k : Int) + 1 := by rw [IntKind.wrap_i64]; omega
          obtain ⟨rb, ro, rfl, d0, d1, d2, d3, d4, d5⟩ := (HRS.out.ext hE) k hkt
          have hbox := (H2.out.2.2.block wo.heap.size (by simp) (fun e => by have e2 : wo.heap.size = w.heap.size := e; omega)).trans X5.out
          have b0 : wr.cell? ⟨wo.heap.size, 0, none⟩ = some (.int .i64 x.ba) := by simp [World.cell?, hbox]
          have hws : wo.heap.size < wr.heap.size := (Array.getElem?_eq_some_iff.1 hbox).1
          have hwn : ¬ wo.heap.size = wr.heap.size := by omega
          have hmem := HMEM.out k hkt
          have hkey := HL.out.key _ hmem
          have hat := HL.out.at_ _ hmem
          have hsucc := pr1_succ x hkt
          have hln := HLEN.out (k + 1) hkt
          have hml : m + 1 = (P0 ++ pr1 x (k + 1)).length := by rw [H2.out.1, hsucc]; simp; omega
          have hm1 : m + 1 ≤ 50000 := by rw [hml]; exact hln
          generalize x.rs.getD k rec0 = r at d0 d1 d2 d3 d4 d5 hmem hkey hat hsucc
          simp only at hkey hat
          have HE := asideI hE
          have HSC := asideI (show P0 ++ pr1 x (k + 1) = (P0 ++ pr1 x k) ++ [(x, r)] by rw [hsucc, List.append_assoc])
          have HML := asideI hml
          clear hE hbox hmem hsucc hln hml
          have hLM := H2.out.2.1.ext (extA wr (.cells #[.int .i64 r.dl, .int .i64 r.tm, .bool r.kd, .string r.key, .bool r.dd, .string r.val] 32))
          have hEX := H2.out.2.2.trans ((extA wr (.cells #[.int .i64 r.dl, .int .i64 r.tm, .bool r.kd, .string r.key, .bool r.dd, .string r.val] 32)).mono fun _ e => e.elim)
          have HEX := asideI hEX
          clear hEX
          cases hkd : r.kd with
          | false =>
            rw [hkd] at d2
            have hs := hLM.skip (p := (x, r)) (.inl hkd)
            rw [hkd] at hs HEX
            have HS := asideI hs
            clear hs hLM
            go_wp2
            go_roundg (x.rs.length - (k + 1))
            case measure => omega
            case rel => exact ⟨k + 1, m + 1, by simp, by omega, by omega, hm1, HML.out, by rw [HSC.out]; exact HS.out, HEX.out⟩
          | true =>
            rw [hkd] at d2
            have hlk := hLM.look2 hkey
            have hput := hLM.put (p := (x, r)) (by omega) hkey hkd
            have hskip := hLM.skip (p := (x, r))
            simp only [hkd] at hlk hput hskip HEX
            cases ho : lastP (P0 ++ pr1 x k) r.key with
            | none =>
              rw [ho] at hlk hput
              obtain ⟨w3, hrun, hl3, hg3⟩ := hput (fun a e => by cases e)
              have HS := asideI (And.intro hl3 (HEX.out.trans (show Ext (fun b => b = w.heap.size) _ w3 from ⟨hg3.1, hg3.2, hg3.3, hg3.4, fun j hj hne => hg3.5 j hj (fun e => hne (Option.some.inj e))⟩)))
              clear hl3 hg3 hskip hput hLM ho
              generalize atS x r = at_ at hat hrun
              go_wp2
              go_roundg (x.rs.length - (k + 1))
              case measure => omega
              case rel => exact ⟨k + 1, m + 1, by simp, by omega, by omega, hm1, HML.out, by rw [HSC.out]; exact HS.out.1, HS.out.2⟩
            | some a =>
              rw [ho] at hlk hput hskip
              by_cases hgt : atS x r > a
              · obtain ⟨w3, hrun, hl3, hg3⟩ := hput (fun a' e => by cases e; exact hgt)
                have HS := asideI (And.intro hl3 (HEX.out.trans (show Ext (fun b => b = w.heap.size) _ w3 from ⟨hg3.1, hg3.2, hg3.3, hg3.4, fun j hj hne => hg3.5 j hj (fun e => hne (Option.some.inj e))⟩)))
                clear hl3 hg3 hskip hput hLM ho
                generalize atS x r = at_ at hat hrun hgt
                go_wp2
                go_roundg (x.rs.length - (k + 1))
                case measure => omega
                case rel => exact ⟨k + 1, m + 1, by simp, by omega, by omega, hm1, HML.out, by rw [HSC.out]; exact HS.out.1, HS.out.2⟩
              · have HS := asideI (hskip (.inr ⟨a, rfl, hgt⟩))
                clear hskip hput hLM ho
                generalize atS x r = at_ at hat hgt
                go_wp2
                go_roundg (x.rs.length - (k + 1))
                case measure => omega
                case rel => exact ⟨k + 1, m + 1, by simp, by omega, by omega, hm1, HML.out, by rw [HSC.out]; exact HS.out, HEX.out⟩
        · obtain rfl : k = x.rs.length := by omega
          have hz2 : ¬ ((x.rs.length : Int) < (x.rs.length : Int)) := by omega
          have HE := asideI hE
          have HPS := asideI (show prs (l.take (i + 1)) = P0 ++ pr1 x x.rs.length from HSUC.out)
          clear hE
          go_wp2
          go_roundg (l.length - (i + 1))
          case measure => omega
          case rel => exact ⟨i + 1, m, by simp, by omega, by omega, hm, by rw [HPS.out]; exact H2.out.1, by rw [HPS.out]; exact H2.out.2.1, HE.out⟩
    · obtain rfl : i = l.length := by omega
      have hz : ¬ ((l.length : Int) < (l.length : Int)) := by omega
      go_wp2
      go_ret
      have hk := H.out.2.1
      rw [List.take_length] at hk
      exact ⟨_, _, rfl, Nat.le_refl _, hk, H.out.2.2⟩
end Go.Proofs.Ytikidcgnbcibpaa

set_option maxRecDepth 100000
namespace Go.Proofs.Ytikidcgnbcibpaa

open Go.Av
/-- bilander/bilanderlaw17.light -/
def ac6 : AC :=
 (.seq
  (.reg [⟨(some 2), none, .mv (.c (.bool false))⟩])
  (.seq
   (.seq
    (.reg [⟨(some 5), none, .mv (.t 0)⟩,
      ⟨(some 6), none, .call 17 [(.t 5), (.c (.int .i64 16))]⟩,
      ⟨(some 7), none, .una .not (.t 6)⟩])
    (.cond (.t 7)
     (.seq
      (.reg [⟨(some 2), none, .mv (.c (.bool false))⟩])
      .ret)
     .skip))
   (.seq
    (.seq
     (.reg [⟨(some 3), none, .mv (.c (.int .i64 0))⟩])
     (.block 0
      (.loop
       (.seq
        (.seq
         (.reg [⟨(some 8), none, .mv (.t 3)⟩,
           ⟨(some 9), none, .mv (.t 0)⟩,
           ⟨(some 10), none, .len false (.t 9)⟩,
           ⟨(some 11), none, .bin .lss (.t 8) (.t 10)⟩])
         (.cond (.t 11)
          .skip
          (.exit 0)))
        (.seq
         (.block 1
          (.seq
           (.seq
            (.reg [⟨(some 14), none, .mv (.t 0)⟩,
              ⟨(some 15), none, .mv (.t 3)⟩,
              ⟨(some 16), none, .iaddr 6 (.t 14) (.t 15)⟩,
              ⟨(some 17), none, .faddr (.t 16) 0⟩,
              ⟨(some 18), none, .load none (.t 17)⟩,
              ⟨(some 19), none, .bin .lss (.t 18) (.c (.int .i64 0))⟩,
              ⟨(some 20), none, .take 19⟩,
              ⟨(some 21), (some (20, false)), .mv (.t 0)⟩,
              ⟨(some 22), (some (20, false)), .mv (.t 3)⟩,
              ⟨(some 23), (some (20, false)), .iaddr 6 (.t 21) (.t 22)⟩,
              ⟨(some 24), (some (20, false)), .faddr (.t 23) 0⟩,
              ⟨(some 25), (some (20, false)), .load none (.t 24)⟩,
              ⟨(some 26), (some (20, false)), .bin .gtr (.t 25) (.c (.int .i64 4611686018427387903))⟩,
              ⟨(some 27), none, .pick (.t 20) (.c (.bool true)) (.t 26)⟩])
            (.cond (.t 27)
             (.seq
              (.reg [⟨(some 2), none, .mv (.c (.bool false))⟩])
              .ret)
             .skip))
           (.seq
            (.reg [⟨(some 4), none, .mv (.c (.int .i64 0))⟩])
            (.block 2
             (.loop
              (.seq
               (.seq
                (.reg [⟨(some 28), none, .mv (.t 4)⟩,
                  ⟨(some 29), none, .mv (.t 0)⟩,
                  ⟨(some 30), none, .mv (.t 3)⟩,
                  ⟨(some 31), none, .iaddr 6 (.t 29) (.t 30)⟩,
                  ⟨(some 32), none, .faddr (.t 31) 5⟩,
                  ⟨(some 33), none, .load none (.t 32)⟩,
                  ⟨(some 34), none, .len false (.t 33)⟩,
                  ⟨(some 35), none, .bin .lss (.t 28) (.t 34)⟩])
                (.cond (.t 35)
                 .skip
                 (.exit 2)))
               (.seq
                (.block 3
                 (.seq
                  (.reg [⟨(some 38), none, .mv (.t 0)⟩,
                    ⟨(some 39), none, .mv (.t 3)⟩,
                    ⟨(some 40), none, .iaddr 6 (.t 38) (.t 39)⟩,
                    ⟨(some 41), none, .faddr (.t 40) 5⟩,
                    ⟨(some 42), none, .load none (.t 41)⟩,
                    ⟨(some 43), none, .mv (.t 4)⟩,
                    ⟨(some 44), none, .iaddr 6 (.t 42) (.t 43)⟩,
                    ⟨(some 45), none, .faddr (.t 44) 0⟩,
                    ⟨(some 46), none, .load none (.t 45)⟩,
                    ⟨(some 47), none, .bin .lss (.t 46) (.c (.int .i64 0))⟩,
                    ⟨(some 48), none, .take 47⟩,
                    ⟨(some 49), (some (48, false)), .mv (.t 0)⟩,
                    ⟨(some 50), (some (48, false)), .mv (.t 3)⟩,
                    ⟨(some 51), (some (48, false)), .iaddr 6 (.t 49) (.t 50)⟩,
                    ⟨(some 52), (some (48, false)), .faddr (.t 51) 5⟩,
                    ⟨(some 53), (some (48, false)), .load none (.t 52)⟩,
                    ⟨(some 54), (some (48, false)), .mv (.t 4)⟩,
                    ⟨(some 55), (some (48, false)), .iaddr 6 (.t 53) (.t 54)⟩,
                    ⟨(some 56), (some (48, false)), .faddr (.t 55) 0⟩,
                    ⟨(some 57), (some (48, false)), .load none (.t 56)⟩,
                    ⟨(some 58), (some (48, false)), .bin .gtr (.t 57) (.c (.int .i64 1000))⟩,
                    ⟨(some 59), none, .pick (.t 48) (.c (.bool true)) (.t 58)⟩])
                  (.cond (.t 59)
                   (.seq
                    (.reg [⟨(some 2), none, .mv (.c (.bool false))⟩])
                    .ret)
                   .skip)))
                (.reg [⟨(some 36), none, .take 4⟩,
                  ⟨(some 37), none, .bin .add (.t 36) (.c (.int .i64 1))⟩,
                  ⟨(some 4), none, .take 37⟩]))))))))
         (.reg [⟨(some 12), none, .take 3⟩,
           ⟨(some 13), none, .bin .add (.t 12) (.c (.int .i64 1))⟩,
           ⟨(some 3), none, .take 13⟩]))))))
    (.seq
     (.reg [⟨(some 2), none, .mv (.c (.bool true))⟩])
     .ret))))
def ar6 : List AR := [.t 2]
theorem comp6 : Try.f6.body.bind (comp Try.prog 60) = some ac6 := by kernel_rfl
theorem cres6 : compRes Try.prog Try.f6.results.toList = some ar6 := by kernel_rfl
/-- bilander/bilanderref17.Last -/
def ac9 : AC :=
 (.seq
  (.reg [⟨(some 4), none, .mv (.c (.int .i64 0))⟩,
    ⟨(some 5), none, .mv (.c (.bool false))⟩])
  (.seq
   (.reg [⟨(some 6), none, .mv (.c (.int .i64 0))⟩,
     ⟨(some 7), none, .mv (.c (.bool false))⟩])
   (.seq
    (.seq
     (.reg [⟨(some 8), none, .mv (.c (.int .i64 0))⟩])
     (.block 0
      (.loop
       (.seq
        (.seq
         (.reg [⟨(some 12), none, .mv (.t 8)⟩,
           ⟨(some 13), none, .mv (.t 0)⟩,
           ⟨(some 14), none, .len false (.t 13)⟩,
           ⟨(some 15), none, .bin .lss (.t 12) (.t 14)⟩])
         (.cond (.t 15)
          .skip
          (.exit 0)))
        (.seq
         (.block 1
          (.seq
           (.reg [⟨(some 9), none, .mv (.c (.int .i64 0))⟩])
           (.block 2
            (.loop
             (.seq
              (.seq
               (.reg [⟨(some 18), none, .mv (.t 9)⟩,
                 ⟨(some 19), none, .mv (.t 0)⟩,
                 ⟨(some 20), none, .mv (.t 8)⟩,
                 ⟨(some 21), none, .iaddr 6 (.t 19) (.t 20)⟩,
                 ⟨(some 22), none, .faddr (.t 21) 5⟩,
                 ⟨(some 23), none, .load none (.t 22)⟩,
                 ⟨(some 24), none, .len false (.t 23)⟩,
                 ⟨(some 25), none, .bin .lss (.t 18) (.t 24)⟩])
               (.cond (.t 25)
                .skip
                (.exit 2)))
              (.seq
               (.block 3
                (.seq
                 (.reg [⟨(some 28), none, .mv (.t 0)⟩,
                   ⟨(some 29), none, .mv (.t 8)⟩,
                   ⟨(some 30), none, .iaddr 6 (.t 28) (.t 29)⟩,
                   ⟨(some 31), none, .faddr (.t 30) 5⟩,
                   ⟨(some 32), none, .load none (.t 31)⟩,
                   ⟨(some 33), none, .mv (.t 9)⟩,
                   ⟨(some 34), none, .iaddr 6 (.t 32) (.t 33)⟩,
                   ⟨(some 35), none, .load (some 6) (.t 34)⟩,
                   ⟨(some 10), none, .alloc [(.int .i64 0), (.int .i64 0), (.bool false), (.str (ByteArray.mk #[])), (.bool false), (.str (ByteArray.mk #[]))]⟩,
                   ⟨none, none, .store 6 (.t 10) (.t 35)⟩])
                 (.seq
                  (.dreg [] [⟨(some 36), none, .mv (.t 0)⟩,
                    ⟨(some 37), none, .mv (.t 8)⟩,
                    ⟨(some 38), none, .iaddr 6 (.t 36) (.t 37)⟩,
                    ⟨(some 39), none, .faddr (.t 38) 0⟩,
                    ⟨(some 40), none, .load none (.t 39)⟩,
                    ⟨(some 41), none, .faddr (.t 10) 0⟩,
                    ⟨(some 42), none, .load none (.t 41)⟩,
                    ⟨(some 43), none, .bin .add (.t 40) (.t 42)⟩,
                    ⟨(some 11), none, .take 43⟩])
                  (.seq
                   (.reg [⟨(some 44), none, .faddr (.t 10) 2⟩,
                     ⟨(some 45), none, .load none (.t 44)⟩,
                     ⟨(some 46), none, .take 45⟩,
                     ⟨(some 47), (some (46, true)), .faddr (.t 10) 3⟩,
                     ⟨(some 48), (some (46, true)), .load none (.t 47)⟩,
                     ⟨(some 49), (some (46, true)), .mv (.t 1)⟩,
                     ⟨(some 50), (some (46, true)), .bin .eql (.t 48) (.t 49)⟩,
                     ⟨(some 51), none, .pick (.t 46) (.t 50) (.c (.bool false))⟩,
                     ⟨(some 52), none, .take 51⟩,
                     ⟨(some 53), (some (52, true)), .mv (.t 7)⟩,
                     ⟨(some 54), (some (52, true)), .una .not (.t 53)⟩,
                     ⟨(some 55), (some (52, true)), .take 54⟩,
                     ⟨(some 56), (some (55, false)), .mv (.t 11)⟩,
                     ⟨(some 57), (some (55, false)), .mv (.t 6)⟩,
                     ⟨(some 58), (some (55, false)), .bin .gtr (.t 56) (.t 57)⟩,
                     ⟨(some 59), (some (52, true)), .pick (.t 55) (.c (.bool true)) (.t 58)⟩,
                     ⟨(some 60), none, .pick (.t 52) (.t 59) (.c (.bool false))⟩])
                   (.cond (.t 60)
                    (.reg [⟨(some 61), none, .take 11⟩,
                      ⟨(some 6), none, .take 61⟩,
                      ⟨(some 7), none, .mv (.c (.bool true))⟩])
                    .skip)))))
               (.reg [⟨(some 26), none, .take 9⟩,
                 ⟨(some 27), none, .bin .add (.t 26) (.c (.int .i64 1))⟩,
                 ⟨(some 9), none, .take 27⟩])))))))
         (.reg [⟨(some 16), none, .take 8⟩,
           ⟨(some 17), none, .bin .add (.t 16) (.c (.int .i64 1))⟩,
           ⟨(some 8), none, .take 17⟩]))))))
    (.seq
     (.reg [⟨(some 62), none, .take 6⟩,
       ⟨(some 63), none, .take 7⟩,
       ⟨(some 4), none, .take 62⟩,
       ⟨(some 5), none, .take 63⟩])
     .ret))))
def ar9 : List AR := [.t 4, .t 5]
theorem comp9 : Try.f9.body.bind (comp Try.prog 64) = some ac9 := by kernel_rfl
theorem cres9 : compRes Try.prog Try.f9.results.toList = some ar9 := by kernel_rfl
/-- bilander/bilanderref17.Keeps -/
def ac11 : AC :=
 (.seq
  (.reg [⟨(some 10), none, .mv (.c (.bool false))⟩])
  (.seq
   (.seq
    (.reg [⟨(some 14), none, .mv (.t 1)⟩,
      ⟨(some 15), none, .bin .lss (.t 14) (.c (.int .i64 0))⟩,
      ⟨(some 16), none, .take 15⟩,
      ⟨(some 17), (some (16, false)), .mv (.t 1)⟩,
      ⟨(some 18), (some (16, false)), .mv (.t 0)⟩,
      ⟨(some 19), (some (16, false)), .len false (.t 18)⟩,
      ⟨(some 20), (some (16, false)), .bin .geq (.t 17) (.t 19)⟩,
      ⟨(some 21), none, .pick (.t 16) (.c (.bool true)) (.t 20)⟩,
      ⟨(some 22), none, .take 21⟩,
      ⟨(some 23), (some (22, false)), .mv (.t 2)⟩,
      ⟨(some 24), (some (22, false)), .bin .lss (.t 23) (.c (.int .i64 0))⟩,
      ⟨(some 25), none, .pick (.t 22) (.c (.bool true)) (.t 24)⟩,
      ⟨(some 26), none, .take 25⟩,
      ⟨(some 27), (some (26, false)), .mv (.t 2)⟩,
      ⟨(some 28), (some (26, false)), .mv (.t 0)⟩,
      ⟨(some 29), (some (26, false)), .mv (.t 1)⟩,
      ⟨(some 30), (some (26, false)), .iaddr 6 (.t 28) (.t 29)⟩,
      ⟨(some 31), (some (26, false)), .faddr (.t 30) 5⟩,
      ⟨(some 32), (some (26, false)), .load none (.t 31)⟩,
      ⟨(some 33), (some (26, false)), .len false (.t 32)⟩,
      ⟨(some 34), (some (26, false)), .bin .geq (.t 27) (.t 33)⟩,
      ⟨(some 35), none, .pick (.t 26) (.c (.bool true)) (.t 34)⟩])
    (.cond (.t 35)
     (.seq
      (.reg [⟨(some 10), none, .mv (.c (.bool false))⟩])
      .ret)
     .skip))
   (.seq
    (.reg [⟨(some 36), none, .mv (.t 0)⟩,
      ⟨(some 37), none, .mv (.t 1)⟩,
      ⟨(some 38), none, .iaddr 6 (.t 36) (.t 37)⟩,
      ⟨(some 39), none, .faddr (.t 38) 5⟩,
      ⟨(some 40), none, .load none (.t 39)⟩,
      ⟨(some 41), none, .mv (.t 2)⟩,
      ⟨(some 42), none, .iaddr 6 (.t 40) (.t 41)⟩,
      ⟨(some 43), none, .load (some 6) (.t 42)⟩,
      ⟨(some 11), none, .alloc [(.int .i64 0), (.int .i64 0), (.bool false), (.str (ByteArray.mk #[])), (.bool false), (.str (ByteArray.mk #[]))]⟩,
      ⟨none, none, .store 6 (.t 11) (.t 43)⟩])
    (.seq
     (.seq
      (.reg [⟨(some 44), none, .faddr (.t 11) 2⟩,
        ⟨(some 45), none, .load none (.t 44)⟩,
        ⟨(some 46), none, .una .not (.t 45)⟩])
      (.cond (.t 46)
       (.seq
        (.reg [⟨(some 10), none, .mv (.c (.bool true))⟩])
        .ret)
       .skip))
     (.seq
      (.reg [⟨(some 48), none, .mv (.t 0)⟩,
        ⟨(some 49), none, .faddr (.t 11) 3⟩,
        ⟨(some 50), none, .load none (.t 49)⟩,
        ⟨(some 51), none, .call 9 [(.t 48), (.t 50)]⟩,
        ⟨(some 47), none, .take 51⟩,
        ⟨(some 52), none, .ext 47 0⟩,
        ⟨(some 53), none, .ext 47 1⟩,
        ⟨(some 12), none, .take 52⟩,
        ⟨(some 13), none, .take 53⟩])
      (.seq
       (.dreg [] [⟨(some 54), none, .mv (.t 0)⟩,
         ⟨(some 55), none, .mv (.t 1)⟩,
         ⟨(some 56), none, .iaddr 6 (.t 54) (.t 55)⟩,
         ⟨(some 57), none, .faddr (.t 56) 0⟩,
         ⟨(some 58), none, .load none (.t 57)⟩,
         ⟨(some 59), none, .faddr (.t 11) 0⟩,
         ⟨(some 60), none, .load none (.t 59)⟩,
         ⟨(some 61), none, .bin .add (.t 58) (.t 60)⟩,
         ⟨(some 62), none, .mv (.t 12)⟩,
         ⟨(some 63), none, .bin .eql (.t 61) (.t 62)⟩,
         ⟨(some 64), none, .mv (.t 63)⟩,
         ⟨(some 65), (some (64, true)), .load (some 6) (.t 11)⟩,
         ⟨(some 66), (some (64, true)), .mv (.t 3)⟩,
         ⟨(some 67), (some (64, true)), .mv (.t 4)⟩,
         ⟨(some 68), (some (64, true)), .call 21 [(.t 65), (.t 66), (.t 67)]⟩,
         ⟨(some 69), (some (64, true)), .una .not (.t 68)⟩,
         ⟨(some 70), none, .pick (.t 64) (.t 69) (.c (.bool false))⟩,
         ⟨(some 10), none, .take 70⟩])
       .ret))))))
def ar11 : List AR := [.t 10]
theorem comp11 : Try.f11.body.bind (comp Try.prog 71) = some ac11 := by kernel_rfl
theorem cres11 : compRes Try.prog Try.f11.results.toList = some ar11 := by kernel_rfl
/-- bilander/bilanderlaw17.part -/
def ac13 : AC :=
 (.seq
  (.reg [⟨(some 4), none, .mv (.c (.bool false))⟩])
  (.seq
   (.reg [⟨(some 5), none, .mv (.c (.int .i64 0))⟩])
   (.seq
    (.seq
     (.reg [⟨(some 6), none, .mv (.c (.int .i64 0))⟩])
     (.block 0
      (.loop
       (.seq
        (.seq
         (.reg [⟨(some 7), none, .mv (.t 6)⟩,
           ⟨(some 8), none, .mv (.t 1)⟩,
           ⟨(some 9), none, .len false (.t 8)⟩,
           ⟨(some 10), none, .bin .lss (.t 7) (.t 9)⟩,
           ⟨(some 11), none, .take 10⟩,
           ⟨(some 12), (some (11, true)), .mv (.t 5)⟩,
           ⟨(some 13), (some (11, true)), .mv (.t 0)⟩,
           ⟨(some 14), (some (11, true)), .len false (.t 13)⟩,
           ⟨(some 15), (some (11, true)), .bin .lss (.t 12) (.t 14)⟩,
           ⟨(some 16), none, .pick (.t 11) (.t 15) (.c (.bool false))⟩])
         (.cond (.t 16)
          .skip
          (.exit 0)))
        (.seq
         (.block 1
          (.seq
           (.dreg [] [⟨(some 19), none, .mv (.t 0)⟩,
             ⟨(some 20), none, .mv (.t 5)⟩,
             ⟨(some 21), none, .iaddr 6 (.t 19) (.t 20)⟩,
             ⟨(some 22), none, .load (some 6) (.t 21)⟩,
             ⟨(some 23), none, .mv (.t 1)⟩,
             ⟨(some 24), none, .mv (.t 6)⟩,
             ⟨(some 25), none, .iaddr 6 (.t 23) (.t 24)⟩,
             ⟨(some 26), none, .load (some 6) (.t 25)⟩,
             ⟨(some 27), none, .eqs [1, 1, 0, 2, 0, 2] false (.t 22) (.t 26)⟩])
           (.cond (.t 27)
            (.reg [⟨(some 28), none, .take 5⟩,
              ⟨(some 29), none, .bin .add (.t 28) (.c (.int .i64 1))⟩,
              ⟨(some 5), none, .take 29⟩])
            .skip)))
         (.reg [⟨(some 17), none, .take 6⟩,
           ⟨(some 18), none, .bin .add (.t 17) (.c (.int .i64 1))⟩,
           ⟨(some 6), none, .take 18⟩]))))))
    (.seq
     (.reg [⟨(some 30), none, .mv (.t 5)⟩,
       ⟨(some 31), none, .mv (.t 0)⟩,
       ⟨(some 32), none, .len false (.t 31)⟩,
       ⟨(some 33), none, .bin .eql (.t 30) (.t 32)⟩,
       ⟨(some 4), none, .take 33⟩])
     .ret))))
def ar13 : List AR := [.t 4]
theorem comp13 : Try.f13.body.bind (comp Try.prog 34) = some ac13 := by kernel_rfl
theorem cres13 : compRes Try.prog Try.f13.results.toList = some ar13 := by kernel_rfl
/-- bilander/bilanderref04.LightAll -/
def ac17 : AC :=
 (.seq
  (.reg [⟨(some 4), none, .mv (.c (.bool false))⟩])
  (.seq
   (.seq
    (.reg [⟨(some 6), none, .mv (.t 0)⟩,
      ⟨(some 7), none, .len false (.t 6)⟩,
      ⟨(some 8), none, .mv (.t 1)⟩,
      ⟨(some 9), none, .bin .gtr (.t 7) (.t 8)⟩])
    (.cond (.t 9)
     (.seq
      (.reg [⟨(some 4), none, .mv (.c (.bool false))⟩])
      .ret)
     .skip))
   (.seq
    (.seq
     (.reg [⟨(some 5), none, .mv (.c (.int .i64 0))⟩])
     (.block 0
      (.loop
       (.seq
        (.seq
         (.reg [⟨(some 10), none, .mv (.t 5)⟩,
           ⟨(some 11), none, .mv (.t 0)⟩,
           ⟨(some 12), none, .len false (.t 11)⟩,
           ⟨(some 13), none, .bin .lss (.t 10) (.t 12)⟩])
         (.cond (.t 13)
          .skip
          (.exit 0)))
        (.seq
         (.block 1
          (.seq
           (.reg [⟨(some 16), none, .mv (.t 0)⟩,
             ⟨(some 17), none, .mv (.t 5)⟩,
             ⟨(some 18), none, .iaddr 6 (.t 16) (.t 17)⟩,
             ⟨(some 19), none, .load (some 6) (.t 18)⟩,
             ⟨(some 20), none, .call 28 [(.t 19)]⟩,
             ⟨(some 21), none, .una .not (.t 20)⟩])
           (.cond (.t 21)
            (.seq
             (.reg [⟨(some 4), none, .mv (.c (.bool false))⟩])
             .ret)
            .skip)))
         (.reg [⟨(some 14), none, .take 5⟩,
           ⟨(some 15), none, .bin .add (.t 14) (.c (.int .i64 1))⟩,
           ⟨(some 5), none, .take 15⟩]))))))
    (.seq
     (.reg [⟨(some 4), none, .mv (.c (.bool true))⟩])
     .ret))))
def ar17 : List AR := [.t 4]
theorem comp17 : Try.f17.body.bind (comp Try.prog 22) = some ac17 := by kernel_rfl
theorem cres17 : compRes Try.prog Try.f17.results.toList = some ar17 := by kernel_rfl
/-- bilander/bilanderlaw17.of -/
def ac18 : AC :=
 (.seq
  (.reg [⟨(some 4), none, .alloc [(.int .i64 0), (.int .i64 0), (.bool false), (.str (ByteArray.mk #[])), (.bool false), (.str (ByteArray.mk #[]))]⟩])
  (.seq
   (.reg [⟨(some 5), none, .mv (.t 0)⟩,
     ⟨(some 6), none, .mv (.t 1)⟩,
     ⟨(some 7), none, .build [(.int .i64 0), (.int .i64 0), (.bool false), (.str (ByteArray.mk #[])), (.bool false), (.str (ByteArray.mk #[]))] [(0, 1, (.t 5)), (2, 1, (.c (.bool true))), (3, 1, (.t 6)), (5, 1, (.c (.str (ByteArray.mk #[118]))))]⟩,
     ⟨none, none, .store 6 (.t 4) (.t 7)⟩])
   .ret))
def ar18 : List AR := [.c 4 (some 6)]
theorem comp18 : Try.f18.body.bind (comp Try.prog 8) = some ac18 := by kernel_rfl
theorem cres18 : compRes Try.prog Try.f18.results.toList = some ar18 := by kernel_rfl
/-- bilander/compact.Count -/
def ac19 : AC :=
 (.seq
  (.reg [⟨(some 2), none, .mv (.c (.int .i64 0))⟩])
  (.seq
   (.reg [⟨(some 3), none, .mv (.c (.int .i64 0))⟩])
   (.seq
    (.seq
     (.reg [⟨(some 6), none, .mv (.t 0)⟩,
       ⟨(some 7), none, .len false (.t 6)⟩,
       ⟨(some 8), none, .mv (.c (.int .i64 0))⟩])
     (.block 0
      (.loop
       (.seq
        (.reg [⟨(some 9), none, .bin .lss (.t 8) (.t 7)⟩])
        (.seq
         (.cond (.t 9)
          .skip
          (.exit 0))
         (.seq
          (.block 1
           (.seq
            (.reg [⟨(some 10), none, .iaddr 6 (.t 6) (.t 8)⟩,
              ⟨(some 11), none, .load (some 6) (.t 10)⟩,
              ⟨(some 5), none, .alloc [(.int .i64 0), (.int .i64 0), (.int .i64 0), (.int .i64 0), (.int .i64 0), .nils]⟩,
              ⟨none, none, .store 6 (.t 5) (.t 11)⟩])
            (.reg [⟨(some 12), none, .take 3⟩,
              ⟨(some 13), none, .faddr (.t 5) 5⟩,
              ⟨(some 14), none, .load none (.t 13)⟩,
              ⟨(some 15), none, .len false (.t 14)⟩,
              ⟨(some 16), none, .bin .add (.t 12) (.t 15)⟩,
              ⟨(some 3), none, .take 16⟩])))
          (.reg [⟨(some 17), none, .bin .add (.t 8) (.c (.int .i64 1))⟩,
            ⟨(some 8), none, .take 17⟩])))))))
    (.seq
     (.reg [⟨(some 18), none, .take 3⟩,
       ⟨(some 2), none, .take 18⟩])
     .ret))))
def ar19 : List AR := [.t 2]
theorem comp19 : Try.f19.body.bind (comp Try.prog 19) = some ac19 := by kernel_rfl
theorem cres19 : compRes Try.prog Try.f19.results.toList = some ar19 := by kernel_rfl
/-- bilander/bilanderref17.late -/
def ac21 : AC :=
 (.seq
  (.reg [⟨(some 3), none, .box 6 (.t 0)⟩,
    ⟨(some 6), none, .mv (.c (.bool false))⟩])
  (.seq
   (.reg [⟨(some 7), none, .faddr (.t 3) 4⟩,
     ⟨(some 8), none, .load none (.t 7)⟩,
     ⟨(some 9), none, .take 8⟩,
     ⟨(some 10), (some (9, true)), .mv (.t 1)⟩,
     ⟨(some 11), (some (9, true)), .bin .geq (.t 10) (.c (.int .i64 0))⟩,
     ⟨(some 12), none, .pick (.t 9) (.t 11) (.c (.bool false))⟩,
     ⟨(some 13), none, .take 12⟩,
     ⟨(some 14), (some (13, true)), .faddr (.t 3) 1⟩,
     ⟨(some 15), (some (13, true)), .load none (.t 14)⟩,
     ⟨(some 16), (some (13, true)), .bin .geq (.t 15) (.c (.int .i64 0))⟩,
     ⟨(some 17), none, .pick (.t 13) (.t 16) (.c (.bool false))⟩,
     ⟨(some 18), none, .take 17⟩,
     ⟨(some 19), (some (18, true)), .mv (.t 1)⟩,
     ⟨(some 20), (some (18, true)), .faddr (.t 3) 1⟩,
     ⟨(some 21), (some (18, true)), .load none (.t 20)⟩,
     ⟨(some 22), (some (18, true)), .bin .sub (.t 19) (.t 21)⟩,
     ⟨(some 23), (some (18, true)), .mv (.t 2)⟩,
     ⟨(some 24), (some (18, true)), .minmax true (.c (.int .i64 0)) (.t 23)⟩,
     ⟨(some 25), (some (18, true)), .bin .gtr (.t 22) (.t 24)⟩,
     ⟨(some 26), none, .pick (.t 18) (.t 25) (.c (.bool false))⟩,
     ⟨(some 6), none, .take 26⟩])
   .ret))
def ar21 : List AR := [.t 6]
theorem comp21 : Try.f21.body.bind (comp Try.prog 27) = some ac21 := by kernel_rfl
theorem cres21 : compRes Try.prog Try.f21.results.toList = some ar21 := by kernel_rfl
/-- bilander/bilanderref04.Light -/
def ac28 : AC :=
 (.seq
  (.reg [⟨(some 1), none, .box 6 (.t 0)⟩,
    ⟨(some 2), none, .mv (.c (.bool false))⟩])
  (.seq
   (.seq
    (.reg [⟨(some 4), none, .faddr (.t 1) 5⟩,
      ⟨(some 5), none, .load none (.t 4)⟩,
      ⟨(some 6), none, .len false (.t 5)⟩,
      ⟨(some 7), none, .bin .gtr (.t 6) (.c (.int .i64 40))⟩])
    (.cond (.t 7)
     (.seq
      (.reg [⟨(some 2), none, .mv (.c (.bool false))⟩])
      .ret)
     .skip))
   (.seq
    (.seq
     (.reg [⟨(some 3), none, .mv (.c (.int .i64 0))⟩])
     (.block 0
      (.loop
       (.seq
        (.seq
         (.reg [⟨(some 8), none, .mv (.t 3)⟩,
           ⟨(some 9), none, .faddr (.t 1) 5⟩,
           ⟨(some 10), none, .load none (.t 9)⟩,
           ⟨(some 11), none, .len false (.t 10)⟩,
           ⟨(some 12), none, .bin .lss (.t 8) (.t 11)⟩])
         (.cond (.t 12)
          .skip
          (.exit 0)))
        (.seq
         (.block 1
          (.seq
           (.reg [⟨(some 15), none, .faddr (.t 1) 5⟩,
             ⟨(some 16), none, .load none (.t 15)⟩,
             ⟨(some 17), none, .mv (.t 3)⟩,
             ⟨(some 18), none, .iaddr 6 (.t 16) (.t 17)⟩,
             ⟨(some 19), none, .load (some 6) (.t 18)⟩,
             ⟨(some 20), none, .call 35 [(.t 19)]⟩,
             ⟨(some 21), none, .una .not (.t 20)⟩])
           (.cond (.t 21)
            (.seq
             (.reg [⟨(some 2), none, .mv (.c (.bool false))⟩])
             .ret)
            .skip)))
         (.reg [⟨(some 13), none, .take 3⟩,
           ⟨(some 14), none, .bin .add (.t 13) (.c (.int .i64 1))⟩,
           ⟨(some 3), none, .take 14⟩]))))))
    (.seq
     (.reg [⟨(some 2), none, .mv (.c (.bool true))⟩])
     .ret))))
def ar28 : List AR := [.t 2]
theorem comp28 : Try.f28.body.bind (comp Try.prog 22) = some ac28 := by kernel_rfl
theorem cres28 : compRes Try.prog Try.f28.results.toList = some ar28 := by kernel_rfl
/-- (bilander/compact.cleaner).late -/
def ac29 : AC :=
 (.seq
  (.reg [⟨(some 2), none, .box 3 (.t 0)⟩,
    ⟨(some 3), none, .box 6 (.t 1)⟩,
    ⟨(some 4), none, .mv (.c (.bool false))⟩])
  (.seq
   (.reg [⟨(some 5), none, .faddr (.t 3) 4⟩,
     ⟨(some 6), none, .load none (.t 5)⟩,
     ⟨(some 7), none, .take 6⟩,
     ⟨(some 8), (some (7, true)), .faddr (.t 2) 1⟩,
     ⟨(some 9), (some (7, true)), .load none (.t 8)⟩,
     ⟨(some 10), (some (7, true)), .bin .geq (.t 9) (.c (.int .i64 0))⟩,
     ⟨(some 11), none, .pick (.t 7) (.t 10) (.c (.bool false))⟩,
     ⟨(some 12), none, .take 11⟩,
     ⟨(some 13), (some (12, true)), .faddr (.t 3) 1⟩,
     ⟨(some 14), (some (12, true)), .load none (.t 13)⟩,
     ⟨(some 15), (some (12, true)), .bin .geq (.t 14) (.c (.int .i64 0))⟩,
     ⟨(some 16), none, .pick (.t 12) (.t 15) (.c (.bool false))⟩,
     ⟨(some 17), none, .take 16⟩,
     ⟨(some 18), (some (17, true)), .faddr (.t 2) 1⟩,
     ⟨(some 19), (some (17, true)), .load none (.t 18)⟩,
     ⟨(some 20), (some (17, true)), .faddr (.t 3) 1⟩,
     ⟨(some 21), (some (17, true)), .load none (.t 20)⟩,
     ⟨(some 22), (some (17, true)), .bin .sub (.t 19) (.t 21)⟩,
     ⟨(some 23), (some (17, true)), .faddr (.t 2) 2⟩,
     ⟨(some 24), (some (17, true)), .load none (.t 23)⟩,
     ⟨(some 25), (some (17, true)), .minmax true (.c (.int .i64 0)) (.t 24)⟩,
     ⟨(some 26), (some (17, true)), .bin .gtr (.t 22) (.t 25)⟩,
     ⟨(some 27), none, .pick (.t 17) (.t 26) (.c (.bool false))⟩,
     ⟨(some 4), none, .take 27⟩])
   .ret))
def ar29 : List AR := [.t 4]
theorem comp29 : Try.f29.body.bind (comp Try.prog 28) = some ac29 := by kernel_rfl
theorem cres29 : compRes Try.prog Try.f29.results.toList = some ar29 := by kernel_rfl
/-- bilander/bilanderref03.Light -/
def ac35 : AC :=
 (.seq
  (.reg [⟨(some 1), none, .box 6 (.t 0)⟩,
    ⟨(some 2), none, .mv (.c (.bool false))⟩])
  (.seq
   (.reg [⟨(some 3), none, .faddr (.t 1) 3⟩,
     ⟨(some 4), none, .load none (.t 3)⟩,
     ⟨(some 5), none, .len true (.t 4)⟩,
     ⟨(some 6), none, .bin .leq (.t 5) (.c (.int .i64 200))⟩,
     ⟨(some 7), none, .take 6⟩,
     ⟨(some 8), (some (7, true)), .faddr (.t 1) 5⟩,
     ⟨(some 9), (some (7, true)), .load none (.t 8)⟩,
     ⟨(some 10), (some (7, true)), .len true (.t 9)⟩,
     ⟨(some 11), (some (7, true)), .bin .leq (.t 10) (.c (.int .i64 700))⟩,
     ⟨(some 12), none, .pick (.t 7) (.t 11) (.c (.bool false))⟩,
     ⟨(some 2), none, .take 12⟩])
   .ret))
def ar35 : List AR := [.t 2]
theorem comp35 : Try.f35.body.bind (comp Try.prog 13) = some ac35 := by kernel_rfl
theorem cres35 : compRes Try.prog Try.f35.results.toList = some ar35 := by kernel_rfl
end Go.Proofs.Ytikidcgnbcibpaa
