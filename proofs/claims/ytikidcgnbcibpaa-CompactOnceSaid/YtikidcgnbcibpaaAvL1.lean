import Derived.Orders
import Derived.Tactics
import Derived.Laws.Cells
import Derived.Laws.World
import Derived.Laws.Entries
import Derived.Laws.IdiomCopy
import Derived.Laws.Append
import Derived.Laws.BytesString
import Derived.Laws.MakeOwn
import Derived.Laws.IdiomStrings

set_option linter.unusedVariables false
set_option linter.unusedSimpArgs false

namespace Go.Av
/-- Immutable memory: block, place, value. -/
abbrev Mem := Nat → Nat → Option Value

inductive SV where
  | undef
  | int (k : IntKind) (n : Int)
  | bool (b : Bool)
  | anyb
  | str (s : ByteArray)
  | agg (cs : List SV)
  | tup (cs : List SV)
  | nils
  | sl (sz : Nat) (xs : List SV)
  | nilp
  | ptr (b off : Nat)
  | eptr (e : SV) (k : Nat)
  | nilf
  | fn (f : FuncId) (first caps : List SV)
  | nilm
  | map (b : Nat)
  deriving Inhabited

def SV.cells : SV → List SV
  | .agg cs => cs
  | v => [v]
def SV.cell (v : SV) (j : Nat) : SV := v.cells.getD j .undef
def SV.nc (v : SV) : Nat := v.cells.length
def SV.isCell : SV → Bool
  | .undef | .agg _ | .tup _ => false
  | _ => true

inductive Rep (mu : Mem) : SV → Value → Prop
  | undef (v : Value) : Rep mu .undef v
  | int (k : IntKind) (n : Int) : Rep mu (.int k n) (.int k n)
  | bool (b : Bool) : Rep mu (.bool b) (.bool b)
  | anyb (b : Bool) : Rep mu .anyb (.bool b)
  | str (s : ByteArray) : Rep mu (.str s) (.string s)
  | agg (cs : List SV) (vs : List Value) : vs.length = cs.length → (∀ j, j < cs.length → Rep mu (cs.getD j .undef) (vs.getD j Go.undef)) → Rep mu (.agg cs) (.agg vs.toArray)
  | tup (cs : List SV) (vs : List Value) : vs.length = cs.length → (∀ j, j < cs.length → Rep mu (cs.getD j .undef) (vs.getD j Go.undef)) → Rep mu (.tup cs) (.tuple vs.toArray)
  | nils : Rep mu .nils (.slice none 0 0)
  | slnil (sz : Nat) : Rep mu (.sl sz []) (.slice none 0 0)
  | sle (sz : Nat) (a : Addr) (cap : Nat) : Rep mu (.sl sz []) (.slice (some a) 0 cap)
  | sl (sz : Nat) (xs : List SV) (b off cap : Nat) (vals : Nat → Nat → Value) : xs.length ≤ cap → (∀ x ∈ xs, x.nc = sz) →
      (∀ i j, i < xs.length → j < sz → mu b (off + i * sz + j) = some (vals i j)) →
      (∀ i j, i < xs.length → j < sz → Rep mu ((xs.getD i .undef).cell j) (vals i j)) →
      Rep mu (.sl sz xs) (.slice (some ⟨b, off, none⟩) xs.length cap)
  | nilp : Rep mu .nilp (.pointer none)
  | ptr (b off : Nat) : Rep mu (.ptr b off) (.pointer (some ⟨b, off, none⟩))
  | eptr (e : SV) (k b off : Nat) (vals : Nat → Value) : (∀ j, j < e.nc → mu b (off + j) = some (vals j)) → (∀ j, j < e.nc → Rep mu (e.cell j) (vals j)) →
      Rep mu (.eptr e k) (.pointer (some ⟨b, off + k, none⟩))
  | nilf : Rep mu .nilf .nilFunc
  | fn (f : FuncId) (fs cs : List SV) (vf vc : List Value) : vf.length = fs.length → vc.length = cs.length →
      (∀ j, j < fs.length → Rep mu (fs.getD j .undef) (vf.getD j Go.undef)) → (∀ j, j < cs.length → Rep mu (cs.getD j .undef) (vc.getD j Go.undef)) →
      Rep mu (.fn f fs cs) (.func (.func f) vf.toArray vc.toArray)
  | nilm : Rep mu .nilm (.map none)
  | map (b : Nat) : Rep mu (.map b) (.map (some b))

def Mem.le (mu mu' : Mem) : Prop := ∀ b j v, mu b j = some v → mu' b j = some v
theorem Mem.le_refl (mu : Mem) : mu.le mu := fun _ _ _ h => h
theorem Mem.le_trans {a b c : Mem} (h : a.le b) (k : b.le c) : a.le c := fun _ _ _ e => k _ _ _ (h _ _ _ e)

theorem Rep.mono {mu mu' : Mem} (h : mu.le mu') {v : SV} {x : Value} (hr : Rep mu v x) : Rep mu' v x := by
  induction hr with
  | undef v => exact .undef v
  | int k n => exact .int k n
  | bool b => exact .bool b
  | anyb b => exact .anyb b
  | str s => exact .str s
  | agg cs vs hl _ ih => exact .agg cs vs hl ih
  | tup cs vs hl _ ih => exact .tup cs vs hl ih
  | nils => exact .nils
  | slnil sz => exact .slnil sz
  | sle sz a cap => exact .sle sz a cap
  | sl sz xs b off cap vals hc hn hm _ ih => exact .sl sz xs b off cap vals hc hn (fun i j hi hj => h _ _ _ (hm i j hi hj)) ih
  | nilp => exact .nilp
  | ptr b off => exact .ptr b off
  | eptr e k b off vals hm _ ih => exact .eptr e k b off vals (fun j hj => h _ _ _ (hm j hj)) ih
  | nilf => exact .nilf
  | fn f fs cs vf vc h1 h2 _ _ i1 i2 => exact .fn f fs cs vf vc h1 h2 i1 i2
  | nilm => exact .nilm
  | map b => exact .map b

/-- What a cell of a box, or a part of a call's result, holds: a value that may be shared, or a slice that may be appended to here alone. -/
inductive RV where
  | sv (v : SV)
  | own (sz : Nat) (xs : List SV)
  deriving Inhabited
def RV.share : RV → SV
  | .sv v => v
  | .own sz xs => .sl sz xs

/-- What a closure has captured: a pointer to a box, or to a pointer to one that stays. -/
inductive Cap where
  | bp (s off : Nat)
  | pp (s off : Nat)
  deriving Inhabited, DecidableEq
def Cap.name : Cap → Nat
  | .bp s _ => s
  | .pp s _ => s

inductive LV where
  | sv (v : SV)
  | own (sz : Nat) (xs : List SV)
  | lptr (s off : Nat)
  | lsl (s sz off n cap : Nat)
  | tup (vs : List RV)
  | siter (s : ByteArray) (pos : Nat)
  | arr (sz : Nat) (xs : List SV)
  | pn
  | pp (s off : Nat)
  | clo (f : FuncId) (nf : Nat) (caps : List Cap)
  | gd (g : Bool) (v : LV)
  deriving Inhabited
def RV.lv : RV → LV
  | .sv v => .sv v
  | .own sz xs => .own sz xs

inductive Place where
  | slot (s i : Nat)
  | cell (s j : Nat)
  deriving DecidableEq

structure Gh where
  mu : Mem
  x : Nat → Option Place
  bx : Nat → Option Nat
  okx : Nat → Prop
  okb : Nat → Prop := fun _ => False

def Unfrozen (c : Array Value) (fr : Nat × Nat) : Prop := fr.1 = fr.2 ∨ c.size ≤ fr.1
theorem Unfrozen.not {c : Array Value} {fr : Nat × Nat} (h : Unfrozen c fr) : ∀ j, j < c.size → ¬ (fr.1 ≤ j ∧ j < fr.2) := by
  intro j hj
  rcases h with h | h <;> omega
theorem Unfrozen.size {c c' : Array Value} {fr : Nat × Nat} (h : Unfrozen c fr) (e : c'.size = c.size) : Unfrozen c' fr := by
  rcases h with h | h
  · exact .inl h
  · exact .inr (by omega)

/-- A slice with n elements at this address, and a block's spare room behind it. -/
def Spare (mu : Mem) (w : World) (b from_ upto : Nat) : Prop :=
  (∃ c e fr, w.heap[b]? = some (.cells c e fr) ∧ upto ≤ c.size ∧ Unfrozen c fr) ∧ ∀ j, from_ ≤ j → mu b j = none

def OwnAt (g : Gh) (w : World) (p : Place) (sz : Nat) (xs : List SV) (val : Value) : Prop :=
  (Rep g.mu (.sl sz xs) val ∧ val = .slice none 0 0) ∨
  ∃ b off cap, val = .slice (some ⟨b, off, none⟩) xs.length cap ∧ Rep g.mu (.sl sz xs) val ∧ g.x b = some p ∧ g.okx b ∧ Spare g.mu w b (off + xs.length * sz) (off + cap * sz)

/-- A slice that stands over a whole array of the frame's own, which is not in the memory. -/
def ArrAt (mu : Mem) (w : World) (sz : Nat) (xs : List SV) (val : Value) (b : Nat) : Prop :=
  ∃ off cap c e fr, val = .slice (some ⟨b, off, none⟩) xs.length cap ∧ (∀ j, mu b j = none) ∧ w.heap[b]? = some (.cells c e fr) ∧ Unfrozen c fr ∧ xs.length ≤ cap ∧ off + cap * sz ≤ c.size ∧
    ∀ i j, i < xs.length → j < sz → Rep mu ((xs.getD i .undef).cell j) (c.getD (off + i * sz + j) Go.undef)

def RepR (g : Gh) (w : World) (p : Place) : RV → Value → Prop
  | .sv v, val => Rep g.mu v val
  | .own sz xs, val => OwnAt g w p sz xs val

def RepC (g : Gh) : Cap → Value → Prop
  | .bp s off, v => ∃ b, g.bx s = some b ∧ v = .pointer (some ⟨b, off, none⟩)
  | .pp s off, v => ∃ b0 o0 b, v = .pointer (some ⟨b0, o0, none⟩) ∧ g.mu b0 o0 = some (.pointer (some ⟨b, off, none⟩)) ∧ g.bx s = some b
theorem RepC.keeps {g g' : Gh} (hmu : g.mu.le g'.mu) (hbx : ∀ t, g'.bx t = g.bx t) {c : Cap} {v : Value} (h : RepC g c v) : RepC g' c v := by
  cases c with
  | bp s off => obtain ⟨b, h1, h2⟩ := h; exact ⟨b, by rw [hbx]; exact h1, h2⟩
  | pp s off => obtain ⟨b0, o0, b, h1, h2, h3⟩ := h; exact ⟨b0, o0, b, h1, hmu _ _ _ h2, by rw [hbx]; exact h3⟩

def RepL (g : Gh) (w : World) (s : Nat) : LV → Value → Prop
  | .sv v, val => Rep g.mu v val
  | .own sz xs, val => OwnAt g w (.slot s 0) sz xs val
  | .lptr t off, val => ∃ b, g.bx t = some b ∧ val = .pointer (some ⟨b, off, none⟩)
  | .lsl t _ off n cap, val => ∃ b, g.bx t = some b ∧ val = .slice (some ⟨b, off, none⟩) n cap
  | .tup vs, val => ∃ us : List Value, val = .tuple us.toArray ∧ us.length = vs.length ∧ ∀ j, j < vs.length → RepR g w (.slot s j) (vs.getD j (.sv .undef)) (us.getD j Go.undef)
  | .siter t pos, val => ∃ b, val = .pointer (some ⟨b, 0, none⟩) ∧ g.x b = some (.slot s 0) ∧ g.okx b ∧ (∀ j, g.mu b j = none) ∧ w.heap[b]? = some (.stringIter t pos)
  | .arr sz xs, val => (xs = [] ∧ val = .slice none 0 0) ∨ ∃ b, g.x b = some (.slot s 0) ∧ g.okx b ∧ ArrAt g.mu w sz xs val b
  | .pn, val => ∃ b, val = .pointer (some ⟨b, 0, none⟩) ∧ g.x b = some (.slot s 0) ∧ g.okx b ∧ (∀ j, g.mu b j = none) ∧ ∃ e fr, w.heap[b]? = some (.cells #[.pointer none] e fr) ∧ Unfrozen #[Value.pointer none] fr
  | .pp t off, val => RepC g (.pp t off) val
  | .clo f nf caps, val => ∃ us : List Value, val = .func (.func f) (us.take nf).toArray (us.drop nf).toArray ∧ us.length = caps.length ∧ ∀ j, j < caps.length → RepC g (caps.getD j default) (us.getD j Go.undef)
  | .gd c v, val => (c = true → RepL g w s v val) ∧ (c = false → val = Go.undef)

theorem OwnAt.share {g : Gh} {w : World} {p : Place} {sz : Nat} {xs : List SV} {val : Value} (h : OwnAt g w p sz xs val) : Rep g.mu (.sl sz xs) val := by
  rcases h with ⟨h, _⟩ | ⟨b, off, cap, rfl, hr, _⟩
  · exact h
  · exact hr
theorem RepR.share {g : Gh} {w : World} {p : Place} {r : RV} {val : Value} (h : RepR g w p r val) : Rep g.mu r.share val := by
  cases r with
  | sv v => exact h
  | own sz xs => exact OwnAt.share h

/-- How ghosts and worlds may go on, so that what stands at a place stands on. -/
structure Keeps (g : Gh) (w : World) (g' : Gh) (w' : World) (p : Place) : Prop where
  mu : g.mu.le g'.mu
  x : ∀ b, g.x b = some p → g'.x b = some p ∧ w'.heap[b]? = w.heap[b]? ∧ ∀ j, g.mu b j = none → g'.mu b j = none
  okx : g'.okx = g.okx

theorem OwnAt.keeps {g g' : Gh} {w w' : World} {p : Place} {sz : Nat} {xs : List SV} {val : Value} (k : Keeps g w g' w' p) (h : OwnAt g w p sz xs val) : OwnAt g' w' p sz xs val := by
  rcases h with h | ⟨b, off, cap, hv, hr, hx, hB, ⟨c, e, fr, hb, hc, hf⟩, hm⟩
  · exact .inl ⟨h.1.mono k.mu, h.2⟩
  · obtain ⟨k1, k2, k3⟩ := k.x b hx
    exact .inr ⟨b, off, cap, hv, hr.mono k.mu, k1, by rw [k.okx]; exact hB, ⟨c, e, fr, k2.trans hb, hc, hf⟩, fun j hj => k3 j (hm j hj)⟩
theorem RepR.keeps {g g' : Gh} {w w' : World} {p : Place} {r : RV} {val : Value} (k : Keeps g w g' w' p) (h : RepR g w p r val) : RepR g' w' p r val := by
  cases r with
  | sv v => exact Rep.mono k.mu h
  | own sz xs => exact OwnAt.keeps k h
theorem RepL.keeps {g g' : Gh} {w w' : World} {s : Nat} {lv : LV} {val : Value} (k : ∀ i, Keeps g w g' w' (.slot s i))
    (hbx : ∀ t, g'.bx t = g.bx t) (h : RepL g w s lv val) : RepL g' w' s lv val := by
  induction lv with
  | gd c v ih => exact ⟨fun hc => ih (h.1 hc), h.2⟩
  | sv v => exact Rep.mono (k 0).mu h
  | own sz xs => exact OwnAt.keeps (k 0) h
  | lptr t off => obtain ⟨b, h1, h2⟩ := h; exact ⟨b, by rw [hbx t]; exact h1, h2⟩
  | lsl t z off n cap => obtain ⟨b, h1, h2⟩ := h; exact ⟨b, by rw [hbx t]; exact h1, h2⟩
  | tup vs => obtain ⟨us, h1, h2, h3⟩ := h; exact ⟨us, h1, h2, fun j hj => RepR.keeps (k j) (h3 j hj)⟩
  | siter t pos =>
    obtain ⟨b, h1, h2, h3, h4, h5⟩ := h
    obtain ⟨k1, k2, k3⟩ := (k 0).x b h2
    exact ⟨b, h1, k1, by rw [(k 0).okx]; exact h3, fun j => k3 j (h4 j), k2.trans h5⟩
  | pn =>
    obtain ⟨b, h1, h2, h3, h4, e, fr, h5, h6⟩ := h
    obtain ⟨k1, k2, k3⟩ := (k 0).x b h2
    exact ⟨b, h1, k1, by rw [(k 0).okx]; exact h3, fun j => k3 j (h4 j), e, fr, k2.trans h5, h6⟩
  | pp t off => exact RepC.keeps (k 0).mu hbx h
  | clo f nf caps => obtain ⟨us, h1, h2, h3⟩ := h; exact ⟨us, h1, h2, fun j hj => RepC.keeps (k 0).mu hbx (h3 j hj)⟩
  | arr sz xs =>
    rcases h with h | ⟨b, h2, h3, off, cap, c, e, fr, a1, a2, a3, a4, a5, a6, a7⟩
    · exact .inl h
    · obtain ⟨k1, k2, k3⟩ := (k 0).x b h2
      exact .inr ⟨b, k1, by rw [(k 0).okx]; exact h3, off, cap, c, e, fr, a1, fun j => k3 j (a2 j), k2.trans a3, a4, a5, a6, fun i j hi hj => (a7 i j hi hj).mono (k 0).mu⟩

def lk : List (Nat × LV) → Nat → LV
  | [], _ => .sv .undef
  | (s, v) :: r, t => if s = t then v else lk r t
def lkb : List (Nat × List RV) → Nat → Option (List RV)
  | [], _ => none
  | (s, v) :: r, t => if s = t then some v else lkb r t

abbrev Hp := Nat → Option (List SV)
def Hp.set (h : Hp) (b : Nat) (c : List SV) : Hp := fun b' => if b' = b then some c else h b'

structure St where
  n : Nat
  sl : List (Nat × LV)
  bx : List (Nat × List RV)
  hp : Hp

def BoxAt (g : Gh) (w : World) (s b : Nat) (cells : List RV) : Prop :=
  g.okb b ∧ (∀ j, g.mu b j = none) ∧ g.x b = none ∧ ∃ c e fr, w.heap[b]? = some (.cells c e fr) ∧ Unfrozen c fr ∧ c.size = cells.length ∧
    ∀ j, j < cells.length → RepR g w (.cell s j) (cells.getD j (.sv .undef)) (c.getD j Go.undef)

def HeapAt (mu : Mem) (w : World) (b : Nat) (cells : List SV) : Prop :=
  (∀ j, mu b j = none) ∧ ∃ c e fr, w.heap[b]? = some (.cells c e fr) ∧ Unfrozen c fr ∧ c.size = cells.length ∧
    ∀ j, j < cells.length → Rep mu (cells.getD j .undef) (c.getD j Go.undef)

/-- Blocks that were there stay, but for some. -/
structure Ext (T : Nat → Prop) (w w' : World) : Prop where
  os : w'.os = w.os
  tape : w'.tape = w.tape
  output : w'.output = w.output
  size : w.heap.size ≤ w'.heap.size
  block : ∀ k, k < w.heap.size → ¬ T k → w'.heap[k]? = w.heap[k]?

theorem Ext.refl (T : Nat → Prop) (w : World) : Ext T w w := ⟨rfl, rfl, rfl, Nat.le_refl _, fun _ _ _ => rfl⟩
theorem Ext.trans {T : Nat → Prop} {a b c : World} (h : Ext T a b) (k : Ext T b c) : Ext T a c :=
  ⟨k.os.trans h.os, k.tape.trans h.tape, k.output.trans h.output, Nat.le_trans h.size k.size, fun i hi ht => (k.block i (Nat.lt_of_lt_of_le hi h.size) ht).trans (h.block i hi ht)⟩

def MemOK (mu : Mem) (w : World) : Prop := ∀ b j v, mu b j = some v → w.cell? ⟨b, j, none⟩ = some v ∧ v.oneCell' = true
theorem MemOK.lt {mu : Mem} {w : World} (h : MemOK mu w) {b j : Nat} {v : Value} (e : mu b j = some v) : b < w.heap.size := World.block_lt_of_cell? w ⟨b, j, none⟩ (h b j v e).1

theorem Ext.mono {T T' : Nat → Prop} {a b : World} (h : Ext T a b) (k : ∀ i, T i → T' i) : Ext T' a b := ⟨h.os, h.tape, h.output, h.size, fun i hi ht => h.block i hi (fun q => ht (k i q))⟩
theorem Ext.frozen {T : Nat → Prop} {w w' : World} (h : Ext T w w') (a : Addr) (ha : a.block < w.heap.size) (ht : ¬ T a.block) : w'.frozen? a = w.frozen? a := by
  simp only [World.frozen?]; rw [h.block _ ha ht]

/-- What a call works on: objects, by the names of their boxes, and arrays that it may append to. -/
structure Tc where
  bx : Nat → Option Nat
  ar : Nat → Prop
def Tc.none : Tc := ⟨fun _ => .none, fun _ => False⟩
def TB (T : Tc) (b : Nat) : Prop := ∃ s, T.bx s = some b
def TP (T : Tc) (b : Nat) : Prop := TB T b ∨ T.ar b

structure Sim (w0 : World) (mu0 : Mem) (T : Tc) (g : Gh) (st : St) (a : Act) (w : World) : Prop where
  size : a.tmps.size = st.n
  defers : a.defers = []
  slots : ∀ s, RepL g w s (lk st.sl s) (a.tmps.getD s Go.undef)
  boxes : ∀ s cells, lkb st.bx s = some cells → ∃ b, g.bx s = some b ∧ BoxAt g w s b cells
  bxinj : ∀ s s' b, g.bx s = some b → g.bx s' = some b → s = s'
  heap : ∀ b cells, st.hp b = some cells → HeapAt g.mu w b cells ∧ g.x b = none ∧ (∀ s, g.bx s ≠ some b) ∧ (b < w0.heap.size → TB T b)
  mem : MemOK g.mu w
  mem0 : ∀ b j, b < w0.heap.size → ¬ T.ar b → g.mu b j = mu0 b j
  mule : mu0.le g.mu
  ext : Ext (TP T) w0 w
  okx : g.okx = fun b => b < w0.heap.size → T.ar b
  xlt : ∀ b p, g.x b = some p → b < w.heap.size
  blt : ∀ s b, g.bx s = some b → b < w.heap.size
  bxx : ∀ s b p, g.x b = some p → g.bx s ≠ some b
  okb : g.okb = fun b => b < w0.heap.size → TB T b
  pin : ∀ s b, T.bx s = some b → g.bx s = some b ∧ (s = 0 ∨ st.n ≤ s)
theorem Sim.okNew {w0 : World} {mu0 : Mem} {T : Tc} {g : Gh} {st : St} {a : Act} {w : World} (h : Sim w0 mu0 T g st a w) {b : Nat} (hb : w.heap.size ≤ b) : g.okx b := by
  rw [h.okx]; intro q; have := h.ext.size; omega
end Go.Av

namespace Go.Av
variable {w0 : World} {mu0 : Mem} {T : Tc} {g g' : Gh} {st : St} {a : Act} {w w' : World}

theorem lk_cons_same (s : Nat) (v : LV) (r : List (Nat × LV)) : lk ((s, v) :: r) s = v := by simp [lk]
theorem lk_cons_other {s t : Nat} (v : LV) (r : List (Nat × LV)) (h : s ≠ t) : lk ((s, v) :: r) t = lk r t := by simp [lk, h]
theorem lkb_cons_same (s : Nat) (v : List RV) (r : List (Nat × List RV)) : lkb ((s, v) :: r) s = some v := by simp [lkb]
theorem lkb_cons_other {s t : Nat} (v : List RV) (r : List (Nat × List RV)) (h : s ≠ t) : lkb ((s, v) :: r) t = lkb r t := by simp [lkb, h]

theorem RepL.keeps' {s : Nat} {lv : LV} {val : Value} (hmu : g.mu.le g'.mu)
    (hx : ∀ b i, g.x b = some (.slot s i) → g'.x b = some (.slot s i) ∧ w'.heap[b]? = w.heap[b]? ∧ ∀ j, g.mu b j = none → g'.mu b j = none) (hB : g'.okx = g.okx)
    (hbx : ∀ t, g'.bx t = g.bx t) (h : RepL g w s lv val) : RepL g' w' s lv val :=
  RepL.keeps (fun i => ⟨hmu, fun b e => hx b i e, hB⟩) hbx h

/-- The world and the ghost go on; what is in use stays. -/
theorem Sim.grow (h : Sim w0 mu0 T g st a w) (hmu : g.mu.le g'.mu)
    (hkeep : ∀ b, (g.x b ≠ none ∨ (∃ s, g.bx s = some b) ∨ st.hp b ≠ none) → w'.heap[b]? = w.heap[b]? ∧ ∀ j, g.mu b j = none → g'.mu b j = none)
    (hx : ∀ b, g.x b ≠ none → g'.x b = g.x b)
    (hxn : ∀ b, g.x b = none → g'.x b ≠ none → (∀ s, g.bx s ≠ some b) ∧ st.hp b = none ∧ b < w'.heap.size)
    (hmem : MemOK g'.mu w') (hm0 : ∀ b j, b < w0.heap.size → ¬ T.ar b → g'.mu b j = g.mu b j) (hext : Ext (TP T) w0 w') (hbx : ∀ t, g'.bx t = g.bx t) (hB : g'.okx = g.okx)
    (hsz : w.heap.size ≤ w'.heap.size) (hok : g'.okb = g.okb := by rfl) : Sim w0 mu0 T g' st a w' := by
  have hkx : ∀ b p, g.x b = some p → g'.x b = some p ∧ w'.heap[b]? = w.heap[b]? ∧ ∀ j, g.mu b j = none → g'.mu b j = none := fun b p e => by
    have hne : g.x b ≠ none := by rw [e]; simp
    obtain ⟨k1, k2⟩ := hkeep b (.inl hne)
    exact ⟨(hx b hne).trans e, k1, k2⟩
  constructor
  · exact h.size
  · exact h.defers
  · intro s
    exact RepL.keeps' hmu (fun b i e => hkx b _ e) hB hbx (h.slots s)
  · intro s cells hc
    obtain ⟨b, hb, h1, h2, h3, c, e, fr, h4, h5, h6, h7⟩ := h.boxes s cells hc
    obtain ⟨k1, k2⟩ := hkeep b (.inr (.inl ⟨s, hb⟩))
    refine ⟨b, (hbx s).trans hb, hok ▸ h1, fun j => k2 j (h2 j), ?_, c, e, fr, k1.trans h4, h5, h6, fun j hj => ?_⟩
    · cases hg : g'.x b with
      | none => rfl
      | some p => exact absurd hb ((hxn b h3 (by rw [hg]; simp)).1 s)
    · exact RepR.keeps ⟨hmu, fun b e => hkx b _ e, hB⟩ (h7 j hj)
  · intro s s' b e1 e2
    rw [hbx] at e1 e2
    exact h.bxinj s s' b e1 e2
  · intro b cells hc
    obtain ⟨⟨h1, c, e, fr, h2, h3, h4, h5⟩, h6, h7, h8⟩ := h.heap b cells hc
    obtain ⟨k1, k2⟩ := hkeep b (.inr (.inr (by rw [hc]; simp)))
    refine ⟨⟨fun j => k2 j (h1 j), c, e, fr, k1.trans h2, h3, h4, fun j hj => (h5 j hj).mono hmu⟩, ?_, fun s => by rw [hbx]; exact h7 s, h8⟩
    cases hg : g'.x b with
    | none => rfl
    | some p => exact absurd (hxn b h6 (by rw [hg]; simp)).2.1 (by rw [hc]; simp)
  · exact hmem
  · intro b j hb ha
    rw [hm0 b j hb ha]; exact h.mem0 b j hb ha
  · exact Mem.le_trans h.mule hmu
  · exact hext
  · exact hB.trans h.okx
  · intro b p e
    by_cases hg : g.x b = none
    · exact (hxn b hg (by rw [e]; simp)).2.2
    · obtain ⟨q, hq⟩ := Option.ne_none_iff_exists'.1 hg
      exact Nat.lt_of_lt_of_le (h.xlt b q hq) hsz
  · intro s b e
    rw [hbx] at e
    exact Nat.lt_of_lt_of_le (h.blt s b e) hsz
  · intro s b p e
    rw [hbx]
    by_cases hg : g.x b = none
    · exact (hxn b hg (by rw [e]; simp)).1 s
    · obtain ⟨q, hq⟩ := Option.ne_none_iff_exists'.1 hg
      exact h.bxx s b q hq
  · exact hok.trans h.okb
  · intro s b hb; rw [hbx]; exact h.pin s b hb

/-- The ghost world stays but for draws. -/
theorem Sim.drew (h : Sim w0 mu0 T g st a w) : Sim w0 mu0 T g st a w.drew :=
  h.grow (g' := g) (Mem.le_refl _) (fun _ _ => ⟨rfl, fun _ e => e⟩) (fun _ _ => rfl) (fun b e1 e2 => absurd e1 e2) (fun b j v e => by simpa using h.mem b j v e) (fun _ _ _ _ => rfl)
    (h.ext.trans ⟨rfl, rfl, rfl, Nat.le_refl _, fun _ _ _ => rfl⟩) (fun _ => rfl) rfl (Nat.le_refl _)

theorem getD_put {n d s : Nat} {v : Value} (hs : a.tmps.size = n) (hd : d < n) : (a.put (some d) v).tmps.getD s Go.undef = if s = d then v else a.tmps.getD s Go.undef := by
  simp only [Act.put, Array.getD_eq_getD_getElem?, Array.getElem?_setIfInBounds]
  by_cases h : d = s
  · subst h; simp [hs, hd]
  · have h' : ¬ s = d := fun e => h e.symm
    simp [h, h']

/-- A slot gets something. -/
theorem Sim.put (h : Sim w0 mu0 T g st a w) {d : Nat} (hd : d < st.n) {lv : LV} {val : Value} (hv : RepL g w d lv val) :
    Sim w0 mu0 T g { st with sl := (d, lv) :: st.sl } (a.put (some d) val) w := by
  constructor
  · simpa [Act.put] using h.size
  · simpa [Act.put] using h.defers
  · intro s
    simp only []
    rw [getD_put h.size hd]
    by_cases e : s = d
    · subst e; simpa [lk] using hv
    · have e' : ¬ d = s := fun x => e x.symm
      simpa [lk, e, e'] using h.slots s
  · exact h.boxes
  · exact h.bxinj
  · exact h.heap
  · exact h.mem
  · exact h.mem0
  · exact h.mule
  · exact h.ext
  · exact h.okx
  · exact h.xlt
  · exact h.blt
  · exact h.bxx
  · exact h.okb
  · exact h.pin

/-- Less may be known of a slot. -/
theorem Sim.weaken (h : Sim w0 mu0 T g st a w) {d : Nat} {lv : LV} (hv : RepL g w d (lk st.sl d) (a.tmps.getD d Go.undef) → RepL g w d lv (a.tmps.getD d Go.undef)) :
    Sim w0 mu0 T g { st with sl := (d, lv) :: st.sl } a w := by
  constructor
  · exact h.size
  · exact h.defers
  · intro s
    by_cases e : d = s
    · subst e; simpa [lk] using hv (h.slots d)
    · simpa [lk, e] using h.slots s
  · exact h.boxes
  · exact h.bxinj
  · exact h.heap
  · exact h.mem
  · exact h.mem0
  · exact h.mule
  · exact h.ext
  · exact h.okx
  · exact h.xlt
  · exact h.blt
  · exact h.bxx
  · exact h.okb
  · exact h.pin

/-- A slot's slice is shared from now on: its block is nobody's. -/
theorem Sim.disown (h : Sim w0 mu0 T g st a w) {t sz : Nat} {xs : List SV} {b off cap : Nat} (hl : lk st.sl t = .own sz xs)
    (hval : a.tmps.getD t Go.undef = .slice (some ⟨b, off, none⟩) xs.length cap) (hx : g.x b = some (.slot t 0)) :
    Sim w0 mu0 T { g with x := fun b' => if b' = b then none else g.x b' } { st with sl := (t, .sv (.sl sz xs)) :: st.sl } a w := by
  have hne : ∀ b' p, p ≠ Place.slot t 0 → g.x b' = some p → (if b' = b then none else g.x b') = some p := fun b' p hp e => by
    have : b' ≠ b := fun e' => hp (by subst e'; rw [hx] at e; cases e; rfl)
    simp [this, e]
  constructor
  · exact h.size
  · exact h.defers
  · intro s
    by_cases e : t = s
    · subst e
      have hs := h.slots t
      rw [hl] at hs
      simp only [lk, if_true]
      exact OwnAt.share (g := g) hs
    · have hs := h.slots s
      simp only [lk, e, if_false]
      exact RepL.keeps' (g := g) (g' := { g with x := fun b' => if b' = b then none else g.x b' }) (Mem.le_refl _) (fun b' i e' => ⟨hne b' _ (by intro q; cases q; exact e rfl) e', rfl, fun _ q => q⟩) rfl (fun _ => rfl) hs
  · intro s cells hc
    obtain ⟨b', hb, h1, h2, h3, c, e, fr, h4, h5, h6, h7⟩ := h.boxes s cells hc
    refine ⟨b', hb, h1, h2, by simp [h3], c, e, fr, h4, h5, h6, fun j hj => RepR.keeps (g := g) ⟨Mem.le_refl _, fun b'' e' => ⟨hne b'' _ (by intro q; cases q) e', rfl, fun _ q => q⟩, rfl⟩ (h7 j hj)⟩
  · exact h.bxinj
  · intro b' cells hc
    obtain ⟨h1, h2, h3⟩ := h.heap b' cells hc
    exact ⟨h1, by simp [h2], h3⟩
  · exact h.mem
  · exact h.mem0
  · exact h.mule
  · exact h.ext
  · exact h.okx
  · intro b' p e
    by_cases q : b' = b
    · simp [q] at e
    · simp [q] at e; exact h.xlt b' p e
  · exact h.blt
  · intro s b' p e
    by_cases q : b' = b
    · simp [q] at e
    · simp [q] at e; exact h.bxx s b' p e
  · exact h.okb
  · exact h.pin
end Go.Av

namespace Go.Av

inductive AO where
  | t (s : Nat)
  | c (v : SV)
  deriving Inhabited

inductive AK where
  | mv (o : AO)
  | take (s : Nat)
  | mark (s : Nat)
  | pick (c a b : AO)
  | bin (op : BinOp) (x y : AO)
  | una (op : UnOp) (x : AO)
  | eqn (sl neg : Bool) (x : AO)
  | beq (neg : Bool) (x y : AO)
  | eqs (ks : List Nat) (neg : Bool) (x y : AO)
  | conv (k : IntKind) (x : AO)
  | b2s (x : AO)
  | s2b (x : AO)
  | len (str : Bool) (x : AO)
  | minmax (mx : Bool) (x y : AO)
  | minmax3 (mx : Bool) (x y z : AO)
  | loadP (x : AO)
  | slc (str : Bool) (sz : Nat) (x : AO) (lo hi : Option AO)
  | slc3 (sz : Nat) (x : AO) (lo : Option AO) (hi : AO)
  | faddr (x : AO) (off : Nat)
  | fld (x : AO) (off : Nat) (n : Option Nat)
  | iaddr (sz : Nat) (x i : AO)
  | iaddrA (len sz : Nat) (x i : AO)
  | idx (x i : AO)
  | idxA (len sz : Nat) (n : Option Nat) (x i : AO)
  | ext (s i : Nat)
  | extS (s i : Nat)
  | mkfn (f : FuncId) (first caps : List AO)
  | nilc (x : AO)
  | load (n : Option Nat) (x : AO)
  | takeLoad (x : AO)
  | build (zero : List SV) (parts : List (Nat × Nat × AO))
  | bsl (sz n : Nat) (zero : List SV) (parts : List (Nat × AO))
  | app (sz bytes : Nat) (s : Nat) (y : AO)
  | appS (s : Nat) (y : AO)
  | mks (sz bytes : Nat) (zero : List SV) (l : AO)
  | box (n : Nat) (x : AO)
  | alloc (zero : List SV)
  | store (n : Nat) (x v : AO)
  | storeO (x : AO) (s : Nat)
  | call (f : FuncId) (args : List AO)
  | callE (f : FuncId) (x : AO) (args : List AO)
  | callN (f : FuncId) (args : List AO)
  | callV (x : AO) (args : List AO)
  | rng (x : AO)
  | nxt (s : Nat)
  deriving Inhabited

structure AOp where
  dst : Option Nat
  guard : Option (Nat × Bool)
  k : AK
  deriving Inhabited

/-- A value and the condition under which it is known. -/
def LV.gv : LV → Bool × LV
  | .gd g v => (g && v.gv.1, v.gv.2)
  | v => (true, v)

def rdl (st : St) : AO → Bool × LV
  | .t s => (lk st.sl s).gv
  | .c v => (true, .sv v)

def LV.sh? : LV → Option SV
  | .sv v => some v
  | .own sz xs => some (.sl sz xs)
  | _ => none

def rd (st : St) (o : AO) : Option (Bool × SV) := (rdl st o).2.sh?.map fun v => ((rdl st o).1, v)

def gOf (st : St) : Option (Nat × Bool) → Option Bool
  | none => some true
  | some (s, want) => match (lk st.sl s).gv with
    | (g, .sv (.bool b)) => some (g && (b == want))
    | (false, .sv .undef) => some false
    | _ => none

/-- What is asked, and what comes out. -/
abbrev Ev := Option (Prop × LV)

def ev1 (st : St) (x : AO) (f : SV → Ev) : Ev :=
  match rd st x with
  | some (g, v) => match f v with
    | some (c, r) => some (g = true ∧ c, r)
    | none => none
  | none => none
def ev2 (st : St) (x y : AO) (f : SV → SV → Ev) : Ev := ev1 st x fun v => ev1 st y fun u => f v u

def ev3 (st : St) (x y z : AO) (f : SV → SV → SV → Ev) : Ev := ev1 st x fun v => ev2 st y z (f v)

def binV (op : BinOp) : SV → SV → Ev
  | .int k a, .int k' b =>
    match op with
    | .shl => some (0 ≤ b, .sv (.int k (k.wrap (a * 2 ^ min b.toNat k.bits))))
    | .shr => some (0 ≤ b, .sv (.int k (a.fdiv (2 ^ min b.toNat k.bits))))
    | .add => if k = k' then some (True, .sv (.int k (k.wrap (a + b)))) else none
    | .sub => if k = k' then some (True, .sv (.int k (k.wrap (a - b)))) else none
    | .mul => if k = k' then some (True, .sv (.int k (k.wrap (a * b)))) else none
    | .quo => if k = k' then some (b ≠ 0, .sv (.int k (k.wrap (a.tdiv b)))) else none
    | .rem => if k = k' then some (b ≠ 0, .sv (.int k (a.tmod b))) else none
    | .and => if k = k' then some (True, .sv (.int k (k.wrap (BitVec.ofInt k.bits a &&& BitVec.ofInt k.bits b).toNat))) else none
    | .or => if k = k' then some (True, .sv (.int k (k.wrap (BitVec.ofInt k.bits a ||| BitVec.ofInt k.bits b).toNat))) else none
    | .xor => if k = k' then some (True, .sv (.int k (k.wrap (BitVec.ofInt k.bits a ^^^ BitVec.ofInt k.bits b).toNat))) else none
    | .andNot => none
    | .eql => if k = k' then some (True, .sv (.bool (a == b))) else none
    | .neq => if k = k' then some (True, .sv (.bool (a != b))) else none
    | .lss => if k = k' then some (True, .sv (.bool (a < b))) else none
    | .leq => if k = k' then some (True, .sv (.bool (a ≤ b))) else none
    | .gtr => if k = k' then some (True, .sv (.bool (a > b))) else none
    | .geq => if k = k' then some (True, .sv (.bool (a ≥ b))) else none
  | .str a, .str b =>
    match op with
    | .add => some (((a.size + b.size : Nat) : Int) ≤ 9223372036854775807, .sv (.str (a ++ b)))
    | .eql => some (True, .sv (.bool (a.toList == b.toList)))
    | .neq => some (True, .sv (.bool (!(a.toList == b.toList))))
    | .lss => some (True, .sv (.bool (Op.bytesLess a.toList b.toList)))
    | .leq => some (True, .sv (.bool (Op.bytesLess a.toList b.toList || a.toList == b.toList)))
    | .gtr => some (True, .sv (.bool (!(Op.bytesLess a.toList b.toList || a.toList == b.toList))))
    | .geq => some (True, .sv (.bool (!(Op.bytesLess a.toList b.toList))))
    | _ => none
  | _, _ => none

def unaV (op : UnOp) : SV → Ev
  | .bool b => match op with | .not => some (True, .sv (.bool (!b))) | _ => none
  | .int k n => match op with
    | .neg => some (True, .sv (.int k (k.wrap (0 - n))))
    | .xor => some (True, .sv (.int k (k.wrap (BitVec.ofInt k.bits (if k.signed then -1 else k.max) ^^^ BitVec.ofInt k.bits n).toNat)))
    | _ => none
  | _ => none

def lenV : Bool → SV → Ev
  | true, .str s => some (True, .sv (.int .i64 s.size))
  | false, .nils => some (True, .sv (.int .i64 0))
  | false, .sl _ xs => some (True, .sv (.int .i64 xs.length))
  | _, _ => none

def minmaxV (mx : Bool) : SV → SV → Ev
  | .int k a, .int k' b => if k = k' then some (True, .sv (.int k (if mx then (if b > a then b else a) else (if b < a then b else a)))) else none
  | _, _ => none

def mmI (mx : Bool) (a b : Int) : Int := if mx then (if b > a then b else a) else (if b < a then b else a)
def minmax3V (mx : Bool) : SV → SV → SV → Ev
  | .int k a, .int k' b, .int k'' c => if k = k' ∧ k = k'' then some (True, .sv (.int k (mmI mx (mmI mx a b) c))) else none
  | _, _, _ => none
/-- The part of a value's cells. -/
def partV (cs : List SV) (off : Nat) : Option Nat → SV
  | none => cs.getD off .undef
  | some n => .agg ((cs.drop off).take n)

def idxAV (len sz : Nat) (n : Option Nat) : SV → SV → Ev
  | .agg cs, .int _ j => some (0 ≤ j ∧ j < len ∧ j.toNat * sz + n.getD 1 ≤ cs.length, .sv (partV cs (j.toNat * sz) n))
  | _, _ => none

def faddrV (off : Nat) : LV → Ev
  | .lptr s o => some (True, .lptr s (o + off))
  | .sv (.ptr b o) => some (True, .sv (.ptr b (o + off)))
  | .sv (.eptr e k) => some (True, .sv (.eptr e (k + off)))
  | _ => none

def iaddrV (sz : Nat) : SV → SV → Ev
  | .sl z xs, .int _ i => if z = sz then some (0 ≤ i ∧ i < xs.length, .sv (.eptr (xs.getD i.toNat .undef) 0)) else none
  | _, _ => none

def iaddrAV (len sz : Nat) (p : LV) : SV → Ev
  | .int _ i => match p with
    | .lptr s o => some (0 ≤ i ∧ i < len, .lptr s (o + i.toNat * sz))
    | .sv (.ptr b o) => some (0 ≤ i ∧ i < len, .sv (.ptr b (o + i.toNat * sz)))
    | .sv (.eptr e k) => some (0 ≤ i ∧ i < len, .sv (.eptr e (k + i.toNat * sz)))
    | _ => none
  | _ => none

def idxV : SV → SV → Ev
  | .str s, .int _ i => some (0 ≤ i ∧ i < s.size, .sv (.int .u8 (s.data.toList.getD i.toNat 0).toNat))
  | _, _ => none

def optI (st : St) (d : Int) : Option AO → Option (Bool × Int)
  | none => some (true, d)
  | some o => match rd st o with
    | some (g, .int _ i) => some (g, i)
    | _ => none

def slcV (sz' : Nat) (lo hi : Int) : SV → Ev
  | .str s => some (0 ≤ lo ∧ lo ≤ hi ∧ hi ≤ s.size, .sv (.str (s.extract lo.toNat hi.toNat)))
  | .sl sz xs => if sz = sz' then some (0 ≤ lo ∧ lo ≤ hi ∧ hi ≤ xs.length, .sv (.sl sz ((xs.drop lo.toNat).take (hi.toNat - lo.toNat)))) else none
  | .nils => some (lo = 0 ∧ hi = 0, .sv .nils)
  | _ => none

def loadV (st : St) (n : Option Nat) : LV → Ev
  | .lptr s o => match lkb st.bx s with
    | some cells => some (o + n.getD 1 ≤ cells.length, .sv (partV (cells.map RV.share) o n))
    | none => none
  | .sv (.ptr b o) => match st.hp b with
    | some cells => some (o + n.getD 1 ≤ cells.length, .sv (partV cells o n))
    | none => none
  | .sv (.eptr e k) => some (k + n.getD 1 ≤ e.nc, .sv (partV e.cells k n))
  | _ => none

def setL : List SV → Nat → List SV → List SV
  | cells, _, [] => cells
  | cells, off, v :: vs => setL (cells.set off v) (off + 1) vs
/-- Laying parts over cells. -/
def layV : List SV → List (Nat × List SV) → List SV
  | cells, [] => cells
  | cells, (off, vs) :: r => layV (setL cells off vs) r

def SV.known : SV → Bool
  | .undef => false
  | _ => true

def evParts (st : St) : List (Nat × Nat × AO) → Option (Prop × List (Nat × List SV))
  | [] => some (True, [])
  | (off, sz, o) :: r => match rd st o, evParts st r with
    | some (g, v), some (c, l) => some (g = true ∧ v.nc = sz ∧ v.known = true ∧ c, (off, v.cells) :: l)
    | _, _ => none

def evList (st : St) : List AO → Option (Prop × List SV)
  | [] => some (True, [])
  | o :: r => match rd st o, evList st r with
    | some (g, v), some (c, l) => some (g = true ∧ c, v :: l)
    | _, _ => none

def elemOf (sz : Nat) (cs : List SV) : SV := if sz = 1 then cs.getD 0 .undef else .agg cs

def setParts (xs : List SV) : List (Nat × SV) → List SV
  | [] => xs
  | (i, v) :: r => setParts (xs.set i v) r

def evElems (st : St) (sz : Nat) : List (Nat × AO) → Option (Prop × List (Nat × SV))
  | [] => some (True, [])
  | (i, o) :: r => match rd st o, evElems st sz r with
    | some (g, v), some (c, l) => some (g = true ∧ v.nc = sz ∧ v.cells.all SV.isCell = true ∧ c, (i, v) :: l)
    | _, _ => none

def bytesV (l : List UInt8) : List SV := l.map fun b => .int .u8 b.toNat
def byteOf : SV → UInt8
  | .int _ n => UInt8.ofNat n.toNat
  | _ => 0
def isByte : SV → Prop
  | .int .u8 _ => True
  | _ => False

/-- A slot's slice, to be appended to. -/
def asOwn (sz : Nat) : LV → Option (List SV)
  | .own z xs => if z = sz then some xs else none
  | .sv .nils => some []
  | _ => none
def elems? (sz : Nat) : SV → Option (List SV)
  | .sl z xs => if z = sz then some xs else none
  | .nils => some []
  | _ => none

/-- Compared with nil. -/
def eqnV (sl neg : Bool) : LV → Option LV
  | .lptr _ _ => if sl then none else some (.sv (.bool neg))
  | .lsl _ _ _ _ _ => if sl then some (.sv (.bool neg)) else none
  | .own _ (_ :: _) => if sl then some (.sv (.bool neg)) else none
  | .own _ [] => if sl then some (.sv .anyb) else none
  | .sv (.ptr _ _) => if sl then none else some (.sv (.bool neg))
  | .sv (.eptr _ _) => if sl then none else some (.sv (.bool neg))
  | .sv .nilp => if sl then none else some (.sv (.bool (!neg)))
  | .sv .nils => if sl then some (.sv (.bool (!neg))) else none
  | .sv (.sl _ (_ :: _)) => if sl then some (.sv (.bool neg)) else none
  | .sv (.sl _ []) => if sl then some (.sv .anyb) else none
  | _ => none
def beqV (neg : Bool) : SV → SV → Ev
  | .bool a, .bool b => some (True, .sv (.bool ((a == b) != neg)))
  | _, _ => none

/-- Cells compared, one by one. -/
def eqC : List SV → List SV → Option Bool
  | [], [] => some true
  | .int k a :: r, .int k' b :: s => if k = k' then (eqC r s).map fun q => (a == b) && q else none
  | .bool a :: r, .bool b :: s => (eqC r s).map fun q => (a == b) && q
  | .str a :: r, .str b :: s => (eqC r s).map fun q => (a.toList == b.toList) && q
  | _, _ => none

def kdOf : SV → Nat
  | .bool _ => 0
  | .int _ _ => 1
  | .str _ => 2
  | _ => 3
def eqsV (ks : List Nat) (neg : Bool) : SV → SV → Ev
  | .agg cs, .agg ds => match eqC cs ds with
    | some b => some (cs.map kdOf = ks ∧ ds.map kdOf = ks, .sv (.bool (b != neg)))
    | none => none
  | _, _ => none

/-- What a quiet operation yields. -/
def ev (st : St) : AK → Ev
  | .mv o => match rdl st o with
    | (g, .sv v) => some (g = true, .sv v)
    | (g, .own sz xs) => some (g = true, .sv (.sl sz xs))
    | (g, .tup vs) => some (g = true, .sv (.tup (vs.map RV.share)))
    | (g, .lptr s o) => some (g = true, .lptr s o)
    | (g, .lsl s z o n cap) => some (g = true, .lsl s z o n cap)
    | (g, .pp s o) => some (g = true, .pp s o)
    | (g, .clo f nf cs) => some (g = true, .clo f nf cs)
    | _ => none
  | .take s => match (lk st.sl s).gv with
    | (g, .sv v) => some (g = true, .sv v)
    | (g, .own sz xs) => some (g = true, .own sz xs)
    | (g, .tup vs) => some (g = true, .tup vs)
    | (g, .lptr s o) => some (g = true, .lptr s o)
    | (g, .lsl s z o n cap) => some (g = true, .lsl s z o n cap)
    | (g, .pp s o) => some (g = true, .pp s o)
    | (g, .clo f nf cs) => some (g = true, .clo f nf cs)
    | _ => none
  | .mark s => match (lk st.sl s).gv with
    | (g, .own 1 (x :: xs)) => some (g = true, .own 1 (x :: xs))
    | _ => none
  | .pick c a b => match rd st c, rd st a, rd st b with
    | some (gc, .bool p), some (ga, .bool x), some (gb, .bool y) => some (gc = true ∧ (p = true → ga = true) ∧ (p = false → gb = true), .sv (.bool (cond p x y)))
    | some (gc, .bool p), some (_, .undef), some (gb, .bool y) => some (gc = true ∧ p = false ∧ gb = true, .sv (.bool y))
    | some (gc, .bool p), some (ga, .bool x), some (_, .undef) => some (gc = true ∧ p = true ∧ ga = true, .sv (.bool x))
    | _, _, _ => none
  | .bin op x y => ev2 st x y (binV op)
  | .una op x => ev1 st x (unaV op)
  | .eqn sl neg x => match rdl st x with
    | (g, p) => match eqnV sl neg p with
      | some r => some (g = true, r)
      | none => none
  | .beq neg x y => ev2 st x y (beqV neg)
  | .eqs ks neg x y => ev2 st x y (eqsV ks neg)
  | .conv k x => ev1 st x fun | .int _ n => some (True, .sv (.int k (k.wrap n))) | _ => none
  | .len str x => match rdl st x with
    | (g, .lsl _ _ _ n _) => if str then none else some (g = true, .sv (.int .i64 n))
    | _ => ev1 st x (lenV str)
  | .minmax mx x y => ev2 st x y (minmaxV mx)
  | .minmax3 mx x y z => ev3 st x y z (minmax3V mx)
  | .loadP x => match rdl st x with
    | (g, .pp s off) => some (g = true, .lptr s off)
    | _ => none
  | .slc str sz x lo hi => ev1 st x fun v => match lenV str v with
    | some (_, .sv (.int _ n)) => match optI st 0 lo, optI st n hi with
      | some (g1, l), some (g2, h) => match slcV sz l h v with
        | some (c, r) => some (g1 = true ∧ g2 = true ∧ c, r)
        | none => none
      | _, _ => none
    | _ => none
  | .slc3 sz x lo hi => ev1 st x fun v => match optI st 0 lo, optI st 0 (some hi) with
    | some (g1, l), some (g2, h) => match v with
      | .sl z xs => if z = sz then some (g1 = true ∧ g2 = true ∧ 0 ≤ l ∧ l ≤ h ∧ h ≤ xs.length, .own sz ((xs.drop l.toNat).take (h.toNat - l.toNat))) else none
      | .nils => some (g1 = true ∧ g2 = true ∧ l = 0 ∧ h = 0, .own sz [])
      | _ => none
    | _, _ => none
  | .faddr x off => match rdl st x with
    | (g, p) => match faddrV off p with
      | some (c, r) => some (g = true ∧ c, r)
      | none => none
  | .iaddr sz x i => match rdl st x with
    | (g, .lsl s z o n _) => ev1 st i fun | .int _ j => if z = sz then some (g = true ∧ 0 ≤ j ∧ j < n, .lptr s (o + j.toNat * sz)) else none | _ => none
    | _ => ev2 st x i (iaddrV sz)
  | .iaddrA len sz x i => match rdl st x with
    | (g, p) => ev1 st i fun v => match iaddrAV len sz p v with
      | some (c, r) => some (g = true ∧ c, r)
      | none => none
  | .idx x i => ev2 st x i idxV
  | .idxA len sz n x i => ev2 st x i (idxAV len sz n)
  | .fld x off n => ev1 st x fun | .agg cs => some (off + n.getD 1 ≤ cs.length, .sv (partV cs off n)) | _ => none
  | .ext s i => match (lk st.sl s).gv with
    | (g, .tup vs) => some (g = true ∧ i < vs.length, (vs.getD i (.sv .undef)).lv)
    | (g, .sv (.tup vs)) => some (g = true ∧ i < vs.length, .sv (vs.getD i .undef))
    | _ => none
  | .extS s i => match (lk st.sl s).gv with
    | (g, .tup vs) => some (g = true ∧ i < vs.length, .sv (vs.getD i (.sv .undef)).share)
    | (g, .sv (.tup vs)) => some (g = true ∧ i < vs.length, .sv (vs.getD i .undef))
    | _ => none
  | .nilc x => match rdl st x with
    | (g, .lptr s o) => some (g = true, .lptr s o)
    | (g, .sv (.ptr b o)) => some (g = true, .sv (.ptr b o))
    | (g, .sv (.eptr e k)) => some (g = true, .sv (.eptr e k))
    | _ => none
  | .load n x => match rdl st x with
    | (g, p) => match loadV st n p with
      | some (c, r) => some (g = true ∧ c, r)
      | none => none
  | .build zero parts => match evParts st parts with
    | some (c, l) => some (c ∧ (∀ p ∈ l, p.1 + p.2.length ≤ zero.length), .sv (.agg (layV zero l)))
    | none => none
  | .bsl sz n zero parts => match evElems st sz parts with
    | some (c, l) => some (c ∧ (∀ p ∈ l, p.1 < n), .own sz (setParts (List.replicate n (elemOf sz zero)) l))
    | none => none
  | .app sz bytes s y => match asOwn sz (lk st.sl s).gv.2, rd st y with
    | some xs, some (g, v) => match elems? sz v with
      | some ys => some ((lk st.sl s).gv.1 = true ∧ g = true ∧ (xs.length + ys.length) * bytes ≤ 140737488355328, .own sz (xs ++ ys))
      | none => none
    | _, _ => none
  | .appS s y => match asOwn 1 (lk st.sl s).gv.2, rd st y with
    | some xs, some (g, .str t) => some ((lk st.sl s).gv.1 = true ∧ g = true ∧ (xs.length + t.size) * 1 ≤ 140737488355328, .own 1 (xs ++ bytesV t.data.toList))
    | _, _ => none
  | .mks sz bytes zero l => ev1 st l fun | .int _ n => some (0 ≤ n ∧ n * bytes ≤ 281474976710656 ∧ n ≤ 9223372036854775807, .own sz (List.replicate n.toNat (elemOf sz zero))) | _ => none
  | .b2s x => ev1 st x fun v => match elems? 1 v with
    | some xs => some (∀ x ∈ xs, isByte x, .sv (.str ⟨(xs.map byteOf).toArray⟩))
    | none => none
  | .s2b x => ev1 st x fun | .str t => some (t.size ≤ 140737488355328, .own 1 (bytesV t.data.toList)) | _ => none
  | .mkfn f first caps => match evList st first, evList st caps with
    | some (c1, l1), some (c2, l2) => some (c1 ∧ c2, .sv (.fn f l1 l2))
    | _, _ => none
  | _ => none
end Go.Av

namespace Go.Av

/-- A constant, as an abstract value. -/
def svOf : Value → Option SV
  | .bool b => some (.bool b)
  | .int k n => some (.int k n)
  | .string s => some (.str s)
  | .pointer none => some .nilp
  | .slice none 0 0 => some .nils
  | .map none => some .nilm
  | .nilFunc => some .nilf
  | _ => none

theorem svOf_rep {v : Value} {s : SV} (h : svOf v = some s) (mu : Mem) : Rep mu s v := by
  unfold svOf at h
  split at h <;> first | (cases h; constructor) | cases h

def svOfL : List Value → Option (List SV)
  | [] => some []
  | v :: r => match svOf v, svOfL r with
    | some s, some l => some (s :: l)
    | _, _ => none
theorem svOfL_length : ∀ {vs : List Value} {ss : List SV}, svOfL vs = some ss → ss.length = vs.length
  | [], ss, h => by cases h; rfl
  | v :: r, ss, h => by
    simp only [svOfL] at h
    split at h
    · rename_i s l h1 h2
      cases h
      simp [svOfL_length h2]
    · cases h
theorem svOfL_rep (mu : Mem) : ∀ {vs : List Value} {ss : List SV}, svOfL vs = some ss → ∀ j, j < ss.length → Rep mu (ss.getD j .undef) (vs.getD j Go.undef)
  | [], ss, h, j, hj => by cases h; simp at hj
  | v :: r, ss, h, j, hj => by
    simp only [svOfL] at h
    split at h
    · rename_i s l h1 h2
      cases h
      cases j with
      | zero => simpa using svOf_rep h1 mu
      | succ j => simpa using svOfL_rep mu h2 j (by simpa using hj)
    · cases h

def compO : Operand → Option AO
  | .tmp t => some (.t t)
  | .const v => (svOf v).map .c
  | .func f => some (.c (.fn f [] []))
  | .global _ => none

variable {P : Program} {w0 : World} {mu0 : Mem} {T : Tc} {g g' : Gh} {st : St} {a : Act} {w w' : World}

theorem RepL.gv {s : Nat} {lv : LV} {val : Value} (h : RepL g w s lv val) (hg : lv.gv.1 = true) : RepL g w s lv.gv.2 val := by
  induction lv with
  | gd c v ih =>
    simp only [LV.gv, Bool.and_eq_true] at hg ⊢
    exact ih (h.1 hg.1) hg.2
  | _ => exact h

theorem RepL.sh {s : Nat} {lv : LV} {val : Value} {v : SV} (h : RepL g w s lv val) (hv : lv.sh? = some v) : Rep g.mu v val := by
  cases lv <;> simp [LV.sh?] at hv
  · subst hv; exact h
  · subst hv; exact OwnAt.share h

theorem compO_rep (h : Sim w0 mu0 T g st a w) {x : Operand} {o : AO} (hx : compO x = some o) (hg : (rdl st o).1 = true) :
    (∃ s, x = .tmp s ∧ RepL g w s (rdl st o).2 (a.eval x)) ∨ (∃ v, (rdl st o).2 = .sv v ∧ Rep g.mu v (a.eval x)) := by
  cases x with
  | tmp t =>
    simp only [compO, Option.some.injEq] at hx
    subst hx
    refine .inl ⟨t, rfl, ?_⟩
    have := h.slots t
    simp only [rdl] at hg ⊢
    simpa [Act.eval] using this.gv hg
  | const v =>
    simp only [compO, Option.map_eq_some_iff] at hx
    obtain ⟨s, hs, rfl⟩ := hx
    exact .inr ⟨s, rfl, by simpa [Act.eval] using svOf_rep hs g.mu⟩
  | func f =>
    simp only [compO, Option.some.injEq] at hx
    subst hx
    exact .inr ⟨_, rfl, by simpa [Act.eval] using Rep.fn (mu := g.mu) f [] [] [] [] rfl rfl (by simp) (by simp)⟩
  | global n => simp [compO] at hx

theorem rd_rep (h : Sim w0 mu0 T g st a w) {x : Operand} {o : AO} (hx : compO x = some o) {v : SV} (hr : rd st o = some (true, v)) : Rep g.mu v (a.eval x) := by
  simp only [rd, Option.map_eq_some_iff, Prod.mk.injEq] at hr
  obtain ⟨u, hu, hg, rfl⟩ := hr
  rcases compO_rep h hx hg with ⟨s, _, hs⟩ | ⟨v, hv, hs⟩
  · exact hs.sh hu
  · rw [hv] at hu; simp [LV.sh?] at hu; subst hu; exact hs

theorem rdl_lptr (h : Sim w0 mu0 T g st a w) {x : Operand} {o : AO} (hx : compO x = some o) {s off : Nat} (hr : rdl st o = (true, .lptr s off)) : ∃ b, g.bx s = some b ∧ a.eval x = .pointer (some ⟨b, off, none⟩) := by
  rcases compO_rep h hx (by rw [hr]) with ⟨t, _, hs⟩ | ⟨v, hv, hs⟩
  · rw [hr] at hs; exact hs
  · rw [hr] at hv; cases hv
theorem rdl_lsl (h : Sim w0 mu0 T g st a w) {x : Operand} {o : AO} (hx : compO x = some o) {s z off n cap : Nat} (hr : rdl st o = (true, .lsl s z off n cap)) : ∃ b, g.bx s = some b ∧ a.eval x = .slice (some ⟨b, off, none⟩) n cap := by
  rcases compO_rep h hx (by rw [hr]) with ⟨t, _, hs⟩ | ⟨v, hv, hs⟩
  · rw [hr] at hs; exact hs
  · rw [hr] at hv; cases hv
theorem rdl_pp (h : Sim w0 mu0 T g st a w) {x : Operand} {o : AO} (hx : compO x = some o) {s off : Nat} (hr : rdl st o = (true, .pp s off)) : RepC g (.pp s off) (a.eval x) := by
  rcases compO_rep h hx (by rw [hr]) with ⟨t, _, hs⟩ | ⟨v, hv, hs⟩
  · rw [hr] at hs; exact hs
  · rw [hr] at hv; cases hv
theorem rdl_clo (h : Sim w0 mu0 T g st a w) {x : Operand} {o : AO} (hx : compO x = some o) {f : FuncId} {nf : Nat} {cs : List Cap} (hr : rdl st o = (true, .clo f nf cs)) : ∃ us : List Value, a.eval x = .func (.func f) (us.take nf).toArray (us.drop nf).toArray ∧ us.length = cs.length ∧ ∀ j, j < cs.length → RepC g (cs.getD j default) (us.getD j Go.undef) := by
  rcases compO_rep h hx (by rw [hr]) with ⟨t, _, hs⟩ | ⟨v, hv, hs⟩
  · rw [hr] at hs; exact hs
  · rw [hr] at hv; cases hv
theorem rdl_tup (h : Sim w0 mu0 T g st a w) {x : Operand} {o : AO} (hx : compO x = some o) {vs : List RV} (hr : rdl st o = (true, .tup vs)) : Rep g.mu (.tup (vs.map RV.share)) (a.eval x) := by
  rcases compO_rep h hx (by rw [hr]) with ⟨t, _, hs⟩ | ⟨v, hv, hs⟩
  · rw [hr] at hs
    obtain ⟨us, h1, h2, h3⟩ := hs
    rw [h1]
    refine .tup _ us (by simpa using h2) (fun j hj => ?_)
    have hj' : j < vs.length := by simpa using hj
    have := (h3 j hj').share
    simpa [List.getD_eq_getElem?_getD, hj'] using this
  · rw [hr] at hv; cases hv
theorem rdl_sv (h : Sim w0 mu0 T g st a w) {x : Operand} {o : AO} (hx : compO x = some o) {v : SV} (hr : rdl st o = (true, .sv v)) : Rep g.mu v (a.eval x) :=
  rd_rep h hx (by simp [rd, hr, LV.sh?])

/-! ### inversions -/
theorem Rep.inv_int {mu : Mem} {k : IntKind} {n : Int} {v : Value} (h : Rep mu (.int k n) v) : v = .int k n := by cases h; rfl
theorem Rep.inv_bool {mu : Mem} {b : Bool} {v : Value} (h : Rep mu (.bool b) v) : v = .bool b := by cases h; rfl
theorem Rep.inv_str {mu : Mem} {s : ByteArray} {v : Value} (h : Rep mu (.str s) v) : v = .string s := by cases h; rfl
theorem Rep.inv_nilp {mu : Mem} {v : Value} (h : Rep mu .nilp v) : v = .pointer none := by cases h; rfl
theorem Rep.inv_anyb {mu : Mem} {v : Value} (h : Rep mu .anyb v) : ∃ b, v = .bool b := by cases h; exact ⟨_, rfl⟩
theorem Rep.inv_nils {mu : Mem} {v : Value} (h : Rep mu .nils v) : v = .slice none 0 0 := by cases h; rfl
theorem Rep.inv_ptr {mu : Mem} {b off : Nat} {v : Value} (h : Rep mu (.ptr b off) v) : v = .pointer (some ⟨b, off, none⟩) := by cases h; rfl
theorem Rep.inv_agg {mu : Mem} {cs : List SV} {v : Value} (h : Rep mu (.agg cs) v) : ∃ vs : List Value, v = .agg vs.toArray ∧ vs.length = cs.length ∧ ∀ j, j < cs.length → Rep mu (cs.getD j .undef) (vs.getD j Go.undef) := by
  cases h with | agg _ vs h1 h2 => exact ⟨vs, rfl, h1, h2⟩
theorem Rep.inv_tup {mu : Mem} {cs : List SV} {v : Value} (h : Rep mu (.tup cs) v) : ∃ vs : List Value, v = .tuple vs.toArray ∧ vs.length = cs.length ∧ ∀ j, j < cs.length → Rep mu (cs.getD j .undef) (vs.getD j Go.undef) := by
  cases h with | tup _ vs h1 h2 => exact ⟨vs, rfl, h1, h2⟩
theorem Rep.inv_sl {mu : Mem} {sz : Nat} {xs : List SV} {v : Value} (h : Rep mu (.sl sz xs) v) : ((∃ p cap, v = .slice p 0 cap ∧ (p = none → cap = 0)) ∧ xs = []) ∨
    ∃ b off cap, ∃ vals : Nat → Nat → Value, v = .slice (some ⟨b, off, none⟩) xs.length cap ∧ xs.length ≤ cap ∧ (∀ x ∈ xs, x.nc = sz) ∧
      (∀ i j, i < xs.length → j < sz → mu b (off + i * sz + j) = some (vals i j)) ∧ (∀ i j, i < xs.length → j < sz → Rep mu ((xs.getD i .undef).cell j) (vals i j)) := by
  cases h with
  | slnil => exact .inl ⟨⟨none, 0, rfl, fun _ => rfl⟩, rfl⟩
  | sle _ a cap => exact .inl ⟨⟨some a, cap, rfl, fun e => by cases e⟩, rfl⟩
  | sl _ _ b off cap vals h1 h2 h3 h4 => exact .inr ⟨b, off, cap, vals, rfl, h1, h2, h3, h4⟩
theorem Rep.inv_eptr {mu : Mem} {e : SV} {k : Nat} {v : Value} (h : Rep mu (.eptr e k) v) : ∃ b off, ∃ vals : Nat → Value, v = .pointer (some ⟨b, off + k, none⟩) ∧
    (∀ j, j < e.nc → mu b (off + j) = some (vals j)) ∧ (∀ j, j < e.nc → Rep mu (e.cell j) (vals j)) := by
  cases h with | eptr _ _ b off vals h1 h2 => exact ⟨b, off, vals, rfl, h1, h2⟩

/-- A value's cells, one by one. -/
theorem Rep.cells {mu : Mem} {v : SV} {x : Value} (h : Rep mu v x) (hv : v ≠ .undef) : x.cells.size = v.nc ∧ ∀ j, j < v.nc → Rep mu (v.cell j) (x.cells.getD j Go.undef) := by
  cases h with
  | undef => exact absurd rfl hv
  | agg cs vs h1 h2 => exact ⟨by simp [Value.cells, SV.nc, SV.cells, h1], fun j hj => by simpa [Value.cells, SV.cell, SV.cells, Array.getD_eq_getD_getElem?] using h2 j (by simpa [SV.nc, SV.cells] using hj)⟩
  | _ => refine ⟨by simp [Value.cells, SV.nc, SV.cells], fun j hj => ?_⟩
         simp only [SV.nc, SV.cells, List.length_cons, List.length_nil, Nat.zero_add, Nat.lt_one_iff] at hj
         subst hj
         simp only [SV.cell, SV.cells, Value.cells, List.getD_cons_zero, Array.getD_eq_getD_getElem?, List.getElem?_toArray, List.getElem?_cons_zero, Option.getD_some]
         constructor <;> assumption

def CellsAt (mu : Mem) (w : World) (b o : Nat) (cs : List SV) : Prop := ∀ j, j < cs.length → ∃ val, w.cell? ⟨b, o + j, none⟩ = some val ∧ Rep mu (cs.getD j .undef) val

def ldk (P : Program) (t : TypeId) : Option (Option Nat) :=
  match P.underlying t, P.info? t with
  | some (.struct _), some i => some (some i.size)
  | some (.array _ _), some i => some (some i.size)
  | some _, some _ => some none
  | _, _ => none

theorem run_sizeOf' {t : TypeId} {i : TypeInfo} (h : P.info? t = some i) (w : World) : (sizeOf t).run P w = .ok i.size w := by simp [sizeOf, typeInfo, h]

theorem load_ok {mu : Mem} {t : TypeId} {n : Option Nat} (ht : ldk P t = some n) {b o k : Nat} {cs : List SV} (hc : CellsAt mu w b o cs) (hk : k + n.getD 1 ≤ cs.length) :
    ∃ val, (loadVar t ⟨b, o + k, none⟩).run P w = .ok val w ∧ Rep mu (partV cs k n) val := by
  have hagg : ∀ m i, P.info? t = some i → i.size = m → k + m ≤ cs.length → (isAgg t).run P w = .ok true w → ∃ val, (loadVar t ⟨b, o + k, none⟩).run P w = .ok val w ∧ Rep mu (partV cs k (some m)) val := by
    intro m i hi hm hle hag
    let f : Nat → Value := fun j => (w.cell? ⟨b, o + (k + j), none⟩).getD Go.undef
    have hf : ∀ j, j < m → w.cell? ⟨b, o + (k + j), none⟩ = some (f j) ∧ Rep mu (cs.getD (k + j) .undef) (f j) := by
      intro j hj
      obtain ⟨val, h1, h2⟩ := hc (k + j) (by omega)
      exact ⟨by simp [f, h1], by simpa [f, h1] using h2⟩
    refine ⟨.agg ((List.range m).map f).toArray, ?_, ?_⟩
    · simp only [loadVar, Sem.run_bind, hag, Result.andThen_ok, if_true, run_sizeOf' hi, hm]
      rw [run_loadCells w _ m f (fun j hj => by rw [Addr.add_lit, Nat.add_assoc]; exact (hf j hj).1)]
      simp
    · refine .agg _ _ (by simp; omega) (fun j hj => ?_)
      have hj' : j < m := by simp at hj; omega
      have := (hf j hj').2
      simpa [List.getD, hj'] using this
  have hsc : (isAgg t).run P w = .ok false w → k + 1 ≤ cs.length → ∃ val, (loadVar t ⟨b, o + k, none⟩).run P w = .ok val w ∧ Rep mu (partV cs k none) val := by
    intro hag hle
    obtain ⟨val, h1, h2⟩ := hc k (by omega)
    exact ⟨val, by simp [loadVar, hag, h1], h2⟩
  unfold ldk at ht
  split at ht
  · rename_i fs i hu hi
    cases ht
    exact hagg _ i hi rfl (by simpa using hk) (by simp [isAgg, run_underlying hu])
  · rename_i m e i hu hi
    cases ht
    exact hagg _ i hi rfl (by simpa using hk) (by simp [isAgg, run_underlying hu])
  · rename_i d i h1 h2 hu hi
    cases ht
    refine hsc ?_ (by simpa using hk)
    simp only [isAgg, Sem.run_bind, run_underlying hu, Result.andThen_ok]
    rfl
  · cases ht
end Go.Av

namespace Go.Av
variable {P : Program} {w0 : World} {mu0 : Mem} {T : Tc} {g g' : Gh} {st : St} {a : Act} {w w' : World}

def LV.dg : LV → LV
  | .own sz xs => .sv (.sl sz xs)
  | .gd c v => .gd c v.dg
  | .tup vs => .tup (vs.map fun r => .sv r.share)
  | v => v
def LV.dgi (i : Nat) : LV → LV
  | .tup vs => .tup (vs.set i (.sv (vs.getD i (.sv .undef)).share))
  | .gd c v => .gd c (v.dgi i)
  | v => v

/-- What becomes of the frame beside the destination. -/
def dgr (st : St) : AK → St
  | .take s => { st with sl := (s, (lk st.sl s).dg) :: st.sl }
  | .mark s => { st with sl := (s, (lk st.sl s).dg) :: st.sl }
  | .ext s i => { st with sl := (s, (lk st.sl s).dgi i) :: st.sl }
  | .app _ _ s _ => { st with sl := (s, (lk st.sl s).dg) :: st.sl }
  | .appS s _ => { st with sl := (s, (lk st.sl s).dg) :: st.sl }
  | _ => st

/-- An operation that yields one value and leaves the world, but for what it makes. -/
def Yields (P : Program) (w0 : World) (mu0 : Mem) (T : Tc) (g : Gh) (st' : St) (a : Act) (w : World) (x : Oper) (d : Nat) (lv : LV) : Prop :=
  ∃ val g' w', (execOp a.eval x).run P w = .ok (.value val) w' ∧ Sim w0 mu0 T g' st' a w' ∧ RepL g' w' d lv val

theorem Yields.same {x : Oper} {d : Nat} {lv : LV} {val : Value} (h : Sim w0 mu0 T g st a w) (hr : (execOp a.eval x).run P w = .ok (.value val) w) (hv : RepL g w d lv val) :
    Yields P w0 mu0 T g st a w x d lv := ⟨val, g, w, hr, h, hv⟩

/-! ### moves -/
theorem y_mv (h : Sim w0 mu0 T g st a w) {x : Operand} {o : AO} {ox : Oper} (hop : ox.op = .move x ∨ ox.op = .assign x) (hx : compO x = some o) {c : Prop} {lv : LV} (he : ev st (.mv o) = some (c, lv)) (hc : c) (d : Nat) :
    Yields P w0 mu0 T g st a w ox d lv := by
  have hr : (execOp a.eval ox).run P w = .ok (.value (a.eval x)) w := by rcases hop with hop | hop <;> simp [execOp, hop]
  refine .same h hr ?_
  simp only [ev] at he
  split at he <;> first | (cases he; done) | skip
  · rename_i gg v hv
    simp only [Option.some.injEq, Prod.mk.injEq] at he
    obtain ⟨rfl, rfl⟩ := he
    subst hc
    exact rdl_sv h hx hv
  · rename_i gg sz xs hv
    simp only [Option.some.injEq, Prod.mk.injEq] at he
    obtain ⟨rfl, rfl⟩ := he
    subst hc
    exact rd_rep h hx (by simp [rd, hv, LV.sh?])
  · rename_i gg vs hv
    simp only [Option.some.injEq, Prod.mk.injEq] at he
    obtain ⟨rfl, rfl⟩ := he
    subst hc
    exact rdl_tup h hx hv
  · rename_i gg s off hv
    simp only [Option.some.injEq, Prod.mk.injEq] at he
    obtain ⟨rfl, rfl⟩ := he
    subst hc
    exact rdl_lptr h hx hv
  · rename_i gg s z off n cap hv
    simp only [Option.some.injEq, Prod.mk.injEq] at he
    obtain ⟨rfl, rfl⟩ := he
    subst hc
    exact rdl_lsl h hx hv
  · rename_i gg s off hv
    simp only [Option.some.injEq, Prod.mk.injEq] at he
    obtain ⟨rfl, rfl⟩ := he
    subst hc
    exact rdl_pp h hx hv
  · rename_i gg f cs hv
    simp only [Option.some.injEq, Prod.mk.injEq] at he
    obtain ⟨rfl, rfl⟩ := he
    subst hc
    exact rdl_clo h hx hv

theorem LV.dg_rep {s : Nat} {lv : LV} {val : Value} (h : RepL g w s lv val) : RepL g w s lv.dg val := by
  induction lv with
  | gd c v ih => exact ⟨fun hc => ih (h.1 hc), h.2⟩
  | own sz xs => exact OwnAt.share (g := g) h
  | tup vs =>
    obtain ⟨us, h1, h2, h3⟩ := h
    refine ⟨us, h1, by simpa using h2, fun j hj => ?_⟩
    have hj' : j < vs.length := by simpa using hj
    have := (h3 j hj').share
    simpa [List.getD_eq_getElem?_getD, hj', RepR] using this
  | _ => exact h

theorem LV.gv_own_dg {lv : LV} {c : Bool} {sz : Nat} {xs : List SV} (h : lv.gv = (c, .own sz xs)) : lv.dg.gv = (c, .sv (.sl sz xs)) := by
  induction lv generalizing c with
  | gd b v ih =>
    simp only [LV.gv, Prod.mk.injEq] at h
    simp only [LV.dg, LV.gv]
    rw [ih (c := v.gv.1) (by rw [← h.2])]
    simp [h.1]
  | own a b => simp only [LV.gv, Prod.mk.injEq] at h; obtain ⟨rfl, h⟩ := h; cases h; rfl
  | _ => simp [LV.gv] at h

/-- Slot t's slice is no longer its own; its block is nobody's. -/
theorem Sim.disown' (h : Sim w0 mu0 T g st a w) {t sz : Nat} {xs : List SV} {b off cap : Nat} (hl : (lk st.sl t).gv = (true, .own sz xs))
    (hval : a.tmps.getD t Go.undef = .slice (some ⟨b, off, none⟩) xs.length cap) (hx : g.x b = some (.slot t 0)) :
    Sim w0 mu0 T { g with x := fun b' => if b' = b then none else g.x b' } { st with sl := (t, (lk st.sl t).dg) :: st.sl } a w := by
  have h1 : Sim w0 mu0 T g { st with sl := (t, .own sz xs) :: st.sl } a w := h.weaken (fun hr => by have := hr.gv (by rw [hl]); rwa [hl] at this)
  have h2 := h1.disown (t := t) (lk_cons_same _ _ _) hval hx
  have h3 := h2.weaken (d := t) (lv := (lk st.sl t).dg) (fun _ => by
    have h0 := LV.dg_rep (h.slots t)
    generalize hlv : lk st.sl t = lv at h0 hl ⊢
    clear hlv h2 h1
    have key : ∀ lv : LV, lv.gv = (true, .own sz xs) → RepL g w t lv.dg (a.tmps.getD t Go.undef) → RepL { g with x := fun b' => if b' = b then none else g.x b' } w t lv.dg (a.tmps.getD t Go.undef) := by
      intro lv
      induction lv with
      | gd c v ih =>
        intro hl h0
        simp only [LV.gv, Prod.mk.injEq, Bool.and_eq_true] at hl
        exact ⟨fun hc => ih (by rw [← hl.1.2, ← hl.2]) (h0.1 hc), h0.2⟩
      | own z ys => intro _ h0; exact h0
      | _ => intro hl; simp [LV.gv] at hl
    exact key lv hl h0)
  constructor
  · exact h3.size
  · exact h3.defers
  · intro s
    have := h3.slots s
    by_cases e : t = s
    · subst e; simpa [lk] using this
    · simpa [lk, e] using this
  · exact h3.boxes
  · exact h3.bxinj
  · exact h3.heap
  · exact h3.mem
  · exact h3.mem0
  · exact h3.mule
  · exact h3.ext
  · exact h3.okx
  · exact h3.xlt
  · exact h3.blt
  · exact h3.bxx
  · exact h3.okb
  · exact h3.pin

/-- A block that is nobody's gets an owner. -/
theorem Sim.setx (h : Sim w0 mu0 T g st a w) {b : Nat} {p : Place} (hn : g.x b = none) (hb : ∀ s, g.bx s ≠ some b) (hh : st.hp b = none) (hlt : b < w.heap.size) :
    Sim w0 mu0 T { g with x := fun b' => if b' = b then some p else g.x b' } st a w := by
  refine h.grow (g' := { g with x := fun b' => if b' = b then some p else g.x b' }) (Mem.le_refl _) (fun _ _ => ⟨rfl, fun _ e => e⟩) ?_ ?_ h.mem (fun _ _ _ _ => rfl) h.ext (fun _ => rfl) rfl (Nat.le_refl _)
  · intro b' e
    have : b' ≠ b := fun q => e (q ▸ hn)
    simp [this]
  · intro b' e1 e2
    by_cases q : b' = b
    · subst q; exact ⟨hb, hh, hlt⟩
    · simp [q, e1] at e2

/-- The facts on an own slice's block. -/
theorem Sim.own_block (h : Sim w0 mu0 T g st a w) {b : Nat} {p : Place} (hx : g.x b = some p) : (∀ s, g.bx s ≠ some b) ∧ st.hp b = none := by
  refine ⟨fun s => h.bxx s b p hx, ?_⟩
  · cases hq : st.hp b with
    | none => rfl
    | some cells => have := (h.heap b cells hq).2.1; rw [hx] at this; cases this
end Go.Av

namespace Go.Av
variable {P : Program} {w0 : World} {mu0 : Mem} {T : Tc} {g g' : Gh} {st : St} {a : Act} {w w' : World}

theorem Sim.dg (h : Sim w0 mu0 T g st a w) (s : Nat) : Sim w0 mu0 T g { st with sl := (s, (lk st.sl s).dg) :: st.sl } a w := h.weaken LV.dg_rep

/-- Taking an own slice out of a slot, for another one. -/
theorem take_own (h : Sim w0 mu0 T g st a w) {s sz : Nat} {xs : List SV} (hl : (lk st.sl s).gv = (true, .own sz xs)) (d : Nat) :
    ∃ g', Sim w0 mu0 T g' { st with sl := (s, (lk st.sl s).dg) :: st.sl } a w ∧ RepL g' w d (.own sz xs) (a.tmps.getD s Go.undef) := by
  have hs : RepL g w s (.own sz xs) (a.tmps.getD s Go.undef) := by have := (h.slots s).gv (by rw [hl]); rwa [hl] at this
  rcases hs with ⟨h1, h2⟩ | ⟨b, off, cap, hv, hr, hx, hB, hsp⟩
  · exact ⟨g, h.dg s, .inl ⟨h1, h2⟩⟩
  · have hlt := h.xlt b _ hx
    obtain ⟨ob1, ob2⟩ := h.own_block hx
    have h1 := h.disown' hl hv hx
    have h2 := h1.setx (b := b) (p := .slot d 0) (by simp) ob1 ob2 hlt
    exact ⟨_, h2, .inr ⟨b, off, cap, hv, hr, by simp, hB, hsp⟩⟩

/-- What a slot has becomes another one's. -/
def ren (s d : Nat) (x : Nat → Option Place) : Nat → Option Place := fun b => match x b with
  | some (.slot s' i) => if s' = s then some (.slot d i) else some (.slot s' i)
  | p => p
theorem take_tup (h : Sim w0 mu0 T g st a w) {s : Nat} {vs : List RV} (hl : (lk st.sl s).gv = (true, .tup vs)) (d : Nat) :
    ∃ g', Sim w0 mu0 T g' { st with sl := (s, (lk st.sl s).dg) :: st.sl } a w ∧ RepL g' w d (.tup vs) (a.tmps.getD s Go.undef) := by
  have hs : RepL g w s (.tup vs) (a.tmps.getD s Go.undef) := by have := (h.slots s).gv (by rw [hl]); rwa [hl] at this
  let g' : Gh := { g with x := ren s d g.x }
  have hx0 : ∀ b, g.x b = none ↔ g'.x b = none := by
    intro b
    simp only [g', ren]
    cases hb : g.x b with
    | none => simp
    | some p => cases p with
      | slot s' i => simp; split <;> simp
      | cell s' j => simp
  have hk : ∀ t i, t ≠ s → Keeps g w g' w (.slot t i) := fun t i ht => ⟨Mem.le_refl _, fun b hb => ⟨by simp [g', ren, hb, ht], rfl, fun _ q => q⟩, rfl⟩
  have hkc : ∀ t j, Keeps g w g' w (.cell t j) := fun t j => ⟨Mem.le_refl _, fun b hb => ⟨by simp [g', ren, hb], rfl, fun _ q => q⟩, rfl⟩
  have dgx : ∀ (lv : LV) (val : Value), RepL g w s lv val → lv.gv = (true, .tup vs) → RepL g' w s lv.dg val := by
    intro lv
    induction lv with
    | gd c v ih =>
      intro val hr hg
      simp only [LV.gv, Prod.mk.injEq, Bool.and_eq_true] at hg
      exact ⟨fun hc => ih _ (hr.1 hc) (by rw [← hg.1.2, ← hg.2]), hr.2⟩
    | tup us =>
      intro val hr hg
      obtain ⟨us', h1, h2, h3⟩ := hr
      refine ⟨us', h1, by simpa using h2, fun j hj => ?_⟩
      have hj' : j < us.length := by simpa using hj
      have := (h3 j hj').share
      simpa [List.getD_eq_getElem?_getD, hj', RepR] using this
    | _ => intro val hr hg; simp [LV.gv] at hg
  refine ⟨g', ?_, ?_⟩
  · constructor
    · exact h.size
    · exact h.defers
    · intro t
      by_cases e : s = t
      · subst e
        simp only [lk, if_true]
        exact dgx _ _ (h.slots s) hl
      · have e' : t ≠ s := fun q => e q.symm
        simp only [lk, e, if_false]
        exact RepL.keeps (fun i => hk t i e') (fun _ => rfl) (h.slots t)
    · intro t cells hc
      obtain ⟨b, hb, h1, h2, h3, c, e, fr, h4, h5, h6, h7⟩ := h.boxes t cells hc
      exact ⟨b, hb, h1, h2, (hx0 b).1 h3, c, e, fr, h4, h5, h6, fun j hj => RepR.keeps (hkc t j) (h7 j hj)⟩
    · exact h.bxinj
    · intro b cells hc
      obtain ⟨h1, h2, h3⟩ := h.heap b cells hc
      exact ⟨h1, (hx0 b).1 h2, h3⟩
    · exact h.mem
    · exact h.mem0
    · exact h.mule
    · exact h.ext
    · exact h.okx
    · intro b p e
      cases hq : g.x b with
      | none => rw [(hx0 b).1 hq] at e; cases e
      | some q => exact h.xlt b q hq
    · exact h.blt
    · intro t b p e
      cases hq : g.x b with
      | none => rw [(hx0 b).1 hq] at e; cases e
      | some q => exact h.bxx t b q hq
    · exact h.okb
    · exact h.pin
  · obtain ⟨us, h1, h2, h3⟩ := hs
    refine ⟨us, h1, h2, fun j hj => ?_⟩
    have := h3 j hj
    cases hv : vs.getD j (.sv .undef) with
    | sv v => rw [hv] at this; exact this
    | own sz xs =>
      rw [hv] at this
      rcases this with this | ⟨b, off, cap, e1, e2, e3, e4, e5⟩
      · exact .inl this
      · exact .inr ⟨b, off, cap, e1, e2, by simp [g', ren, e3], e4, e5⟩

theorem y_take (h : Sim w0 mu0 T g st a w) {s : Nat} {ox : Oper} (hop : ox.op = .move (.tmp s) ∨ ox.op = .assign (.tmp s)) {c : Prop} {lv : LV} (he : ev st (.take s) = some (c, lv)) (hc : c) (d : Nat) :
    Yields P w0 mu0 T g (dgr st (.take s)) a w ox d lv := by
  have hr : (execOp a.eval ox).run P w = .ok (.value (a.tmps.getD s Go.undef)) w := by rcases hop with hop | hop <;> simp [execOp, hop, Act.eval]
  simp only [ev] at he
  split at he <;> first | (cases he; done) | skip
  · rename_i gg v hv
    simp only [Option.some.injEq, Prod.mk.injEq] at he
    obtain ⟨rfl, rfl⟩ := he
    subst hc
    refine .same (h.dg s) hr ?_
    have := (h.slots s).gv (by rw [hv])
    rw [hv] at this; exact this
  · rename_i gg sz xs hv
    simp only [Option.some.injEq, Prod.mk.injEq] at he
    obtain ⟨rfl, rfl⟩ := he
    subst hc
    obtain ⟨g', h1, h2⟩ := take_own h hv d
    exact ⟨_, g', w, hr, h1, h2⟩
  · rename_i gg vs hv
    simp only [Option.some.injEq, Prod.mk.injEq] at he
    obtain ⟨rfl, rfl⟩ := he
    subst hc
    obtain ⟨g', h1, h2⟩ := take_tup h hv d
    exact ⟨_, g', w, hr, h1, h2⟩
  · rename_i gg t off hv
    simp only [Option.some.injEq, Prod.mk.injEq] at he
    obtain ⟨rfl, rfl⟩ := he
    subst hc
    refine .same (h.dg s) hr ?_
    have := (h.slots s).gv (by rw [hv])
    rw [hv] at this; exact this
  · rename_i gg t z off n cap hv
    simp only [Option.some.injEq, Prod.mk.injEq] at he
    obtain ⟨rfl, rfl⟩ := he
    subst hc
    refine .same (h.dg s) hr ?_
    have := (h.slots s).gv (by rw [hv])
    rw [hv] at this; exact this
  · rename_i gg t off hv
    simp only [Option.some.injEq, Prod.mk.injEq] at he
    obtain ⟨rfl, rfl⟩ := he
    subst hc
    refine .same (h.dg s) hr ?_
    have := (h.slots s).gv (by rw [hv])
    rw [hv] at this; exact this
  · rename_i gg f cs hv
    simp only [Option.some.injEq, Prod.mk.injEq] at he
    obtain ⟨rfl, rfl⟩ := he
    subst hc
    refine .same (h.dg s) hr ?_
    have := (h.slots s).gv (by rw [hv])
    rw [hv] at this; exact this

/-! ### two operands -/
theorem ev1_inv {x : AO} {f : SV → Ev} {c : Prop} {lv : LV} (he : ev1 st x f = some (c, lv)) (hc : c) : ∃ v c', rd st x = some (true, v) ∧ f v = some (c', lv) ∧ c' := by
  unfold ev1 at he
  split at he
  · rename_i gg v hv
    split at he
    · rename_i c' r hf
      simp only [Option.some.injEq, Prod.mk.injEq] at he
      obtain ⟨rfl, rfl⟩ := he
      obtain ⟨rfl, hc'⟩ := hc
      exact ⟨v, c', hv, hf, hc'⟩
    · cases he
  · cases he
theorem ev2_inv {x y : AO} {f : SV → SV → Ev} {c : Prop} {lv : LV} (he : ev2 st x y f = some (c, lv)) (hc : c) :
    ∃ v u c', rd st x = some (true, v) ∧ rd st y = some (true, u) ∧ f v u = some (c', lv) ∧ c' := by
  obtain ⟨v, c1, h1, h2, h3⟩ := ev1_inv he hc
  obtain ⟨u, c2, h4, h5, h6⟩ := ev1_inv h2 h3
  exact ⟨v, u, c2, h1, h4, h5, h6⟩

theorem y_bin (h : Sim w0 mu0 T g st a w) {x y : Operand} {o p : AO} {op : BinOp} {t t' : TypeId} {ox : Oper} (hop : ox.op = .binOp op t x y t') (hx : compO x = some o) (hy : compO y = some p)
    {c : Prop} {lv : LV} (he : ev st (.bin op o p) = some (c, lv)) (hc : c) (d : Nat) : Yields P w0 mu0 T g st a w ox d lv := by
  obtain ⟨v, u, c', hv, hu, hf, hc'⟩ := ev2_inv he hc
  have rv := rd_rep h hx hv
  have ru := rd_rep h hy hu
  have key : ∃ val, (binOp op t (a.eval x) (a.eval y)).run P w = .ok val w ∧ RepL g w d lv val ∧ eqGuard op t x y (a.eval x) (a.eval y) = pure () := by
    cases v <;> try (cases hf; done)
    · rename_i k m
      cases u <;> try (cases hf; done)
      rename_i k' n
      rw [rv.inv_int, ru.inv_int]
      have hgd : eqGuard op t x y (Value.int k m) (Value.int k' n) = pure () := eqGuard_at_int op t x y _ k m
      rw [hgd]
      cases op <;> simp only [binV, reduceCtorEq] at hf <;> first
        | (split at hf
           · rename_i hk; subst hk
             simp only [Option.some.injEq, Prod.mk.injEq] at hf
             obtain ⟨rfl, rfl⟩ := hf
             exact ⟨_, by simp [Go.binOp, Op.intArith, Op.intDiv, Op.intBits, Op.intCmp, hc'], .int _ _, rfl⟩
           · cases hf)
        | (split at hf
           · rename_i hk; subst hk
             simp only [Option.some.injEq, Prod.mk.injEq] at hf
             obtain ⟨rfl, rfl⟩ := hf
             exact ⟨_, by simp [Go.binOp, Op.intArith, Op.intDiv, Op.intBits, Op.intCmp], .bool _, rfl⟩
           · cases hf)
        | (simp only [Option.some.injEq, Prod.mk.injEq] at hf
           obtain ⟨rfl, rfl⟩ := hf
           exact ⟨_, by simp [Go.binOp, Op.shift, Int.not_lt.2 hc'], .int _ _, rfl⟩)
    · rename_i s
      cases u <;> try (cases hf; done)
      rename_i s'
      rw [rv.inv_str, ru.inv_str]
      have hgd : eqGuard op t x y (Value.string s) (Value.string s') = pure () := eqGuard_at_string op t x y _ s
      rw [hgd]
      cases op <;> simp only [binV, reduceCtorEq] at hf <;> simp only [Option.some.injEq, Prod.mk.injEq] at hf <;> obtain ⟨rfl, rfl⟩ := hf
      · exact ⟨.string (s ++ s'), by simp only [Go.binOp, Op.stringOp]; rw [if_neg (by rw [IntKind.max_i64]; omega)]; rfl, .str _, rfl⟩
      all_goals exact ⟨_, by simp [Go.binOp, Op.stringOp], .bool _, rfl⟩
  obtain ⟨val, hr, hv', hgd⟩ := key
  refine .same h (val := val) ?_ hv'
  simp only [execOp, hop, Sem.run_bind, hgd, Sem.run_pure, Result.andThen_ok, hr]
end Go.Av

set_option linter.unusedSimpArgs false
namespace Go.Av
variable {P : Program} {w0 : World} {mu0 : Mem} {T : Tc} {g g' : Gh} {st : St} {a : Act} {w w' : World}

theorem y_una (h : Sim w0 mu0 T g st a w) {x : Operand} {o : AO} {op : UnOp} {t : TypeId} {ox : Oper} (hop : ox.op = .unOp op t x) (hx : compO x = some o)
    {c : Prop} {lv : LV} (he : ev st (.una op o) = some (c, lv)) (hc : c) (d : Nat) : Yields P w0 mu0 T g st a w ox d lv := by
  obtain ⟨v, c', hv, hf, hc'⟩ := ev1_inv he hc
  have rv := rd_rep h hx hv
  cases v <;> try (cases hf; done)
  · rename_i k n
    have e := rv.inv_int
    cases op <;> simp only [unaV, reduceCtorEq] at hf <;> simp only [Option.some.injEq, Prod.mk.injEq] at hf <;> obtain ⟨rfl, rfl⟩ := hf
    · exact .same h (val := .int k (k.wrap (0 - n))) (by simp [execOp, hop, e, Op.unary, Op.intArith]) (.int _ _)
    · exact .same h (val := .int k (k.wrap (BitVec.ofInt k.bits (if k.signed then -1 else k.max) ^^^ BitVec.ofInt k.bits n).toNat)) (by simp [execOp, hop, e, Op.unary, Op.intBits]) (.int _ _)
  · rename_i b
    have e := rv.inv_bool
    cases op <;> simp only [unaV, reduceCtorEq] at hf <;> simp only [Option.some.injEq, Prod.mk.injEq] at hf <;> obtain ⟨rfl, rfl⟩ := hf
    exact .same h (val := .bool (!b)) (by simp [execOp, hop, e, Op.unary]) (.bool _)

theorem y_conv (h : Sim w0 mu0 T g st a w) {x : Operand} {o : AO} {k : IntKind} {t t' : TypeId} {ty : TypeDesc} {ox : Oper} (hop : ox.op = .convert t t' x) (ht : P.underlying t = some ty) (ht' : P.underlying t' = some (.int k))
    (hx : compO x = some o) {c : Prop} {lv : LV} (he : ev st (.conv k o) = some (c, lv)) (hc : c) (d : Nat) : Yields P w0 mu0 T g st a w ox d lv := by
  obtain ⟨v, c', hv, hf, hc'⟩ := ev1_inv he hc
  have rv := rd_rep h hx hv
  cases v <;> try (cases hf; done)
  rename_i k' n
  have e := rv.inv_int
  simp only [Option.some.injEq, Prod.mk.injEq] at hf
  obtain ⟨rfl, rfl⟩ := hf
  exact .same h (val := .int k (k.wrap n)) (by simp [execOp, hop, e, convert, run_underlying ht, run_underlying ht', Conv.intToInt]) (.int _ _)


def strT (P : Program) (t : TypeId) : Option Bool :=
  match P.underlying t with
  | some .string => some true
  | some (.slice _) => some false
  | _ => none
theorem strT_inv {t : TypeId} {b : Bool} (h : strT P t = some b) : (b = true ∧ P.underlying t = some .string) ∨ (b = false ∧ ∃ e, P.underlying t = some (.slice e)) := by
  unfold strT at h
  split at h
  · rename_i hu; cases h; exact .inl ⟨rfl, hu⟩
  · rename_i e hu; cases h; exact .inr ⟨rfl, e, hu⟩
  · cases h

theorem y_len (h : Sim w0 mu0 T g st a w) {x : Operand} {o : AO} {t : TypeId} {ts : Array TypeId} {b : Bool} {ox : Oper} (hop : ox.op = .call { callee := .builtin .len, args := #[x], argTypes := ts })
    (hts : ts[0]? = some t) (hty : strT P t = some b) (hx : compO x = some o) {c : Prop} {lv : LV} (he : ev st (.len b o) = some (c, lv)) (hc : c) (d : Nat) : Yields P w0 mu0 T g st a w ox d lv := by
  have hrun : ∀ n : Int, (Builtin.len_ ts ox.type #[a.eval x]).run P w = .ok (.int .i64 n) w → (execOp a.eval ox).run P w = .ok (.value (.int .i64 n)) w := by
    intro n hn
    simp [execOp, hop, resolve, invoke, builtin, hn]
  simp only [ev] at he
  split at he
  · rename_i gg s z off n cap hv
    split at he
    case isTrue => cases he
    rename_i hb
    simp only [Option.some.injEq, Prod.mk.injEq] at he
    obtain ⟨rfl, rfl⟩ := he
    subst hc
    obtain ⟨blk, _, e1⟩ := rdl_lsl h hx hv
    refine .same h (hrun n ?_) (.int _ _)
    rcases strT_inv hty with ⟨rfl, hu⟩ | ⟨rfl, e, hu⟩
    · simp at hb
    · simp [Builtin.len_, hts, run_underlying hu, e1, goInt]
  obtain ⟨v, c', hv, hf, hc'⟩ := ev1_inv he hc
  have rv := rd_rep h hx hv
  rcases strT_inv hty with ⟨rfl, hu⟩ | ⟨rfl, e, hu⟩
  · cases v <;> try (cases hf; done)
    rename_i s
    simp only [lenV, Option.some.injEq, Prod.mk.injEq] at hf
    obtain ⟨rfl, rfl⟩ := hf
    exact .same h (hrun s.size (by simp [Builtin.len_, hts, run_underlying hu, rv.inv_str, goInt])) (.int _ _)
  · cases v <;> try (cases hf; done)
    · simp only [lenV, Option.some.injEq, Prod.mk.injEq] at hf
      obtain ⟨rfl, rfl⟩ := hf
      exact .same h (hrun 0 (by simp [Builtin.len_, hts, run_underlying hu, rv.inv_nils, goInt])) (.int _ _)
    · rename_i sz xs
      simp only [lenV, Option.some.injEq, Prod.mk.injEq] at hf
      obtain ⟨rfl, rfl⟩ := hf
      refine .same h (hrun xs.length ?_) (.int _ _)
      rcases rv.inv_sl with ⟨⟨_, _, e1, _⟩, e2⟩ | ⟨b, off, cap, _, e1, _⟩
      · simp [Builtin.len_, hts, run_underlying hu, e1, e2, goInt]
      · simp [Builtin.len_, hts, run_underlying hu, e1, goInt]

theorem y_minmax (h : Sim w0 mu0 T g st a w) {x y : Operand} {o p : AO} {ts : Array TypeId} {mx : Bool} {ox : Oper} (hop : ox.op = .call { callee := .builtin (if mx then .max else .min), args := #[x, y], argTypes := ts })
    (hx : compO x = some o) (hy : compO y = some p) {c : Prop} {lv : LV} (he : ev st (.minmax mx o p) = some (c, lv)) (hc : c) (d : Nat) : Yields P w0 mu0 T g st a w ox d lv := by
  obtain ⟨v, u, c', hv, hu, hf, hc'⟩ := ev2_inv he hc
  have rv := rd_rep h hx hv
  have ru := rd_rep h hy hu
  cases v <;> try (cases hf; done)
  rename_i k m
  cases u <;> try (cases hf; done)
  rename_i k' n
  simp only [minmaxV] at hf
  split at hf
  · rename_i hk; subst hk
    simp only [Option.some.injEq, Prod.mk.injEq] at hf
    obtain ⟨rfl, rfl⟩ := hf
    cases mx
    · exact .same h (val := .int k (if n < m then n else m)) (by simp [execOp, hop, resolve, invoke, builtin, Builtin.min_, Builtin.min2, rv.inv_int, ru.inv_int]) (.int _ _)
    · exact .same h (val := .int k (if n > m then n else m)) (by simp [execOp, hop, resolve, invoke, builtin, Builtin.max_, Builtin.max2, rv.inv_int, ru.inv_int]) (.int _ _)
  · cases hf

theorem y_minmax3 (h : Sim w0 mu0 T g st a w) {x y z : Operand} {o p q : AO} {ts : Array TypeId} {mx : Bool} {ox : Oper} (hop : ox.op = .call { callee := .builtin (if mx then .max else .min), args := #[x, y, z], argTypes := ts })
    (hx : compO x = some o) (hy : compO y = some p) (hz : compO z = some q) {c : Prop} {lv : LV} (he : ev st (.minmax3 mx o p q) = some (c, lv)) (hc : c) (d : Nat) : Yields P w0 mu0 T g st a w ox d lv := by
  obtain ⟨v, c1, hv, he, hc⟩ := ev1_inv he hc
  obtain ⟨u, t, c', hu, ht, hf, hc'⟩ := ev2_inv he hc
  have rv := rd_rep h hx hv
  have ru := rd_rep h hy hu
  have rt := rd_rep h hz ht
  cases v <;> try (cases hf; done)
  rename_i k m
  cases u <;> try (cases hf; done)
  rename_i k' n
  cases t <;> try (cases hf; done)
  rename_i k'' r
  simp only [minmax3V] at hf
  split at hf
  · rename_i hk
    obtain ⟨hk1, hk2⟩ := hk
    subst hk1; subst hk2
    simp only [Option.some.injEq, Prod.mk.injEq] at hf
    obtain ⟨rfl, rfl⟩ := hf
    cases mx
    · exact .same h (val := .int k (mmI false (mmI false m n) r)) (by simp [execOp, hop, resolve, invoke, builtin, Builtin.min_, Builtin.min2, rv.inv_int, ru.inv_int, rt.inv_int, mmI]) (.int _ _)
    · exact .same h (val := .int k (mmI true (mmI true m n) r)) (by simp [execOp, hop, resolve, invoke, builtin, Builtin.max_, Builtin.max2, rv.inv_int, ru.inv_int, rt.inv_int, mmI]) (.int _ _)
  · cases hf

theorem rdl_eq {o : AO} {c : Bool} {p : LV} (h : rdl st o = (c, p)) (hc : c = true) : rdl st o = (true, p) := hc ▸ h

theorem y_pick (h : Sim w0 mu0 T g st a w) {x y z : Operand} {o p q : AO} {ox : Oper} (hop : ox.op = .pick x y z) (hx : compO x = some o) (hy : compO y = some p) (hz : compO z = some q)
    {c : Prop} {lv : LV} (he : ev st (.pick o p q) = some (c, lv)) (hc : c) (d : Nat) : Yields P w0 mu0 T g st a w ox d lv := by
  simp only [ev] at he
  split at he
  · rename_i gc b ga u gb v h1 h2 h3
    simp only [Option.some.injEq, Prod.mk.injEq] at he
    obtain ⟨rfl, rfl⟩ := he
    obtain ⟨rfl, hga, hgb⟩ := hc
    have rx := (rd_rep h hx h1).inv_bool
    cases b with
    | true =>
      obtain rfl := hga rfl
      exact .same h (val := .bool u) (by simp [execOp, hop, rx, asBool, (rd_rep h hy h2).inv_bool]) (.bool _)
    | false =>
      obtain rfl := hgb rfl
      exact .same h (val := .bool v) (by simp [execOp, hop, rx, asBool, (rd_rep h hz h3).inv_bool]) (.bool _)
  · rename_i gc b ga gb v h1 h2 h3
    simp only [Option.some.injEq, Prod.mk.injEq] at he
    obtain ⟨rfl, rfl⟩ := he
    obtain ⟨rfl, rfl, rfl⟩ := hc
    have rx := (rd_rep h hx h1).inv_bool
    exact .same h (val := .bool v) (by simp [execOp, hop, rx, asBool, (rd_rep h hz h3).inv_bool]) (.bool _)
  · rename_i gc b ga v gb h1 h2 h3
    simp only [Option.some.injEq, Prod.mk.injEq] at he
    obtain ⟨rfl, rfl⟩ := he
    obtain ⟨rfl, rfl, rfl⟩ := hc
    have rx := (rd_rep h hx h1).inv_bool
    exact .same h (val := .bool v) (by simp [execOp, hop, rx, asBool, (rd_rep h hy h2).inv_bool]) (.bool _)
  · cases he

theorem rdl_nilc {o : AO} {c : Prop} {lv : LV} (he : ev st (.nilc o) = some (c, lv)) : ∃ gg, c = (gg = true) ∧ rdl st o = (gg, lv) ∧ ((∃ s k, lv = .lptr s k) ∨ (∃ b k, lv = .sv (.ptr b k)) ∨ ∃ e k, lv = .sv (.eptr e k)) := by
  simp only [ev] at he
  split at he
  · rename_i gg s k hv; simp only [Option.some.injEq, Prod.mk.injEq] at he; obtain ⟨rfl, rfl⟩ := he; exact ⟨gg, rfl, hv, .inl ⟨_, _, rfl⟩⟩
  · rename_i gg s k hv; simp only [Option.some.injEq, Prod.mk.injEq] at he; obtain ⟨rfl, rfl⟩ := he; exact ⟨gg, rfl, hv, .inr (.inl ⟨_, _, rfl⟩)⟩
  · rename_i gg s k hv; simp only [Option.some.injEq, Prod.mk.injEq] at he; obtain ⟨rfl, rfl⟩ := he; exact ⟨gg, rfl, hv, .inr (.inr ⟨_, _, rfl⟩)⟩
  · cases he

/-- An operand that is a known address. -/
theorem addr_of (h : Sim w0 mu0 T g st a w) {x : Operand} {o : AO} (hx : compO x = some o) {lv : LV} (hr : rdl st o = (true, lv)) (d : Nat) : RepL g w d lv (a.eval x) ∨ (∀ s k, lv ≠ .lptr s k) ∧ (∀ v, lv ≠ .sv v) := by
  rcases compO_rep h hx (by rw [hr]) with ⟨s, _, hs⟩ | ⟨v, hv, hs⟩
  · rw [hr] at hs
    cases lv with
    | lptr s k => exact .inl hs
    | sv v => exact .inl hs
    | _ => exact .inr ⟨fun _ _ e => (by cases e), fun _ e => (by cases e)⟩
  · rw [hr] at hv; simp at hv; subst hv; exact .inl hs

theorem y_nilc (h : Sim w0 mu0 T g st a w) {x : Operand} {o : AO} {ox : Oper} (hop : ox.op = .nilCheck x) (hx : compO x = some o)
    {c : Prop} {lv : LV} (he : ev st (.nilc o) = some (c, lv)) (hc : c) (d : Nat) : Yields P w0 mu0 T g st a w ox d lv := by
  obtain ⟨gg, rfl, hr, hk⟩ := rdl_nilc he
  subst hc
  have ha : ∃ q, a.eval x = .pointer (some q) ∧ RepL g w d lv (a.eval x) := by
    rcases addr_of h hx hr d with ha | ⟨h1, h2⟩
    · rcases hk with ⟨s, k, rfl⟩ | ⟨b, k, rfl⟩ | ⟨e, k, rfl⟩
      · obtain ⟨b, hb, hv⟩ := ha; exact ⟨_, hv, ⟨b, hb, hv⟩⟩
      · exact ⟨_, Rep.inv_ptr ha, ha⟩
      · obtain ⟨b, off, vals, hv, _⟩ := Rep.inv_eptr ha; exact ⟨_, hv, ha⟩
    · rcases hk with ⟨s, k, rfl⟩ | ⟨b, k, rfl⟩ | ⟨e, k, rfl⟩
      · exact absurd rfl (h1 _ _)
      · exact absurd rfl (h2 _)
      · exact absurd rfl (h2 _)
  obtain ⟨q, hq, hl⟩ := ha
  exact .same h (val := .pointer (some q)) (by simp [execOp, hop, hq]) (hq ▸ hl)

/-! ### addresses -/
theorem faddrV_inv {off : Nat} {p lv : LV} {c : Prop} (h : faddrV off p = some (c, lv)) : (∃ s k, p = .lptr s k ∧ lv = .lptr s (k + off)) ∨ (∃ b k, p = .sv (.ptr b k) ∧ lv = .sv (.ptr b (k + off))) ∨ ∃ e k, p = .sv (.eptr e k) ∧ lv = .sv (.eptr e (k + off)) := by
  unfold faddrV at h
  split at h <;> first | (cases h; done) | skip
  · simp only [Option.some.injEq, Prod.mk.injEq] at h; exact .inl ⟨_, _, rfl, h.2.symm⟩
  · simp only [Option.some.injEq, Prod.mk.injEq] at h; exact .inr (.inl ⟨_, _, rfl, h.2.symm⟩)
  · simp only [Option.some.injEq, Prod.mk.injEq] at h; exact .inr (.inr ⟨_, _, rfl, h.2.symm⟩)

theorem addr_move (h : Sim w0 mu0 T g st a w) {x : Operand} {o : AO} (hx : compO x = some o) {off : Nat} {p lv : LV} {c : Prop} (hr : rdl st o = (true, p)) (hf : faddrV off p = some (c, lv)) (d : Nat) :
    ∃ b k, a.eval x = .pointer (some ⟨b, k, none⟩) ∧ RepL g w d lv (.pointer (some ⟨b, k + off, none⟩)) := by
  have ha := addr_of h hx hr d
  rcases faddrV_inv hf with ⟨s, k, rfl, rfl⟩ | ⟨b, k, rfl, rfl⟩ | ⟨e, k, rfl, rfl⟩
  · rcases ha with ⟨b, hb, hv⟩ | ⟨h1, _⟩
    · exact ⟨b, k, hv, b, hb, rfl⟩
    · exact absurd rfl (h1 _ _)
  · rcases ha with ha | ⟨_, h2⟩
    · exact ⟨b, k, Rep.inv_ptr ha, .ptr _ _⟩
    · exact absurd rfl (h2 _)
  · rcases ha with ha | ⟨_, h2⟩
    · obtain ⟨b, off', vals, hv, h1, h2⟩ := Rep.inv_eptr ha
      exact ⟨b, off' + k, hv, by have := Rep.eptr (mu := g.mu) e (k + off) b off' vals h1 h2; rwa [← Nat.add_assoc] at this⟩
    · exact absurd rfl (h2 _)

theorem y_faddr (h : Sim w0 mu0 T g st a w) {x : Operand} {o : AO} {t : TypeId} {f : Nat} {fs : Array Field} {fd : Field} {i : TypeInfo} {ox : Oper} (hop : ox.op = .fieldAddr t x f)
    (ht : P.underlying t = some (.struct fs)) (hf : fs[f]? = some fd) (hi : P.info? fd.type = some i) (hs : i.size ≠ 0) (hx : compO x = some o)
    {c : Prop} {lv : LV} (he : ev st (.faddr o fd.offset) = some (c, lv)) (hc : c) (d : Nat) : Yields P w0 mu0 T g st a w ox d lv := by
  simp only [ev] at he
  split at he
  · rename_i c' r hfv
    simp only [Option.some.injEq, Prod.mk.injEq] at he
    obtain ⟨rfl, rfl⟩ := he
    obtain ⟨hg, _⟩ := hc
    obtain ⟨b, k, h1, h2⟩ := addr_move h hx (p := (rdl st o).2) (by rw [← hg]) hfv d
    refine .same h (val := .pointer (some ⟨b, k + fd.offset, none⟩)) ?_ h2
    simp [execOp, hop, h1, Instr.fieldAt, run_underlying ht, hf, Instr.sureAddr, fieldPlace, run_sizeOf' hi, hs, Addr.add_lit]
  · cases he
end Go.Av

set_option linter.unusedSimpArgs false
namespace Go.Av
variable {P : Program} {w0 : World} {mu0 : Mem} {T : Tc} {g g' : Gh} {st : St} {a : Act} {w w' : World}

theorem getD_mem {xs : List SV} {i : Nat} (h : i < xs.length) : xs.getD i .undef ∈ xs := by
  rw [List.getD_eq_getElem?_getD, List.getElem?_eq_getElem h]; simp

/-- The address of an element. -/
theorem Rep.elem {mu : Mem} {sz : Nat} {xs : List SV} {b off i : Nat} {vals : Nat → Nat → Value} (hi : i < xs.length) (hn : ∀ x ∈ xs, x.nc = sz)
    (h1 : ∀ i j, i < xs.length → j < sz → mu b (off + i * sz + j) = some (vals i j)) (h2 : ∀ i j, i < xs.length → j < sz → Rep mu ((xs.getD i .undef).cell j) (vals i j)) :
    Rep mu (.eptr (xs.getD i .undef) 0) (.pointer (some ⟨b, off + i * sz, none⟩)) := by
  have hnc := hn _ (getD_mem hi)
  exact Rep.eptr (xs.getD i .undef) 0 b (off + i * sz) (vals i) (fun j hj => h1 i j hi (by omega)) (fun j hj => h2 i j hi (by omega))

theorem y_iaddr (h : Sim w0 mu0 T g st a w) {x y : Operand} {o p : AO} {t e : TypeId} {i : TypeInfo} {ox : Oper} (hop : ox.op = .indexAddr t x y)
    (ht : P.underlying t = some (.slice e)) (hi : P.info? e = some i) (hx : compO x = some o) (hy : compO y = some p)
    {c : Prop} {lv : LV} (he : ev st (.iaddr i.size o p) = some (c, lv)) (hc : c) (d : Nat) : Yields P w0 mu0 T g st a w ox d lv := by
  simp only [ev] at he
  split at he
  · rename_i gg s z off n cap hv
    obtain ⟨u, c', hu, hf, hc'⟩ := ev1_inv he hc
    have ru := rd_rep h hy hu
    cases u <;> try (cases hf; done)
    rename_i k j
    simp only [] at hf
    split at hf
    case isFalse => cases hf
    simp only [Option.some.injEq, Prod.mk.injEq] at hf
    obtain ⟨rfl, rfl⟩ := hf
    obtain ⟨rfl, h0, h1⟩ := hc'
    obtain ⟨blk, hb, e1⟩ := rdl_lsl h hx hv
    refine .same h (val := .pointer (some ⟨blk, off + j.toNat * i.size, none⟩)) ?_ ⟨blk, hb, rfl⟩
    simp [execOp, hop, e1, ru.inv_int, Instr.indexAt, run_underlying ht, asIntOf, run_sizeOf' hi, h0, h1, Addr.add_lit]
  obtain ⟨v, u, c', hv, hu, hf, hc'⟩ := ev2_inv he hc
  have rv := rd_rep h hx hv
  have ru := rd_rep h hy hu
  cases v <;> try (cases hf; done)
  rename_i z xs
  cases u <;> try (cases hf; done)
  rename_i k n
  simp only [iaddrV] at hf
  split at hf
  · rename_i hz; subst hz
    simp only [Option.some.injEq, Prod.mk.injEq] at hf
    obtain ⟨rfl, rfl⟩ := hf
    have hlt : n.toNat < xs.length := by omega
    rcases rv.inv_sl with ⟨_, e2⟩ | ⟨b, off, cap, vals, e1, _, h1, h2, h3⟩
    · subst e2; simp at hlt
    · refine .same h (val := .pointer (some ⟨b, off + n.toNat * i.size, none⟩)) ?_ (Rep.elem hlt h1 h2 h3)
      simp [execOp, hop, e1, ru.inv_int, Instr.indexAt, run_underlying ht, asIntOf, run_sizeOf' hi, hc'.1, hc'.2, Addr.add_lit]
  · cases hf

theorem y_iaddrA (h : Sim w0 mu0 T g st a w) {x y : Operand} {o p : AO} {t e : TypeId} {len : Nat} {i : TypeInfo} {ox : Oper} (hop : ox.op = .indexAddr t x y)
    (ht : P.underlying t = some (.array len e)) (hi : P.info? e = some i) (hx : compO x = some o) (hy : compO y = some p)
    {c : Prop} {lv : LV} (he : ev st (.iaddrA len i.size o p) = some (c, lv)) (hc : c) (d : Nat) : Yields P w0 mu0 T g st a w ox d lv := by
  simp only [ev] at he
  obtain ⟨u, c', hu, hf, hc'⟩ := ev1_inv he hc
  have ru := rd_rep h hy hu
  split at hf
  · rename_i c2 r hf2
    simp only [Option.some.injEq, Prod.mk.injEq] at hf
    obtain ⟨rfl, rfl⟩ := hf
    obtain ⟨hg, hc2⟩ := hc'
    cases u <;> try (cases hf2; done)
    rename_i k n
    simp only [iaddrAV] at hf2
    have hr : ∃ off', faddrV (n.toNat * i.size) (rdl st o).2 = some (off', r) ∧ (0 ≤ n ∧ n < len) := by
      split at hf2 <;> first | (cases hf2; done) | skip
      all_goals (rename_i hp; simp only [Option.some.injEq, Prod.mk.injEq] at hf2; obtain ⟨rfl, rfl⟩ := hf2; exact ⟨True, by rw [hp]; rfl, hc2⟩)
    obtain ⟨c3, hfa, hb⟩ := hr
    obtain ⟨b, q, h1, h2⟩ := addr_move h hx (p := (rdl st o).2) (by rw [← hg]) hfa d
    refine .same h (val := .pointer (some ⟨b, q + n.toNat * i.size, none⟩)) ?_ h2
    simp [execOp, hop, h1, ru.inv_int, Instr.indexAt, run_underlying ht, asIntOf, run_sizeOf' hi, hb.1, hb.2, Addr.add_lit, Instr.sureAddr]
  · cases hf

theorem getElem?_of_data (s : ByteArray) (n : Nat) (h : n < s.size) : s[n]? = some (s.data.toList.getD n 0) := by
  have h' : n < s.data.size := h
  rw [getElem?_pos s n h, List.getD_eq_getElem?_getD, Array.getElem?_toList, Array.getElem?_eq_getElem h']
  rfl

theorem y_idx (h : Sim w0 mu0 T g st a w) {x y : Operand} {o p : AO} {t : TypeId} {ox : Oper} (hop : ox.op = .index t x y)
    (ht : P.underlying t = some .string) (hx : compO x = some o) (hy : compO y = some p)
    {c : Prop} {lv : LV} (he : ev st (.idx o p) = some (c, lv)) (hc : c) (d : Nat) : Yields P w0 mu0 T g st a w ox d lv := by
  obtain ⟨v, u, c', hv, hu, hf, hc'⟩ := ev2_inv he hc
  have rv := rd_rep h hx hv
  have ru := rd_rep h hy hu
  cases v <;> try (cases hf; done)
  rename_i s
  cases u <;> try (cases hf; done)
  rename_i k n
  simp only [idxV, Option.some.injEq, Prod.mk.injEq] at hf
  obtain ⟨rfl, rfl⟩ := hf
  have hlt : n.toNat < s.size := by omega
  refine .same h (val := .int .u8 (s.data.toList.getD n.toNat 0).toNat) ?_ (.int _ _)
  simp [execOp, hop, rv.inv_str, ru.inv_int, Instr.index, asIntOf, run_underlying ht, hc'.1, getElem?_of_data s _ hlt]

theorem partV_field {mu : Mem} {v : SV} {x : Value} {t : TypeId} {n : Option Nat} (hr : Rep mu v x) (hagg : ∃ cs, v = .agg cs) (ht : ldk P t = some n) {off : Nat} (hk : off + n.getD 1 ≤ v.nc) (w : World) :
    ∃ cs : Array Value, x = .agg cs ∧ ∃ val, (part t cs off).run P w = .ok val w ∧ Rep mu (partV v.cells off n) val := by
  obtain ⟨cs, rfl⟩ := hagg
  obtain ⟨vs, rfl, hl, hv⟩ := hr.inv_agg
  refine ⟨_, rfl, ?_⟩
  simp only [SV.nc, SV.cells] at hk
  have hagg : ∀ i, P.info? t = some i → off + i.size ≤ cs.length → (isAgg t).run P w = .ok true w → ∃ val, (part t vs.toArray off).run P w = .ok val w ∧ Rep mu (partV cs off (some i.size)) val := by
    intro i hi hle hag
    refine ⟨.agg ((vs.drop off).take i.size).toArray, ?_, ?_⟩
    · simp only [part, Sem.run_bind, hag, Result.andThen_ok, if_true, run_sizeOf' hi, Sem.run_pure]
      congr 3
      simp
    · refine .agg _ _ (by simp; omega) (fun j hj => ?_)
      have hj' : j < i.size := by simp at hj; omega
      have hj2 : off + j < cs.length := by omega
      have := hv (off + j) hj2
      simpa [List.getD_eq_getElem?_getD, List.getElem?_take, List.getElem?_drop, hj'] using this
  have hsc : (isAgg t).run P w = .ok false w → off + 1 ≤ cs.length → ∃ val, (part t vs.toArray off).run P w = .ok val w ∧ Rep mu (partV cs off none) val := by
    intro hag hle
    have hlt : off < vs.length := by omega
    have := hv off (by omega)
    refine ⟨vs.getD off Go.undef, ?_, this⟩
    simp [part, hag, List.getElem?_toArray, List.getElem?_eq_getElem hlt, List.getD_eq_getElem?_getD]
  unfold ldk at ht
  split at ht
  · rename_i fs i hu hi
    cases ht
    exact hagg i hi (by simpa using hk) (by simp [isAgg, run_underlying hu])
  · rename_i m e i hu hi
    cases ht
    exact hagg i hi (by simpa using hk) (by simp [isAgg, run_underlying hu])
  · rename_i d i h1 h2 hu hi
    cases ht
    refine hsc ?_ (by simpa using hk)
    simp only [isAgg, Sem.run_bind, run_underlying hu, Result.andThen_ok]
    rfl
  · cases ht
end Go.Av

set_option linter.unusedSimpArgs false
namespace Go.Av
variable {P : Program} {w0 : World} {mu0 : Mem} {T : Tc} {g g' : Gh} {st : St} {a : Act} {w w' : World}

theorem y_fld (h : Sim w0 mu0 T g st a w) {x : Operand} {o : AO} {t : TypeId} {f : Nat} {fs : Array Field} {fd : Field} {n : Option Nat} {ox : Oper} (hop : ox.op = .field t x f)
    (ht : P.underlying t = some (.struct fs)) (hf : fs[f]? = some fd) (hn : ldk P fd.type = some n) (hx : compO x = some o)
    {c : Prop} {lv : LV} (he : ev st (.fld o fd.offset n) = some (c, lv)) (hc : c) (d : Nat) : Yields P w0 mu0 T g st a w ox d lv := by
  obtain ⟨v, c', hv, hf', hc'⟩ := ev1_inv he hc
  have rv := rd_rep h hx hv
  cases v <;> try (cases hf'; done)
  rename_i cs
  simp only [Option.some.injEq, Prod.mk.injEq] at hf'
  obtain ⟨rfl, rfl⟩ := hf'
  obtain ⟨xs, hxs, val, hrun, hrep⟩ := partV_field rv ⟨cs, rfl⟩ hn hc' w
  refine .same h (val := val) ?_ hrep
  simp [execOp, hop, Instr.field, run_underlying ht, hf, hxs, asAgg, hrun]

theorem y_idxA (h : Sim w0 mu0 T g st a w) {x y : Operand} {o p : AO} {t e : TypeId} {len : Nat} {i : TypeInfo} {n : Option Nat} {ox : Oper} (hop : ox.op = .index t x y)
    (ht : P.underlying t = some (.array len e)) (hi : P.info? e = some i) (hn : ldk P e = some n) (hx : compO x = some o) (hy : compO y = some p)
    {c : Prop} {lv : LV} (he : ev st (.idxA len i.size n o p) = some (c, lv)) (hc : c) (d : Nat) : Yields P w0 mu0 T g st a w ox d lv := by
  obtain ⟨v, u, c', hv, hu, hf, hc'⟩ := ev2_inv he hc
  have rv := rd_rep h hx hv
  have ru := rd_rep h hy hu
  cases v <;> try (cases hf; done)
  rename_i cs
  cases u <;> try (cases hf; done)
  rename_i k j
  simp only [idxAV, Option.some.injEq, Prod.mk.injEq] at hf
  obtain ⟨rfl, rfl⟩ := hf
  obtain ⟨h0, h1, h2⟩ := hc'
  obtain ⟨xs, hxs, val, hrun, hrep⟩ := partV_field rv ⟨cs, rfl⟩ hn h2 w
  refine .same h (val := val) ?_ hrep
  have hj : 0 ≤ j ∧ j < (len : Int) := ⟨h0, h1⟩
  simp [execOp, hop, Instr.index, ru.inv_int, asIntOf, run_underlying ht, hxs, hj, run_sizeOf' hi, hrun]

theorem optI_inv {i : Int} {ao : Option AO} {def_ : Int} (h : Sim w0 mu0 T g st a w) {x : Option Operand} (hx : (x.map compO = ao.map some)) (hr : optI st def_ ao = some (true, i)) :
    (x = none ∧ i = def_) ∨ ∃ y k, x = some y ∧ a.eval y = .int k i := by
  cases ao with
  | none => cases x with
    | none => simp [optI] at hr; exact .inl ⟨rfl, hr.symm⟩
    | some y => simp at hx
  | some o => cases x with
    | none => simp at hx
    | some y =>
      simp only [Option.map_some, Option.some.injEq] at hx
      refine .inr ⟨y, ?_⟩
      simp only [optI] at hr
      split at hr
      · rename_i gg k j hv
        simp only [Option.some.injEq, Prod.mk.injEq] at hr
        obtain ⟨rfl, rfl⟩ := hr
        exact ⟨k, rfl, (rd_rep h hx hv).inv_int⟩
      · cases hr

theorem run_bounds {P : Program} {w : World} {isSlice : Bool} {n cap : Nat} {lo hi : Option Value} {l r : Int} (hlo : (lo = none ∧ l = 0) ∨ ∃ k, lo = some (.int k l)) (hhi : (hi = none ∧ r = n) ∨ ∃ k, hi = some (.int k r))
    (h0 : 0 ≤ l) (h1 : l ≤ r) (h2 : r ≤ cap) : (Instr.sliceBounds isSlice n cap lo hi none).run P w = .ok (l.toNat, r.toNat, cap) w := by
  have hb : ∀ (k : IntKind) (i : Int) (y : Nat) (code : BoundsCode), 0 ≤ i → i ≤ y → (Instr.sliceBound (.int k i) y code).run P w = .ok i.toNat w := by
    intro k i y code h0 h1
    simp [Instr.sliceBound, asIntOf, h0, h1]
  rcases hlo with ⟨rfl, rfl⟩ | ⟨k, rfl⟩ <;> rcases hhi with ⟨rfl, rfl⟩ | ⟨k', rfl⟩
  · simp [Instr.sliceBounds]
  · simp only [Instr.sliceBounds, Sem.run_bind, Sem.run_pure, Result.andThen_ok, Option.isSome_none]
    rw [hb k' r cap _ (by omega) h2]; simp
  · simp only [Instr.sliceBounds, Sem.run_bind, Sem.run_pure, Result.andThen_ok, Option.isSome_none]
    rw [hb k l n _ h0 (by omega)]; simp
  · simp only [Instr.sliceBounds, Sem.run_bind, Sem.run_pure, Result.andThen_ok, Option.isSome_none]
    rw [hb k' r cap _ (by omega) h2]
    simp only [Result.andThen_ok]
    rw [hb k l _ _ h0 (by omega)]; simp

theorem run_bounds3 {P : Program} {w : World} {isSlice : Bool} {n cap : Nat} {lo : Option Value} {k k' : IntKind} {l r : Int} (hlo : (lo = none ∧ l = 0) ∨ ∃ k, lo = some (.int k l))
    (h0 : 0 ≤ l) (h1 : l ≤ r) (h2 : r ≤ cap) : (Instr.sliceBounds isSlice n cap lo (some (.int k r)) (some (.int k' r))).run P w = .ok (l.toNat, r.toNat, r.toNat) w := by
  have hb : ∀ (k : IntKind) (i : Int) (y : Nat) (code : BoundsCode), 0 ≤ i → i ≤ y → (Instr.sliceBound (.int k i) y code).run P w = .ok i.toNat w := by
    intro k i y code h0 h1
    simp [Instr.sliceBound, asIntOf, h0, h1]
  simp only [Instr.sliceBounds, Sem.run_bind, Option.isSome_some]
  rw [hb k' r cap _ (by omega) h2]
  simp only [Result.andThen_ok]
  rw [hb k r _ _ (by omega) (by omega)]
  simp only [Result.andThen_ok]
  rcases hlo with ⟨rfl, rfl⟩ | ⟨k, rfl⟩
  · simp
  · simp only [Sem.run_bind]
    rw [hb k l _ _ h0 (by omega)]; simp

theorem Rep.window {mu : Mem} {sz : Nat} {xs : List SV} {b off cap l r : Nat} {vals : Nat → Nat → Value} (hl : l ≤ r) (hr : r ≤ xs.length) (hcap : xs.length ≤ cap) (hn : ∀ x ∈ xs, x.nc = sz)
    (h1 : ∀ i j, i < xs.length → j < sz → mu b (off + i * sz + j) = some (vals i j)) (h2 : ∀ i j, i < xs.length → j < sz → Rep mu ((xs.getD i .undef).cell j) (vals i j)) (c : Nat) (hc : r - l ≤ c) :
    Rep mu (.sl sz ((xs.drop l).take (r - l))) (.slice (some ⟨b, off + l * sz, none⟩) (r - l) c) := by
  have hlen : ((xs.drop l).take (r - l)).length = r - l := by simp; omega
  have := Rep.sl (mu := mu) sz ((xs.drop l).take (r - l)) b (off + l * sz) c (fun i j => vals (l + i) j) (by omega) (fun x hx => hn x (List.mem_of_mem_drop (List.mem_of_mem_take hx)))
    (fun i j hi hj => by rw [hlen] at hi; have := h1 (l + i) j (by omega) hj; rwa [Nat.add_mul, ← Nat.add_assoc] at this)
    (fun i j hi hj => by
      rw [hlen] at hi
      have := h2 (l + i) j (by omega) hj
      simpa [List.getD_eq_getElem?_getD, List.getElem?_take, List.getElem?_drop, hi] using this)
  rwa [hlen] at this

theorem y_slc (h : Sim w0 mu0 T g st a w) {x : Operand} {xl xh : Option Operand} {o : AO} {ol oh : Option AO} {t : TypeId} {str : Bool} {sz : Nat} {ox : Oper} (hop : ox.op = .slice t x xl xh none)
    (hty : strT P t = some str) (hi : ∀ e, P.underlying t = some (.slice e) → ∃ i, P.info? e = some i ∧ i.size = sz)
    (hx : compO x = some o) (hl : xl.map compO = ol.map some) (hh : xh.map compO = oh.map some)
    {c : Prop} {lv : LV} (he : ev st (.slc str sz o ol oh) = some (c, lv)) (hc : c) (d : Nat) : Yields P w0 mu0 T g st a w ox d lv := by
  obtain ⟨v, c', hv, hf, hc'⟩ := ev1_inv he hc
  have rv := rd_rep h hx hv
  split at hf
  case h_2 => cases hf
  rename_i c1 k n hln
  split at hf
  case h_2 => cases hf
  rename_i g1 l g2 r h1 h2
  split at hf
  case h_2 => cases hf
  rename_i c2 rr h3
  simp only [Option.some.injEq, Prod.mk.injEq] at hf
  obtain ⟨rfl, rfl⟩ := hf
  obtain ⟨rfl, rfl, hc2⟩ := hc'
  have hL : (xl.map a.eval = none ∧ l = 0) ∨ ∃ k, xl.map a.eval = some (.int k l) := by
    rcases optI_inv h hl h1 with ⟨rfl, e⟩ | ⟨y, k, rfl, e⟩
    · exact .inl ⟨rfl, e⟩
    · exact .inr ⟨k, by simp [e]⟩
  have hH : (xh.map a.eval = none ∧ r = n) ∨ ∃ k, xh.map a.eval = some (.int k r) := by
    rcases optI_inv h hh h2 with ⟨rfl, e⟩ | ⟨y, k, rfl, e⟩
    · exact .inl ⟨rfl, e⟩
    · exact .inr ⟨k, by simp [e]⟩
  have hexec : ∀ val, (Instr.slice t (a.eval x) (xl.map a.eval) (xh.map a.eval) none).run P w = .ok val w → (execOp a.eval ox).run P w = .ok (.value val) w := by
    intro val hval
    rcases strT_inv hty with ⟨_, hu⟩ | ⟨_, e, hu⟩ <;> simp [execOp, hop, Instr.sliceAt, run_underlying hu, hval]
  rcases strT_inv hty with ⟨rfl, hu⟩ | ⟨rfl, e, hu⟩
  · cases v <;> try (cases hln; done)
    rename_i s
    simp only [lenV, Option.some.injEq, Prod.mk.injEq, LV.sv.injEq, SV.int.injEq] at hln
    obtain ⟨_, _, rfl⟩ := hln
    simp only [slcV, Option.some.injEq, Prod.mk.injEq] at h3
    obtain ⟨rfl, rfl⟩ := h3
    refine .same h (hexec (.string (s.extract l.toNat r.toNat)) ?_) (.str _)
    simp [Instr.slice, run_underlying hu, rv.inv_str, run_bounds hL hH hc2.1 hc2.2.1 hc2.2.2]
  · obtain ⟨i, hi', hsz⟩ := hi e hu
    cases v <;> try (cases hln; done)
    · simp only [lenV, Option.some.injEq, Prod.mk.injEq, LV.sv.injEq, SV.int.injEq] at hln
      obtain ⟨_, _, rfl⟩ := hln
      simp only [slcV, Option.some.injEq, Prod.mk.injEq] at h3
      obtain ⟨rfl, rfl⟩ := h3
      obtain ⟨rfl, rfl⟩ := hc2
      refine .same h (hexec (.slice none 0 0) ?_) .nils
      have := run_bounds (P := P) (w := w) (isSlice := true) (n := 0) (cap := 0) hL hH (by omega) (by omega) (by omega)
      simp [Instr.slice, run_underlying hu, rv.inv_nils, this, run_sizeOf' hi']
    · rename_i z xs
      simp only [lenV, Option.some.injEq, Prod.mk.injEq, LV.sv.injEq, SV.int.injEq] at hln
      obtain ⟨_, _, rfl⟩ := hln
      simp only [slcV] at h3
      split at h3
      case isFalse => cases h3
      rename_i hzz
      simp only [Option.some.injEq, Prod.mk.injEq] at h3
      obtain ⟨rfl, rfl⟩ := h3
      obtain rfl : z = i.size := by omega
      rcases rv.inv_sl with ⟨⟨p, cap, e1, hp0⟩, e2⟩ | ⟨b, off, cap, vals, e1, hcap, q1, q2, q3⟩
      · subst e2
        simp only [List.length_nil, Int.natCast_zero] at hc2 hH
        obtain rfl : l = 0 := by omega
        obtain rfl : r = 0 := by omega
        cases p with
        | none =>
          obtain rfl := hp0 rfl
          refine .same h (hexec (.slice none 0 0) ?_) (by show Rep g.mu (.sl i.size ((([] : List SV).drop _).take _)) _; simpa using Rep.slnil (mu := g.mu) i.size)
          have := run_bounds (P := P) (w := w) (isSlice := true) (n := 0) (cap := 0) hL hH (by omega) (by omega) (by omega)
          simp [Instr.slice, run_underlying hu, e1, this, run_sizeOf' hi']
        | some a0 =>
          have := run_bounds (P := P) (w := w) (isSlice := true) (n := 0) (cap := cap) hL hH (by omega) (by omega) (by omega)
          by_cases hc0 : cap = 0
          · refine .same h (hexec (.slice (some a0) 0 cap) ?_) (by show Rep g.mu (.sl i.size ((([] : List SV).drop _).take _)) _; simpa using Rep.sle (mu := g.mu) i.size a0 cap)
            subst hc0
            simp [Instr.slice, run_underlying hu, e1, this, run_sizeOf' hi']
          · refine .same h (hexec (.slice (some (a0.add (0 * i.size))) 0 cap) ?_) (by show Rep g.mu (.sl i.size ((([] : List SV).drop _).take _)) _; simpa using Rep.sle (mu := g.mu) i.size (a0.add (0 * i.size)) cap)
            simp [Instr.slice, run_underlying hu, e1, this, run_sizeOf' hi', hc0]
      · have hlr : l.toNat ≤ r.toNat := by omega
        have hrx : r.toNat ≤ xs.length := by omega
        have hb := run_bounds (P := P) (w := w) (isSlice := true) (n := xs.length) (cap := cap) hL hH hc2.1 hc2.2.1 (by omega)
        by_cases hcl : cap = l.toNat
        · have e0 : (xs.drop l.toNat).take (r.toNat - l.toNat) = [] := by simp; omega
          have er : r.toNat - l.toNat = 0 := by omega
          refine .same h (hexec (.slice (some ⟨b, off, none⟩) 0 (cap - l.toNat)) ?_) ?_
          · simp only [Instr.slice, Sem.run_bind, run_underlying hu, Result.andThen_ok, e1, hb, run_sizeOf' hi']
            simp [hcl, er]
          · rw [e0]
            exact Rep.sl (mu := g.mu) i.size [] b off (cap - l.toNat) (fun _ _ => Go.undef) (by simp) (by simp) (by simp) (by simp)
        · refine .same h (hexec (.slice (some ⟨b, off + l.toNat * i.size, none⟩) (r.toNat - l.toNat) (cap - l.toNat)) ?_) (Rep.window hlr hrx hcap q1 q2 q3 _ (by omega))
          simp only [Instr.slice, Sem.run_bind, run_underlying hu, Result.andThen_ok, e1, hb, run_sizeOf' hi']
          simp [hcl, Addr.add_lit]
end Go.Av

set_option linter.unusedSimpArgs false
namespace Go.Av
variable {P : Program} {w0 : World} {mu0 : Mem} {T : Tc} {g g' : Gh} {st : St} {a : Act} {w w' : World}

theorem cell_of_block {b j : Nat} {c : Array Value} {e : TypeId} {fr : Nat × Nat} (h : w.heap[b]? = some (.cells c e fr)) : w.cell? ⟨b, j, none⟩ = c[j]? := by
  simp [World.cell?, h]

theorem BoxAt.cellsAt {s b : Nat} {cells : List RV} (h : BoxAt g w s b cells) : CellsAt g.mu w b 0 (cells.map RV.share) := by
  obtain ⟨_, _, _, c, e, fr, h1, _, h3, h4⟩ := h
  intro j hj
  have hj' : j < cells.length := by simpa using hj
  have hjc : j < c.size := by omega
  refine ⟨c[j], by rw [cell_of_block h1]; simp [hjc], ?_⟩
  have := (h4 j hj').share
  simpa [List.getD_eq_getElem?_getD, hj', Array.getD_eq_getD_getElem?, hjc] using this

theorem HeapAt.cellsAt {mu : Mem} {b : Nat} {cells : List SV} (h : HeapAt mu w b cells) : CellsAt mu w b 0 cells := by
  obtain ⟨_, c, e, fr, h1, _, h3, h4⟩ := h
  intro j hj
  have hjc : j < c.size := by omega
  refine ⟨c[j], by rw [cell_of_block h1]; simp [hjc], ?_⟩
  have := h4 j hj
  simpa [Array.getD_eq_getD_getElem?, hjc] using this

theorem y_load (h : Sim w0 mu0 T g st a w) {x : Operand} {o : AO} {t : TypeId} {n : Option Nat} {ox : Oper} (hop : ox.op = .load t x) (hn : ldk P t = some n) (hx : compO x = some o)
    {c : Prop} {lv : LV} (he : ev st (.load n o) = some (c, lv)) (hc : c) (d : Nat) : Yields P w0 mu0 T g st a w ox d lv := by
  simp only [ev] at he
  split at he
  case h_2 => cases he
  rename_i c' r hl
  simp only [Option.some.injEq, Prod.mk.injEq] at he
  obtain ⟨rfl, rfl⟩ := he
  obtain ⟨hg, hc'⟩ := hc
  have hr : rdl st o = (true, (rdl st o).2) := by rw [← hg]
  have key : ∀ (b k' k : Nat) (cs : List SV), a.eval x = .pointer (some ⟨b, k' + k, none⟩) → CellsAt g.mu w b k' cs → k + n.getD 1 ≤ cs.length → r = .sv (partV cs k n) → Yields P w0 mu0 T g st a w ox d r := by
    intro b k' k cs hv hcs hle hr
    obtain ⟨val, h1, h2⟩ := load_ok hn hcs hle
    subst hr
    refine .same h (val := val) ?_ h2
    simp [execOp, hop, hv, Instr.loadAt, Instr.sureAddr, h1]
  have ha := addr_of h hx hr d
  generalize hp : (rdl st o).2 = p at hl ha hr
  unfold loadV at hl
  split at hl <;> first | (cases hl; done) | skip
  · rename_i s k
    split at hl
    case h_2 => cases hl
    rename_i cells hcells
    simp only [Option.some.injEq, Prod.mk.injEq] at hl
    obtain ⟨rfl, rfl⟩ := hl
    obtain ⟨b, hb, hbox⟩ := h.boxes s cells hcells
    rcases ha with ⟨b', hb', hv⟩ | ⟨h1, _⟩
    · rw [hb] at hb'; cases hb'
      exact key b 0 k _ (by rw [hv]; simp) hbox.cellsAt (by simpa using hc') rfl
    · exact absurd rfl (h1 _ _)
  · rename_i b k
    split at hl
    case h_2 => cases hl
    rename_i cells hcells
    simp only [Option.some.injEq, Prod.mk.injEq] at hl
    obtain ⟨rfl, rfl⟩ := hl
    rcases ha with ha | ⟨_, h2⟩
    · exact key b 0 k _ (by rw [Rep.inv_ptr ha]; simp) (h.heap b cells hcells).1.cellsAt hc' rfl
    · exact absurd rfl (h2 _)
  · rename_i e k
    simp only [Option.some.injEq, Prod.mk.injEq] at hl
    obtain ⟨rfl, rfl⟩ := hl
    rcases ha with ha | ⟨_, h2⟩
    · obtain ⟨b, off, vals, hv, q1, q2⟩ := Rep.inv_eptr ha
      exact key b off k _ hv (fun j hj => ⟨vals j, (h.mem _ _ _ (q1 j hj)).1, q2 j hj⟩) hc' rfl
    · exact absurd rfl (h2 _)

/-! ### parts of a call's result -/
theorem RepL.dgi {s i : Nat} {lv : LV} {val : Value} (h : RepL g w s lv val) : RepL g w s (lv.dgi i) val := by
  induction lv with
  | gd c v ih => exact ⟨fun hc => ih (h.1 hc), h.2⟩
  | tup vs =>
    obtain ⟨us, h1, h2, h3⟩ := h
    refine ⟨us, h1, by simpa using h2, fun j hj => ?_⟩
    have hj' : j < vs.length := by simpa using hj
    by_cases e : i = j
    · subst e
      have := (h3 i hj').share
      simpa [List.getD_eq_getElem?_getD, hj', RepR] using this
    · have := h3 j hj'
      simpa [List.getD_eq_getElem?_getD, List.getElem?_set, e] using this
  | _ => exact h

theorem LV.gv_tup_dgi {lv : LV} {c : Bool} {vs : List RV} (i : Nat) (h : lv.gv = (c, .tup vs)) : (lv.dgi i).gv = (c, .tup (vs.set i (.sv (vs.getD i (.sv .undef)).share))) := by
  induction lv generalizing c with
  | gd b v ih =>
    simp only [LV.gv, Prod.mk.injEq] at h
    simp only [LV.dgi, LV.gv]
    rw [ih (c := v.gv.1) (by rw [← h.2])]
    simp [h.1]
  | tup ws => simp only [LV.gv, Prod.mk.injEq, LV.tup.injEq] at h; obtain ⟨rfl, rfl⟩ := h; rfl
  | _ => simp [LV.gv] at h

/-- A part of a call's result is taken out. -/
theorem ext_own (h : Sim w0 mu0 T g st a w) {s i : Nat} {vs : List RV} (hl : (lk st.sl s).gv = (true, .tup vs)) (hi : i < vs.length) (d : Nat) :
    ∃ (us : List Value) (g' : Gh), a.tmps.getD s Go.undef = .tuple us.toArray ∧ us.length = vs.length ∧ Sim w0 mu0 T g' { st with sl := (s, (lk st.sl s).dgi i) :: st.sl } a w ∧ RepL g' w d (vs.getD i (.sv .undef)).lv (us.getD i Go.undef) := by
  have hs : RepL g w s (.tup vs) (a.tmps.getD s Go.undef) := by have := (h.slots s).gv (by rw [hl]); rwa [hl] at this
  obtain ⟨us, e1, e2, e3⟩ := hs
  have hdg : Sim w0 mu0 T g { st with sl := (s, (lk st.sl s).dgi i) :: st.sl } a w := h.weaken RepL.dgi
  refine ⟨us, ?_⟩
  have hri := e3 i hi
  cases hv : vs.getD i (.sv .undef) with
  | sv v => rw [hv] at hri; exact ⟨g, e1, e2, hdg, hri⟩
  | own sz xs =>
    rw [hv] at hri
    rcases hri with hri | ⟨b, off, cap, hval, hr, hx, hB, hsp⟩
    · exact ⟨g, e1, e2, hdg, .inl hri⟩
    · obtain ⟨ob1, ob2⟩ := h.own_block hx
      have hlt := h.xlt b _ hx
      let g1 : Gh := { g with x := fun b' => if b' = b then some (.slot d 0) else g.x b' }
      refine ⟨g1, e1, e2, ?_, .inr ⟨b, off, cap, hval, hr, by simp [g1], hB, hsp⟩⟩
      have hne : ∀ b' p, p ≠ Place.slot s i → g.x b' = some p → g1.x b' = some p := fun b' p hp e => by
        have : b' ≠ b := fun e' => hp (by subst e'; rw [hx] at e; cases e; rfl)
        simp [g1, this, e]
      constructor
      · exact h.size
      · exact h.defers
      · intro q
        by_cases e : s = q
        · subst e
          simp only [lk, if_true]
          have key : ∀ lv : LV, lv.gv = (true, .tup vs) → RepL g w s lv (a.tmps.getD s Go.undef) → RepL g1 w s (lv.dgi i) (a.tmps.getD s Go.undef) := by
            intro lv
            induction lv with
            | gd c v ih =>
              intro hl h0
              simp only [LV.gv, Prod.mk.injEq, Bool.and_eq_true] at hl
              exact ⟨fun hc => ih (by rw [← hl.1.2, ← hl.2]) (h0.1 hc), h0.2⟩
            | tup ws =>
              intro hl h0
              simp only [LV.gv, Prod.mk.injEq, LV.tup.injEq, true_and] at hl
              subst hl
              obtain ⟨us', f1, f2, f3⟩ := h0
              refine ⟨us', f1, by simpa using f2, fun j hj => ?_⟩
              have hj' : j < ws.length := by simpa using hj
              by_cases ej : i = j
              · subst ej
                have : Rep g.mu (ws.getD i (.sv .undef)).share (us'.getD i Go.undef) := (f3 i hj').share
                simpa [List.getD_eq_getElem?_getD, hj', RepR] using this
              · have h3 := f3 j hj'
                have : RepR g1 w (.slot s j) (ws.getD j (.sv .undef)) (us'.getD j Go.undef) :=
                  RepR.keeps (g := g) ⟨Mem.le_refl _, fun b'' e' => ⟨hne b'' _ (by intro q; cases q; exact ej rfl) e', rfl, fun _ q => q⟩, rfl⟩ h3
                simpa [List.getD_eq_getElem?_getD, List.getElem?_set, ej] using this
            | _ => intro hl; simp [LV.gv] at hl
          exact key _ hl (h.slots s)
        · simp only [lk, e, if_false]
          exact RepL.keeps' (g := g) (g' := g1) (Mem.le_refl _) (fun b' i' e' => ⟨hne b' _ (by intro q'; cases q'; exact e rfl) e', rfl, fun _ q => q⟩) rfl (fun _ => rfl) (h.slots q)
      · intro q cells hc
        obtain ⟨b', hb, h1, h2, h3, c, e, fr, h4, h5, h6, h7⟩ := h.boxes q cells hc
        have hbb : b' ≠ b := fun e => ob1 q (e ▸ hb)
        refine ⟨b', hb, h1, h2, by simp [g1, hbb, h3], c, e, fr, h4, h5, h6, fun j hj => RepR.keeps (g := g) ⟨Mem.le_refl _, fun b'' e' => ⟨hne b'' _ (by intro q; cases q) e', rfl, fun _ q => q⟩, rfl⟩ (h7 j hj)⟩
      · exact h.bxinj
      · intro b' cells hc
        obtain ⟨h1, h2, h3⟩ := h.heap b' cells hc
        have hbb : b' ≠ b := fun e => by rw [e, ob2] at hc; cases hc
        exact ⟨h1, by simp [g1, hbb, h2], h3⟩
      · exact h.mem
      · exact h.mem0
      · exact h.mule
      · exact h.ext
      · exact h.okx
      · intro b' p e
        by_cases q : b' = b
        · subst q; exact hlt
        · simp [g1, q] at e; exact h.xlt b' p e
      · exact h.blt
      · intro q b' p e
        by_cases q' : b' = b
        · subst q'; exact ob1 q
        · simp [g1, q'] at e; exact h.bxx q b' p e
      · exact h.okb
      · exact h.pin

theorem y_ext (h : Sim w0 mu0 T g st a w) {s i : Nat} {ox : Oper} (hop : ox.op = .extract (.tmp s) i) {c : Prop} {lv : LV} (he : ev st (.ext s i) = some (c, lv)) (hc : c) (d : Nat) :
    Yields P w0 mu0 T g (dgr st (.ext s i)) a w ox d lv := by
  simp only [ev] at he
  split at he <;> first | (cases he; done) | skip
  · rename_i gg vs hv
    simp only [Option.some.injEq, Prod.mk.injEq] at he
    obtain ⟨rfl, rfl⟩ := he
    obtain ⟨rfl, hi⟩ := hc
    obtain ⟨us, g', e1, e2, h1, h2⟩ := ext_own h hv hi d
    have hi' : i < us.length := by omega
    refine ⟨us.getD i Go.undef, g', w, ?_, h1, h2⟩
    simp [execOp, hop, Act.eval, Instr.extract] 
    rw [Array.getD_eq_getD_getElem?] at e1
    rw [e1]
    simp [hi', List.getD_eq_getElem?_getD]
  · rename_i gg vs hv
    simp only [Option.some.injEq, Prod.mk.injEq] at he
    obtain ⟨rfl, rfl⟩ := he
    obtain ⟨rfl, hi⟩ := hc
    have hs : RepL g w s (.sv (.tup vs)) (a.tmps.getD s Go.undef) := by have := (h.slots s).gv (by rw [hv]); rwa [hv] at this
    obtain ⟨us, e1, e2, e3⟩ := Rep.inv_tup hs
    have hi' : i < us.length := by omega
    refine ⟨us.getD i Go.undef, g, w, ?_, h.weaken RepL.dgi, e3 i hi⟩
    simp [execOp, hop, Act.eval, Instr.extract] 
    rw [Array.getD_eq_getD_getElem?] at e1
    rw [e1]
    simp [hi', List.getD_eq_getElem?_getD]

theorem y_extS (h : Sim w0 mu0 T g st a w) {s i : Nat} {ox : Oper} (hop : ox.op = .extract (.tmp s) i) {c : Prop} {lv : LV} (he : ev st (.extS s i) = some (c, lv)) (hc : c) (d : Nat) :
    Yields P w0 mu0 T g st a w ox d lv := by
  simp only [ev] at he
  split at he <;> first | (cases he; done) | skip
  · rename_i gg vs hv
    simp only [Option.some.injEq, Prod.mk.injEq] at he
    obtain ⟨rfl, rfl⟩ := he
    obtain ⟨rfl, hi⟩ := hc
    have hs : RepL g w s (.tup vs) (a.tmps.getD s Go.undef) := by have := (h.slots s).gv (by rw [hv]); rwa [hv] at this
    obtain ⟨us, e1, e2, e3⟩ := hs
    have hi' : i < us.length := by omega
    refine ⟨us.getD i Go.undef, g, w, ?_, h, (e3 i hi).share⟩
    simp [execOp, hop, Act.eval, Instr.extract] 
    rw [Array.getD_eq_getD_getElem?] at e1
    rw [e1]
    simp [hi', List.getD_eq_getElem?_getD]
  · rename_i gg vs hv
    simp only [Option.some.injEq, Prod.mk.injEq] at he
    obtain ⟨rfl, rfl⟩ := he
    obtain ⟨rfl, hi⟩ := hc
    have hs : RepL g w s (.sv (.tup vs)) (a.tmps.getD s Go.undef) := by have := (h.slots s).gv (by rw [hv]); rwa [hv] at this
    obtain ⟨us, e1, e2, e3⟩ := Rep.inv_tup hs
    have hi' : i < us.length := by omega
    refine ⟨us.getD i Go.undef, g, w, ?_, h, e3 i hi⟩
    simp [execOp, hop, Act.eval, Instr.extract] 
    rw [Array.getD_eq_getD_getElem?] at e1
    rw [e1]
    simp [hi', List.getD_eq_getElem?_getD]
end Go.Av

set_option linter.unusedSimpArgs false
namespace Go.Av
variable {P : Program} {w0 : World} {mu0 : Mem} {T : Tc} {g g' : Gh} {st : St} {a : Act} {w w' : World}

def layA (off : Nat) (cs vs : Array Value) : Array Value := vs.zipIdx.foldl (fun cs (c, j) => cs.setIfInBounds (off + j) c) cs

theorem layA_list (off : Nat) : ∀ (vs : List Value) (k : Nat) (cs : Array Value),
    ((vs.zipIdx k).foldl (fun (cs : Array Value) (p : Value × Nat) => cs.setIfInBounds (off + p.2) p.1) cs).size = cs.size ∧
    ∀ j, ((vs.zipIdx k).foldl (fun (cs : Array Value) (p : Value × Nat) => cs.setIfInBounds (off + p.2) p.1) cs).getD j Go.undef =
      if off + k ≤ j ∧ j < off + k + vs.length ∧ j < cs.size then vs.getD (j - (off + k)) Go.undef else cs.getD j Go.undef
  | [], k, cs => ⟨rfl, fun j => by simp; intro h1 h2; omega⟩
  | v :: vs, k, cs => by
    simp only [List.zipIdx_cons, List.foldl_cons]
    obtain ⟨h1, h2⟩ := layA_list off vs (k + 1) (cs.setIfInBounds (off + k) v)
    refine ⟨by rw [h1]; simp, fun j => ?_⟩
    rw [h2 j]
    simp only [Array.size_setIfInBounds, List.length_cons]
    by_cases e : j = off + k
    · subst e
      by_cases hc : off + k < cs.size
      · have a1 : ¬ (off + (k + 1) ≤ off + k ∧ off + k < off + (k + 1) + vs.length ∧ off + k < cs.size) := by omega
        have a2 : off + k ≤ off + k ∧ off + k < off + k + (vs.length + 1) ∧ off + k < cs.size := by omega
        rw [if_neg a1, if_pos a2]
        simp [Array.getD_eq_getD_getElem?, hc]
      · have a1 : ¬ (off + (k + 1) ≤ off + k ∧ off + k < off + (k + 1) + vs.length ∧ off + k < cs.size) := by omega
        have a2 : ¬ (off + k ≤ off + k ∧ off + k < off + k + (vs.length + 1) ∧ off + k < cs.size) := by omega
        rw [if_neg a1, if_neg a2]
        simp [Array.getD_eq_getD_getElem?, hc]
    · by_cases hc : off + (k + 1) ≤ j ∧ j < off + (k + 1) + vs.length ∧ j < cs.size
      · have a2 : off + k ≤ j ∧ j < off + k + (vs.length + 1) ∧ j < cs.size := by omega
        rw [if_pos hc, if_pos a2, show j - (off + k) = (j - (off + (k + 1))) + 1 by omega]
        simp
      · have a2 : ¬ (off + k ≤ j ∧ j < off + k + (vs.length + 1) ∧ j < cs.size) := by omega
        rw [if_neg hc, if_neg a2]
        have : ¬ off + k = j := fun q => e q.symm
        simp [Array.getD_eq_getD_getElem?, Array.getElem?_setIfInBounds, this]

theorem layA_spec (off : Nat) (cs vs : Array Value) : (layA off cs vs).size = cs.size ∧ ∀ j, (layA off cs vs).getD j Go.undef = if off ≤ j ∧ j < off + vs.size ∧ j < cs.size then vs.getD (j - off) Go.undef else cs.getD j Go.undef := by
  have := layA_list off vs.toList 0 cs
  simp only [Nat.add_zero, Array.length_toList] at this
  unfold layA
  rw [← Array.foldl_toList, Array.toList_zipIdx]
  refine ⟨this.1, fun j => ?_⟩
  rw [this.2 j]
  simp [List.getD_eq_getElem?_getD, Array.getD_eq_getD_getElem?]

theorem setL_spec : ∀ (vs : List SV) (off : Nat) (cs : List SV), (setL cs off vs).length = cs.length ∧ ∀ j, (setL cs off vs).getD j .undef = if off ≤ j ∧ j < off + vs.length ∧ j < cs.length then vs.getD (j - off) .undef else cs.getD j .undef
  | [], off, cs => ⟨rfl, fun j => by simp [setL]; intro h1 h2; omega⟩
  | v :: vs, off, cs => by
    simp only [setL]
    obtain ⟨h1, h2⟩ := setL_spec vs (off + 1) (cs.set off v)
    refine ⟨by rw [h1]; simp, fun j => ?_⟩
    rw [h2 j]
    simp only [List.length_set, List.length_cons]
    by_cases e : j = off
    · subst e
      by_cases hc : j < cs.length
      · have a1 : ¬ (j + 1 ≤ j ∧ j < j + 1 + vs.length ∧ j < cs.length) := by omega
        have a2 : j ≤ j ∧ j < j + (vs.length + 1) ∧ j < cs.length := by omega
        rw [if_neg a1, if_pos a2]
        simp [List.getD_eq_getElem?_getD, hc]
      · have a1 : ¬ (j + 1 ≤ j ∧ j < j + 1 + vs.length ∧ j < cs.length) := by omega
        have a2 : ¬ (j ≤ j ∧ j < j + (vs.length + 1) ∧ j < cs.length) := by omega
        rw [if_neg a1, if_neg a2]
        simp [List.getD_eq_getElem?_getD, hc]
    · by_cases hc : off + 1 ≤ j ∧ j < off + 1 + vs.length ∧ j < cs.length
      · have a2 : off ≤ j ∧ j < off + (vs.length + 1) ∧ j < cs.length := by omega
        rw [if_pos hc, if_pos a2, show j - off = (j - (off + 1)) + 1 by omega]
        simp
      · have a2 : ¬ (off ≤ j ∧ j < off + (vs.length + 1) ∧ j < cs.length) := by omega
        rw [if_neg hc, if_neg a2]
        have : ¬ off = j := fun q => e q.symm
        simp [List.getD_eq_getElem?_getD, List.getElem?_set, this]

def RepCs (mu : Mem) (cs : List SV) (vs : Array Value) : Prop := vs.size = cs.length ∧ ∀ j, j < cs.length → Rep mu (cs.getD j .undef) (vs.getD j Go.undef)

theorem RepCs.lay {mu : Mem} {cs ds : List SV} {vs us : Array Value} (h : RepCs mu cs vs) (k : RepCs mu ds us) (off : Nat) : RepCs mu (setL cs off ds) (layA off vs us) := by
  obtain ⟨a1, a2⟩ := layA_spec off vs us
  obtain ⟨b1, b2⟩ := setL_spec ds off cs
  refine ⟨by rw [a1, b1]; exact h.1, fun j hj => ?_⟩
  rw [b1] at hj
  rw [a2, b2, h.1, k.1]
  split
  · rename_i hc; exact k.2 _ (by omega)
  · exact h.2 j hj

theorem Rep.repCs {mu : Mem} {v : SV} {x : Value} (h : Rep mu v x) (hv : v.known = true) : RepCs mu v.cells x.cells := by
  obtain ⟨h1, h2⟩ := h.cells (by intro e; subst e; cases hv)
  exact ⟨h1, h2⟩

/-- What the parts of a composite hold. -/
theorem evParts_fill (h : Sim w0 mu0 T g st a w) (place : Nat → Option (Nat × Nat)) : ∀ (ps : List (Nat × Operand)) (qs : List (Nat × Nat × AO)) (c : Prop) (l : List (Nat × List SV)) (cs : List SV) (vs : Array Value),
    ps.length = qs.length → (∀ (j : Nat) (p : Nat × Operand) (q : Nat × Nat × AO), ps[j]? = some p → qs[j]? = some q → place p.1 = some (q.1, q.2.1) ∧ compO p.2 = some q.2.2) →
    evParts st qs = some (c, l) → c → (∀ p ∈ l, p.1 + p.2.length ≤ cs.length) → RepCs g.mu cs vs →
    ∃ us, Instr.fill place vs (ps.map fun (i, x) => (i, a.eval x)) = some us ∧ RepCs g.mu (layV cs l) us
  | [], [], c, l, cs, vs, _, _, he, _, _, hr => by
    simp only [evParts, Option.some.injEq, Prod.mk.injEq] at he
    obtain ⟨rfl, rfl⟩ := he
    exact ⟨vs, rfl, hr⟩
  | (i, x) :: ps, (off, sz, o) :: qs, c, l, cs, vs, hl, hp, he, hc, hle, hr => by
    obtain ⟨hpl, hx⟩ := hp 0 _ _ rfl rfl
    simp only [evParts] at he
    split at he
    case h_2 => cases he
    rename_i gg v c' l' hv he'
    simp only [Option.some.injEq, Prod.mk.injEq] at he
    obtain ⟨rfl, rfl⟩ := he
    obtain ⟨rfl, hnc, hkn, hc'⟩ := hc
    have rv := (rd_rep h hx hv).repCs hkn
    have hle0 := hle _ (List.mem_cons_self ..)
    have hsz : (a.eval x).cells.size = sz := by rw [rv.1]; exact hnc
    have hcsz : vs.size = cs.length := hr.1
    have hcl : v.cells.length = sz := hnc
    obtain ⟨us, f1, f2⟩ := evParts_fill h place ps qs c' l' (setL cs off v.cells) (layA off vs (a.eval x).cells) (by simpa using hl) (fun j p q e1 e2 => hp (j + 1) p q (by simpa using e1) (by simpa using e2)) he' hc'
      (fun p hp' => by rw [(setL_spec _ _ _).1]; exact hle p (List.mem_cons_of_mem _ hp')) (hr.lay rv off)
    refine ⟨us, ?_, f2⟩
    simp only [List.map_cons, Instr.fill, hpl]
    rw [if_neg (by simp only [hsz, hcsz]; simp only [] at hle0; simp; omega)]
    exact f1
  | [], _ :: _, _, _, _, _, hl, _, _, _, _, _ => by simp at hl
  | _ :: _, [], _, _, _, _, hl, _, _, _, _, _ => by simp at hl

/-- The zero value of a type, as cells. -/
def zeroV (P : Program) (t : TypeId) : Option (List SV) := (P.info? t).bind fun i => i.zero.bind fun z => svOfL z.cells.toList

theorem zeroV_run {t : TypeId} {cs : List SV} (h : zeroV P t = some cs) (mu : Mem) (w : World) : ∃ z, (zeroValue t).run P w = .ok z w ∧ RepCs mu cs z.cells := by
  simp only [zeroV, Option.bind_eq_some_iff] at h
  obtain ⟨i, hi, z, hz, hs⟩ := h
  refine ⟨z, by simp [zeroValue, typeInfo, hi, hz], by simpa using (svOfL_length hs).symm, fun j hj => ?_⟩
  have := svOfL_rep mu hs j hj
  simpa [List.getD_eq_getElem?_getD, Array.getD_eq_getD_getElem?] using this

theorem y_build (h : Sim w0 mu0 T g st a w) {t : TypeId} {fs : Array Field} {ps : Array (Nat × Operand)} {zero : List SV} {qs : List (Nat × Nat × AO)} {ox : Oper} (hop : ox.op = .build t ps)
    (ht : P.underlying t = some (.struct fs)) (hi : ∀ f ∈ fs.toList, (P.info? f.type).isSome) (hz : zeroV P t = some zero) (hl : ps.toList.length = qs.length)
    (hp : ∀ (j : Nat) (p : Nat × Operand) (q : Nat × Nat × AO), ps.toList[j]? = some p → qs[j]? = some q → (∃ f : Field, fs[p.1]? = some f ∧ q.1 = f.offset ∧ q.2.1 = P.cellsOf f.type) ∧ compO p.2 = some q.2.2)
    {c : Prop} {lv : LV} (he : ev st (.build zero qs) = some (c, lv)) (hc : c) (d : Nat) : Yields P w0 mu0 T g st a w ox d lv := by
  simp only [ev] at he
  split at he
  case h_2 => cases he
  rename_i c' l hl'
  simp only [Option.some.injEq, Prod.mk.injEq] at he
  obtain ⟨rfl, rfl⟩ := he
  obtain ⟨hc', hle⟩ := hc
  obtain ⟨z, hz1, hz2⟩ := zeroV_run hz g.mu w
  have hplaces : (fs.mapM fun (f : Field) => do pure (f.offset, ← sizeOf f.type) : Sem (Array (Nat × Nat))).run P w = .ok (fs.map fun f => (f.offset, P.cellsOf f.type)) w := by
    have key : ∀ (l : List Field), (∀ f ∈ l, (P.info? f.type).isSome) → (l.mapM fun (f : Field) => do pure (f.offset, ← sizeOf f.type) : Sem (List (Nat × Nat))).run P w = .ok (l.map fun f => (f.offset, P.cellsOf f.type)) w := by
      intro l
      induction l with
      | nil => intro _; rfl
      | cons f l ih =>
        intro hall
        obtain ⟨i, hi'⟩ := Option.isSome_iff_exists.1 (hall f (List.mem_cons_self ..))
        simp only [List.mapM_cons, Sem.run_bind, run_sizeOf' hi', Result.andThen_ok, Sem.run_pure, ih (fun f' hf' => hall f' (List.mem_cons_of_mem _ hf')), List.map_cons]
        simp [Program.cellsOf, hi']
    rw [Array.mapM_eq_mapM_toList, Sem.run_map, key fs.toList hi]
    simp only [Result.andThen_ok]
    congr 1
    apply Array.ext'
    simp
  obtain ⟨us, f1, f2⟩ := evParts_fill h (fun i => (fs.map fun f => (f.offset, P.cellsOf f.type))[i]?) ps.toList qs c' l zero z.cells hl (fun j p q e1 e2 => by
    obtain ⟨⟨f, h1, h2, h3⟩, h4⟩ := hp j p q e1 e2
    exact ⟨by simp [h1, h2, h3], h4⟩) hl' hc' hle hz2
  refine .same h (val := .agg us) ?_ (by
    have := Rep.agg (mu := g.mu) (layV zero l) us.toList (by simpa using f2.1) (fun j hj => by have := f2.2 j hj; simpa [List.getD_eq_getElem?_getD, Array.getD_eq_getD_getElem?] using this)
    show Rep g.mu _ _
    simpa using this)
  simp only [execOp, hop, Sem.run_bind, Instr.build, hz1, Result.andThen_ok, run_underlying ht, hplaces]
  have f1' : Instr.fill (fun x => Option.map (fun f => (f.offset, P.cellsOf f.type)) fs[x]?) z.cells (List.map (fun x => (x.fst, a.eval x.snd)) ps.toList) = some us := by simpa using f1
  simp [f1']

theorem y_buildA (h : Sim w0 mu0 T g st a w) {t e : TypeId} {len : Nat} {i : TypeInfo} {ps : Array (Nat × Operand)} {zero : List SV} {qs : List (Nat × Nat × AO)} {ox : Oper} (hop : ox.op = .build t ps)
    (ht : P.underlying t = some (.array len e)) (hi : P.info? e = some i) (hz : zeroV P t = some zero) (hl : ps.toList.length = qs.length)
    (hp : ∀ (j : Nat) (p : Nat × Operand) (q : Nat × Nat × AO), ps.toList[j]? = some p → qs[j]? = some q → (q.1 = p.1 * i.size ∧ q.2.1 = i.size) ∧ compO p.2 = some q.2.2)
    {c : Prop} {lv : LV} (he : ev st (.build zero qs) = some (c, lv)) (hc : c) (d : Nat) : Yields P w0 mu0 T g st a w ox d lv := by
  simp only [ev] at he
  split at he
  case h_2 => cases he
  rename_i c' l hl'
  simp only [Option.some.injEq, Prod.mk.injEq] at he
  obtain ⟨rfl, rfl⟩ := he
  obtain ⟨hc', hle⟩ := hc
  obtain ⟨z, hz1, hz2⟩ := zeroV_run hz g.mu w
  obtain ⟨us, f1, f2⟩ := evParts_fill h (fun j => some (j * i.size, i.size)) ps.toList qs c' l zero z.cells hl (fun j p q e1 e2 => by
    obtain ⟨⟨h1, h2⟩, h4⟩ := hp j p q e1 e2
    exact ⟨by simp [h1, h2], h4⟩) hl' hc' hle hz2
  refine .same h (val := .agg us) ?_ (by
    have := Rep.agg (mu := g.mu) (layV zero l) us.toList (by simpa using f2.1) (fun j hj => by have := f2.2 j hj; simpa [List.getD_eq_getElem?_getD, Array.getD_eq_getD_getElem?] using this)
    show Rep g.mu _ _
    simpa using this)
  simp only [execOp, hop, Sem.run_bind, Instr.build, hz1, Result.andThen_ok, run_underlying ht, run_sizeOf' hi]
  have f1' : Instr.fill (fun x => some (x * i.size, i.size)) z.cells (List.map (fun x => (x.fst, a.eval x.snd)) ps.toList) = some us := by simpa using f1
  simp [f1']
end Go.Av

set_option linter.unusedSimpArgs false
namespace Go.Av
variable {P : Program} {w0 : World} {mu0 : Mem} {T : Tc} {g g' : Gh} {st : St} {a : Act} {w w' : World}

theorem block_lt {b : Nat} {o : Obj} (h : w.heap[b]? = some o) : b < w.heap.size := by
  rcases Nat.lt_or_ge b w.heap.size with h' | h'
  · exact h'
  · rw [Array.getElem?_eq_none h'] at h; cases h

theorem Sim.used_lt (h : Sim w0 mu0 T g st a w) {b : Nat} (hb : g.x b ≠ none ∨ (∃ s, g.bx s = some b) ∨ st.hp b ≠ none) : b < w.heap.size := by
  rcases hb with hb | ⟨s, hb⟩ | hb
  · obtain ⟨p, hp⟩ := Option.ne_none_iff_exists'.1 hb; exact h.xlt b p hp
  · exact h.blt s b hb
  · obtain ⟨cs, hc⟩ := Option.ne_none_iff_exists'.1 hb
    obtain ⟨⟨_, c, e, fr, h1, _⟩, _⟩ := h.heap b cs hc
    exact block_lt h1

/-- The ghost behind a new block whose first n cells stay. -/
def Gh.new (g : Gh) (b : Nat) (cs : Array Value) (n : Nat) (p : Option Place) : Gh :=
  { g with mu := fun b' j => if b' = b then (if j < n then cs[j]? else none) else g.mu b' j, x := fun b' => if b' = b then p else g.x b' }

theorem heap_alloc_lt {o : Obj} {b : Nat} (hb : b < w.heap.size) : (w.alloc o).heap[b]? = w.heap[b]? := by
  show (w.heap.push o)[b]? = _
  rw [Array.getElem?_push, if_neg (by omega)]
theorem heap_alloc_new (o : Obj) : (w.alloc o).heap[w.heap.size]? = some o := by
  show (w.heap.push o)[w.heap.size]? = _
  rw [Array.getElem?_push, if_pos rfl]

theorem frozen_alloc (w : World) (c : Array Value) (t : TypeId) (a : Addr) : (w.alloc (.cells c t)).frozen? a = w.frozen? a := by
  by_cases h : a.block = w.heap.size
  · have e1 : (w.alloc (.cells c t)).heap[a.block]? = some (.cells c t) := by rw [h]; exact heap_alloc_new _
    have e2 : w.heap[a.block]? = none := by rw [h]; simp
    simp [World.frozen?, e1, e2]
  · by_cases h2 : a.block < w.heap.size
    · simp only [World.frozen?]; rw [heap_alloc_lt h2]
    · have e1 : (w.alloc (.cells c t)).heap[a.block]? = none := by
        apply Array.getElem?_eq_none; simp; omega
      have e2 : w.heap[a.block]? = none := by apply Array.getElem?_eq_none; omega
      simp [World.frozen?, e1, e2]
theorem Ext.alloc {T : Nat → Prop} (w : World) (o : Obj) : Ext T w (w.alloc o) := ⟨rfl, rfl, rfl, by simp, fun k hk _ => heap_alloc_lt hk⟩
theorem frozen_same {w w' : World} {b : Nat} {c c' : Array Value} {e : TypeId} {fr : Nat × Nat} (h1 : ∀ k, k ≠ b → w'.heap[k]? = w.heap[k]?) (h2 : w.heap[b]? = some (.cells c e fr)) (h3 : w'.heap[b]? = some (.cells c' e fr)) (a : Addr) : w'.frozen? a = w.frozen? a := by
  by_cases q : a.block = b
  · simp [World.frozen?, q, h2, h3]
  · simp only [World.frozen?]; rw [h1 _ q]

theorem Sim.newImm' (h : Sim w0 mu0 T g st a w) (cs : Array Value) (e : TypeId) (fr : Nat × Nat) (n : Nat) (p : Option Place) (h1 : ∀ j v, j < n → cs[j]? = some v → v.oneCell' = true) :
    Sim w0 mu0 T (g.new w.heap.size cs n p) st a (w.alloc (.cells cs e fr)) := by
  have hlt : ∀ b j v, g.mu b j = some v → b < w.heap.size := fun b j v e => h.mem.lt e
  have hw0 := h.ext.size
  refine h.grow ?_ ?_ ?_ ?_ ?_ ?_ (h.ext.trans (Ext.alloc w _)) (fun _ => rfl) rfl (by simp)
  · intro b j v e
    have hb := hlt b j v e
    have : b ≠ w.heap.size := by omega
    simp [Gh.new, this, e]
  · intro b hb
    have hb := h.used_lt hb
    have : b ≠ w.heap.size := by omega
    exact ⟨heap_alloc_lt hb, fun j q => by simp [Gh.new, this, q]⟩
  · intro b hb
    have hb := h.used_lt (.inl hb)
    have : b ≠ w.heap.size := by omega
    simp [Gh.new, this]
  · intro b hb hn
    by_cases q : b = w.heap.size
    · subst q
      refine ⟨fun s e => ?_, ?_, by simp⟩
      · have := h.blt s _ e; omega
      · cases hq : st.hp w.heap.size with
        | none => rfl
        | some cs' => have := h.used_lt (b := w.heap.size) (.inr (.inr (by rw [hq]; simp))); omega
    · simp [Gh.new, q, hb] at hn
  · intro b j v hv
    by_cases q : b = w.heap.size
    · subst q
      simp only [Gh.new, if_true] at hv
      split at hv
      · rename_i hj; exact ⟨by unfold World.cell?; rw [heap_alloc_new]; exact hv, h1 j v hj hv⟩
      · cases hv
    · simp only [Gh.new, if_neg q] at hv
      rw [World.cell?_alloc_old _ _ _ q]
      exact h.mem b j v hv
  · intro b j hb _
    have : b ≠ w.heap.size := by omega
    simp [Gh.new, this]

theorem Sim.newImm (h : Sim w0 mu0 T g st a w) (cs : Array Value) (e : TypeId) (n : Nat) (p : Option Place) (h1 : ∀ j v, j < n → cs[j]? = some v → v.oneCell' = true) :
    Sim w0 mu0 T (g.new w.heap.size cs n p) st a (w.alloc (.cells cs e)) := h.newImm' cs e (0, 0) n p h1

theorem isCell_cells {v : SV} (h : v.isCell = true) : v.cells = [v] := by cases v <;> first | rfl | (cases h)
theorem isCell_nc {v : SV} (h : v.isCell = true) : v.nc = 1 := by simp [SV.nc, isCell_cells h]
theorem known_of_cells {v : SV} (h : v.cells.all SV.isCell = true) : v.known = true := by cases v <;> first | rfl | (simp [SV.cells, SV.isCell] at h)
theorem Rep.oneCell {mu : Mem} {v : SV} {x : Value} (h : Rep mu v x) (hv : v.isCell = true) : x.oneCell' = true := by cases h <;> first | rfl | (cases hv)

/-! ### literals of slices -/
theorem setParts_length : ∀ (l : List (Nat × SV)) (xs : List SV), (setParts xs l).length = xs.length
  | [], _ => rfl
  | (i, v) :: l, xs => by simp [setParts, setParts_length l]

/-- A row of elements, as cells. -/
def RepRow (mu : Mem) (sz : Nat) (xs : List SV) (vs : Array Value) : Prop := vs.size = xs.length * sz ∧ (∀ x ∈ xs, x.nc = sz ∧ x.cells.all SV.isCell = true) ∧ ∀ i j, i < xs.length → j < sz → Rep mu ((xs.getD i .undef).cell j) (vs.getD (i * sz + j) Go.undef)

theorem RepRow.lay {mu : Mem} {sz i : Nat} {xs : List SV} {v : SV} {vs us : Array Value} (h : RepRow mu sz xs vs) (hn : v.nc = sz) (hk : v.cells.all SV.isCell = true) (k : RepCs mu v.cells us) (hi : i < xs.length) : RepRow mu sz (xs.set i v) (layA (i * sz) vs us) := by
  obtain ⟨a1, a2⟩ := layA_spec (i * sz) vs us
  have hus : us.size = sz := by rw [k.1]; exact hn
  refine ⟨by rw [a1, h.1]; simp, fun x hx => ?_, fun i' j hi' hj => ?_⟩
  · rcases List.mem_or_eq_of_mem_set hx with hx | rfl
    · exact h.2.1 x hx
    · exact ⟨hn, hk⟩
  · have hi2 : i' < xs.length := by simpa using hi'
    rw [a2, hus, h.1]
    by_cases e : i' = i
    · subst e
      have hb : i' * sz ≤ i' * sz + j ∧ i' * sz + j < i' * sz + sz ∧ i' * sz + j < xs.length * sz := by
        refine ⟨by omega, by omega, ?_⟩
        have : (i' + 1) * sz ≤ xs.length * sz := Nat.mul_le_mul_right _ hi
        rw [Nat.add_mul] at this; omega
      rw [if_pos hb, show i' * sz + j - i' * sz = j by omega]
      have := k.2 j (by rw [← k.1, hus]; exact hj)
      simpa [List.getD_eq_getElem?_getD, hi, SV.cell] using this
    · have hb : ¬ (i * sz ≤ i' * sz + j ∧ i' * sz + j < i * sz + sz ∧ i' * sz + j < xs.length * sz) := by
        rintro ⟨h1, h2, _⟩
        rcases Nat.lt_or_ge i' i with q | q
        · have : (i' + 1) * sz ≤ i * sz := Nat.mul_le_mul_right _ q
          rw [Nat.add_mul] at this; omega
        · have : (i + 1) * sz ≤ i' * sz := Nat.mul_le_mul_right _ (by omega)
          rw [Nat.add_mul] at this; omega
      rw [if_neg hb]
      have := h.2.2 i' j hi2 hj
      have e' : ¬ i = i' := fun q => e q.symm
      simpa [List.getD_eq_getElem?_getD, List.getElem?_set, e'] using this

theorem RepRow.oneCell {mu : Mem} {sz : Nat} {xs : List SV} {vs : Array Value} (h : RepRow mu sz xs vs) {j : Nat} (hj : j < vs.size) {v : Value} (hv : vs[j]? = some v) : v.oneCell' = true := by
  rw [h.1] at hj
  have h0 : 0 < sz := by rcases Nat.eq_zero_or_pos sz with q | q; subst q; simp at hj; exact q
  have hd : j / sz < xs.length := Nat.div_lt_of_lt_mul (by rwa [Nat.mul_comm])
  have hm : j % sz < sz := Nat.mod_lt _ h0
  have hr := h.2.2 (j / sz) (j % sz) hd hm
  have hx := h.2.1 _ (getD_mem hd)
  have hj' : j / sz * sz + j % sz = j := Nat.div_add_mod' j sz
  rw [hj', Array.getD_eq_getD_getElem?, hv] at hr
  refine Rep.oneCell hr ?_
  have hl : j % sz < ((xs.getD (j / sz) .undef).cells).length := by have := hx.1; unfold SV.nc at this; omega
  rw [SV.cell, List.getD_eq_getElem?_getD, List.getElem?_eq_getElem hl]
  exact List.all_eq_true.1 hx.2 _ (List.getElem_mem hl)

theorem evElems_fill (h : Sim w0 mu0 T g st a w) (sz : Nat) : ∀ (ps : List (Nat × Operand)) (qs : List (Nat × AO)) (c : Prop) (l : List (Nat × SV)) (xs : List SV) (vs : Array Value),
    ps.length = qs.length → (∀ (j : Nat) (p : Nat × Operand) (q : Nat × AO), ps[j]? = some p → qs[j]? = some q → p.1 = q.1 ∧ compO p.2 = some q.2) →
    evElems st sz qs = some (c, l) → c → (∀ p ∈ l, p.1 < xs.length) → RepRow g.mu sz xs vs →
    ∃ us, Instr.fill (fun i => some (i * sz, sz)) vs (ps.map fun (i, x) => (i, a.eval x)) = some us ∧ RepRow g.mu sz (setParts xs l) us
  | [], [], c, l, xs, vs, _, _, he, _, _, hr => by
    simp only [evElems, Option.some.injEq, Prod.mk.injEq] at he
    obtain ⟨rfl, rfl⟩ := he
    exact ⟨vs, rfl, hr⟩
  | (i, x) :: ps, (i', o) :: qs, c, l, xs, vs, hl, hp, he, hc, hle, hr => by
    obtain ⟨hpl, hx⟩ := hp 0 _ _ rfl rfl
    simp only [] at hpl hx
    subst hpl
    simp only [evElems] at he
    split at he
    case h_2 => cases he
    rename_i gg v c' l' hv he'
    simp only [Option.some.injEq, Prod.mk.injEq] at he
    obtain ⟨rfl, rfl⟩ := he
    obtain ⟨rfl, hnc, hkn, hc'⟩ := hc
    have rv := (rd_rep h hx hv).repCs (known_of_cells hkn)
    have hle0 : i < xs.length := hle _ (List.mem_cons_self ..)
    have hsz : (a.eval x).cells.size = sz := by rw [rv.1]; exact hnc
    obtain ⟨us, f1, f2⟩ := evElems_fill h sz ps qs c' l' (xs.set i v) (layA (i * sz) vs (a.eval x).cells) (by simpa using hl) (fun j p q e1 e2 => hp (j + 1) p q (by simpa using e1) (by simpa using e2)) he' hc'
      (fun p hp' => by rw [List.length_set]; exact hle p (List.mem_cons_of_mem _ hp')) (hr.lay hnc hkn rv hle0)
    refine ⟨us, ?_, f2⟩
    simp only [List.map_cons, Instr.fill]
    have hb : i * sz + sz ≤ vs.size := by
      rw [hr.1]
      have : (i + 1) * sz ≤ xs.length * sz := Nat.mul_le_mul_right _ hle0
      rw [Nat.add_mul] at this; omega
    rw [if_neg (by simp [hsz]; omega)]
    exact f1
  | [], _ :: _, _, _, _, _, hl, _, _, _, _, _ => by simp at hl
  | _ :: _, [], _, _, _, _, hl, _, _, _, _, _ => by simp at hl

/-- n elements of zeros. -/
theorem zero_row {mu : Mem} {sz n : Nat} {zero : List SV} {z : Array Value} (hz : RepCs mu zero z) (hs : zero.length = sz) (h0 : sz ≠ 0) (hk : zero.all SV.isCell = true) :
    RepRow mu sz (List.replicate n (elemOf sz zero)) ((Array.range (n * sz)).map (z[· % z.size]!)) := by
  have hzs : z.size = sz := by rw [hz.1, hs]
  have hcell : ((elemOf sz zero).nc = sz ∧ (elemOf sz zero).cells.all SV.isCell = true) ∧ ∀ j, j < sz → (elemOf sz zero).cell j = zero.getD j .undef := by
    unfold elemOf
    split
    · rename_i h; rw [h]
      have hq : (zero.getD 0 .undef).isCell = true := by
        have hlt : 0 < zero.length := by omega
        rw [List.getD_eq_getElem?_getD, List.getElem?_eq_getElem hlt]
        exact List.all_eq_true.1 hk _ (List.getElem_mem hlt)
      refine ⟨⟨isCell_nc hq, by rw [isCell_cells hq, List.all_cons, hq]; rfl⟩, fun j hj => ?_⟩
      obtain rfl : j = 0 := by omega
      rw [SV.cell, isCell_cells hq]; rfl
    · exact ⟨⟨hs, hk⟩, fun j hj => rfl⟩
  refine ⟨by simp, fun x hx => by rw [List.eq_of_mem_replicate hx]; exact hcell.1, fun i j hi hj => ?_⟩
  have hi' : i < n := by simpa using hi
  have hb : i * sz + j < n * sz := by
    have : (i + 1) * sz ≤ n * sz := Nat.mul_le_mul_right _ hi'
    rw [Nat.add_mul] at this; omega
  have e1 : ((List.replicate n (elemOf sz zero)).getD i .undef) = elemOf sz zero := by simp [List.getD_eq_getElem?_getD, hi']
  rw [e1, hcell.2 j hj]
  have e2 : (i * sz + j) % z.size = j := by rw [hzs, Nat.mul_comm, Nat.mul_add_mod, Nat.mod_eq_of_lt hj]
  have := hz.2 j (by omega)
  have hjz : j < z.size := by omega
  simp only [Array.getD_eq_getD_getElem?, Array.getElem?_map, Array.getElem?_range, hb, if_true, Option.map_some, Option.getD_some, e2]
  simpa [Array.getD_eq_getD_getElem?, hjz] using this

theorem RepRow.rep {mu : Mem} {sz : Nat} {xs : List SV} {vs : Array Value} (h : RepRow mu sz xs vs) {b off cap : Nat} (hm : ∀ j, j < xs.length * sz → mu b (off + j) = some (vs.getD j Go.undef)) (hc : xs.length ≤ cap) :
    Rep mu (.sl sz xs) (.slice (some ⟨b, off, none⟩) xs.length cap) := by
  refine .sl sz xs b off cap (fun i j => vs.getD (i * sz + j) Go.undef) hc (fun x hx => (h.2.1 x hx).1) (fun i j hi hj => ?_) h.2.2
  rw [Nat.add_assoc]
  refine hm _ ?_
  have : (i + 1) * sz ≤ xs.length * sz := Nat.mul_le_mul_right _ hi
  rw [Nat.add_mul] at this; omega

theorem RepRow.mono {mu mu' : Mem} {sz : Nat} {xs : List SV} {vs : Array Value} (hm : mu.le mu') (h : RepRow mu sz xs vs) : RepRow mu' sz xs vs := ⟨h.1, h.2.1, fun i j hi hj => (h.2.2 i j hi hj).mono hm⟩

theorem Gh.new_le (hm : MemOK g.mu w) (cs : Array Value) (n : Nat) (p : Option Place) : g.mu.le (g.new w.heap.size cs n p).mu := by
  intro b j v e
  have hb := hm.lt e
  have : b ≠ w.heap.size := by omega
  simp [Gh.new, this, e]

theorem y_bsl (h : Sim w0 mu0 T g st a w) {t e : TypeId} {n : Nat} {ps : Array (Nat × Operand)} {zero : List SV} {qs : List (Nat × AO)} {i : TypeInfo} {ox : Oper} (hop : ox.op = .buildSlice t n ps)
    (ht : P.underlying t = some (.slice e)) (hi : P.info? e = some i) (h0 : i.size ≠ 0) (hbig : n * i.size ≤ 2 ^ 24) (hz : zeroV P e = some zero) (hzs : zero.length = i.size) (h1 : zero.all SV.isCell = true)
    (hl : ps.toList.length = qs.length) (hp : ∀ (j : Nat) (p : Nat × Operand) (q : Nat × AO), ps.toList[j]? = some p → qs[j]? = some q → p.1 = q.1 ∧ compO p.2 = some q.2)
    {c : Prop} {lv : LV} (he : ev st (.bsl i.size n zero qs) = some (c, lv)) (hc : c) (d : Nat) : Yields P w0 mu0 T g st a w ox d lv := by
  simp only [ev] at he
  split at he
  case h_2 => cases he
  rename_i c' l hl'
  simp only [Option.some.injEq, Prod.mk.injEq] at he
  obtain ⟨rfl, rfl⟩ := he
  obtain ⟨hc', hle⟩ := hc
  obtain ⟨z, hz1, hz2⟩ := zeroV_run hz g.mu w
  have hrow : RepRow g.mu i.size (List.replicate n (elemOf i.size zero)) ((Array.range (n * i.size)).map ((if n * i.size = 0 then #[] else z.cells)[· % (if n * i.size = 0 then #[] else z.cells).size]!)) := by
    by_cases q : n * i.size = 0
    · obtain rfl : n = 0 := by rcases Nat.mul_eq_zero.1 q with q | q; exact q; exact absurd q h0
      refine ⟨by simp, by simp, fun i' j hi' => by simp at hi'⟩
    · simp only [q, if_false]
      exact zero_row hz2 hzs h0 h1
  obtain ⟨us, f1, f2⟩ := evElems_fill h i.size ps.toList qs c' l _ _ hl hp hl' hc' (by simpa using hle) hrow
  have hlen : (setParts (List.replicate n (elemOf i.size zero)) l).length = n := by simp [setParts_length]
  let g1 := g.new w.heap.size us us.size (some (.slot d 0))
  refine ⟨.slice (some ⟨w.heap.size, 0, none⟩) n n, g1, w.alloc (.cells us e), ?_, h.newImm us e us.size (some (.slot d 0)) (fun j v hj hv => f2.oneCell hj hv), ?_⟩
  · simp only [execOp, hop, Sem.run_bind, Instr.buildSlice, run_underlying ht, Result.andThen_ok, run_sizeOf' hi]
    rw [if_neg (by omega)]
    have hzz : (if n * i.size = 0 then (pure #[] : Sem (Array Value)) else do pure (← zeroValue e).cells).run P w = .ok (if n * i.size = 0 then #[] else z.cells) w := by
      split <;> simp [hz1]
    have hps : (Array.map (fun x => (x.fst, a.eval x.snd)) ps).toList = ps.toList.map fun (i, x) => (i, a.eval x) := by simp
    rw [hps]
    by_cases q : n * i.size = 0
    · simp only [q, if_true] at f1 ⊢
      simp only [Sem.run_bind, Sem.run_pure, Result.andThen_ok, f1]
      simp [newRow]
    · simp only [q, if_false] at f1 ⊢
      simp only [Sem.run_bind, Sem.run_pure, Result.andThen_ok, hz1, f1]
      simp [newRow]
  · refine .inr ⟨w.heap.size, 0, n, by rw [hlen], ?_, by simp [g1, Gh.new], h.okNew (Nat.le_refl _), ⟨us, e, (0, 0), heap_alloc_new _, by rw [f2.1]; simp [setParts_length], .inl rfl⟩, fun j hj => ?_⟩
    case refine_2 =>
      have : ¬ j < us.size := by rw [f2.1]; omega
      simp [g1, Gh.new, this]
    have hr := (f2.mono (Gh.new_le h.mem us us.size (some (.slot d 0)))).rep (b := w.heap.size) (off := 0) (cap := n) (fun j hj => by
      have : j < us.size := by rw [f2.1]; exact hj
      simp [g1, Gh.new, this, Array.getD_eq_getD_getElem?]) (by omega)
    rw [hlen] at hr
    exact hr
end Go.Av

set_option linter.unusedSimpArgs false
namespace Go.Av
variable {P : Program} {w0 : World} {mu0 : Mem} {T : Tc} {g g' : Gh} {st : St} {a : Act} {w w' : World}

theorem setCells_heap (b : Nat) : ∀ (vs : List Value) (o : Nat) (w : World),
    (w.setCells b o vs).os = w.os ∧ (w.setCells b o vs).tape = w.tape ∧ (w.setCells b o vs).output = w.output ∧ (w.setCells b o vs).heap.size = w.heap.size ∧
    (∀ k, k ≠ b → (w.setCells b o vs).heap[k]? = w.heap[k]?) ∧
    ∀ c e fr, w.heap[b]? = some (.cells c e fr) → ∃ c', (w.setCells b o vs).heap[b]? = some (.cells c' e fr) ∧ c'.size = c.size
  | [], o, w => ⟨rfl, rfl, rfl, rfl, fun _ _ => rfl, fun c e fr h => ⟨c, h, rfl⟩⟩
  | v :: r, o, w => by
    obtain ⟨h1, h2, h3, h4, h5, h6⟩ := setCells_heap b r (o + 1) (w.setCell ⟨b, o, none⟩ v)
    refine ⟨h1, h2, h3, by rw [World.setCells, h4, World.size_setCell], fun k hk => ?_, fun c e fr h => ?_⟩
    · rw [World.setCells, h5 k hk]
      simp only [World.setCell, Array.getElem?_modify]
      rw [if_neg (fun q => hk q.symm)]
    · obtain ⟨c', e1, e2⟩ := h6 (c.setIfInBounds o v) e fr (by simp [World.setCell, Array.getElem?_modify, h])
      exact ⟨c', e1, by rw [e2]; simp⟩

/-- A row's first cells, read. -/
theorem firstCells_sl {mu : Mem} {w : World} (hm : MemOK mu w) {sz : Nat} {ys : List SV} {v : Value} (hr : Rep mu (.sl sz ys) v) :
    ∃ vs : Array Value, (∀ w', MemOK mu w' → (Builtin.firstCells sz ys.length v).run P w' = .ok vs w') ∧ vs.size = ys.length * sz ∧ (∀ x ∈ ys, x.nc = sz) ∧ (∀ x ∈ vs.toList, x.oneCell' = true) ∧
      ∀ i j, i < ys.length → j < sz → Rep mu ((ys.getD i .undef).cell j) (vs.getD (i * sz + j) Go.undef) := by
  rcases hr.inv_sl with ⟨⟨p, cap, rfl, _⟩, rfl⟩ | ⟨b, off, cap, vals, rfl, _, q1, q2, q3⟩
  · refine ⟨#[], fun _ _ => ?_, by simp, by simp, by simp, by simp⟩
    cases p with
    | none => rfl
    | some a0 => simp [Builtin.firstCells, loadCells, loadCellsFrom]
  · let f : Nat → Value := fun k => vals (k / sz) (k % sz)
    have hf : ∀ k, k < ys.length * sz → mu b (off + k) = some (f k) := by
      intro k hk
      have h0 : 0 < sz := by rcases Nat.eq_zero_or_pos sz with q | q; subst q; simp at hk; exact q
      have := q2 (k / sz) (k % sz) (Nat.div_lt_of_lt_mul (by rwa [Nat.mul_comm])) (Nat.mod_lt _ h0)
      rwa [Nat.add_assoc, Nat.div_add_mod'] at this
    refine ⟨((List.range (ys.length * sz)).map f).toArray, ?_, by simp, q1, ?_, ?_⟩
    · intro w' hm'
      simp only [Builtin.firstCells]
      exact run_loadCells w' _ _ f (fun j hj => by rw [Addr.add_lit]; exact (hm' _ _ _ (hf j hj)).1)
    · intro x hx
      simp only [List.mem_map, List.mem_range] at hx
      obtain ⟨k, hk, rfl⟩ := hx
      exact (hm _ _ _ (hf k hk)).2
    · intro i j hi hj
      have hlt : i * sz + j < ys.length * sz := by
        have : (i + 1) * sz ≤ ys.length * sz := Nat.mul_le_mul_right _ hi
        rw [Nat.add_mul] at this; omega
      have hfk : f (i * sz + j) = vals i j := by
        have h0 : 0 < sz := by omega
        simp only [f]
        rw [Nat.mul_comm i sz, Nat.mul_add_div h0, Nat.mul_add_mod, Nat.div_eq_of_lt hj, Nat.mod_eq_of_lt hj, Nat.add_zero]
      have := q3 i j hi hj
      simpa [Array.getD_eq_getD_getElem?, hlt, hfk] using this

/-- Cells of new elements. -/
def NewRow (mu : Mem) (sz : Nat) (ys : List SV) (vs : Array Value) : Prop := vs.size = ys.length * sz ∧ (∀ x ∈ ys, x.nc = sz) ∧ (∀ x ∈ vs.toList, x.oneCell' = true) ∧
  ∀ i j, i < ys.length → j < sz → Rep mu ((ys.getD i .undef).cell j) (vs.getD (i * sz + j) Go.undef)
theorem NewRow.mono {mu mu' : Mem} (hm : mu.le mu') {sz : Nat} {ys : List SV} {vs : Array Value} (h : NewRow mu sz ys vs) : NewRow mu' sz ys vs := ⟨h.1, h.2.1, h.2.2.1, fun i j hi hj => (h.2.2.2 i j hi hj).mono hm⟩

theorem NewRow.append {mu : Mem} {sz : Nat} {xs ys : List SV} {vs us : Array Value} (h : NewRow mu sz xs vs) (k : NewRow mu sz ys us) : NewRow mu sz (xs ++ ys) (vs ++ us) := by
  refine ⟨by simp [h.1, k.1, Nat.add_mul], fun x hx => ?_, fun x hx => ?_, fun i j hi hj => ?_⟩
  · rcases List.mem_append.1 hx with hx | hx
    · exact h.2.1 x hx
    · exact k.2.1 x hx
  · simp only [Array.toList_append, List.mem_append] at hx
    rcases hx with hx | hx
    · exact h.2.2.1 x hx
    · exact k.2.2.1 x hx
  · by_cases q : i < xs.length
    · have hlt : i * sz + j < vs.size := by
        rw [h.1]
        have : (i + 1) * sz ≤ xs.length * sz := Nat.mul_le_mul_right _ q
        rw [Nat.add_mul] at this; omega
      have := h.2.2.2 i j q hj
      simpa [List.getD_eq_getElem?_getD, Array.getD_eq_getD_getElem?, q, Array.getElem?_append_left hlt, List.getElem?_append_left q] using this
    · simp only [List.length_append] at hi
      have hge : vs.size ≤ i * sz + j := by
        rw [h.1]
        have : xs.length * sz ≤ i * sz := Nat.mul_le_mul_right _ (by omega)
        omega
      have := k.2.2.2 (i - xs.length) j (by omega) hj
      have he : i * sz + j - vs.size = (i - xs.length) * sz + j := by
        rw [h.1, Nat.sub_mul]
        have : xs.length * sz ≤ i * sz := Nat.mul_le_mul_right _ (by omega)
        omega
      simpa [List.getD_eq_getElem?_getD, Array.getD_eq_getD_getElem?, Array.getElem?_append_right hge, he, List.getElem?_append_right (Nat.le_of_not_lt q)] using this

theorem NewRow.rep {mu : Mem} {sz : Nat} {xs : List SV} {vs : Array Value} (h : NewRow mu sz xs vs) {b off cap : Nat} (hm : ∀ j, j < xs.length * sz → mu b (off + j) = some (vs.getD j Go.undef)) (hc : xs.length ≤ cap) :
    Rep mu (.sl sz xs) (.slice (some ⟨b, off, none⟩) xs.length cap) := by
  refine .sl sz xs b off cap (fun i j => vs.getD (i * sz + j) Go.undef) hc h.2.1 (fun i j hi hj => ?_) h.2.2.2
  rw [Nat.add_assoc]
  refine hm _ ?_
  have : (i + 1) * sz ≤ xs.length * sz := Nat.mul_le_mul_right _ hi
  rw [Nat.add_mul] at this; omega

/-- The cells of a slice, out of immutable memory. -/
theorem NewRow.of_rep {mu : Mem} (hm : MemOK mu w) {sz : Nat} {xs : List SV} {b off cap : Nat} (hr : Rep mu (.sl sz xs) (.slice (some ⟨b, off, none⟩) xs.length cap)) :
    ∃ vs : Array Value, NewRow mu sz xs vs ∧ ∀ j, j < xs.length * sz → mu b (off + j) = some (vs.getD j Go.undef) := by
  rcases hr.inv_sl with ⟨_, rfl⟩ | ⟨b', off', cap', vals, e, _, q1, q2, q3⟩
  · exact ⟨#[], ⟨by simp, by simp, by simp, by simp⟩, by simp⟩
  · cases e
    let f : Nat → Value := fun k => vals (k / sz) (k % sz)
    have hf : ∀ k, k < xs.length * sz → mu b (off + k) = some (f k) := by
      intro k hk
      have h0 : 0 < sz := by rcases Nat.eq_zero_or_pos sz with q | q; subst q; simp at hk; exact q
      have := q2 (k / sz) (k % sz) (Nat.div_lt_of_lt_mul (by rwa [Nat.mul_comm])) (Nat.mod_lt _ h0)
      rwa [Nat.add_assoc, Nat.div_add_mod'] at this
    refine ⟨((List.range (xs.length * sz)).map f).toArray, ⟨by simp, q1, ?_, ?_⟩, fun j hj => by rw [hf j hj]; simp [Array.getD_eq_getD_getElem?, hj]⟩
    · intro x hx
      simp only [List.mem_map, List.mem_range] at hx
      obtain ⟨k, hk, rfl⟩ := hx
      exact (hm _ _ _ (hf k hk)).2
    · intro i j hi hj
      have hlt : i * sz + j < xs.length * sz := by
        have : (i + 1) * sz ≤ xs.length * sz := Nat.mul_le_mul_right _ hi
        rw [Nat.add_mul] at this; omega
      have hfk : f (i * sz + j) = vals i j := by
        have h0 : 0 < sz := by omega
        simp only [f]
        rw [Nat.mul_comm i sz, Nat.mul_add_div h0, Nat.mul_add_mod, Nat.div_eq_of_lt hj, Nat.mod_eq_of_lt hj, Nat.add_zero]
      have := q3 i j hi hj
      simpa [Array.getD_eq_getD_getElem?, hlt, hfk] using this

theorem run_append_in {t tx e ty : TypeId} {i : TypeInfo} {dx : TypeDesc} {q : Option Addr} {n m cap : Nat} {new : Array Value} {vx : Value}
    (ht : P.underlying t = some (.slice e)) (hi : P.info? e = some i) (hdx : P.underlying tx = some dx) (hdi : ∀ k, dx ≠ .int k)
    (hn : (Builtin.lenOf vx).run P w = .ok m w) (hfirst : (Builtin.firstCells i.size m vx).run P w = .ok new w) (hfit : n + m ≤ cap)
    (hst : ∀ a, q = some a → (storeCells (a.add (n * i.size)) new.toList).run P w = .ok () w') (hq : q = none → w' = w) :
    (Builtin.append_ #[t, tx] ty #[.slice q n cap, vx]).run P w = .ok (.slice q (n + m) cap) w' := by
  have hz : (match dx with | .int _ => true | _ => false) = false := by cases dx <;> first | rfl | exact absurd rfl (hdi _)
  simp only [Builtin.append_, List.getElem?_toArray, List.getElem?_cons_zero, List.getElem?_cons_succ, Sem.run_bind, run_underlying ht, Result.andThen_ok, run_sizeOf' hi, run_underlying hdx, Sem.run_pure, hz, hn, Bool.false_eq_true, if_false]
  rw [if_pos hfit]
  simp only [Bool.not_false, if_true, Sem.run_bind, hfirst, Result.andThen_ok]
  cases q with
  | none => rw [hq rfl]; rfl
  | some a => simp only [Sem.run_bind, hst a rfl, Result.andThen_ok]; rfl

theorem run_append_out {t tx e ty : TypeId} {i : TypeInfo} {dx : TypeDesc} {z : Value} {q : Option Addr} {n m cap : Nat} {old new : Array Value} {vx : Value}
    (ht : P.underlying t = some (.slice e)) (hi : P.info? e = some i) (hz : i.zero = some z) (hdx : P.underlying tx = some dx) (hdi : ∀ k, dx ≠ .int k)
    (hn : (Builtin.lenOf vx).run P w = .ok m w) (hfirst : (Builtin.firstCells i.size m vx).run P w.drew = .ok new w.drew) (hold : (Builtin.firstCells i.size n (.slice q n cap)).run P w.drew = .ok old w.drew)
    (hfit : ¬ n + m ≤ cap) (hb : (n + m) * i.bytes ≤ 140737488355328) (h63 : n + m ≤ 9223372036854775807) :
    ∃ newCap, n + m ≤ newCap ∧ (Builtin.append_ #[t, tx] ty #[.slice q n cap, vx]).run P w =
      .ok (.slice (some ⟨w.heap.size, 0, none⟩) (n + m) newCap) (w.drew.alloc (.cells (old ++ new ++ Builtin.zeroCells z.cells (newCap - (n + m))) e)) := by
  have hz' : (match dx with | .int _ => true | _ => false) = false := by cases dx <;> first | rfl | exact absurd rfl (hdi _)
  refine ⟨n + m + w.tape w.drawn (.appendCap (n + m) cap e) % (2 ^ 63 - (n + m)), by omega, ?_⟩
  simp only [Builtin.append_, List.getElem?_toArray, List.getElem?_cons_zero, List.getElem?_cons_succ, Sem.run_bind, run_underlying ht, Result.andThen_ok, run_sizeOf' hi, run_underlying hdx, Sem.run_pure, hz', hn, Bool.false_eq_true, if_false]
  have hti : ∀ w, (typeInfo e).run P w = .ok i w := fun w => by simp [typeInfo, hi]
  have hzv : ∀ w, (zeroValue e).run P w = .ok z w := fun w => by simp [zeroValue, hti, hz]
  have hgrow : ¬ (Builtin.nextslicecap (n + m) cap * i.bytes > 2 ^ 48) := by
    have := growslice_fits (bytes := i.bytes) (Nat.lt_of_not_le hfit) hb
    have e : (2 : Nat) ^ 48 = 281474976710656 := by decide
    omega
  rw [if_neg hfit]
  simp only [Sem.run_bind, hti, Result.andThen_ok]
  rw [if_neg (by rw [IntKind.max_i64]; rintro ⟨h1, _⟩; omega)]
  simp only [Sem.run_bind, hti, Result.andThen_ok]
  rw [if_neg hgrow]
  simp only [Sem.run_bind, run_choose, Question.forced, Bool.false_eq_true, if_false, Question.cut, Result.andThen_ok, hti, run_askRoom, World.drew_eq, hold, Bool.not_false, if_true, hfirst, hzv, newRow, run_newObj, Sem.run_pure, World.alloc_eq]
  rfl

/-- The append itself. -/
theorem append_ok (h : Sim w0 mu0 T g st a w) {s : Nat} {xs ys : List SV} {t tx e : TypeId} {i : TypeInfo} {new : Array Value} {vx : Value} (hl : (lk st.sl s).gv = (true, .own i.size xs))
    (ht : P.underlying t = some (.slice e)) (hi : P.info? e = some i) (hzr : ∃ z, i.zero = some z ∧ z.cells.size = i.size) (htx : ∃ dx, P.underlying tx = some dx ∧ ∀ k, dx ≠ .int k)
    (hn : (Builtin.lenOf vx).run P w = .ok ys.length w) (hfirst : (Builtin.firstCells i.size ys.length vx).run P w = .ok new w) (hfirst' : (Builtin.firstCells i.size ys.length vx).run P w.drew = .ok new w.drew) (hnew : NewRow g.mu i.size ys new)
    (hfit : (xs.length + ys.length) * i.bytes ≤ 140737488355328) (h63 : xs.length + ys.length ≤ 9223372036854775807) (ty : TypeId) (d : Nat) :
    ∃ val g' w', (Builtin.append_ #[t, tx] ty #[a.tmps.getD s Go.undef, vx]).run P w = .ok val w' ∧ Sim w0 mu0 T g' { st with sl := (s, (lk st.sl s).dg) :: st.sl } a w' ∧ RepL g' w' d (.own i.size (xs ++ ys)) val := by
  obtain ⟨z, hz, hzs⟩ := hzr
  obtain ⟨dx, hdx, hdi⟩ := htx
  have hown : RepL g w s (.own i.size xs) (a.tmps.getD s Go.undef) := by have := (h.slots s).gv (by rw [hl]); rwa [hl] at this
  -- it grows
  have grows : ∀ (q : Option Addr) (cap : Nat), a.tmps.getD s Go.undef = .slice q xs.length cap → Rep g.mu (.sl i.size xs) (.slice q xs.length cap) → ¬ xs.length + ys.length ≤ cap →
      ∃ val g' w', (Builtin.append_ #[t, tx] ty #[a.tmps.getD s Go.undef, vx]).run P w = .ok val w' ∧ Sim w0 mu0 T g' { st with sl := (s, (lk st.sl s).dg) :: st.sl } a w' ∧ RepL g' w' d (.own i.size (xs ++ ys)) val := by
    intro q cap hv hr hc
    have hd := (h.dg s).drew
    obtain ⟨old, o1, o2, o3, o4, o5⟩ := firstCells_sl (P := P) hd.mem hr
    obtain ⟨newCap, hle, hrun⟩ := run_append_out (ty := ty) ht hi hz hdx hdi hn hfirst' (o1 _ hd.mem) hc hfit h63
    let cs := old ++ new ++ Builtin.zeroCells z.cells (newCap - (xs.length + ys.length))
    have hcs : cs.size = newCap * i.size := by
      simp only [cs, Array.size_append, o2, hnew.1, Builtin.zeroCells, Array.size_map, Array.size_range, hzs]
      rw [Nat.sub_mul, Nat.add_mul]
      have : (xs.length + ys.length) * i.size ≤ newCap * i.size := Nat.mul_le_mul_right _ hle
      rw [Nat.add_mul] at this
      omega
    have hrow := NewRow.append (mu := g.mu) ⟨o2, o3, o4, o5⟩ hnew
    have hsim := hd.newImm cs e (old ++ new).size (some (.slot d 0)) (fun j v hj hv => by
      rw [Array.getElem?_append_left hj] at hv
      exact hrow.2.2.1 v (by simpa using Array.mem_of_getElem? hv))
    refine ⟨_, _, _, by rw [hv]; exact hrun, hsim, .inr ⟨w.heap.size, 0, newCap, by simp, ?_, by simp [Gh.new], h.okNew (by simp), ⟨cs, e, (0, 0), ?_, by omega, .inl rfl⟩, ?_⟩⟩
    · have hrep := (hrow.mono (Gh.new_le (w := w.drew) hd.mem cs (old ++ new).size (some (.slot d 0)))).rep (b := w.heap.size) (off := 0) (cap := newCap) (fun j hj => by
        have hj' : j < (old ++ new).size := by rw [hrow.1]; exact hj
        simp only [Gh.new, World.size_drew, if_true, Nat.zero_add, hj']
        rw [Array.getElem?_append_left hj', Array.getD_eq_getD_getElem?, Array.getElem?_eq_getElem hj']; rfl) (by simpa using hle)
      simpa using hrep
    · exact heap_alloc_new (w := w.drew) _
    · intro j hj
      have : ¬ j < (old ++ new).size := by rw [hrow.1]; omega
      simp only [Gh.new, World.size_drew, if_true, this, if_false]
  rcases hown with ⟨h1, h2⟩ | ⟨b, off, cap, hv, hr, hx, hB, ⟨c, e', fr, hb, hcsz, hfr⟩, hsp⟩
  · -- no spare room
    obtain rfl : xs = [] := by
      rcases (h2 ▸ h1 : Rep g.mu (.sl i.size xs) (.slice none 0 0)).inv_sl with ⟨_, e⟩ | ⟨_, _, _, _, e1, _⟩
      · exact e
      · cases e1
    by_cases hc : ([] : List SV).length + ys.length ≤ 0
    · have hy : ys = [] := List.eq_nil_of_length_eq_zero (by omega)
      subst hy
      have hne : new.toList = [] := by have := hnew.1; simp at this; simp [this]
      refine ⟨_, g, w, by rw [h2]; exact run_append_in (w' := w) ht hi hdx hdi hn hfirst hc (fun a' _ => by rw [hne]; rfl) (fun _ => rfl), h.dg s, .inl ⟨by rw [h2] at h1; simpa using h1, by simp⟩⟩
    · exact grows none 0 h2 (h2 ▸ h1) hc
  · by_cases hc : xs.length + ys.length ≤ cap
    · -- in place
      have hbB : b < w0.heap.size → T.ar b := by have := hB; rw [h.okx] at this; exact this
      have hlt : b < w.heap.size := h.xlt b _ hx
      obtain ⟨ob1, ob2⟩ := h.own_block hx
      have h1 := h.disown' hl hv hx
      let o := off + xs.length * i.size
      have hroom : off + (xs.length + ys.length) * i.size ≤ c.size := by
        have : (xs.length + ys.length) * i.size ≤ cap * i.size := Nat.mul_le_mul_right _ hc
        omega
      rw [Nat.add_mul] at hroom
      have hns : new.size = ys.length * i.size := hnew.1
      have hcell : ∀ j, j < new.toList.length → (w.cell? ⟨b, o + 0 + j, none⟩).isSome = true := fun j hj => by
        have : o + 0 + j < c.size := by simp at hj; omega
        rw [cell_of_block hb, Array.getElem?_eq_getElem this]; rfl
      have hfro : ∀ j, j < new.toList.length → w.frozen? ⟨b, o + 0 + j, none⟩ = false := fun j hj => by
        have hlt : o + 0 + j < c.size := by simp at hj; omega
        have := hfr.not _ hlt
        simp only [World.frozen?, hb]
        simp only [Bool.and_eq_false_iff, decide_eq_false_iff_not]
        omega
      have hst := run_storeCells_cells (P := P) b o new.toList 0 w hcell hfro hnew.2.2.1
      simp only [Nat.add_zero] at hst hcell hfro
      obtain ⟨k1, k2, k3, k4, k5, k6⟩ := setCells_heap b new.toList o w
      obtain ⟨c', hb', hc'⟩ := k6 c e' fr hb
      let g2 : Gh := { mu := fun b' j => if b' = b ∧ o ≤ j ∧ j < o + new.size then new[j - o]? else g.mu b' j, x := fun b' => if b' = b then some (.slot d 0) else g.x b', bx := g.bx, okx := g.okx, okb := g.okb }
      have hmule : g.mu.le g2.mu := fun b' j v hm => by
        by_cases q : b' = b ∧ o ≤ j ∧ j < o + new.size
        · obtain ⟨rfl, q1, q2⟩ := q
          rw [hsp j q1] at hm; cases hm
        · simp only [g2, q, if_false]; exact hm
      refine ⟨_, g2, w.setCells b o new.toList, by rw [hv]; exact run_append_in (w' := w.setCells b o new.toList) ht hi hdx hdi hn hfirst hc (fun a' ha' => by cases ha'; rw [Addr.add_lit]; exact hst) (fun q => by cases q), ?_, ?_⟩
      · refine h1.grow (g' := g2) hmule ?_ ?_ ?_ ?_ ?_ ?_ (fun _ => rfl) rfl (Nat.le_of_eq k4.symm)
        · intro b' hu
          have hne : b' ≠ b := by
            rintro rfl
            rcases hu with hu | ⟨s', hu⟩ | hu
            · simp at hu
            · exact ob1 s' hu
            · exact hu ob2
          exact ⟨k5 b' hne, fun j q => by simp [g2, hne]; exact q⟩
        · intro b' hu
          have hne : b' ≠ b := by rintro rfl; simp at hu
          simp [g2, hne]
        · intro b' hu1 hu2
          by_cases q : b' = b
          · subst q; exact ⟨ob1, ob2, by rw [k4]; exact hlt⟩
          · simp [q] at hu1; simp [g2, q, hu1] at hu2
        · intro b' j v hm
          by_cases q : b' = b ∧ o ≤ j ∧ j < o + new.size
          · obtain ⟨rfl, q1, q2⟩ := q
            simp only [g2, q1, q2, true_and, if_true] at hm
            have hj : j - o < new.toList.length := by simp; omega
            have := World.cell?_setCells_in b' new.toList o w hcell (j - o) hj
            rw [show o + (j - o) = j by omega] at this
            have hv' : new.toList[j - o] = v := by
              rw [← Array.getElem?_toList, List.getElem?_eq_getElem hj] at hm
              exact Option.some.inj hm
            exact ⟨by rw [this, hv'], hnew.2.2.1 v (by rw [← hv']; exact List.getElem_mem hj)⟩
          · simp only [g2, q, if_false] at hm
            have hm' := h.mem b' j v hm
            refine ⟨?_, hm'.2⟩
            rw [World.cell?_setCells_out b new.toList o w ⟨b', j, none⟩ (fun e1 _ => by simp at e1; simp; omega)]
            exact hm'.1
        · intro b' j hlt' har
          have : ¬ (b' = b ∧ o ≤ j ∧ j < o + new.size) := by rintro ⟨rfl, _⟩; exact har (hbB hlt')
          simp [g2, this]
        · exact ⟨k1.trans h.ext.os, k2.trans h.ext.tape, k3.trans h.ext.output, by rw [k4]; exact h.ext.size, fun k hk ht' => (k5 k (fun e => by subst e; exact ht' (.inr (hbB hk)))).trans (h.ext.block k hk ht')⟩
      · obtain ⟨vs, r1, r2⟩ := NewRow.of_rep h.mem (hv ▸ hr)
        have hrow := (r1.append hnew).mono hmule
        refine .inr ⟨b, off, cap, by simp, ?_, by simp [g2], hB, ⟨c', e', fr, hb', by omega, hfr.size (by omega)⟩, fun j hj => ?_⟩
        · have := hrow.rep (b := b) (off := off) (cap := cap) (fun j hj => by
            simp only [List.length_append, Nat.add_mul] at hj
            by_cases q : j < xs.length * i.size
            · have hjv : j < vs.size := by rw [r1.1]; exact q
              rw [hmule b (off + j) _ (r2 j q), Array.getD_eq_getD_getElem?, Array.getD_eq_getD_getElem?, Array.getElem?_append_left hjv]
            · have hjv : vs.size ≤ j := by rw [r1.1]; omega
              have hjn : j - vs.size < new.size := by rw [r1.1, hnew.1]; omega
              have hc1 : b = b ∧ o ≤ off + j ∧ off + j < o + new.size := ⟨rfl, by simp only [o]; omega, by rw [hnew.1]; simp only [o]; omega⟩
              have hc2 : off + j - o = j - vs.size := by rw [r1.1]; simp only [o]; omega
              rw [show g2.mu b (off + j) = (if b = b ∧ o ≤ off + j ∧ off + j < o + new.size then new[off + j - o]? else g.mu b (off + j)) from rfl, if_pos hc1, hc2, Array.getD_eq_getD_getElem?, Array.getElem?_append_right hjv, Array.getElem?_eq_getElem hjn]
              rfl) (by simpa using hc)
          simpa using this
        · simp only [List.length_append, Nat.add_mul] at hj
          have : ¬ (b = b ∧ o ≤ j ∧ j < o + new.size) := by rintro ⟨_, q1, q2⟩; rw [hnew.1] at q2; simp only [o] at q2; omega
          rw [show g2.mu b j = (if b = b ∧ o ≤ j ∧ j < o + new.size then new[j - o]? else g.mu b j) from rfl, if_neg this]
          exact hsp j (by omega)
    · exact grows _ cap hv (hv ▸ hr) hc
end Go.Av

set_option linter.unusedSimpArgs false
namespace Go.Av
variable {P : Program} {w0 : World} {mu0 : Mem} {T : Tc} {g g' : Gh} {st st' : St} {a : Act} {w w' : World}

/-- Only what is looked up counts. -/
theorem Sim.congr (h : Sim w0 mu0 T g st a w) (hn : st'.n = st.n) (hs : ∀ t, lk st'.sl t = lk st.sl t) (hb : ∀ t, lkb st'.bx t = lkb st.bx t) (hh : st'.hp = st.hp) : Sim w0 mu0 T g st' a w := by
  constructor
  · rw [hn]; exact h.size
  · exact h.defers
  · intro s; rw [hs]; exact h.slots s
  · intro s cells hc; rw [hb] at hc; exact h.boxes s cells hc
  · exact h.bxinj
  · rw [hh]; exact h.heap
  · exact h.mem
  · exact h.mem0
  · exact h.mule
  · exact h.ext
  · exact h.okx
  · exact h.xlt
  · exact h.blt
  · exact h.bxx
  · exact h.okb
  · intro s b hb; rw [hn]; exact h.pin s b hb

theorem asOwn_inv {sz : Nat} {lv : LV} {xs : List SV} (h : asOwn sz lv = some xs) : lv = .own sz xs ∨ (lv = .sv .nils ∧ xs = []) := by
  unfold asOwn at h
  split at h
  · split at h
    · rename_i hz; subst hz; cases h; exact .inl rfl
    · cases h
  · cases h; exact .inr ⟨rfl, rfl⟩
  · cases h

theorem elems?_rep {mu : Mem} {sz : Nat} {v : SV} {ys : List SV} {x : Value} (h : elems? sz v = some ys) (hr : Rep mu v x) : Rep mu (.sl sz ys) x := by
  unfold elems? at h
  split at h
  · split at h
    · rename_i hz; subst hz; cases h; exact hr
    · cases h
  · cases h; rw [hr.inv_nils]; exact .slnil sz
  · cases h

/-- Appending, to an own slice or to none. -/
theorem append_any (h : Sim w0 mu0 T g st a w) {s : Nat} {xs ys : List SV} {t tx e : TypeId} {i : TypeInfo} {new : Array Value} {vx : Value} (hl : asOwn i.size (lk st.sl s).gv.2 = some xs) (hg : (lk st.sl s).gv.1 = true)
    (ht : P.underlying t = some (.slice e)) (hi : P.info? e = some i) (hzr : ∃ z, i.zero = some z ∧ z.cells.size = i.size) (hb0 : i.bytes ≠ 0) (htx : ∃ dx, P.underlying tx = some dx ∧ ∀ k, dx ≠ .int k)
    (hn : (Builtin.lenOf vx).run P w = .ok ys.length w) (hfirst : ∀ w', MemOK g.mu w' → (Builtin.firstCells i.size ys.length vx).run P w' = .ok new w') (hnew : NewRow g.mu i.size ys new)
    (hfit : (xs.length + ys.length) * i.bytes ≤ 140737488355328) (ty : TypeId) (d : Nat) :
    ∃ val g' w', (Builtin.append_ #[t, tx] ty #[a.tmps.getD s Go.undef, vx]).run P w = .ok val w' ∧ Sim w0 mu0 T g' { st with sl := (s, (lk st.sl s).dg) :: st.sl } a w' ∧ RepL g' w' d (.own i.size (xs ++ ys)) val := by
  have h63 : xs.length + ys.length ≤ 9223372036854775807 := by
    have : (xs.length + ys.length) * 1 ≤ (xs.length + ys.length) * i.bytes := Nat.mul_le_mul_left _ (by omega)
    omega
  have hgv : (lk st.sl s).gv = (true, (lk st.sl s).gv.2) := by rw [← hg]
  rcases asOwn_inv hl with e1 | ⟨e1, rfl⟩
  · exact append_ok h (by rw [hgv, e1]) ht hi hzr htx hn (hfirst w h.mem) (hfirst w.drew h.drew.mem) hnew hfit h63 ty d
  · have hv : a.tmps.getD s Go.undef = .slice none 0 0 := by
      have := (h.slots s).gv hg
      rw [e1] at this
      exact Rep.inv_nils this
    have h1 : Sim w0 mu0 T g { st with sl := (s, .own i.size []) :: st.sl } a w := h.weaken (fun _ => by rw [hv]; exact .inl ⟨.slnil _, rfl⟩)
    obtain ⟨val, g', w', r1, r2, r3⟩ := append_ok h1 (s := s) (xs := []) (by simp [lk, LV.gv]) ht hi hzr htx hn (hfirst w h.mem) (hfirst w.drew h.drew.mem) hnew hfit h63 ty d
    refine ⟨val, g', w', r1, ?_, r3⟩
    have r4 := r2.weaken (d := s) (lv := (lk st.sl s).dg) (fun _ => by
      have hdg : ∀ lv : LV, lv.gv.2 = .sv .nils → RepL g w s lv (a.tmps.getD s Go.undef) → RepL g' w' s lv.dg (a.tmps.getD s Go.undef) := by
        intro lv
        induction lv with
        | gd c v ih => intro q q2; exact ⟨fun hc => ih q (q2.1 hc), q2.2⟩
        | sv v => intro q _; simp only [LV.gv, LV.sv.injEq] at q; subst q; rw [hv]; exact Rep.nils
        | _ => intro q; simp [LV.gv] at q
      exact hdg _ e1 (h.slots s))
    refine r4.congr rfl (fun t => ?_) (fun _ => rfl) rfl
    simp only [lk]
    split <;> simp

theorem y_app (h : Sim w0 mu0 T g st a w) {s : Nat} {y : Operand} {p : AO} {t tx e : TypeId} {i : TypeInfo} {ox : Oper} (hop : ox.op = .call { callee := .builtin .append, args := #[.tmp s, y], argTypes := #[t, tx] })
    (ht : P.underlying t = some (.slice e)) (hi : P.info? e = some i) (hzr : ∃ z, i.zero = some z ∧ z.cells.size = i.size) (hb0 : i.bytes ≠ 0) (htx : ∃ dx, P.underlying tx = some dx ∧ ∀ k, dx ≠ .int k) (hy : compO y = some p)
    {c : Prop} {lv : LV} (he : ev st (.app i.size i.bytes s p) = some (c, lv)) (hc : c) (d : Nat) : Yields P w0 mu0 T g (dgr st (.app i.size i.bytes s p)) a w ox d lv := by
  simp only [ev] at he
  split at he
  case h_2 => cases he
  rename_i xs gg v h1 h2
  split at he
  case h_2 => cases he
  rename_i ys h3
  simp only [Option.some.injEq, Prod.mk.injEq] at he
  obtain ⟨rfl, rfl⟩ := he
  obtain ⟨hg, rfl, hfit⟩ := hc
  have rv := elems?_rep h3 (rd_rep h hy h2)
  obtain ⟨new, f1, f2, f3, f4, f5⟩ := firstCells_sl (P := P) h.mem rv
  have hlen : (Builtin.lenOf (a.eval y)).run P w = .ok ys.length w := by
    rcases rv.inv_sl with ⟨⟨_, _, e1, _⟩, rfl⟩ | ⟨b, off, cap, _, e1, _⟩ <;> simp [e1, Builtin.lenOf]
  obtain ⟨val, g', w', r1, r2, r3⟩ := append_any h h1 hg ht hi hzr hb0 htx hlen f1 ⟨f2, f3, f4, f5⟩ hfit ox.type d
  refine ⟨val, g', w', ?_, r2, r3⟩
  have : a.eval (.tmp s) = a.tmps.getD s Go.undef := rfl
  simp only [execOp, hop, resolve, Sem.run_bind, Sem.run_pure, Result.andThen_ok, invoke, builtin]
  rw [show Array.map a.eval #[Operand.tmp s, y] = #[a.tmps.getD s Go.undef, a.eval y] from by simp only [List.map_toArray, List.map_cons, List.map_nil, Act.eval], r1]
  rfl

theorem bytesV_new (mu : Mem) (l : List UInt8) : NewRow mu 1 (bytesV l) ((l.toArray).map fun b => .int .u8 b.toNat) := by
  refine ⟨by simp [bytesV], fun x hx => ?_, fun x hx => ?_, fun i j hi hj => ?_⟩
  · simp only [bytesV, List.mem_map] at hx; obtain ⟨b, _, rfl⟩ := hx; rfl
  · simp only [Array.toList_map, List.mem_map] at hx; obtain ⟨b, _, rfl⟩ := hx; rfl
  · obtain rfl : j = 0 := by omega
    have hi' : i < l.length := by simpa [bytesV] using hi
    simpa [bytesV, List.getD_eq_getElem?_getD, Array.getD_eq_getD_getElem?, hi', SV.cell, SV.cells] using Rep.int (mu := mu) .u8 (l[i].toNat)

theorem y_appS (h : Sim w0 mu0 T g st a w) {s : Nat} {y : Operand} {p : AO} {t tx e : TypeId} {i : TypeInfo} {ox : Oper} (hop : ox.op = .call { callee := .builtin .append, args := #[.tmp s, y], argTypes := #[t, tx] })
    (ht : P.underlying t = some (.slice e)) (hi : P.info? e = some i) (hs : i.size = 1) (hbt : i.bytes = 1) (hzr : ∃ z, i.zero = some z ∧ z.cells.size = i.size) (htx : ∃ dx, P.underlying tx = some dx ∧ ∀ k, dx ≠ .int k) (hy : compO y = some p)
    {c : Prop} {lv : LV} (he : ev st (.appS s p) = some (c, lv)) (hc : c) (d : Nat) : Yields P w0 mu0 T g (dgr st (.appS s p)) a w ox d lv := by
  simp only [ev] at he
  split at he
  case h_2 => cases he
  rename_i xs gg v h1 h2
  simp only [Option.some.injEq, Prod.mk.injEq] at he
  obtain ⟨rfl, rfl⟩ := he
  obtain ⟨hg, rfl, hfit⟩ := hc
  have rv := (rd_rep h hy h2).inv_str
  have hlen : (bytesV v.data.toList).length = v.size := by simp [bytesV]
  have hnew := bytesV_new g.mu v.data.toList
  have hex : (v.extract 0 v.size).data = v.data := by
    rw [ByteArray.data_extract]
    show v.data.extract 0 v.data.size = v.data
    simp
  obtain ⟨val, g', w', r1, r2, r3⟩ := append_any h (new := (v.data.toList.toArray).map fun b => .int .u8 b.toNat) (vx := .string v) (ys := bytesV v.data.toList) (hs ▸ h1) hg ht hi hzr (by omega) htx (by simp [Builtin.lenOf, hlen])
    (fun w' _ => by rw [hlen]; simp [Builtin.firstCells, hex]) (hs ▸ hnew) (by rw [hlen, hbt]; exact hfit) ox.type d
  refine ⟨val, g', w', ?_, r2, hs ▸ r3⟩
  simp only [execOp, hop, resolve, Sem.run_bind, Sem.run_pure, Result.andThen_ok, invoke, builtin]
  rw [show Array.map a.eval #[Operand.tmp s, y] = #[a.tmps.getD s Go.undef, a.eval y] from by simp only [List.map_toArray, List.map_cons, List.map_nil, Act.eval], rv, r1]
  rfl
end Go.Av

set_option linter.unusedSimpArgs false
namespace Go.Av
variable {P : Program} {w0 : World} {mu0 : Mem} {T : Tc} {g g' : Gh} {st st' : St} {a : Act} {w w' : World}

/-- Marks behind arrays of one's own. -/
structure Frz (B : Nat → Prop) (w w' : World) : Prop where
  os : w'.os = w.os
  tape : w'.tape = w.tape
  output : w'.output = w.output
  size : w'.heap.size = w.heap.size
  at_ : ∀ k : Nat, w'.heap[k]? = w.heap[k]? ∨ ∃ c e fr fr', w.heap[k]? = some (.cells c e fr) ∧ w'.heap[k]? = some (.cells c e fr') ∧ (Unfrozen c fr → Unfrozen c fr')
  old : ∀ k : Nat, ¬ B k → w'.heap[k]? = w.heap[k]?

theorem Frz.cells {B : Nat → Prop} (f : Frz B w w') {k : Nat} {c : Array Value} {e : TypeId} {fr : Nat × Nat} (h : w.heap[k]? = some (.cells c e fr)) (hu : Unfrozen c fr) : ∃ fr', w'.heap[k]? = some (.cells c e fr') ∧ Unfrozen c fr' := by
  rcases f.at_ k with q | ⟨c', e', fr1, fr', h1, h2, h3⟩
  · exact ⟨fr, q.trans h, hu⟩
  · rw [h] at h1; cases h1; exact ⟨fr', h2, h3 hu⟩
theorem Frz.cell {B : Nat → Prop} (f : Frz B w w') (x : Addr) : w'.cell? x = w.cell? x := by
  unfold World.cell?
  rcases f.at_ x.block with q | ⟨c, e, fr, fr', h1, h2, h3⟩
  · rw [q]
  · rw [h1, h2]
theorem OwnAt.frz {B : Nat → Prop} (f : Frz B w w') {p : Place} {sz : Nat} {xs : List SV} {val : Value} (h : OwnAt g w p sz xs val) : OwnAt g w' p sz xs val := by
  rcases h with h | ⟨b, off, cap, h1, h2, h3, h4, ⟨c, e, fr, h5, h6, h7⟩, h8⟩
  · exact .inl h
  · obtain ⟨fr', q1, q2⟩ := f.cells h5 h7
    exact .inr ⟨b, off, cap, h1, h2, h3, h4, ⟨c, e, fr', q1, h6, q2⟩, h8⟩
theorem RepR.frz {B : Nat → Prop} (f : Frz B w w') {p : Place} {r : RV} {val : Value} (h : RepR g w p r val) : RepR g w' p r val := by
  cases r with
  | sv v => exact h
  | own sz xs => exact OwnAt.frz f h
theorem RepL.frz {B : Nat → Prop} (f : Frz B w w') {s : Nat} {lv : LV} {val : Value} (h : RepL g w s lv val) : RepL g w' s lv val := by
  induction lv with
  | gd c v ih => exact ⟨fun hc => ih (h.1 hc), h.2⟩
  | sv v => exact h
  | own sz xs => exact OwnAt.frz f h
  | lptr t off => exact h
  | lsl t z off n cap => exact h
  | tup vs =>
    obtain ⟨us, h1, h2, h3⟩ := h
    exact ⟨us, h1, h2, fun j hj => RepR.frz f (h3 j hj)⟩
  | arr sz xs =>
    rcases h with h | ⟨b, h2, h3, off, cap, c, e, fr, a1, a2, a3, a4, a5, a6, a7⟩
    · exact .inl h
    · obtain ⟨fr', q1, q2⟩ := f.cells a3 a4
      exact .inr ⟨b, h2, h3, off, cap, c, e, fr', a1, a2, q1, q2, a5, a6, a7⟩
  | siter t pos =>
    obtain ⟨b, h1, h2, h3, h4, h5⟩ := h
    refine ⟨b, h1, h2, h3, h4, ?_⟩
    rcases f.at_ b with q | ⟨c, e, fr, fr', q1, q2, q3⟩
    · exact q.trans h5
    · rw [h5] at q1; cases q1
  | pn =>
    obtain ⟨b, h1, h2, h3, h4, e, fr, h5, h6⟩ := h
    obtain ⟨fr', q1, q2⟩ := f.cells h5 h6
    exact ⟨b, h1, h2, h3, h4, e, fr', q1, q2⟩
  | pp t off => exact h
  | clo f nf caps => exact h

theorem Sim.frz (h : Sim w0 mu0 T g st a w) (f : Frz (fun b => b < w0.heap.size → T.ar b) w w') : Sim w0 mu0 T g st a w' := by
  constructor
  · exact h.size
  · exact h.defers
  · intro s; exact (h.slots s).frz f
  · intro s cells hc
    obtain ⟨b, hb, k1, k2, k3, c, e, fr, k4, k5, k6, k7⟩ := h.boxes s cells hc
    obtain ⟨fr', q1, q2⟩ := f.cells k4 k5
    exact ⟨b, hb, k1, k2, k3, c, e, fr', q1, q2, k6, fun j hj => (k7 j hj).frz f⟩
  · exact h.bxinj
  · intro b cells hc
    obtain ⟨⟨m1, c, e, fr, m2, m3, m4, m5⟩, m6, m7, m8⟩ := h.heap b cells hc
    obtain ⟨fr', q1, q2⟩ := f.cells m2 m3
    exact ⟨⟨m1, c, e, fr', q1, q2, m4, m5⟩, m6, m7, m8⟩
  · intro b j v e
    obtain ⟨q1, q2⟩ := h.mem b j v e
    exact ⟨(f.cell _).trans q1, q2⟩
  · exact h.mem0
  · exact h.mule
  · refine ⟨f.os.trans h.ext.os, f.tape.trans h.ext.tape, f.output.trans h.ext.output, by rw [f.size]; exact h.ext.size, fun k hk ht => (f.old k (fun q => ht (.inr (q hk)))).trans (h.ext.block k hk ht)⟩
  · exact h.okx
  · intro b p e; rw [f.size]; exact h.xlt b p e
  · intro s b e; rw [f.size]; exact h.blt s b e
  · exact h.bxx
  · exact h.okb
  · exact h.pin

theorem frz_freeze {b : Nat} {c : Array Value} {e : TypeId} {fr : Nat × Nat} {B : Nat → Prop} (hB : B b) (h : w.heap[b]? = some (.cells c e fr)) : Frz B w (w.freeze ⟨b, c.size, none⟩ 1) := by
  have hg : ∀ k : Nat, (w.freeze ⟨b, c.size, none⟩ 1).heap[k]? = if b = k then some (.cells c e (if fr.1 == fr.2 then (c.size, c.size + 1) else (min fr.1 c.size, max fr.2 (c.size + 1)))) else w.heap[k]? := by
    intro k
    simp only [World.freeze, if_neg (show ¬ (1 : Nat) = 0 by decide), Array.getElem?_modify]
    by_cases q : b = k
    · subst q; simp [h]
    · simp [q]
  refine ⟨by simp [World.freeze], by simp [World.freeze], by simp [World.freeze], by simp [World.freeze], fun k => ?_, fun k hk => by rw [hg, if_neg (by rintro rfl; exact hk hB)]⟩
  rw [hg]
  by_cases q : b = k
  · subst q
    refine .inr ⟨c, e, fr, _, h, if_pos rfl, fun hu => ?_⟩
    by_cases q2 : fr.1 = fr.2
    · simp [q2, Unfrozen]
    · rcases hu with hu | hu
      · exact absurd hu q2
      · simp [q2, Unfrozen]; omega
  · exact .inl (if_neg q)
end Go.Av

set_option linter.unusedSimpArgs false
namespace Go.Av
variable {P : Program} {w0 : World} {mu0 : Mem} {T : Tc} {g g' : Gh} {st st' : St} {a : Act} {w w' : World}

theorem isByte_inv {x : SV} (h : isByte x) : ∃ n, x = .int .u8 n := by
  unfold isByte at h
  split at h
  · exact ⟨_, rfl⟩
  · exact h.elim

theorem foldl_push : ∀ (ns : List Int) (s : ByteArray), ns.foldl (fun r n => r.push (UInt8.ofNat n.toNat)) s = ⟨s.data ++ (ns.map fun n => UInt8.ofNat n.toNat).toArray⟩
  | [], s => by simp
  | n :: ns, s => by
    rw [List.foldl_cons, foldl_push ns]
    apply ByteArray.ext
    simp [ByteArray.push]

theorem y_b2s (h : Sim w0 mu0 T g st a w) {x : Operand} {o : AO} {t t' e : TypeId} {ox : Oper} (hop : ox.op = .convert t t' x) (ht : P.underlying t = some (.slice e)) (hu : P.underlying e = some (.int .u8)) (ht' : P.underlying t' = some .string)
    (hx : compO x = some o) {c : Prop} {lv : LV} (he : ev st (.b2s o) = some (c, lv)) (hc : c) (d : Nat) : Yields P w0 mu0 T g st a w ox d lv := by
  obtain ⟨v, c', hv, hf, hc'⟩ := ev1_inv he hc
  split at hf
  case h_2 => cases hf
  rename_i xs hxs
  simp only [Option.some.injEq, Prod.mk.injEq] at hf
  obtain ⟨rfl, rfl⟩ := hf
  have rv := elems?_rep hxs (rd_rep h hx hv)
  obtain ⟨ns, hns⟩ : ∃ ns : List Int, xs = ns.map (SV.int .u8) := by
    clear rv hxs hv he hc
    induction xs with
    | nil => exact ⟨[], rfl⟩
    | cons x xs ih =>
      obtain ⟨n, rfl⟩ := isByte_inv (hc' x (List.mem_cons_self ..))
      obtain ⟨ns, rfl⟩ := ih (fun y hy => hc' y (List.mem_cons_of_mem _ hy))
      exact ⟨n :: ns, rfl⟩
  subst hns
  have hres : (⟨((ns.map (SV.int .u8)).map byteOf).toArray⟩ : ByteArray) = ns.foldl (fun r n => r.push (UInt8.ofNat n.toNat)) ByteArray.empty := by
    rw [foldl_push]
    apply ByteArray.ext
    simp [byteOf]
  have hrun : (convert t t' (a.eval x)).run P w = .ok (.string (ns.foldl (fun r n => r.push (UInt8.ofNat n.toNat)) ByteArray.empty)) w := by
    rcases rv.inv_sl with ⟨⟨p, cap, e1, _⟩, e2⟩ | ⟨b, off, cap, vals, e1, _, q1, q2, q3⟩
    · rw [e1, run_convert_bytes_string w t t' e p 0 cap ht hu ht']
      have : ns = [] := by simpa using e2
      subst this
      cases p <;> simp [Conv.bytesToString, loadCells, loadCellsFrom]
    · rw [e1, run_convert_bytes_string w t t' e _ _ _ ht hu ht']
      refine run_bytesToString w _ _ _ ns ?_
      have hl : (ns.map (SV.int .u8)).length = ns.length := by simp
      rw [hl]
      have := run_loadCells_list (P := P) w ⟨b, off, none⟩ (ns.map (Value.int .u8)) (fun j v hj => by
        have hj' : j < ns.length := by
          rcases Nat.lt_or_ge j ns.length with q | q
          · exact q
          · rw [List.getElem?_eq_none (by simpa using q)] at hj; cases hj
        have h1 := q2 j 0 (by simpa using hj') (by omega)
        have h2 := q3 j 0 (by simpa using hj') (by omega)
        have h3 : vals j 0 = .int .u8 ns[j] := by
          simp only [List.getD_eq_getElem?_getD, List.getElem?_map, List.getElem?_eq_getElem hj', Option.map_some, Option.getD_some] at h2
          exact Rep.inv_int h2
        rw [List.getElem?_map, List.getElem?_eq_getElem hj'] at hj
        cases hj
        rw [Addr.add_lit]
        have := (h.mem _ _ _ h1).1
        rw [h3] at this
        simpa using this)
      simpa using this
  refine .same h (val := .string (ns.foldl (fun r n => r.push (UInt8.ofNat n.toNat)) ByteArray.empty)) ?_ (by rw [hres]; exact .str _)
  simp only [execOp, hop, Sem.run_bind, hrun, Result.andThen_ok, Sem.run_pure]

theorem cell_block {w : World} {b j : Nat} {v : Value} (h : w.cell? ⟨b, j, none⟩ = some v) : ∃ c e fr, w.heap[b]? = some (.cells c e fr) := by
  unfold World.cell? at h
  split at h
  · rename_i c e fr hb; exact ⟨c, e, fr, hb⟩
  · cases h

/-- A byte slice's conversion to its own type: a mark behind the array. -/
theorem y_mark (h : Sim w0 mu0 T g st a w) {x : Operand} {s : Nat} {t e : TypeId} {ox : Oper} (hop : ox.op = .convert t t x) (ht : P.underlying t = some (.slice e)) (hu : P.underlying e = some (.int .u8)) (hx : compO x = some (.t s))
    {c : Prop} {lv : LV} (he : ev st (.mark s) = some (c, lv)) (hc : c) (d : Nat) : Yields P w0 mu0 T g (dgr st (.mark s)) a w ox d lv := by
  simp only [ev] at he
  split at he
  case h_2 => cases he
  rename_i gg y ys hv
  simp only [Option.some.injEq, Prod.mk.injEq] at he
  obtain ⟨rfl, rfl⟩ := he
  subst hc
  have hex : a.eval x = a.tmps.getD s Go.undef := by
    unfold compO at hx
    split at hx
    · cases hx; rfl
    · simp at hx
    all_goals simp at hx
  have hs : RepL g w s (.own 1 (y :: ys)) (a.tmps.getD s Go.undef) := by have := (h.slots s).gv (by rw [hv]); rwa [hv] at this
  have hB : ∃ b off cap v, a.tmps.getD s Go.undef = .slice (some ⟨b, off, none⟩) (y :: ys).length cap ∧ g.okx b ∧ w.cell? ⟨b, off, none⟩ = some v := by
    have cell : ∀ b off cap, a.tmps.getD s Go.undef = .slice (some ⟨b, off, none⟩) (y :: ys).length cap → Rep g.mu (.sl 1 (y :: ys)) (a.tmps.getD s Go.undef) → ∃ v, w.cell? ⟨b, off, none⟩ = some v := by
      intro b off cap hval hr
      rcases hr.inv_sl with ⟨_, e2⟩ | ⟨b', off', cap', vals, e1, _, _, q2, _⟩
      · cases e2
      · rw [hval] at e1
        cases e1
        have := q2 0 0 (by simp) (by omega)
        exact ⟨_, by simpa using (h.mem _ _ _ this).1⟩
    rcases hs with ⟨h1, h2⟩ | ⟨b, off, cap, h1, h2, h3, h4, h5⟩
    · rcases h1.inv_sl with ⟨_, e2⟩ | ⟨b', off', cap', vals, e1, _, _, q2, _⟩
      · cases e2
      · rw [h2] at e1; cases e1
    · obtain ⟨v, hcell⟩ := cell _ _ _ h1 h2
      exact ⟨_, _, _, v, h1, h4, hcell⟩
  obtain ⟨b, off, cap, v, hval, hBb, hcell⟩ := hB
  obtain ⟨cs, et, fr, hb⟩ := cell_block hcell
  have hfz := frz_freeze (B := fun b => b < w0.heap.size → T.ar b) (by have := hBb; rw [h.okx] at this; exact this) hb
  have hsim := h.frz hfz
  obtain ⟨g', k1, k2⟩ := take_own hsim hv d
  refine ⟨_, g', _, ?_, k1, k2⟩
  have hsh : w.shape? b = some (et, cs.size) := by simp [World.shape?, hb]
  simp only [execOp, hop, Sem.run_bind, hex, hval, convert, run_underlying ht, run_underlying hu, Result.andThen_ok, markStringish, run_shape]
  simp [hsh, run_freeze, hval]

theorem y_mks (h : Sim w0 mu0 T g st a w) {x : Operand} {o : AO} {t e : TypeId} {i : TypeInfo} {zero : List SV} {ox : Oper} (hop : ox.op = .makeSlice t x x)
    (ht : P.underlying t = some (.slice e)) (hi : P.info? e = some i) (h0 : i.size ≠ 0) (hz : zeroV P e = some zero) (hzs : zero.length = i.size) (h1 : zero.all SV.isCell = true) (hx : compO x = some o)
    {c : Prop} {lv : LV} (he : ev st (.mks i.size i.bytes zero o) = some (c, lv)) (hc : c) (d : Nat) : Yields P w0 mu0 T g st a w ox d lv := by
  obtain ⟨v, c', hv, hf, hc'⟩ := ev1_inv he hc
  have rv := rd_rep h hx hv
  cases v <;> try (cases hf; done)
  rename_i k n
  simp only [Option.some.injEq, Prod.mk.injEq] at hf
  obtain ⟨rfl, rfl⟩ := hf
  obtain ⟨hn0, hnb, hn63⟩ := hc'
  obtain ⟨m, rfl⟩ := Int.eq_ofNat_of_zero_le hn0
  obtain ⟨z, hz1, hz2⟩ := zeroV_run hz g.mu w
  have hz0 : ∃ zz, i.zero = some zz ∧ zz = z := by
    simp only [zeroV, hi, Option.bind_some, Option.bind_eq_some_iff] at hz
    obtain ⟨zz, q1, q2⟩ := hz
    have : (zeroValue e).run P w = .ok zz w := by simp [zeroValue, typeInfo, hi, q1]
    rw [this] at hz1
    cases hz1
    exact ⟨_, q1, rfl⟩
  obtain ⟨zz, hzz, rfl⟩ := hz0
  let us : Array Value := madeCells zz.cells (m * i.size)
  have hrow : RepRow g.mu i.size (List.replicate m (elemOf i.size zero)) us := by
    by_cases q : m * i.size = 0
    · obtain rfl : m = 0 := by rcases Nat.mul_eq_zero.1 q with q | q; exact q; exact absurd q h0
      refine ⟨by simp [us, madeCells], by simp, fun i' j hi' => by simp at hi'⟩
    · exact zero_row hz2 hzs h0 h1
  refine ⟨.slice (some ⟨w.heap.size, 0, none⟩) m m, g.new w.heap.size us us.size (some (.slot d 0)), w.alloc (.cells us e), ?_, h.newImm us e us.size (some (.slot d 0)) (fun j v hj hv => hrow.oneCell hj hv), ?_⟩
  · have hmb : (i.bytes : Int) * (m : Int) ≤ 281474976710656 := by rw [Int.mul_comm]; exact hnb
    have := run_make (P := P) w t e i zz ht hi hzz k k m m (by omega) (Int.le_refl _) hmb hn63
    simp only [execOp, hop, Sem.run_bind, rv.inv_int, this, Result.andThen_ok, Sem.run_pure]
    rfl
  · refine .inr ⟨w.heap.size, 0, m, by simp, ?_, by simp [Gh.new], h.okNew (Nat.le_refl _), ⟨us, e, (0, 0), heap_alloc_new _, by rw [hrow.1]; simp, .inl rfl⟩, fun j hj => ?_⟩
    case refine_2 =>
      have : ¬ j < us.size := by rw [hrow.1]; simp only [Int.toNat_natCast] at hj; omega
      simp [Gh.new, this]
    have hr := (hrow.mono (Gh.new_le h.mem us us.size (some (.slot d 0)))).rep (b := w.heap.size) (off := 0) (cap := m) (fun j hj => by
      have : j < us.size := by rw [hrow.1]; exact hj
      simp [Gh.new, this, Array.getD_eq_getD_getElem?]) (by simp)
    simpa using hr

/-! ### equality of bools, and with nil -/
theorem run_eq_bool {t : TypeId} (ht : P.underlying t = some .bool) (x y : Bool) : (Op.equal t (.bool x) (.bool y)).run P w = .ok (x == y) w := by
  obtain ⟨d, hd⟩ : ∃ d, Op.maxDepth = d + 1 := ⟨9999, rfl⟩
  unfold Op.equal; rw [hd]
  simp [Op.equalIn, run_underlying ht]
theorem run_eq_ptr {t e : TypeId} (ht : P.underlying t = some (.pointer e)) (p : Option Addr) : (Op.equal t (.pointer p) (.pointer none)).run P w = .ok p.isNone w := by
  obtain ⟨d, hd⟩ : ∃ d, Op.maxDepth = d + 1 := ⟨9999, rfl⟩
  unfold Op.equal; rw [hd]
  cases p <;> simp [Op.equalIn, run_underlying ht]
theorem run_eq_slice {t e : TypeId} (ht : P.underlying t = some (.slice e)) (p : Option Addr) (n m : Nat) : (Op.equal t (.slice p n m) (.slice none 0 0)).run P w = .ok p.isNone w := by
  obtain ⟨d, hd⟩ : ∃ d, Op.maxDepth = d + 1 := ⟨9999, rfl⟩
  unfold Op.equal; rw [hd]
  cases p <;> simp [Op.equalIn, run_underlying ht]

theorem y_beq (h : Sim w0 mu0 T g st a w) {x y : Operand} {o p : AO} {op : BinOp} {t t' : TypeId} {neg : Bool} {ox : Oper} (hop : ox.op = .binOp op t x y t') (ht : P.underlying t = some .bool) (hn : op = if neg then .neq else .eql) (hx : compO x = some o) (hy : compO y = some p)
    {c : Prop} {lv : LV} (he : ev st (.beq neg o p) = some (c, lv)) (hc : c) (d : Nat) : Yields P w0 mu0 T g st a w ox d lv := by
  obtain ⟨v, u, c', hv, hu, hf, hc'⟩ := ev2_inv he hc
  have rv := rd_rep h hx hv
  have ru := rd_rep h hy hu
  cases v <;> try (cases hf; done)
  rename_i b1
  cases u <;> try (cases hf; done)
  rename_i b2
  cases hf
  have e1 := Rep.inv_bool rv
  have e2 := Rep.inv_bool ru
  refine .same h (val := .bool ((b1 == b2) != neg)) ?_ (.bool _)
  subst hn
  cases neg <;> cases b1 <;> cases b2 <;> simp [execOp, hop, eqGuard_at_bool, e1, e2, Go.binOp, run_eq_bool ht]

theorem y_eqn (h : Sim w0 mu0 T g st a w) {x y : Operand} {o : AO} {op : BinOp} {t t' : TypeId} {sl neg : Bool} {ox : Oper} (hop : ox.op = .binOp op t x y t') (hn : op = if neg then .neq else .eql)
    (ht : (sl = false ∧ ∃ e, P.underlying t = some (.pointer e) ∧ compO y = some (.c .nilp)) ∨ (sl = true ∧ ∃ e, P.underlying t = some (.slice e) ∧ compO y = some (.c .nils))) (hx : compO x = some o)
    {c : Prop} {lv : LV} (he : ev st (.eqn sl neg o) = some (c, lv)) (hc : c) (d : Nat) : Yields P w0 mu0 T g st a w ox d lv := by
  simp only [ev] at he
  split at he
  case h_2 => cases he
  rename_i r hr
  simp only [Option.some.injEq, Prod.mk.injEq] at he
  obtain ⟨rfl, rfl⟩ := he
  have hrd : rdl st o = (true, (rdl st o).2) := by rw [← hc]
  rcases ht with ⟨rfl, e, ht, hy⟩ | ⟨rfl, e, ht, hy⟩
  · have ey : a.eval y = .pointer none := Rep.inv_nilp (rdl_sv h hy rfl)
    have fin : ∀ p : Option Addr, a.eval x = .pointer p → RepL g w d r (.bool (p.isNone != neg)) → Yields P w0 mu0 T g st a w ox d r := by
      intro p e1 hv
      refine .same h (val := .bool (p.isNone != neg)) ?_ hv
      subst hn
      cases neg <;> simp [execOp, hop, eqGuard_at_pointer, e1, ey, Go.binOp, run_eq_ptr ht]
    generalize (rdl st o).2 = lv at hr hrd
    unfold eqnV at hr
    split at hr <;> simp at hr <;> subst hr
    · obtain ⟨b, _, hv⟩ := rdl_lptr h hx hrd
      exact fin _ hv (by cases neg <;> exact .bool _)
    · have := rdl_sv h hx hrd
      exact fin _ (Rep.inv_ptr this) (by cases neg <;> exact .bool _)
    · obtain ⟨b, off, vals, hv, _⟩ := Rep.inv_eptr (rdl_sv h hx hrd)
      exact fin _ hv (by cases neg <;> exact .bool _)
    · exact fin _ (Rep.inv_nilp (rdl_sv h hx hrd)) (by cases neg <;> exact .bool _)
  · have ey : a.eval y = .slice none 0 0 := Rep.inv_nils (rdl_sv h hy rfl)
    have fin : ∀ (p : Option Addr) (n m : Nat), a.eval x = .slice p n m → RepL g w d r (.bool (p.isNone != neg)) → Yields P w0 mu0 T g st a w ox d r := by
      intro p n m e1 hv
      refine .same h (val := .bool (p.isNone != neg)) ?_ hv
      subst hn
      cases neg <;> simp [execOp, hop, eqGuard_at_slice, e1, ey, Go.binOp, run_eq_slice ht]
    have own : ∀ sz xs, (rdl st o).2 = .own sz xs → Rep g.mu (.sl sz xs) (a.eval x) := fun sz xs e => rd_rep h hx (by rw [rd, hrd, e]; simp [LV.sh?])
    have cons : ∀ sz y ys, Rep g.mu (.sl sz (y :: ys)) (a.eval x) → ∃ b off m, a.eval x = .slice (some ⟨b, off, none⟩) (y :: ys).length m := fun sz y ys hr => by
      rcases hr.inv_sl with ⟨_, e2⟩ | ⟨b, off, cap, _, e1, _⟩
      · cases e2
      · exact ⟨b, off, cap, e1⟩
    have nil : ∀ sz, Rep g.mu (.sl sz []) (a.eval x) → ∃ p m, a.eval x = .slice p 0 m := fun sz hr => by
      rcases hr.inv_sl with ⟨⟨p, cap, e1, _⟩, _⟩ | ⟨b, off, cap, _, e1, _⟩
      · exact ⟨p, cap, e1⟩
      · exact ⟨_, cap, e1⟩
    generalize hlv : (rdl st o).2 = lv at hr hrd own
    unfold eqnV at hr
    split at hr <;> simp at hr <;> subst hr
    · obtain ⟨b, _, hv⟩ := rdl_lsl h hx hrd
      exact fin _ _ _ hv (by cases neg <;> exact .bool _)
    · obtain ⟨b, off, m, hv⟩ := cons _ _ _ (own _ _ rfl)
      exact fin _ _ _ hv (by cases neg <;> exact .bool _)
    · obtain ⟨p, m, hv⟩ := nil _ (own _ _ rfl)
      exact fin _ _ _ hv (.anyb _)
    · exact fin _ _ _ (Rep.inv_nils (rdl_sv h hx hrd)) (by cases neg <;> exact .bool _)
    · obtain ⟨b, off, m, hv⟩ := cons _ _ _ (rdl_sv h hx hrd)
      exact fin _ _ _ hv (by cases neg <;> exact .bool _)
    · obtain ⟨p, m, hv⟩ := nil _ (rdl_sv h hx hrd)
      exact fin _ _ _ hv (.anyb _)

theorem y_s2b (h : Sim w0 mu0 T g st a w) {x : Operand} {o : AO} {t t' e : TypeId} {ox : Oper} (hop : ox.op = .convert t t' x) (ht : P.underlying t = some .string) (ht' : P.underlying t' = some (.slice e)) (hu : P.underlying e = some (.int .u8)) (hx : compO x = some o)
    {c : Prop} {lv : LV} (he : ev st (.s2b o) = some (c, lv)) (hc : c) (d : Nat) : Yields P w0 mu0 T g st a w ox d lv := by
  obtain ⟨v, c', hv, hf, hc'⟩ := ev1_inv he hc
  have rv := rd_rep h hx hv
  cases v <;> try (cases hf; done)
  rename_i s
  simp only [Option.some.injEq, Prod.mk.injEq] at hf
  obtain ⟨rfl, rfl⟩ := hf
  have hrun := run_bytes_of_string (P := P) w t t' e s ht ht' hu
  have hcap := grownCap_ge w s.size 0 e
  generalize grownCap w s.size 0 e = cap at hrun hcap
  generalize hcs : bytesRow s cap = cs at hrun
  have hrow := bytesV_new g.mu s.data.toList
  have hlen : s.data.toList.length = s.size := by simp
  have hsz : cs.size = cap := by
    rw [← hcs]; simp only [bytesRow, Array.size_append, Array.size_map, Array.size_replicate]
    have : s.data.size = s.size := rfl
    omega
  have hget : ∀ j, j < s.size → cs[j]? = some ((s.data.toList.toArray.map fun b => Value.int .u8 b.toNat).getD j Go.undef) := by
    intro j hj
    have hj' : j < s.data.size := hj
    rw [← hcs]
    simp [bytesRow, Array.getElem?_append, hj, Array.getD_eq_getD_getElem?, Array.getElem?_eq_getElem hj']
  have hd := h.drew
  have hsim := hd.newImm' cs e (cs.size, cs.size + 1) s.size (some (.slot d 0)) (fun j v hj hv => by
    rw [hget j hj] at hv; cases hv
    have hj' : j < s.data.size := hj
    simp [Array.getD_eq_getD_getElem?, Array.getElem?_eq_getElem hj', Value.oneCell'])
  refine ⟨_, _, _, ?_, hsim, .inr ⟨w.heap.size, 0, cap, rfl, ?_, by simp [Gh.new], h.okNew (by simp), ⟨cs, e, (cs.size, cs.size + 1), heap_alloc_new (w := w.drew) _, by rw [hsz]; omega, .inr (Nat.le_refl _)⟩, ?_⟩⟩
  · have e1 : a.eval x = .string s := rv.inv_str
    simp only [execOp, hop, Sem.run_bind, e1, hrun, Result.andThen_ok, Sem.run_pure]
    simp [bytesV]
  · have hrep := (hrow.mono (Gh.new_le (w := w.drew) hd.mem cs s.size (some (.slot d 0)))).rep (b := w.heap.size) (off := 0) (cap := cap) (fun j hj => by
      have hj' : j < s.size := by simpa [bytesV] using hj
      simp only [Gh.new, World.size_drew, if_true, Nat.zero_add, hj']
      exact hget j hj') (by simpa [bytesV] using hcap)
    simpa using hrep
  · intro j hj
    have : ¬ j < s.size := by simp [bytesV] at hj; have : s.data.size = s.size := rfl; omega
    simp only [Gh.new, World.size_drew, if_true, this, if_false]
end Go.Av
