import Derived.Orders
import Derived.Tactics
import Derived.Laws.Cells
import Derived.Laws.World
namespace Go.Av
/-- Immutable memory: block, place, value. -/
abbrev Mem := Nat → Nat → Option Value

inductive SV where
  | undef
  | int (k : IntKind) (n : Int)
  | bool (b : Bool)
  | anyb
  | str (s : ByteArray)
  | agg (cs : List SV)
  | tup (cs : List SV)
  | nils
  | sl (sz : Nat) (xs : List SV)
  | nilp
  | ptr (b off : Nat)
  | eptr (e : SV) (k : Nat)
  | nilf
  | fn (f : FuncId) (first caps : List SV)
  | nilm
  | map (b : Nat)
  deriving Inhabited

def SV.cells : SV → List SV
  | .agg cs => cs
  | v => [v]
def SV.cell (v : SV) (j : Nat) : SV := v.cells.getD j .undef
def SV.nc (v : SV) : Nat := v.cells.length
def SV.isCell : SV → Bool
  | .undef | .agg _ | .tup _ => false
  | _ => true

inductive Rep (mu : Mem) : SV → Value → Prop
  | undef (v : Value) : Rep mu .undef v
  | int (k : IntKind) (n : Int) : Rep mu (.int k n) (.int k n)
  | bool (b : Bool) : Rep mu (.bool b) (.bool b)
  | anyb (b : Bool) : Rep mu .anyb (.bool b)
  | str (s : ByteArray) : Rep mu (.str s) (.string s)
  | agg (cs : List SV) (vs : List Value) : vs.length = cs.length → (∀ j, j < cs.length → Rep mu (cs.getD j .undef) (vs.getD j Go.undef)) → Rep mu (.agg cs) (.agg vs.toArray)
  | tup (cs : List SV) (vs : List Value) : vs.length = cs.length → (∀ j, j < cs.length → Rep mu (cs.getD j .undef) (vs.getD j Go.undef)) → Rep mu (.tup cs) (.tuple vs.toArray)
  | nils : Rep mu .nils (.slice none 0 0)
  | slnil (sz : Nat) : Rep mu (.sl sz []) (.slice none 0 0)
  | sle (sz : Nat) (a : Addr) (cap : Nat) : Rep mu (.sl sz []) (.slice (some a) 0 cap)
  | sl (sz : Nat) (xs : List SV) (b off cap : Nat) (vals : Nat → Nat → Value) : xs.length ≤ cap → (∀ x ∈ xs, x.nc = sz) →
      (∀ i j, i < xs.length → j < sz → mu b (off + i * sz + j) = some (vals i j)) →
      (∀ i j, i < xs.length → j < sz → Rep mu ((xs.getD i .undef).cell j) (vals i j)) →
      Rep mu (.sl sz xs) (.slice (some ⟨b, off, none⟩) xs.length cap)
  | nilp : Rep mu .nilp (.pointer none)
  | ptr (b off : Nat) : Rep mu (.ptr b off) (.pointer (some ⟨b, off, none⟩))
  | eptr (e : SV) (k b off : Nat) (vals : Nat → Value) : (∀ j, j < e.nc → mu b (off + j) = some (vals j)) → (∀ j, j < e.nc → Rep mu (e.cell j) (vals j)) →
      Rep mu (.eptr e k) (.pointer (some ⟨b, off + k, none⟩))
  | nilf : Rep mu .nilf .nilFunc
  | fn (f : FuncId) (fs cs : List SV) (vf vc : List Value) : vf.length = fs.length → vc.length = cs.length →
      (∀ j, j < fs.length → Rep mu (fs.getD j .undef) (vf.getD j Go.undef)) → (∀ j, j < cs.length → Rep mu (cs.getD j .undef) (vc.getD j Go.undef)) →
      Rep mu (.fn f fs cs) (.func (.func f) vf.toArray vc.toArray)
  | nilm : Rep mu .nilm (.map none)
  | map (b : Nat) : Rep mu (.map b) (.map (some b))

def Mem.le (mu mu' : Mem) : Prop := ∀ b j v, mu b j = some v → mu' b j = some v
theorem Mem.le_refl (mu : Mem) : mu.le mu := fun _ _ _ h => h
theorem Mem.le_trans {a b c : Mem} (h : a.le b) (k : b.le c) : a.le c := fun _ _ _ e => k _ _ _ (h _ _ _ e)

theorem Rep.mono {mu mu' : Mem} (h : mu.le mu') {v : SV} {x : Value} (hr : Rep mu v x) : Rep mu' v x := by
  induction hr with
  | undef v => exact .undef v
  | int k n => exact .int k n
  | bool b => exact .bool b
  | anyb b => exact .anyb b
  | str s => exact .str s
  | agg cs vs hl _ ih => exact .agg cs vs hl ih
  | tup cs vs hl _ ih => exact .tup cs vs hl ih
  | nils => exact .nils
  | slnil sz => exact .slnil sz
  | sle sz a cap => exact .sle sz a cap
  | sl sz xs b off cap vals hc hn hm _ ih => exact .sl sz xs b off cap vals hc hn (fun i j hi hj => h _ _ _ (hm i j hi hj)) ih
  | nilp => exact .nilp
  | ptr b off => exact .ptr b off
  | eptr e k b off vals hm _ ih => exact .eptr e k b off vals (fun j hj => h _ _ _ (hm j hj)) ih
  | nilf => exact .nilf
  | fn f fs cs vf vc h1 h2 _ _ i1 i2 => exact .fn f fs cs vf vc h1 h2 i1 i2
  | nilm => exact .nilm
  | map b => exact .map b

/-- What a cell of a box, or a part of a call's result, holds: a value that may be shared, or a slice that may be appended to here alone. -/
inductive RV where
  | sv (v : SV)
  | own (sz : Nat) (xs : List SV)
  deriving Inhabited
def RV.share : RV → SV
  | .sv v => v
  | .own sz xs => .sl sz xs

inductive LV where
  | sv (v : SV)
  | own (sz : Nat) (xs : List SV)
  | lptr (s off : Nat)
  | lsl (s sz off n cap : Nat)
  | tup (vs : List RV)
  | siter (s : ByteArray) (pos : Nat)
  | gd (g : Bool) (v : LV)
  deriving Inhabited
def RV.lv : RV → LV
  | .sv v => .sv v
  | .own sz xs => .own sz xs

inductive Place where
  | slot (s i : Nat)
  | cell (s j : Nat)
  deriving DecidableEq

structure Gh where
  mu : Mem
  x : Nat → Option Place
  bx : Nat → Option Nat
  B : Nat
  okb : Nat → Prop := fun _ => False

def Unfrozen (c : Array Value) (fr : Nat × Nat) : Prop := fr.1 = fr.2 ∨ c.size ≤ fr.1
theorem Unfrozen.not {c : Array Value} {fr : Nat × Nat} (h : Unfrozen c fr) : ∀ j, j < c.size → ¬ (fr.1 ≤ j ∧ j < fr.2) := by
  intro j hj
  rcases h with h | h <;> omega
theorem Unfrozen.size {c c' : Array Value} {fr : Nat × Nat} (h : Unfrozen c fr) (e : c'.size = c.size) : Unfrozen c' fr := by
  rcases h with h | h
  · exact .inl h
  · exact .inr (by omega)

/-- A slice with n elements at this address, and a block's spare room behind it. -/
def Spare (mu : Mem) (w : World) (b from_ upto : Nat) : Prop :=
  (∃ c e fr, w.heap[b]? = some (.cells c e fr) ∧ upto ≤ c.size ∧ Unfrozen c fr) ∧ ∀ j, from_ ≤ j → mu b j = none

def OwnAt (g : Gh) (w : World) (p : Place) (sz : Nat) (xs : List SV) (val : Value) : Prop :=
  (Rep g.mu (.sl sz xs) val ∧ ∃ q, val = .slice q xs.length xs.length ∧ ∀ a, q = some a → g.B ≤ a.block) ∨
  ∃ b off cap, val = .slice (some ⟨b, off, none⟩) xs.length cap ∧ Rep g.mu (.sl sz xs) val ∧ g.x b = some p ∧ g.B ≤ b ∧ Spare g.mu w b (off + xs.length * sz) (off + cap * sz)

def RepR (g : Gh) (w : World) (p : Place) : RV → Value → Prop
  | .sv v, val => Rep g.mu v val
  | .own sz xs, val => OwnAt g w p sz xs val

def RepL (g : Gh) (w : World) (s : Nat) : LV → Value → Prop
  | .sv v, val => Rep g.mu v val
  | .own sz xs, val => OwnAt g w (.slot s 0) sz xs val
  | .lptr t off, val => ∃ b, g.bx t = some b ∧ val = .pointer (some ⟨b, off, none⟩)
  | .lsl t _ off n cap, val => ∃ b, g.bx t = some b ∧ val = .slice (some ⟨b, off, none⟩) n cap
  | .tup vs, val => ∃ us : List Value, val = .tuple us.toArray ∧ us.length = vs.length ∧ ∀ j, j < vs.length → RepR g w (.slot s j) (vs.getD j (.sv .undef)) (us.getD j Go.undef)
  | .siter t pos, val => ∃ b, val = .pointer (some ⟨b, 0, none⟩) ∧ g.x b = some (.slot s 0) ∧ g.B ≤ b ∧ (∀ j, g.mu b j = none) ∧ w.heap[b]? = some (.stringIter t pos)
  | .gd c v, val => (c = true → RepL g w s v val) ∧ (c = false → val = Go.undef)

theorem OwnAt.share {g : Gh} {w : World} {p : Place} {sz : Nat} {xs : List SV} {val : Value} (h : OwnAt g w p sz xs val) : Rep g.mu (.sl sz xs) val := by
  rcases h with ⟨h, _⟩ | ⟨b, off, cap, rfl, hr, _⟩
  · exact h
  · exact hr
theorem RepR.share {g : Gh} {w : World} {p : Place} {r : RV} {val : Value} (h : RepR g w p r val) : Rep g.mu r.share val := by
  cases r with
  | sv v => exact h
  | own sz xs => exact OwnAt.share h

/-- How ghosts and worlds may go on, so that what stands at a place stands on. -/
structure Keeps (g : Gh) (w : World) (g' : Gh) (w' : World) (p : Place) : Prop where
  mu : g.mu.le g'.mu
  x : ∀ b, g.x b = some p → g'.x b = some p ∧ w'.heap[b]? = w.heap[b]? ∧ ∀ j, g.mu b j = none → g'.mu b j = none
  B : g'.B = g.B

theorem OwnAt.keeps {g g' : Gh} {w w' : World} {p : Place} {sz : Nat} {xs : List SV} {val : Value} (k : Keeps g w g' w' p) (h : OwnAt g w p sz xs val) : OwnAt g' w' p sz xs val := by
  rcases h with h | ⟨b, off, cap, hv, hr, hx, hB, ⟨c, e, fr, hb, hc, hf⟩, hm⟩
  · obtain ⟨h1, q, h2, h3⟩ := h
    exact .inl ⟨h1.mono k.mu, q, h2, fun a e => by rw [k.B]; exact h3 a e⟩
  · obtain ⟨k1, k2, k3⟩ := k.x b hx
    exact .inr ⟨b, off, cap, hv, hr.mono k.mu, k1, k.B ▸ hB, ⟨c, e, fr, k2.trans hb, hc, hf⟩, fun j hj => k3 j (hm j hj)⟩
theorem RepR.keeps {g g' : Gh} {w w' : World} {p : Place} {r : RV} {val : Value} (k : Keeps g w g' w' p) (h : RepR g w p r val) : RepR g' w' p r val := by
  cases r with
  | sv v => exact Rep.mono k.mu h
  | own sz xs => exact OwnAt.keeps k h
theorem RepL.keeps {g g' : Gh} {w w' : World} {s : Nat} {lv : LV} {val : Value} (k : ∀ i, Keeps g w g' w' (.slot s i))
    (hbx : ∀ t, g'.bx t = g.bx t) (h : RepL g w s lv val) : RepL g' w' s lv val := by
  induction lv with
  | gd c v ih => exact ⟨fun hc => ih (h.1 hc), h.2⟩
  | sv v => exact Rep.mono (k 0).mu h
  | own sz xs => exact OwnAt.keeps (k 0) h
  | lptr t off => obtain ⟨b, h1, h2⟩ := h; exact ⟨b, by rw [hbx t]; exact h1, h2⟩
  | lsl t z off n cap => obtain ⟨b, h1, h2⟩ := h; exact ⟨b, by rw [hbx t]; exact h1, h2⟩
  | tup vs => obtain ⟨us, h1, h2, h3⟩ := h; exact ⟨us, h1, h2, fun j hj => RepR.keeps (k j) (h3 j hj)⟩
  | siter t pos =>
    obtain ⟨b, h1, h2, h3, h4, h5⟩ := h
    obtain ⟨k1, k2, k3⟩ := (k 0).x b h2
    exact ⟨b, h1, k1, (k 0).B ▸ h3, fun j => k3 j (h4 j), k2.trans h5⟩

def lk : List (Nat × LV) → Nat → LV
  | [], _ => .sv .undef
  | (s, v) :: r, t => if s = t then v else lk r t
def lkb : List (Nat × List RV) → Nat → Option (List RV)
  | [], _ => none
  | (s, v) :: r, t => if s = t then some v else lkb r t

abbrev Hp := Nat → Option (List SV)
def Hp.set (h : Hp) (b : Nat) (c : List SV) : Hp := fun b' => if b' = b then some c else h b'

structure St where
  n : Nat
  sl : List (Nat × LV)
  bx : List (Nat × List RV)
  hp : Hp

def BoxAt (g : Gh) (w : World) (s b : Nat) (cells : List RV) : Prop :=
  g.okb b ∧ (∀ j, g.mu b j = none) ∧ g.x b = none ∧ ∃ c e fr, w.heap[b]? = some (.cells c e fr) ∧ Unfrozen c fr ∧ c.size = cells.length ∧
    ∀ j, j < cells.length → RepR g w (.cell s j) (cells.getD j (.sv .undef)) (c.getD j Go.undef)

def HeapAt (mu : Mem) (w : World) (b : Nat) (cells : List SV) : Prop :=
  (∀ j, mu b j = none) ∧ ∃ c e fr, w.heap[b]? = some (.cells c e fr) ∧ Unfrozen c fr ∧ c.size = cells.length ∧
    ∀ j, j < cells.length → Rep mu (cells.getD j .undef) (c.getD j Go.undef)

/-- Blocks that were there stay, but for some. -/
structure Ext (T : Nat → Prop) (w w' : World) : Prop where
  os : w'.os = w.os
  tape : w'.tape = w.tape
  output : w'.output = w.output
  size : w.heap.size ≤ w'.heap.size
  block : ∀ k, k < w.heap.size → ¬ T k → w'.heap[k]? = w.heap[k]?
  frozen : ∀ a : Addr, a.block < w.heap.size → w'.frozen? a = w.frozen? a

theorem Ext.refl (T : Nat → Prop) (w : World) : Ext T w w := ⟨rfl, rfl, rfl, Nat.le_refl _, fun _ _ _ => rfl, fun _ _ => rfl⟩
theorem Ext.trans {T : Nat → Prop} {a b c : World} (h : Ext T a b) (k : Ext T b c) : Ext T a c :=
  ⟨k.os.trans h.os, k.tape.trans h.tape, k.output.trans h.output, Nat.le_trans h.size k.size, fun i hi ht => (k.block i (Nat.lt_of_lt_of_le hi h.size) ht).trans (h.block i hi ht), fun a ha => (k.frozen a (Nat.lt_of_lt_of_le ha h.size)).trans (h.frozen a ha)⟩

def MemOK (mu : Mem) (w : World) : Prop := ∀ b j v, mu b j = some v → w.cell? ⟨b, j, none⟩ = some v ∧ v.oneCell' = true
theorem MemOK.lt {mu : Mem} {w : World} (h : MemOK mu w) {b j : Nat} {v : Value} (e : mu b j = some v) : b < w.heap.size := World.block_lt_of_cell? w ⟨b, j, none⟩ (h b j v e).1

structure Sim (w0 : World) (mu0 : Mem) (T : Nat → Prop) (g : Gh) (st : St) (a : Act) (w : World) : Prop where
  size : a.tmps.size = st.n
  defers : a.defers = []
  slots : ∀ s, RepL g w s (lk st.sl s) (a.tmps.getD s Go.undef)
  boxes : ∀ s cells, lkb st.bx s = some cells → ∃ b, g.bx s = some b ∧ BoxAt g w s b cells
  bxinj : ∀ s s' b, g.bx s = some b → g.bx s' = some b → s = s'
  heap : ∀ b cells, st.hp b = some cells → HeapAt g.mu w b cells ∧ g.x b = none ∧ (∀ s, g.bx s ≠ some b) ∧ (b < w0.heap.size → T b)
  mem : MemOK g.mu w
  mem0 : ∀ b j, b < w0.heap.size → g.mu b j = mu0 b j
  ext : Ext T w0 w
  B : g.B = w0.heap.size
  xlt : ∀ b p, g.x b = some p → b < w.heap.size
  blt : ∀ s b, g.bx s = some b → b < w.heap.size
  bxx : ∀ s b p, g.x b = some p → g.bx s ≠ some b
  okb : g.okb = fun b => b < w0.heap.size → T b
  pin : ∀ b, T b → g.bx 0 = some b
end Go.Av
