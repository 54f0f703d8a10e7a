import Derived.Test.YtikidcgnbcibpaaAvL3
import Derived.DataReads
import Derived.ChangeShapes

set_option linter.unusedVariables false
set_option linter.unusedSimpArgs false
namespace Go.Av
variable {P : Program}

inductive Sh where
  | bool
  | int (k : IntKind)
  | str
  | sl (e : Sh)
  | st (fs : List Sh)
  | ptr (e : Sh)
  deriving Inhabited

mutual
def Sh.size : Sh → Nat
  | .st fs => Sh.sizes fs
  | _ => 1
def Sh.sizes : List Sh → Nat
  | [] => 0
  | s :: r => s.size + Sh.sizes r
end

def mkE (svs : List SV) : SV := match svs with
  | [v] => v
  | l => .agg l

mutual
def Sh.has : Sh → List SV → Prop
  | .bool, l => ∃ b, l = [.bool b]
  | .int k, l => ∃ n, l = [.int k n] ∧ (Lit.int k n).wf = true
  | .str, l => ∃ s, l = [.str s] ∧ s.size ≤ maxLen
  | .sl e, l => l = [.nils] ∨ ∃ xs, l = [.sl e.size xs] ∧ xs.length ≤ maxLen ∧ ∀ x ∈ xs, x = mkE x.cells ∧ e.has x.cells
  | .st fs, l => Sh.hasL fs l
  | .ptr e, l => l = [.nilp] ∨ ∃ x, l = [.eptr x 0] ∧ x = mkE x.cells ∧ e.has x.cells
def Sh.hasL : List Sh → List SV → Prop
  | [], l => l = []
  | f :: fs, l => ∃ a b, l = a ++ b ∧ f.has a ∧ Sh.hasL fs b
end

def fieldsOf (P : Program) (rc : TypeId → Option Sh) : Nat → List Field → Option (List Sh)
  | _, [] => some []
  | off, f :: fs => match rc f.type, fieldsOf P rc (off + P.cellsOf f.type) fs with
    | some s, some l => if f.offset = off ∧ P.cellsOf f.type = s.size then some (s :: l) else none
    | _, _ => none

def shapeOf (P : Program) : Nat → TypeId → Option Sh
  | 0, _ => none
  | n + 1, t => match P.underlying t with
    | some .bool => some .bool
    | some (.int k) => some (.int k)
    | some .string => some .str
    | some (.slice e) => match shapeOf P n e with
      | some s => if P.cellsOf e = s.size ∧ s.size ≠ 0 then some (.sl s) else none
      | none => none
    | some (.pointer e) => match shapeOf P n e with
      | some s => if P.cellsOf e = s.size ∧ s.size ≠ 0 then some (.ptr s) else none
      | none => none
    | some (.struct fs) => match fieldsOf P (shapeOf P n) 0 fs.toList with
      | some l => if P.cellsOf t = Sh.sizes l then some (.st l) else none
      | none => none
    | some (.array m e) => match shapeOf P n e with
      | some s => if P.cellsOf e = s.size ∧ P.cellsOf t = m * s.size then some (.st (List.replicate m s)) else none
      | none => none
    | _ => none

def mem0 (W : World) : Mem := fun b j => match W.cell? ⟨b, j, none⟩ with
  | some v => if v.oneCell' = true then some v else none
  | none => none
theorem mem0_ok (W : World) : MemOK (mem0 W) W := by
  intro b j v h
  unfold mem0 at h
  split at h
  · split at h
    · rename_i e q; cases h; exact ⟨e, q⟩
    · cases h
  · cases h
theorem mem0_of {W : World} {b j : Nat} {v : Value} (h : W.cell? ⟨b, j, none⟩ = some v) (h1 : v.oneCell' = true) : mem0 W b j = some v := by simp [mem0, h, h1]

/-- Cells, one by one, each of one cell. -/
def RepCells (mu : Mem) (svs : List SV) (cs : List Value) : Prop := svs.length = cs.length ∧ ∀ j, j < cs.length → Rep mu (svs.getD j .undef) (cs.getD j Go.undef) ∧ (cs.getD j Go.undef).oneCell' = true

theorem RepCells.one {mu : Mem} {v : SV} {c : Value} (h : Rep mu v c) (h1 : c.oneCell' = true) : RepCells mu [v] [c] :=
  ⟨rfl, fun j hj => by obtain rfl : j = 0 := by simpa using hj
                       exact ⟨h, h1⟩⟩
theorem RepCells.append {mu : Mem} {a b : List SV} {c d : List Value} (h : RepCells mu a c) (k : RepCells mu b d) : RepCells mu (a ++ b) (c ++ d) := by
  refine ⟨by simp [h.1, k.1], fun j hj => ?_⟩
  by_cases q : j < c.length
  · have := h.2 j q
    have q' : j < a.length := by rw [h.1]; exact q
    simpa [List.getD_eq_getElem?_getD, List.getElem?_append, q, q'] using this
  · have q' : ¬ j < a.length := by rw [h.1]; exact q
    have := k.2 (j - c.length) (by simp at hj; omega)
    simpa [List.getD_eq_getElem?_getD, List.getElem?_append, q, q', h.1] using this

theorem exists_list {α : Type} {p : Nat → α → Prop} : ∀ (n : Nat), (∀ i, i < n → ∃ x, p i x) → ∃ l : List α, l.length = n ∧ ∀ i x, l[i]? = some x → p i x
  | 0, _ => ⟨[], rfl, fun i x h => by simp at h⟩
  | n + 1, h => by
    obtain ⟨l, h1, h2⟩ := exists_list n (fun i hi => h i (by omega))
    obtain ⟨x, hx⟩ := h n (by omega)
    refine ⟨l ++ [x], by simp [h1], fun i y hy => ?_⟩
    rcases Nat.lt_trichotomy i n with q | q | q
    · rw [List.getElem?_append_left (by omega)] at hy; exact h2 i y hy
    · subst q; rw [List.getElem?_append_right (by omega), h1] at hy; simp at hy; subst hy; exact hx
    · rw [List.getElem?_append_right (by omega), h1] at hy
      rw [List.getElem?_eq_none (by simp; omega)] at hy; cases hy

/-- An element out of its cells. -/
theorem mkE_cells {svs : List SV} (h : svs.all SV.isCell = true) : (mkE svs).cells = svs := by
  match svs with
  | [] => rfl
  | [v] => cases v <;> simp_all [mkE, SV.isCell, SV.cells]
  | a :: b :: r => rfl
end Go.Av
