/- What fits a kind. -/
import Derived.Test.YtomlhaekhammkaaAvAD
import Derived.Test.YtomlhaekhammkaaReE

set_option linter.unusedVariables false
namespace Go.Proofs.Ytomlhaekhammkaa
open Go.Av
theorem wf64 {n : Int} (h : (Lit.int .i64 n).wf = true) : I64 n := by
  simp [Lit.wf, IntKind.min, IntKind.max, IntKind.signed, IntKind.bits] at h
  exact ⟨by omega, by omega⟩
theorem has_cons {fs : List Sh} {x : List SV} (h : Sh.hasL (.int .i64 :: fs) x) : ∃ n r, x = .int .i64 n :: r ∧ I64 n ∧ Sh.hasL fs r := by
  simp only [Sh.hasL, Sh.has] at h
  obtain ⟨a, b, rfl, ⟨n, rfl, hn⟩, h2⟩ := h
  exact ⟨n, b, rfl, wf64 hn, h2⟩
theorem has_nil {x : List SV} (h : Sh.hasL [] x) : x = [] := by simpa [Sh.hasL] using h
theorem has_rule {v : SV} (h : Sh.hasV (.st [.int .i64, .int .i64]) v) : ∃ r : Rule, v = ruV r ∧ I64 r.1 ∧ I64 r.2 := by
  obtain ⟨l, rfl, h⟩ := h
  obtain ⟨a, r1, rfl, ha, h⟩ := has_cons h
  obtain ⟨b, r2, rfl, hb, h⟩ := has_cons h
  rw [has_nil h]
  exact ⟨(a, b), rfl, ha, hb⟩
theorem has_pair {v : SV} (h : Sh.hasV (.st [.int .i64, .int .i64]) v) : ∃ a b : Int, v = .agg [.int .i64 a, .int .i64 b] ∧ I64 a ∧ I64 b := by
  obtain ⟨r, rfl, h1, h2⟩ := has_rule h
  exact ⟨r.1, r.2, rfl, h1, h2⟩
theorem has_int {v : SV} (h : Sh.hasV (.int .i64) v) : ∃ n, v = .int .i64 n ∧ I64 n := by
  obtain ⟨n, h, hn⟩ := (h : (Sh.int .i64).has [v])
  cases h
  exact ⟨n, rfl, wf64 hn⟩
theorem has_segs : ∀ {xs : List SV}, (∀ x ∈ xs, x = mkE x.cells ∧ (Sh.st [.int .i64, .int .i64, .int .i64, .int .i64]).has x.cells) → ∃ l, xs = SgL l
  | [], _ => ⟨[], rfl⟩
  | x :: xs, h => by
    obtain ⟨l, rfl⟩ := has_segs (xs := xs) (fun y hy => h y (by simp [hy]))
    obtain ⟨he, hx⟩ := h x (by simp)
    simp only [Sh.has] at hx
    obtain ⟨a, r1, e1, _, hx⟩ := has_cons hx
    obtain ⟨b, r2, rfl, _, hx⟩ := has_cons hx
    obtain ⟨c, r3, rfl, _, hx⟩ := has_cons hx
    obtain ⟨d, r4, rfl, _, hx⟩ := has_cons hx
    rw [has_nil hx] at e1
    rw [e1] at he
    simp only [mkE] at he
    subst he
    exact ⟨(a, b, c, d) :: l, rfl⟩
theorem pure_nils {P : Program} {f : FuncId} {rv : LV} {a : List SV} {sz : Nat} (j : Nat) (hj : a[j]? = some .nils) (h : Pure P f (a.set j (.sl sz [])) rv) : Pure P f a rv := fun mu w vs hm hr => h mu w vs hm (by
  refine ⟨by simpa using hr.1, fun i hi => ?_⟩
  simp at hi
  have := hr.2 i hi
  by_cases e : j = i
  · subst e
    have e2 : a.getD j .undef = .nils := by simp [List.getD_eq_getElem?_getD, hj]
    rw [e2] at this
    rw [Rep.inv_nils this]
    simp [List.getD_eq_getElem?_getD, hi]
    exact .slnil sz
  · simpa [List.getD_eq_getElem?_getD, e] using this)
theorem has_seglist {v : SV} (h : Sh.hasV (.sl (.st [.int .i64, .int .i64, .int .i64, .int .i64])) v) : v = .nils ∨ ∃ l : List Seg, v = .sl 4 (SgL l) ∧ (l.length : Int) ≤ 9223372036854775807 := by
  have h' : (Sh.sl (.st [.int .i64, .int .i64, .int .i64, .int .i64])).has [v] := h
  simp only [Sh.has] at h'
  rcases h' with h' | ⟨xs, h', hl, hx⟩
  · cases h'; exact .inl rfl
  · cases h'
    obtain ⟨l, rfl⟩ := has_segs (xs := xs) (fun x hm => by have := hx x hm; simpa [Sh.has] using this)
    refine .inr ⟨l, rfl, ?_⟩
    simp [maxLen] at hl
    omega
end Go.Proofs.Ytomlhaekhammkaa
