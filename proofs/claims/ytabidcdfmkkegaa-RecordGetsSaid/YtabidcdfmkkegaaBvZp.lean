/- What fits a kind. -/
import Derived.Test.YtabidcdfmkkegaaAvAD
import Derived.Test.YtabidcdfmkkegaaBvM
import Derived.Test.YtabidcdfmkkegaaBvC

set_option linter.unusedVariables false
namespace Go.Proofs.Ytabidcdfmkkegaa
open Go.Av
theorem wf64 {n : Int} (h : (Lit.int .i64 n).wf = true) : I64 n := by
  simp [Lit.wf, IntKind.min, IntKind.max, IntKind.signed, IntKind.bits] at h
  exact ⟨by omega, by omega⟩
theorem wfu64 {n : Int} (h : (Lit.int .u64 n).wf = true) : U64 n := by
  simp [Lit.wf, IntKind.min, IntKind.max, IntKind.signed, IntKind.bits] at h
  exact ⟨by omega, by omega⟩
theorem wfu8 {n : Int} (h : (Lit.int .u8 n).wf = true) : 0 ≤ n ∧ n < 256 := by
  simp [Lit.wf, IntKind.min, IntKind.max, IntKind.signed, IntKind.bits] at h
  omega
theorem has_bytes : ∀ {xs : List SV}, (∀ x ∈ xs, x = mkE x.cells ∧ (Sh.int .u8).has x.cells) → ∃ l, xs = bs l ∧ Bytes l
  | [], _ => ⟨[], rfl, fun c h => by simp at h⟩
  | x :: xs, h => by
    obtain ⟨l, rfl, hl⟩ := has_bytes (xs := xs) (fun y hy => h y (by simp [hy]))
    obtain ⟨he, hx⟩ := h x (by simp)
    simp only [Sh.has] at hx
    obtain ⟨n, hn, hw⟩ := hx
    obtain ⟨h0, h1⟩ := wfu8 hw
    obtain ⟨m, rfl⟩ := Int.eq_ofNat_of_zero_le h0
    rw [hn] at he
    simp only [mkE] at he
    subst he
    exact ⟨m :: l, rfl, fun c hc => by rcases List.mem_cons.1 hc with rfl | hc; omega; exact hl c hc⟩
theorem RepArgs.nils {mu : Mem} {a : List SV} {vs : List Value} {j : Nat} (hj : a[j]? = some .nils) (h : RepArgs mu a vs) : RepArgs mu (a.set j (.sl 1 [])) vs := by
  refine ⟨by simpa using h.1, fun i hi => ?_⟩
  simp at hi
  have := h.2 i hi
  by_cases e : j = i
  · subst e
    have e2 : a.getD j .undef = .nils := by simp [List.getD_eq_getElem?_getD, hj]
    rw [e2] at this
    rw [Rep.inv_nils this]
    simp [List.getD_eq_getElem?_getD, hi]
    exact .slnil 1
  · simpa [List.getD_eq_getElem?_getD, e] using this
theorem pure_of_nils2 {P : Program} {f : FuncId} {rv : LV} {x : SV} (h : Pure P f [x, .sl 1 []] rv) : Pure P f [x, .nils] rv := fun mu w vs hm ha => h mu w vs hm (RepArgs.nils (j := 1) rfl ha)
end Go.Proofs.Ytabidcdfmkkegaa
