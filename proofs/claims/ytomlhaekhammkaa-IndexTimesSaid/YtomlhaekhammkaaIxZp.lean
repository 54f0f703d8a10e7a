/- What fits a kind. -/
import Derived.Test.YtomlhaekhammkaaAvAD
import Derived.Test.YtomlhaekhammkaaIxG

set_option linter.unusedVariables false
namespace Go.Proofs.Ytomlhaekhammkaa
open Go.Av
theorem wf64 {n : Int} (h : (Lit.int .i64 n).wf = true) : I64 n := by
  simp [Lit.wf, IntKind.min, IntKind.max, IntKind.signed, IntKind.bits] at h
  exact ⟨by omega, by omega⟩
theorem wfu8 {n : Int} (h : (Lit.int .u8 n).wf = true) : 0 ≤ n ∧ n < 256 := by
  simp [Lit.wf, IntKind.min, IntKind.max, IntKind.signed, IntKind.bits] at h
  omega
theorem has_cons {fs : List Sh} {x : List SV} (h : Sh.hasL (.int .i64 :: fs) x) : ∃ n r, x = .int .i64 n :: r ∧ I64 n ∧ Sh.hasL fs r := by
  simp only [Sh.hasL, Sh.has] at h
  obtain ⟨a, b, rfl, ⟨n, rfl, hn⟩, h2⟩ := h
  exact ⟨n, b, rfl, wf64 hn, h2⟩
theorem has_nil {x : List SV} (h : Sh.hasL [] x) : x = [] := by simpa [Sh.hasL] using h
theorem has_int {v : SV} (h : Sh.hasV (.int .i64) v) : ∃ n, v = iV n ∧ I64 n := by
  obtain ⟨n, h, hn⟩ := (h : (Sh.int .i64).has [v])
  cases h
  exact ⟨n, rfl, wf64 hn⟩
theorem has_u8 {v : SV} (h : Sh.hasV (.int .u8) v) : ∃ n, v = .int .u8 n ∧ 0 ≤ n ∧ n < 256 := by
  obtain ⟨n, h, hn⟩ := (h : (Sh.int .u8).has [v])
  cases h
  exact ⟨n, rfl, wfu8 hn⟩
abbrev eSh : Sh := .st [.int .i64, .int .i64, .int .i64]
abbrev xSh : Sh := .st [.int .i64, .int .i64, .sl eSh]
theorem has_ents : ∀ {xs : List SV}, (∀ x ∈ xs, x = mkE x.cells ∧ eSh.has x.cells) → ∃ l, xs = EL l
  | [], _ => ⟨[], rfl⟩
  | x :: xs, h => by
    obtain ⟨l, rfl⟩ := has_ents (xs := xs) (fun y hy => h y (by simp [hy]))
    obtain ⟨he, hx⟩ := h x (by simp)
    simp only [Sh.has] at hx
    obtain ⟨a, r1, e1, _, hx⟩ := has_cons hx
    obtain ⟨b, r2, rfl, _, hx⟩ := has_cons hx
    obtain ⟨c, r3, rfl, _, hx⟩ := has_cons hx
    rw [has_nil hx] at e1
    rw [e1] at he
    simp only [mkE] at he
    subst he
    exact ⟨(a, b, c) :: l, rfl⟩
/-- A list that may be nil. -/
def nlV (v : SV) (l : List Ent) : Prop := v = .sl 3 (EL l) ∨ (v = .nils ∧ l = [])
theorem has_list {v : SV} (h : (Sh.sl eSh).has [v]) : ∃ l, nlV v l := by
  simp only [Sh.has] at h
  rcases h with h | ⟨xs, h, hl, hx⟩
  · cases h; exact ⟨[], .inr ⟨rfl, rfl⟩⟩
  · cases h
    obtain ⟨l, rfl⟩ := has_ents (xs := xs) (fun x hm => by have := hx x hm; simpa [Sh.has] using this)
    exact ⟨l, .inl rfl⟩
theorem has_ent {v : SV} (h : Sh.hasV eSh v) : ∃ e : Ent, v = eV e := by
  obtain ⟨l, rfl, h⟩ := h
  obtain ⟨a, r1, rfl, _, h⟩ := has_cons h
  obtain ⟨b, r2, rfl, _, h⟩ := has_cons h
  obtain ⟨c, r3, rfl, _, h⟩ := has_cons h
  rw [has_nil h]
  exact ⟨(a, b, c), rfl⟩
theorem has_idx {v : SV} (h : Sh.hasV xSh v) : ∃ (a b : Int) (l : List Ent) (u : SV), v = .agg [.int .i64 a, .int .i64 b, u] ∧ nlV u l := by
  obtain ⟨l, rfl, h⟩ := h
  obtain ⟨a, r1, rfl, _, h⟩ := has_cons h
  obtain ⟨b, r2, rfl, _, h⟩ := has_cons h
  simp only [Sh.hasL] at h
  obtain ⟨u, r, rfl, hu, rfl⟩ := h
  have : ∃ v, u = [v] := by
    simp only [Sh.has] at hu
    rcases hu with rfl | ⟨xs, rfl, _⟩
    · exact ⟨_, rfl⟩
    · exact ⟨_, rfl⟩
  obtain ⟨w, rfl⟩ := this
  obtain ⟨l, hl⟩ := has_list hu
  exact ⟨a, b, l, w, by simp, hl⟩
theorem nlV.rep {mu : Mem} {v : SV} {l : List Ent} {x : Value} (h : nlV v l) (hr : Rep mu v x) : Rep mu (.sl 3 (EL l)) x := by
  rcases h with rfl | ⟨rfl, rfl⟩
  · exact hr
  · rw [Rep.inv_nils hr]; exact .slnil 3
/-- Less is known of an argument. -/
def WkA (a b : SV) : Prop := ∀ (mu : Mem) (x : Value), Rep mu a x → Rep mu b x
theorem WkA.refl (a : SV) : WkA a a := fun _ _ h => h
theorem WkA.list {v : SV} {l : List Ent} (h : nlV v l) : WkA v (.sl 3 (EL l)) := fun _ _ hr => h.rep hr
theorem WkA.idx {a b : Int} {v : SV} {l : List Ent} (h : nlV v l) : WkA (.agg [.int .i64 a, .int .i64 b, v]) (ixV (a, b, l)) := fun mu x hr => by
  cases hr with
  | agg _ vs h1 h2 =>
    refine .agg _ vs h1 (fun j hj => ?_)
    have := h2 j hj
    match j, hj with
    | 0, _ => exact this
    | 1, _ => exact this
    | 2, _ => exact h.rep this
theorem pure_wk {P : Program} {f : FuncId} {rv : LV} {xs bs : List SV} (hl : xs.length = bs.length) (h : ∀ j, j < bs.length → WkA (xs.getD j .undef) (bs.getD j .undef)) (hp : Pure P f bs rv) : Pure P f xs rv :=
  fun mu w vs hm hr => hp mu w vs hm ⟨hr.1.trans hl, fun j hj => h j hj mu _ (hr.2 j (by omega))⟩
theorem pure_wk3 {P : Program} {f : FuncId} {rv : LV} {a b c a' b' c' : SV} (h1 : WkA a a') (h2 : WkA b b') (h3 : WkA c c') (hp : Pure P f [a', b', c'] rv) : Pure P f [a, b, c] rv :=
  pure_wk (xs := [a, b, c]) (bs := [a', b', c']) rfl (fun j hj => by
    match j, hj with
    | 0, _ => exact h1
    | 1, _ => exact h2
    | 2, _ => exact h3) hp
end Go.Proofs.Ytomlhaekhammkaa
