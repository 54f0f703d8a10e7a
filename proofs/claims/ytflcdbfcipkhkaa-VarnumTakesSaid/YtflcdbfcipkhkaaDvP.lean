/- Varnum: VarnumTakes, the law; what fits. -/
import Derived.Test.YtflcdbfcipkhkaaDvO

set_option linter.unusedSimpArgs false
set_option linter.unusedVariables false
set_option maxHeartbeats 4000000
namespace Go.Proofs.Ytflcdbfcipkhkaa
open Go.Av
theorem pureV_true {f : FuncId} {args : List SV} (h : ∀ (mu : Mem) (w : World) (vs : List Value), MemOK mu w → RepArgs mu args vs → Calls Try.prog f vs.toArray w (LawV w)) : Pure Try.prog f args (.sv (.bool true)) := by
  intro mu w vs hm hr
  refine (h mu w vs hm hr).mono ?_
  rintro e w' ⟨rfl, hx⟩
  exact ⟨_, mu, rfl, hx, Mem.le_refl _, memX hm hx (fun _ e => e.elim), fun _ _ _ => rfl, fun _ => none, .bool true, fun b p h => by cases h⟩
theorem sl_shape {mu : Mem} {z : Nat} {xs : List SV} {v : Value} (h : Rep mu (.sl z xs) v) : ∃ p c, v = .slice p xs.length c := by
  rcases h.inv_sl with ⟨⟨pp, cap, rfl, _⟩, hx⟩ | ⟨b, off, cap, vals, rfl, _⟩
  · subst hx; exact ⟨_, _, rfl⟩
  · exact ⟨_, _, rfl⟩
theorem law_takes (l : List Nat) (hl : Bytes l) (ks : List Int) (s : ByteArray) : Pure Try.prog 3 [.sl 1 (bs l), .sl 1 (ks.map fun x => SV.int .i64 x), .str s] (.sv (.bool true)) := by
  refine pureV_true fun mu w vs hm hr => ?_
  match vs, hr.1 with
  | [bv, cv, sv], _ =>
    have h0 : Rep mu (.sl 1 (bs l)) bv := hr.2 0 (by simp)
    have h1 : Rep mu (.sl 1 (ks.map fun x => SV.int .i64 x)) cv := hr.2 1 (by simp)
    have e2 : sv = .string s := Rep.inv_str (show Rep mu (.str s) sv from hr.2 2 (by simp))
    obtain ⟨bp, bc, rfl⟩ := sl_shape h0
    obtain ⟨cp, cc, rfl⟩ := sl_shape h1
    subst e2
    rw [show (bs l).length = l.length by simp] at h0 ⊢
    rw [show (ks.map fun x => SV.int .i64 x).length = ks.length by simp] at h1 ⊢
    by_cases h : 300 < l.length ∨ 40 < ks.length ∨ 300 < s.size
    · exact takes_early w bp cp _ _ _ _ s h
    · rw [not_or, not_or] at h
      cases bp with
      | none => exact takes_nil hm hl h0 h1 s (by omega) (by omega) (by omega)
      | some ad => exact takes_some hm hl h0 h1 s (by omega) (by omega) (by omega)
def WkV (a b : SV) : Prop := ∀ (mu : Mem) (v : Value), Rep mu a v → Rep mu b v
theorem WkV.refl (a : SV) : WkV a a := fun _ _ h => h
theorem wkV_nils (z : Nat) : WkV .nils (.sl z []) := fun mu v h => by rw [h.inv_nils]; exact .slnil z
theorem pure_wkV {P : Program} {f : FuncId} {rv : LV} {l m : List SV} (hl : l.length = m.length) (h : ∀ j, j < l.length → WkV (l.getD j .undef) (m.getD j .undef)) (p : Pure P f m rv) : Pure P f l rv :=
  fun mu w vs hm hr => p mu w vs hm ⟨by rw [hr.1]; exact hl, fun j hj => h j (by omega) mu _ (hr.2 j (by omega))⟩
theorem wfb8 {n : Int} (h : (Lit.int .u8 n).wf = true) : 0 ≤ n ∧ n < 256 := by
  simp [Lit.wf, IntKind.min, IntKind.max, IntKind.signed, IntKind.bits] at h
  omega
theorem has_bl : ∀ {xs : List SV}, (∀ x ∈ xs, x = mkE x.cells ∧ (Sh.int .u8).has x.cells) → ∃ l, xs = bs l ∧ Bytes l
  | [], _ => ⟨[], rfl, fun c h => by simp at h⟩
  | x :: xs, h => by
    obtain ⟨l, rfl, hl⟩ := has_bl (xs := xs) (fun y hy => h y (by simp [hy]))
    obtain ⟨he, hx⟩ := h x (by simp)
    simp only [Sh.has] at hx
    obtain ⟨n, hn, hw⟩ := hx
    obtain ⟨h0, h1⟩ := wfb8 hw
    obtain ⟨m, rfl⟩ := Int.eq_ofNat_of_zero_le h0
    rw [hn] at he
    simp only [mkE] at he
    subst he
    exact ⟨m :: l, rfl, fun c hc => by rcases List.mem_cons.1 hc with rfl | hc; omega; exact hl c hc⟩
theorem has_il : ∀ {xs : List SV}, (∀ x ∈ xs, x = mkE x.cells ∧ (Sh.int .i64).has x.cells) → ∃ l : List Int, xs = l.map fun x => SV.int .i64 x
  | [], _ => ⟨[], rfl⟩
  | x :: xs, h => by
    obtain ⟨l, rfl⟩ := has_il (xs := xs) (fun y hy => h y (by simp [hy]))
    obtain ⟨he, hx⟩ := h x (by simp)
    simp only [Sh.has] at hx
    obtain ⟨n, hn, hw⟩ := hx
    rw [hn] at he
    simp only [mkE] at he
    subst he
    exact ⟨n :: l, rfl⟩
theorem has_bv {v : SV} (h : Sh.hasV (.sl (.int .u8)) v) : ∃ l, Bytes l ∧ WkV v (.sl 1 (bs l)) := by
  have h : (Sh.sl (.int .u8)).has [v] := h
  simp only [Sh.has] at h
  rcases h with h | ⟨xs, h, _, hx⟩
  · cases h
    exact ⟨[], fun c h => by simp at h, wkV_nils 1⟩
  · cases h
    obtain ⟨l, rfl, hl⟩ := has_bl hx
    exact ⟨l, hl, WkV.refl _⟩
theorem has_iv {v : SV} (h : Sh.hasV (.sl (.int .i64)) v) : ∃ l : List Int, WkV v (.sl 1 (l.map fun x => SV.int .i64 x)) := by
  have h : (Sh.sl (.int .i64)).has [v] := h
  simp only [Sh.has] at h
  rcases h with h | ⟨xs, h, _, hx⟩
  · cases h
    exact ⟨[], wkV_nils 1⟩
  · cases h
    obtain ⟨l, rfl⟩ := has_il hx
    exact ⟨l, WkV.refl _⟩
theorem has_sv {v : SV} (h : Sh.hasV .str v) : ∃ s, v = .str s := by
  have h : Sh.str.has [v] := h
  simp only [Sh.has] at h
  obtain ⟨s, e, _⟩ := h
  cases e
  exact ⟨s, rfl⟩
end Go.Proofs.Ytflcdbfcipkhkaa
