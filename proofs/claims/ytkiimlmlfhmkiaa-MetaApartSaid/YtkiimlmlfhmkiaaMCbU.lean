import Derived.Test.YtkiimlmlfhmkiaaMCbO
import Derived.Test.YtkiimlmlfhmkiaaAvAD
import Derived.Test.YtkiimlmlfhmkiaaMCmU
import Derived.Test.YtkiimlmlfhmkiaaMCmW

set_option linter.unusedVariables false
set_option linter.unusedSimpArgs false

/- Batch: the law Back; what fits a batch. -/



set_option linter.unusedSimpArgs false
set_option linter.unusedVariables false
set_option maxHeartbeats 4000000
namespace Go.Proofs.Ytkiimlmlfhmkiaa
open Go.Av

def lastA (b : Bat) (i : Nat) : Int := if i = 0 then b.ba - 1 else b.ba + (b.rs.getD (i - 1) rec0).dl
theorem lastA_lt {b : Bat} (h : batE b = 0) {i : Nat} (hi : i < b.rs.length) : lastA b i < b.ba + (b.rs.getD i rec0).dl := by
  unfold lastA
  obtain ⟨k1, k2, k3⟩ := chkL_spec (batE_chk h) i hi
  split
  · omega
  · have := k3 (i - 1) (by omega)
    omega
theorem law_back (b : Bat) (ho : b.ok) : Pure Try.prog 11 [b.sv] (.sv (.bool true)) := by
  have e29 := R4_29 b
  have e30 := R4_30
  have e31 := R4_31 b
  have e33 := R4_33 b
  have e41 := R4_41 b
  have e34 := R4_34 b b
  have e36 := R4_36 (layB b)
  have e36m := R4_36 (layB b ++ [0])
  have e36l := R4_36 (layB b).dropLast
  have hR := R4_ok
  have hnf : R4.nofz = false := rfl
  have hw := awake_pure
  generalize R4 = R at hR e29 e30 e31 e33 e34 e36 e36m e36l e41 hnf
  refine pure_go hR Try.func11 Try.ntmps11 comp11 cres11 (by decide) (by simp) ?_
  simp only [Bat.sv, Bat.cells]
  cases h1 : lightB b
  · simp [ac11, ar11, e29, e30, e31, e33, e34, e41, h1, ho, hw, hnf]
  have hl : b.rs.length < 4611686018427387904 := by have := light_len h1; omega
  by_cases h2 : batE b = 0
  case neg =>
    have hp : putB b = [] := if_neg h2
    rw [hp] at e31
    simp [ac11, ar11, e29, e30, e31, e33, e34, e41, h1, h2, hl, ho, hw, hnf]
  have hp : putB b = layB b := if_pos h2
  have hE := h2
  rw [hp, h2] at e31
  rw [batG_lay h2] at e36
  rw [batG_more h2] at e36m
  rw [batG_less h2] at e36l
  have hs : batS b b = true := (batS_iff _ _).2 rfl
  rw [hs] at e34
  have hpos := layB_pos b
  have hle := batE_lay h2
  have hby := layB_bytes b
  generalize layB b = X at e31 e36 e36m e36l hpos hle hby
  obtain ⟨a1, a2, a3, a4, a5, a6, a7, a8, a9, a10⟩ := batE_num h2
  have hl40 := batE_len h2
  have hw1 : IntKind.i64.wrap (b.ba - 1) = b.ba - 1 := wrap_i64_in (by omega) (by omega)
  have hw2 : IntKind.i64.wrap (b.ba + b.ct) = b.ba + b.ct := wrap_i64_in (by omega) (by omega)
  have hw3 : IntKind.i64.wrap ((X.length : Int) - 1) = ((X.length - 1 : Nat) : Int) := by rw [wrap_i64_in (by omega) (by omega)]; omega
  have hne : ¬ ((X.length : Int) = 0) := by omega
  have hne2 : ¬ (X = []) := fun q => by rw [q] at hpos; simp at hpos
  have hxa : bs X ++ [.int .u8 0] = bs (X ++ [0]) := by simp [bs]
  have hxd : (bs X).take (X.length - 1) = bs X.dropLast := by
    rw [List.dropLast_eq_take]; simp [bs]
  have hb0 : Bytes (X ++ [0]) := fun c hc => by
    rcases List.mem_append.1 hc with hc | hc
    · exact hby c hc
    · simp at hc; omega
  have hb1 : Bytes X.dropLast := fun c hc => hby c (List.dropLast_subset X hc)
  rw [hw2] at e41
  simp (maxSteps := 400000) [ac11, ar11, e29, e30, e31, e33, e34, e36, e41, h1, hl, ho, hw, hnf, hw1, hw3, hne, hne2, hxa, hxd, e36m, e36l, hb0, hb1, hby]
  refine ⟨by omega, ⟨⟨by omega, by omega⟩, by omega⟩, by omega, ?_⟩
  refine awpR_loop (α := Nat) (fun i => i ≤ b.rs.length) (fun i => { n := 110, sl := [(1, .lptr 1 0), (5, .lptr 5 0), (6, .sv (.int .i64 0)), (8, .sv (.int .i64 4)), (10, .sv (.int .i64 4)), (11, .sv (.int .i64 (lastA b i))), (12, .sv (.int .i64 i))], bx := [(1, b.cells.map .sv), (5, b.cells.map .sv)], hp := fun _ => none })
    (fun i => b.rs.length - i) 0 (by omega) (by simp [Bat.cells, lastA]) ?_
  intro i hi
  by_cases h : i < b.rs.length
  · have h1 : (i : Int) < b.rs.length := by omega
    have hw : IntKind.i64.wrap ((i : Int) + 1) = ((i + 1 : Nat) : Int) := by rw [IntKind.wrap_i64]; omega
    have hg := RL_get b.rs h
    have hiA : i < (RL b.rs).length := by simpa using h
    have hg2 : (RL b.rs)[i] = (b.rs.getD i rec0).sv := by rw [← hg, List.getElem?_eq_getElem hiA]; rfl
    have hlt := lastA_lt hE h
    have hat := atW_eq hE h
    have hnx : lastA b (i + 1) = b.ba + (b.rs.getD i rec0).dl := by simp [lastA]
    generalize b.rs.getD i rec0 = r at hg hg2 hat hlt hnx
    obtain ⟨g1, g2, g3⟩ := hat
    have hwr : IntKind.i64.wrap (b.ba + r.dl) = b.ba + r.dl := g1
    have q1 : ¬ (b.ba + r.dl ≤ lastA b i) := by omega
    have q2 : ¬ (b.ba + b.ct ≤ b.ba + r.dl) := by omega
    have q3 : ¬ b.ct ≤ r.dl := by omega
    generalize lastA b i = L at q1
    simp [Bat.cells, h1, hg, hg2, h, Rec.sv, Rec.cells, hw, hwr, q1, q2, q3, e41, WkRs_refl]
    exact ⟨i + 1, by omega, by omega, hnx.symm, by omega⟩
  · have h1 : ¬ (i : Int) < b.rs.length := by omega
    simp [h1, Bat.cells, e30, e34, hl, ho, hw, hnf]

/-! ### what fits -/
theorem wf64 {n : Int} (h : (Lit.int .i64 n).wf = true) : I64 n := by
  simp [Lit.wf, IntKind.min, IntKind.max, IntKind.signed, IntKind.bits] at h
  exact ⟨by omega, by omega⟩
theorem wfu8 {n : Int} (h : (Lit.int .u8 n).wf = true) : 0 ≤ n ∧ n < 256 := by
  simp [Lit.wf, IntKind.min, IntKind.max, IntKind.signed, IntKind.bits] at h
  omega
theorem has_bytes : ∀ {xs : List SV}, (∀ x ∈ xs, x = mkE x.cells ∧ (Sh.int .u8).has x.cells) → ∃ l, xs = bs l ∧ Bytes l
  | [], _ => ⟨[], rfl, fun c h => by simp at h⟩
  | x :: xs, h => by
    obtain ⟨l, rfl, hl⟩ := has_bytes (xs := xs) (fun y hy => h y (by simp [hy]))
    obtain ⟨he, hx⟩ := h x (by simp)
    simp only [Sh.has] at hx
    obtain ⟨n, hn, hw⟩ := hx
    obtain ⟨h0, h1⟩ := wfu8 hw
    obtain ⟨m, rfl⟩ := Int.eq_ofNat_of_zero_le h0
    rw [hn] at he
    simp only [mkE] at he
    subst he
    exact ⟨m :: l, rfl, fun c hc => by rcases List.mem_cons.1 hc with rfl | hc; omega; exact hl c hc⟩
theorem has_recs : ∀ {xs : List SV}, (∀ x ∈ xs, x = mkE x.cells ∧ (Sh.st [.int .i64, .int .i64, .bool, .str, .bool, .str]).has x.cells) → ∃ l, xs = RL l
  | [], _ => ⟨[], rfl⟩
  | x :: xs, h => by
    obtain ⟨l, rfl⟩ := has_recs (xs := xs) (fun y hy => h y (by simp [hy]))
    obtain ⟨he, hx⟩ := h x (by simp)
    simp only [Sh.has, Sh.hasL] at hx
    obtain ⟨_, _, e1, ⟨dl, rfl, w1⟩, _, _, rfl, ⟨tm, rfl, w2⟩, _, _, rfl, ⟨kd, rfl⟩, _, _, rfl, ⟨key, rfl, _⟩, _, _, rfl, ⟨dd, rfl⟩, _, _, rfl, ⟨val, rfl, _⟩, rfl⟩ := hx
    rw [e1] at he
    simp only [List.singleton_append, mkE] at he
    subst he
    exact ⟨⟨dl, tm, kd, key, dd, val⟩ :: l, rfl⟩
/-- A batch as an argument: its records may be nil. -/
theorem has_bat {v : SV} (h : (Sh.st [.int .i64, .int .i64, .int .i64, .int .i64, .int .i64, .sl (.st [.int .i64, .int .i64, .bool, .str, .bool, .str])]).hasV v) : ∃ b : Bat, b.ok ∧ ∃ l, v = .agg l ∧ WkCs l b.cells := by
  simp only [Sh.hasV, Sh.hasL, Sh.has] at h
  obtain ⟨l, rfl, _, _, rfl, ⟨ba, rfl, w1⟩, _, _, rfl, ⟨ct, rfl, w2⟩, _, _, rfl, ⟨pr, rfl, w3⟩, _, _, rfl, ⟨ep, rfl, w4⟩, _, _, rfl, ⟨sq, rfl, w5⟩, _, _, rfl, h6, rfl⟩ := h
  rcases h6 with rfl | ⟨xs, rfl, _, hx⟩
  · exact ⟨⟨ba, ct, pr, ep, sq, []⟩, ⟨wf64 w1, wf64 w2, wf64 w3, wf64 w4, wf64 w5⟩, _, rfl, rfl, rfl, rfl, rfl, rfl, rfl, trivial⟩
  · obtain ⟨rs, rfl⟩ := has_recs (xs := xs) (fun x hm => by have := hx x hm; simp only [Sh.has, Sh.hasL]; exact this)
    exact ⟨⟨ba, ct, pr, ep, sq, rs⟩, ⟨wf64 w1, wf64 w2, wf64 w3, wf64 w4, wf64 w5⟩, _, rfl, rfl, rfl, rfl, rfl, rfl, rfl, trivial⟩
/-- Less may be known of the arguments. -/
def WkA : SV → SV → Prop
  | .agg l, .agg m => WkCs l m
  | .nils, .sl _ xs => xs = []
  | a, b => a = b
theorem WkA.rep {mu : Mem} {x y : SV} {v : Value} (h : WkA x y) (hr : Rep mu x v) : Rep mu y v := by
  unfold WkA at h
  split at h
  · exact h.rep hr
  · subst h
    rw [Rep.inv_nils hr]
    exact .slnil _
  · rw [← h]; exact hr
theorem pure_wk1 {P : Program} {f : FuncId} {rv : LV} {a a' : SV} (h : WkA a a') (p : Pure P f [a'] rv) : Pure P f [a] rv := fun mu w vs hm hr => p mu w vs hm ⟨hr.1, fun j hj => by
  match j, hj with
  | 0, _ => exact h.rep (hr.2 0 (by simp))⟩
theorem pure_wk2 {P : Program} {f : FuncId} {rv : LV} {a a' b b' : SV} (h : WkA a a') (k : WkA b b') (p : Pure P f [a', b'] rv) : Pure P f [a, b] rv := fun mu w vs hm hr => p mu w vs hm ⟨hr.1, fun j hj => by
  match j, hj with
  | 0, _ => exact h.rep (hr.2 0 (by simp))
  | 1, _ => exact k.rep (hr.2 1 (by simp))⟩
theorem has_int {v : SV} (h : Sh.hasV (.int .i64) v) : ∃ n, v = .int .i64 n ∧ I64 n := by
  obtain ⟨n, h, hn⟩ := (h : (Sh.int .i64).has [v])
  cases h
  exact ⟨n, rfl, wf64 hn⟩
end Go.Proofs.Ytkiimlmlfhmkiaa

/- Meta: what fits a meta. -/



set_option linter.unusedVariables false
set_option maxHeartbeats 4000000
namespace Go.Proofs.Ytkiimlmlfhmkiaa
open Go.Av

theorem has_met {v : SV} (h : (Sh.st [.int .u8, .int .i64, .int .i64, .str, .int .i64, .bool, .int .i64, .int .i64, .int .i64]).hasV v) : ∃ m : Met, m.ok ∧ v = m.sv := by
  simp only [Sh.hasV, Sh.hasL, Sh.has] at h
  obtain ⟨l, rfl, _, _, rfl, ⟨kd, rfl, w1⟩, _, _, rfl, ⟨tp, rfl, w2⟩, _, _, rfl, ⟨ix, rfl, w3⟩, _, _, rfl, ⟨nm, rfl, _⟩, _, _, rfl, ⟨pa, rfl, w4⟩, _, _, rfl, ⟨co, rfl⟩, _, _, rfl, ⟨zo, rfl, w5⟩, _, _, rfl, ⟨ba, rfl, w6⟩, _, _, rfl, ⟨cn, rfl, w7⟩, rfl⟩ := h
  have k := wfu8 w1
  exact ⟨⟨kd, tp, ix, nm, pa, co, zo, ba, cn⟩, ⟨by simp only; omega, by simp only; omega, wf64 w2, wf64 w3, wf64 w4, wf64 w5, wf64 w6, wf64 w7⟩, rfl⟩
theorem has_mets : ∀ {xs : List SV}, (∀ x ∈ xs, x = mkE x.cells ∧ (Sh.st [.int .u8, .int .i64, .int .i64, .str, .int .i64, .bool, .int .i64, .int .i64, .int .i64]).has x.cells) → ∃ l : List Met, xs = ML l ∧ ∀ m ∈ l, m.ok
  | [], _ => ⟨[], rfl, fun m h => by simp at h⟩
  | x :: xs, h => by
    obtain ⟨l, rfl, hl⟩ := has_mets (xs := xs) (fun y hy => h y (by simp [hy]))
    obtain ⟨he, hx⟩ := h x (by simp)
    have hv : (Sh.st [.int .u8, .int .i64, .int .i64, .str, .int .i64, .bool, .int .i64, .int .i64, .int .i64]).hasV (.agg x.cells) := ⟨_, rfl, hx⟩
    obtain ⟨m, hm, e⟩ := has_met hv
    have e2 : x.cells = m.cells := by simpa [Met.sv] using e
    rw [e2] at he
    refine ⟨m :: l, by rw [he]; rfl, fun y hy => ?_⟩
    rcases List.mem_cons.1 hy with rfl | hy
    · exact hm
    · exact hl y hy
/-- A slice of metas as an argument. -/
theorem has_metsV {v : SV} (h : (Sh.sl (.st [.int .u8, .int .i64, .int .i64, .str, .int .i64, .bool, .int .i64, .int .i64, .int .i64])).hasV v) : ∃ l : List Met, (∀ m ∈ l, m.ok) ∧ WkA v (.sl 9 (ML l)) := by
  have h' : (Sh.sl (.st [.int .u8, .int .i64, .int .i64, .str, .int .i64, .bool, .int .i64, .int .i64, .int .i64])).has [v] := h
  simp only [Sh.has] at h'
  rcases h' with h' | ⟨xs, h', _, hx⟩
  · cases h'
    exact ⟨[], (fun m h => by simp at h), rfl⟩
  · cases h'
    obtain ⟨l, rfl, hl⟩ := has_mets (xs := xs) (fun x hm => by have := hx x hm; simp only [Sh.has, Sh.hasL]; exact this)
    exact ⟨l, hl, rfl⟩
/-- A slice of bytes as an argument. -/
theorem has_bysV {v : SV} (h : (Sh.sl (.int .u8)).hasV v) : ∃ l : List Nat, Bytes l ∧ WkA v (.sl 1 (bs l)) := by
  have h' : (Sh.sl (.int .u8)).has [v] := h
  simp only [Sh.has] at h'
  rcases h' with h' | ⟨xs, h', _, hx⟩
  · cases h'
    exact ⟨[], (fun c h => by cases h), rfl⟩
  · cases h'
    obtain ⟨l, rfl, hl⟩ := has_bytes (xs := xs) (fun x hm => by have := hx x hm; simp only [Sh.has]; exact this)
    exact ⟨l, hl, rfl⟩
theorem has_strV {v : SV} (h : Sh.hasV .str v) : ∃ s, v = .str s := by
  obtain ⟨s, h, _⟩ := (h : Sh.str.has [v])
  cases h
  exact ⟨s, rfl⟩
end Go.Proofs.Ytkiimlmlfhmkiaa
