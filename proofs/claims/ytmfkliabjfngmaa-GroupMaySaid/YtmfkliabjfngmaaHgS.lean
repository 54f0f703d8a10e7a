/- Group: law 7. -/
import Derived.Test.YtmfkliabjfngmaaMHgL
import Derived.Test.YtmfkliabjfngmaaGgT

set_option linter.unusedSimpArgs false
set_option linter.unusedVariables false
set_option maxHeartbeats 16000000
set_option maxRecDepth 100000
namespace Go.Proofs.Ytmfkliabjfngmaa
open Go.Av

theorem law_may (l : List Ac) (hk : ∀ a ∈ l, 0 ≤ a.k) : Pure Try.prog 7 [.sl 5 (AL l)] (.sv (.bool true)) := by
  have e24 := RgK_24
  have e34 := RgK_34
  have e29 := RgK_29
  have e30 := RgK_30
  have e31 := RgK_31
  have e32 := RgK_32
  have e33 := RgK_33
  have hR := RgK_ok
  have hnf : RgK.nofz = false := rfl
  have haw := awake_pure
  generalize RgK = R at *
  refine pure_go hR Try.func7 Try.ntmps7 comp7 cres7 (by decide) (by simp) ?_
  by_cases h40 : 40 < (l.length : Int)
  · simp [ac7, ar7, h40, e24, haw, hnf]
  have hl4 : l.length < 4611686018427387904 := by omega
  simp [ac7, ar7, h40, hnf]
  refine awpR_loop (α := Nat × Grp) (fun p => p.1 ≤ l.length ∧ chkG p.2 = 0) (fun p => { n := 169, sl := [(0, .sv (.sl 5 (AL l))), (3, .lptr 3 0), (4, .sv (.int .i64 p.1))], bx := [(3, [.sv (.int .i64 p.2.ge), .sv (.int .u8 p.2.ph), .sv (.sl 3 (ML p.2.ms))])], hp := fun _ => none })
    (fun p => l.length - p.1) (0, grp0) ⟨by omega, chk_grp0⟩ (by simp [grp0, ML]) ?_
  rintro ⟨i, g⟩ ⟨hi, hc⟩
  simp only at hi hc ⊢
  by_cases h : i < l.length
  · have h1 : (i : Int) < l.length := by omega
    have hw := wrap_succ h hl4
    have hg := AL_get l h
    have hiA : i < (AL l).length := by simpa using h
    have hge : (AL l)[i] = (l.getD i ac0).sv := by rw [← hg, List.getElem?_eq_getElem hiA]; rfl
    have hka : 0 ≤ (l.getD i ac0).k := hk _ (by rw [List.getD_eq_getElem?_getD, List.getElem?_eq_getElem h]; exact List.getElem_mem h)
    generalize l.getD i ac0 = a at *
    have htm : a.k.tmod 5 = a.k % 5 := Int.tmod_eq_emod_of_nonneg hka
    have hmr : a.k % 5 = 0 ∨ a.k % 5 = 1 ∨ a.k % 5 = 2 ∨ a.k % 5 = 3 ∨ a.k % 5 = 4 := by omega
    have e29g := e29 g a.id a.now
    have e30g := e30 g a.id g.ge a.parts a.now
    have e31g := e31 g a.id a.gen a.now
    have e32g := e32 g a.id
    have e33g := e33 g a.now a.gen
    obtain ⟨c1, c2, c3, c4⟩ := chk0 hc
    have hl1 : g.ms.length ≤ 999 := by omega
    have hl2 : g.ms.length ≤ 1000 := by omega
    by_cases hs : 60 < (a.id.size : Int)
    · have hs' : 60 < a.id.size := by omega
      simp [h, h1, hg, hge, Ac.sv, Ac.cells, hs, hs', e24, haw]
    have hs' : ¬ 60 < a.id.size := by omega
    rcases hmr with hj | hj | hj | hj | hj
    · rw [hj] at htm
      have j9 := @good_join g hc a.id a.now
      generalize joinG g a.id a.now = X at *
      obtain ⟨X, n⟩ := X
      simp only at e29g j9
      by_cases hn : n = 0
      · subst hn
        obtain ⟨d1, d2, d3, d4⟩ := j9 rfl
        have e34x := e34 X
        rw [d1] at e34x
        have hx : X.ms.length ≤ 16 := (chk0 d1).1
        obtain ⟨xa, xb, xl⟩ := X
        simp only at *
        have hx4 : xl.length < 4611686018427387904 := by omega
        by_cases hsm : xl.length = g.ms.length
        · have hge2 := d3.1 hsm
          subst hge2
          have hg4 : g.ms.length < 4611686018427387904 := by omega
          simp [h, h1, hg, hge, Ac.sv, Ac.cells, hs, hs', htm, e29g, hl1, hl2, e34x, hx4, hg4, hsm]
          refine awpR_loop (α := Unit) (fun _ => True) (fun _ => { n := 169, sl := [(0, .sv (.sl 5 (AL l))), (3, .lptr 3 0), (4, .sv (.int .i64 i)), (5, .lptr 5 0), (7, .sv (.bool true)), (8, .sv (.int .i64 0))], bx := [(3, [.sv (.int .i64 g.ge), .sv (.int .u8 g.ph), .sv (.sl 3 (ML g.ms))]), (5, [.sv (.int .i64 g.ge), .sv (.int .u8 xb), .sv (.sl 3 (ML xl))])], hp := fun _ => none })
            (fun _ => 0) () trivial (by simp) ?_
          intro _ _
          by_cases h0 : 0 < (g.ms.length : Int)
          · have h0' : 0 < g.ms.length := by omega
            simp [hsm, h0, h0', hw]
            exact ⟨i + 1, ⟨g.ge, xb, xl⟩, ⟨by omega, d1⟩, by omega, by omega, rfl, rfl, rfl⟩
          · have h0' : ¬ 0 < g.ms.length := by omega
            simp [hsm, h0, h0', hw]
            exact ⟨i + 1, ⟨g.ge, xb, xl⟩, ⟨by omega, d1⟩, by omega, by omega, rfl, rfl, rfl⟩
        · have hge2 : ¬ xa = g.ge := fun q => hsm (d3.2 q)
          have hge3 : ¬ xa < g.ge := by omega
          have hge4 : (xa == g.ge) = false := by simpa using hge2
          have hoff := d4 hsm
          have hsm3 : ¬ (xl.length : Int) = (g.ms.length : Int) := by omega
          have hsm2 : ((xl.length : Int) == (g.ms.length : Int)) = false := by rw [beq_eq_false_iff_ne]; exact hsm3
          simp [h, h1, hg, hge, Ac.sv, Ac.cells, hs, hs', htm, e29g, hl1, hl2, e34x, hx4, hsm, hsm2, hsm3, hge2, hge3, hge4]
          refine awpR_loop (α := Nat) (fun k => k ≤ xl.length) (fun k => { n := 169, sl := [(0, .sv (.sl 5 (AL l))), (3, .lptr 3 0), (4, .sv (.int .i64 i)), (5, .lptr 5 0), (7, .sv (.bool false)), (8, .sv (.int .i64 k))], bx := [(3, [.sv (.int .i64 g.ge), .sv (.int .u8 g.ph), .sv (.sl 3 (ML g.ms))]), (5, [.sv (.int .i64 xa), .sv (.int .u8 xb), .sv (.sl 3 (ML xl))])], hp := fun _ => none })
            (fun k => xl.length - k) 0 (by omega) (by simp) ?_
          intro k hk2
          by_cases h0 : k < xl.length
          · have h0' : (k : Int) < xl.length := by omega
            have hwk := wrap_succ h0 hx4
            have hgx := ML_get xl h0
            have hxA : k < (ML xl).length := by simpa using h0
            have hgxe : (ML xl)[k] = (xl.getD k mb0).sv := by rw [← hgx, List.getElem?_eq_getElem hxA]; rfl
            have hsy : (xl.getD k mb0).sy = false := hoff _ (by rw [List.getD_eq_getElem?_getD, List.getElem?_eq_getElem h0]; exact List.getElem_mem h0)
            generalize xl.getD k mb0 = r at *
            simp [h0, h0', hgx, hgxe, Mb.sv, Mb.cells, hsy, hwk]
            exact ⟨k + 1, by omega, by omega, by omega⟩
          · obtain rfl : k = xl.length := by omega
            simp [hw]
            exact ⟨i + 1, ⟨xa, xb, xl⟩, ⟨by omega, d1⟩, by omega, by omega, rfl, rfl, rfl⟩
      · have hn2 : (n == 0) = false := by simpa using hn
        simp [h, h1, hg, hge, Ac.sv, Ac.cells, hs, hs', htm, e29g, hl1, hl2, hn, hn2, bne, hw]
        exact ⟨i + 1, g, ⟨by omega, hc⟩, by omega, by omega, rfl, rfl, rfl⟩
    · rw [hj] at htm
      have j9 := @good_sync g hc a.id g.ge a.parts a.now
      generalize syncG g a.id g.ge a.parts a.now = X at *
      obtain ⟨X, lx, n⟩ := X
      simp only at e30g j9
      by_cases hn : n = 0
      · subst hn
        obtain ⟨d1, d2, d3, d4⟩ := j9 rfl
        have e34x := e34 X
        rw [d1] at e34x
        have hx : X.ms.length ≤ 16 := (chk0 d1).1
        obtain ⟨xa, xb, xl⟩ := X
        simp only at *
        have hx4 : xl.length < 4611686018427387904 := by omega
        by_cases hsm : xl.length = g.ms.length
        · have hge2 := d3.1 hsm
          subst hge2
          have hg4 : g.ms.length < 4611686018427387904 := by omega
          simp [h, h1, hg, hge, Ac.sv, Ac.cells, hs, hs', htm, e30g, hl1, hl2, e34x, hx4, hg4, hsm]
          refine awpR_loop (α := Unit) (fun _ => True) (fun _ => { n := 169, sl := [(0, .sv (.sl 5 (AL l))), (3, .lptr 3 0), (4, .sv (.int .i64 i)), (5, .lptr 5 0), (7, .sv (.bool true)), (8, .sv (.int .i64 0))], bx := [(3, [.sv (.int .i64 g.ge), .sv (.int .u8 g.ph), .sv (.sl 3 (ML g.ms))]), (5, [.sv (.int .i64 g.ge), .sv (.int .u8 xb), .sv (.sl 3 (ML xl))])], hp := fun _ => none })
            (fun _ => 0) () trivial (by simp) ?_
          intro _ _
          by_cases h0 : 0 < (g.ms.length : Int)
          · have h0' : 0 < g.ms.length := by omega
            simp [hsm, h0, h0', hw]
            exact ⟨i + 1, ⟨g.ge, xb, xl⟩, ⟨by omega, d1⟩, by omega, by omega, rfl, rfl, rfl⟩
          · have h0' : ¬ 0 < g.ms.length := by omega
            simp [hsm, h0, h0', hw]
            exact ⟨i + 1, ⟨g.ge, xb, xl⟩, ⟨by omega, d1⟩, by omega, by omega, rfl, rfl, rfl⟩
        · have hge2 : ¬ xa = g.ge := fun q => hsm (d3.2 q)
          have hge3 : ¬ xa < g.ge := by omega
          have hge4 : (xa == g.ge) = false := by simpa using hge2
          have hoff := d4 hsm
          have hsm3 : ¬ (xl.length : Int) = (g.ms.length : Int) := by omega
          have hsm2 : ((xl.length : Int) == (g.ms.length : Int)) = false := by rw [beq_eq_false_iff_ne]; exact hsm3
          simp [h, h1, hg, hge, Ac.sv, Ac.cells, hs, hs', htm, e30g, hl1, hl2, e34x, hx4, hsm, hsm2, hsm3, hge2, hge3, hge4]
          refine awpR_loop (α := Nat) (fun k => k ≤ xl.length) (fun k => { n := 169, sl := [(0, .sv (.sl 5 (AL l))), (3, .lptr 3 0), (4, .sv (.int .i64 i)), (5, .lptr 5 0), (7, .sv (.bool false)), (8, .sv (.int .i64 k))], bx := [(3, [.sv (.int .i64 g.ge), .sv (.int .u8 g.ph), .sv (.sl 3 (ML g.ms))]), (5, [.sv (.int .i64 xa), .sv (.int .u8 xb), .sv (.sl 3 (ML xl))])], hp := fun _ => none })
            (fun k => xl.length - k) 0 (by omega) (by simp) ?_
          intro k hk2
          by_cases h0 : k < xl.length
          · have h0' : (k : Int) < xl.length := by omega
            have hwk := wrap_succ h0 hx4
            have hgx := ML_get xl h0
            have hxA : k < (ML xl).length := by simpa using h0
            have hgxe : (ML xl)[k] = (xl.getD k mb0).sv := by rw [← hgx, List.getElem?_eq_getElem hxA]; rfl
            have hsy : (xl.getD k mb0).sy = false := hoff _ (by rw [List.getD_eq_getElem?_getD, List.getElem?_eq_getElem h0]; exact List.getElem_mem h0)
            generalize xl.getD k mb0 = r at *
            simp [h0, h0', hgx, hgxe, Mb.sv, Mb.cells, hsy, hwk]
            exact ⟨k + 1, by omega, by omega, by omega⟩
          · obtain rfl : k = xl.length := by omega
            simp [hw]
            exact ⟨i + 1, ⟨xa, xb, xl⟩, ⟨by omega, d1⟩, by omega, by omega, rfl, rfl, rfl⟩
      · have hn2 : (n == 0) = false := by simpa using hn
        simp [h, h1, hg, hge, Ac.sv, Ac.cells, hs, hs', htm, e30g, hl1, hl2, hn, hn2, bne, hw]
        exact ⟨i + 1, g, ⟨by omega, hc⟩, by omega, by omega, rfl, rfl, rfl⟩
    · rw [hj] at htm
      have j9 := @good_beat g hc false a.id a.gen a.now
      generalize beatG false g a.id a.gen a.now = X at *
      obtain ⟨X, n⟩ := X
      simp only at e31g j9
      by_cases hn : n = 0
      · subst hn
        obtain ⟨d1, d2, d3, d4⟩ := j9 rfl
        have e34x := e34 X
        rw [d1] at e34x
        have hx : X.ms.length ≤ 16 := (chk0 d1).1
        obtain ⟨xa, xb, xl⟩ := X
        simp only at *
        have hx4 : xl.length < 4611686018427387904 := by omega
        by_cases hsm : xl.length = g.ms.length
        · have hge2 := d3.1 hsm
          subst hge2
          have hg4 : g.ms.length < 4611686018427387904 := by omega
          simp [h, h1, hg, hge, Ac.sv, Ac.cells, hs, hs', htm, e31g, hl1, hl2, e34x, hx4, hg4, hsm]
          refine awpR_loop (α := Unit) (fun _ => True) (fun _ => { n := 169, sl := [(0, .sv (.sl 5 (AL l))), (3, .lptr 3 0), (4, .sv (.int .i64 i)), (5, .lptr 5 0), (7, .sv (.bool true)), (8, .sv (.int .i64 0))], bx := [(3, [.sv (.int .i64 g.ge), .sv (.int .u8 g.ph), .sv (.sl 3 (ML g.ms))]), (5, [.sv (.int .i64 g.ge), .sv (.int .u8 xb), .sv (.sl 3 (ML xl))])], hp := fun _ => none })
            (fun _ => 0) () trivial (by simp) ?_
          intro _ _
          by_cases h0 : 0 < (g.ms.length : Int)
          · have h0' : 0 < g.ms.length := by omega
            simp [hsm, h0, h0', hw]
            exact ⟨i + 1, ⟨g.ge, xb, xl⟩, ⟨by omega, d1⟩, by omega, by omega, rfl, rfl, rfl⟩
          · have h0' : ¬ 0 < g.ms.length := by omega
            simp [hsm, h0, h0', hw]
            exact ⟨i + 1, ⟨g.ge, xb, xl⟩, ⟨by omega, d1⟩, by omega, by omega, rfl, rfl, rfl⟩
        · have hge2 : ¬ xa = g.ge := fun q => hsm (d3.2 q)
          have hge3 : ¬ xa < g.ge := by omega
          have hge4 : (xa == g.ge) = false := by simpa using hge2
          have hoff := d4 hsm
          have hsm3 : ¬ (xl.length : Int) = (g.ms.length : Int) := by omega
          have hsm2 : ((xl.length : Int) == (g.ms.length : Int)) = false := by rw [beq_eq_false_iff_ne]; exact hsm3
          simp [h, h1, hg, hge, Ac.sv, Ac.cells, hs, hs', htm, e31g, hl1, hl2, e34x, hx4, hsm, hsm2, hsm3, hge2, hge3, hge4]
          refine awpR_loop (α := Nat) (fun k => k ≤ xl.length) (fun k => { n := 169, sl := [(0, .sv (.sl 5 (AL l))), (3, .lptr 3 0), (4, .sv (.int .i64 i)), (5, .lptr 5 0), (7, .sv (.bool false)), (8, .sv (.int .i64 k))], bx := [(3, [.sv (.int .i64 g.ge), .sv (.int .u8 g.ph), .sv (.sl 3 (ML g.ms))]), (5, [.sv (.int .i64 xa), .sv (.int .u8 xb), .sv (.sl 3 (ML xl))])], hp := fun _ => none })
            (fun k => xl.length - k) 0 (by omega) (by simp) ?_
          intro k hk2
          by_cases h0 : k < xl.length
          · have h0' : (k : Int) < xl.length := by omega
            have hwk := wrap_succ h0 hx4
            have hgx := ML_get xl h0
            have hxA : k < (ML xl).length := by simpa using h0
            have hgxe : (ML xl)[k] = (xl.getD k mb0).sv := by rw [← hgx, List.getElem?_eq_getElem hxA]; rfl
            have hsy : (xl.getD k mb0).sy = false := hoff _ (by rw [List.getD_eq_getElem?_getD, List.getElem?_eq_getElem h0]; exact List.getElem_mem h0)
            generalize xl.getD k mb0 = r at *
            simp [h0, h0', hgx, hgxe, Mb.sv, Mb.cells, hsy, hwk]
            exact ⟨k + 1, by omega, by omega, by omega⟩
          · obtain rfl : k = xl.length := by omega
            simp [hw]
            exact ⟨i + 1, ⟨xa, xb, xl⟩, ⟨by omega, d1⟩, by omega, by omega, rfl, rfl, rfl⟩
      · have hn2 : (n == 0) = false := by simpa using hn
        simp [h, h1, hg, hge, Ac.sv, Ac.cells, hs, hs', htm, e31g, hl1, hl2, hn, hn2, bne, hw]
        exact ⟨i + 1, g, ⟨by omega, hc⟩, by omega, by omega, rfl, rfl, rfl⟩
    · rw [hj] at htm
      have j9 := @good_leave g hc a.id
      generalize leaveG g a.id = X at *
      obtain ⟨X, n⟩ := X
      simp only at e32g j9
      by_cases hn : n = 0
      · subst hn
        obtain ⟨d1, d2, d3, d4⟩ := j9 rfl
        have e34x := e34 X
        rw [d1] at e34x
        have hx : X.ms.length ≤ 16 := (chk0 d1).1
        obtain ⟨xa, xb, xl⟩ := X
        simp only at *
        have hx4 : xl.length < 4611686018427387904 := by omega
        by_cases hsm : xl.length = g.ms.length
        · have hge2 := d3.1 hsm
          subst hge2
          have hg4 : g.ms.length < 4611686018427387904 := by omega
          simp [h, h1, hg, hge, Ac.sv, Ac.cells, hs, hs', htm, e32g, hl1, hl2, e34x, hx4, hg4, hsm]
          refine awpR_loop (α := Unit) (fun _ => True) (fun _ => { n := 169, sl := [(0, .sv (.sl 5 (AL l))), (3, .lptr 3 0), (4, .sv (.int .i64 i)), (5, .lptr 5 0), (7, .sv (.bool true)), (8, .sv (.int .i64 0))], bx := [(3, [.sv (.int .i64 g.ge), .sv (.int .u8 g.ph), .sv (.sl 3 (ML g.ms))]), (5, [.sv (.int .i64 g.ge), .sv (.int .u8 xb), .sv (.sl 3 (ML xl))])], hp := fun _ => none })
            (fun _ => 0) () trivial (by simp) ?_
          intro _ _
          by_cases h0 : 0 < (g.ms.length : Int)
          · have h0' : 0 < g.ms.length := by omega
            simp [hsm, h0, h0', hw]
            exact ⟨i + 1, ⟨g.ge, xb, xl⟩, ⟨by omega, d1⟩, by omega, by omega, rfl, rfl, rfl⟩
          · have h0' : ¬ 0 < g.ms.length := by omega
            simp [hsm, h0, h0', hw]
            exact ⟨i + 1, ⟨g.ge, xb, xl⟩, ⟨by omega, d1⟩, by omega, by omega, rfl, rfl, rfl⟩
        · have hge2 : ¬ xa = g.ge := fun q => hsm (d3.2 q)
          have hge3 : ¬ xa < g.ge := by omega
          have hge4 : (xa == g.ge) = false := by simpa using hge2
          have hoff := d4 hsm
          have hsm3 : ¬ (xl.length : Int) = (g.ms.length : Int) := by omega
          have hsm2 : ((xl.length : Int) == (g.ms.length : Int)) = false := by rw [beq_eq_false_iff_ne]; exact hsm3
          simp [h, h1, hg, hge, Ac.sv, Ac.cells, hs, hs', htm, e32g, hl1, hl2, e34x, hx4, hsm, hsm2, hsm3, hge2, hge3, hge4]
          refine awpR_loop (α := Nat) (fun k => k ≤ xl.length) (fun k => { n := 169, sl := [(0, .sv (.sl 5 (AL l))), (3, .lptr 3 0), (4, .sv (.int .i64 i)), (5, .lptr 5 0), (7, .sv (.bool false)), (8, .sv (.int .i64 k))], bx := [(3, [.sv (.int .i64 g.ge), .sv (.int .u8 g.ph), .sv (.sl 3 (ML g.ms))]), (5, [.sv (.int .i64 xa), .sv (.int .u8 xb), .sv (.sl 3 (ML xl))])], hp := fun _ => none })
            (fun k => xl.length - k) 0 (by omega) (by simp) ?_
          intro k hk2
          by_cases h0 : k < xl.length
          · have h0' : (k : Int) < xl.length := by omega
            have hwk := wrap_succ h0 hx4
            have hgx := ML_get xl h0
            have hxA : k < (ML xl).length := by simpa using h0
            have hgxe : (ML xl)[k] = (xl.getD k mb0).sv := by rw [← hgx, List.getElem?_eq_getElem hxA]; rfl
            have hsy : (xl.getD k mb0).sy = false := hoff _ (by rw [List.getD_eq_getElem?_getD, List.getElem?_eq_getElem h0]; exact List.getElem_mem h0)
            generalize xl.getD k mb0 = r at *
            simp [h0, h0', hgx, hgxe, Mb.sv, Mb.cells, hsy, hwk]
            exact ⟨k + 1, by omega, by omega, by omega⟩
          · obtain rfl : k = xl.length := by omega
            simp [hw]
            exact ⟨i + 1, ⟨xa, xb, xl⟩, ⟨by omega, d1⟩, by omega, by omega, rfl, rfl, rfl⟩
      · have hn2 : (n == 0) = false := by simpa using hn
        simp [h, h1, hg, hge, Ac.sv, Ac.cells, hs, hs', htm, e32g, hl1, hl2, hn, hn2, bne, hw]
        exact ⟨i + 1, g, ⟨by omega, hc⟩, by omega, by omega, rfl, rfl, rfl⟩
    · rw [hj] at htm
      obtain ⟨d1, d2, d3, d4⟩ := good_tick hc a.now a.gen
      generalize tickG g a.now a.gen = X at *
      have e34x := e34 X
      rw [d1] at e34x
      have hx : X.ms.length ≤ 16 := (chk0 d1).1
      obtain ⟨xa, xb, xl⟩ := X
      simp only at *
      have hx4 : xl.length < 4611686018427387904 := by omega
      by_cases hsm : xl.length = g.ms.length
      · have hge2 := d3.1 hsm
        subst hge2
        have hg4 : g.ms.length < 4611686018427387904 := by omega
        simp [h, h1, hg, hge, Ac.sv, Ac.cells, hs, hs', htm, e33g, hl1, hl2, e34x, hx4, hg4, hsm]
        refine awpR_loop (α := Unit) (fun _ => True) (fun _ => { n := 169, sl := [(0, .sv (.sl 5 (AL l))), (3, .lptr 3 0), (4, .sv (.int .i64 i)), (5, .lptr 5 0), (7, .sv (.bool true)), (8, .sv (.int .i64 0))], bx := [(3, [.sv (.int .i64 g.ge), .sv (.int .u8 g.ph), .sv (.sl 3 (ML g.ms))]), (5, [.sv (.int .i64 g.ge), .sv (.int .u8 xb), .sv (.sl 3 (ML xl))])], hp := fun _ => none })
          (fun _ => 0) () trivial (by simp) ?_
        intro _ _
        by_cases h0 : 0 < (g.ms.length : Int)
        · have h0' : 0 < g.ms.length := by omega
          simp [hsm, h0, h0', hw]
          exact ⟨i + 1, ⟨g.ge, xb, xl⟩, ⟨by omega, d1⟩, by omega, by omega, rfl, rfl, rfl⟩
        · have h0' : ¬ 0 < g.ms.length := by omega
          simp [hsm, h0, h0', hw]
          exact ⟨i + 1, ⟨g.ge, xb, xl⟩, ⟨by omega, d1⟩, by omega, by omega, rfl, rfl, rfl⟩
      · have hge2 : ¬ xa = g.ge := fun q => hsm (d3.2 q)
        have hge3 : ¬ xa < g.ge := by omega
        have hge4 : (xa == g.ge) = false := by simpa using hge2
        have hoff := d4 hsm
        have hsm3 : ¬ (xl.length : Int) = (g.ms.length : Int) := by omega
        have hsm2 : ((xl.length : Int) == (g.ms.length : Int)) = false := by rw [beq_eq_false_iff_ne]; exact hsm3
        simp [h, h1, hg, hge, Ac.sv, Ac.cells, hs, hs', htm, e33g, hl1, hl2, e34x, hx4, hsm, hsm2, hsm3, hge2, hge3, hge4]
        refine awpR_loop (α := Nat) (fun k => k ≤ xl.length) (fun k => { n := 169, sl := [(0, .sv (.sl 5 (AL l))), (3, .lptr 3 0), (4, .sv (.int .i64 i)), (5, .lptr 5 0), (7, .sv (.bool false)), (8, .sv (.int .i64 k))], bx := [(3, [.sv (.int .i64 g.ge), .sv (.int .u8 g.ph), .sv (.sl 3 (ML g.ms))]), (5, [.sv (.int .i64 xa), .sv (.int .u8 xb), .sv (.sl 3 (ML xl))])], hp := fun _ => none })
          (fun k => xl.length - k) 0 (by omega) (by simp) ?_
        intro k hk2
        by_cases h0 : k < xl.length
        · have h0' : (k : Int) < xl.length := by omega
          have hwk := wrap_succ h0 hx4
          have hgx := ML_get xl h0
          have hxA : k < (ML xl).length := by simpa using h0
          have hgxe : (ML xl)[k] = (xl.getD k mb0).sv := by rw [← hgx, List.getElem?_eq_getElem hxA]; rfl
          have hsy : (xl.getD k mb0).sy = false := hoff _ (by rw [List.getD_eq_getElem?_getD, List.getElem?_eq_getElem h0]; exact List.getElem_mem h0)
          generalize xl.getD k mb0 = r at *
          simp [h0, h0', hgx, hgxe, Mb.sv, Mb.cells, hsy, hwk]
          exact ⟨k + 1, by omega, by omega, by omega⟩
        · obtain rfl : k = xl.length := by omega
          simp [hw]
          exact ⟨i + 1, ⟨xa, xb, xl⟩, ⟨by omega, d1⟩, by omega, by omega, rfl, rfl, rfl⟩
  · obtain rfl : i = l.length := by omega
    simp [e24, haw]
end Go.Proofs.Ytmfkliabjfngmaa
