import Derived.Test.YtifemhfpcichfaaMZdC
import Derived.Deep.RegionHeld
import Derived.Deep.MidRow

set_option linter.unusedVariables false
set_option linter.unusedSimpArgs false

/- Zone: cut. -/

set_option linter.unusedSimpArgs false
set_option linter.unusedVariables false
set_option maxHeartbeats 4000000
set_option maxRecDepth 1000000
namespace Go.Proofs.Ytifemhfpcichfaa
open Go.RowKit
open Go.Av Go.Maps

theorem DevAt.turn {w w' : World} {q : Dp} {d : Dv} (h : DevAt w q d) {n : Nat} {D : DataW Value} (ho : w'.ownsMap Try.prog 88 RH q.mb n D) (ht : w.mapTurned w' q.mb) : EffD q w w' { d with n := n, D := D } := by
  obtain ⟨es, cl, es', cl', hb, rfl⟩ := ht
  have ho2 : ∀ k, k ≠ q.mb → (ChangeMaps.setBlock w q.mb (.map es' cl')).heap[k]? = w.heap[k]? := fun k hk => by
    simp [ChangeMaps.setBlock, Array.getElem?_setIfInBounds, hk.symm]
  obtain ⟨c, te, fr, h1, h2, h3, h4⟩ := h.bz
  refine ⟨⟨(ho2 _ h.ne2).trans h.bp, ⟨c, te, fr, (ho2 _ h.ne3).trans h1, h2, h3, h4⟩, ho, h.ne1, h.ne2, h.ne3, h.len⟩, ⟨rfl, rfl, rfl, ?_, fun k hk ht => ho2 k fun e => ht (.inr (.inr e))⟩⟩
  simp [ChangeMaps.setBlock]
/-- Without some keys of a zone. -/
def dels (D : DataW Value) (z : Int) (i : Nat) : Nat → DataW Value
  | 0 => D
  | k + 1 => (dels D z i k).del (kl z ((i + k : Nat) : Int))
def cutD (d : Dv) (z : Nat) (n : Nat) : Dv := { d with zs := d.zs.set z ⟨n, (d.zs.getD z z0).lo, (d.zs.getD z z0).fin⟩, D := dels d.D z n ((d.zs.getD z z0).wr - n).toNat }
theorem cut_raw {w : World} {q : Dp} {d : Dv} (h : DevAt w q d) (z n : Nat) (hz : z < d.zs.length) (hw : (d.zs.getD z z0).wr ≤ 100000) (hn : n ≤ 100000) : Calls Try.prog 44 #[.pointer (some ⟨q.p, 0, none⟩), .int .i64 z, .int .i64 n] w fun e w' => e = .returned (.tuple #[]) ∧ EffD q w w' (cutD d z n) := by
  have HD := asideI h
  have hlen := h.len
  have hzz : (z : Int) < d.zs.length := by omega
  clear h
  obtain ⟨X, hX⟩ : ∃ X, X = d.zs.getD z z0 := ⟨_, rfl⟩
  have HX := asideI hX
  rw [← hX] at hw
  go_enter Try.func44, Try.ntmps44
  go_wp2
  go_loopg [6] (X.wr - n).toNat (fun gg s6 wr => ∃ (k : Nat), s6 = .int .i64 ((n + k : Nat) : Int) ∧ k ≤ (X.wr - n).toNat ∧ (X.wr - n).toNat - k ≤ gg ∧ Aside (EffD q w wr { d with D := dels d.D z n k }))
  case atStart => exact ⟨0, rfl, by omega, by omega, EffD.refl HD.out⟩
  case round =>
    obtain ⟨k, rfl, hk, hgg, H2⟩ := hrel
    obtain ⟨⟨a0, a1, a2, a3, a4, a5, a6⟩, b0, b1, b2, b3, b4, b5, b6⟩ := H2.out.1.cells
    obtain ⟨⟨c0, c1, c2⟩, e0, e1, e2⟩ := H2.out.1.zcells (i := z) hz
    simp only [← HX.out] at a0 c0 c1 c2
    clear hX
    by_cases hlt : k < (X.wr - n).toNat
    · have h1 : ((n : Int) + (k : Int)) < X.wr := by omega
      have hwr : IntKind.i64.wrap ((n : Int) + (k : Int) + 1) = (n : Int) + (k : Int) + 1 := by rw [IntKind.wrap_i64]; omega
      have HO := asideI (H2.out.1.bm)
      have HK := asideI (key88 (a := (z : Int)) (b := (n : Int) + (k : Int)) ⟨by omega, by omega⟩ ⟨by omega, by omega⟩)
      go_wp2_with (first
        | (at_delete
           refine wpList_delete_own _ rfl _ _ 81 88 rfl 86 K88 (by kernel_rfl) RH q.mb _ _ rfl HO.out _ _ rfl HK.out ?_
           intro w2 ho ht
           have HT := asideI (And.intro ho ht)
           clear ho ht
           simp only [])
        | go_in)
      go_roundg ((X.wr - n).toNat - (k + 1))
      case measure => omega
      case rel =>
        refine ⟨k + 1, by simp; omega, by omega, by omega, H2.out.trans (d' := { d with D := dels d.D z n (k + 1) }) ?_⟩
        have := H2.out.1.turn HT.out.1 HT.out.2
        exact this
    · obtain rfl : k = (X.wr - n).toNat := by omega
      have h1 : ¬ ((n : Int) + ((X.wr - n).toNat : Int)) < X.wr := by omega
      go_wp2
      go_end0
      refine ⟨rfl, ?_, extQ_set H2.out.2 (.inl (.inr (.inl rfl))) _ _⟩
      have := H2.out.1.setZ (i := z) (k := 0) hz (by omega) (.int .i64 n) ⟨n, X.lo, X.fin⟩ (by simp only [← HX.out]; rfl)
      unfold cutD
      rw [← HX.out]
      exact this
end Go.Proofs.Ytifemhfpcichfaa

/- Zone: step. -/

set_option linter.unusedSimpArgs false
set_option linter.unusedVariables false
set_option maxHeartbeats 4000000
set_option maxRecDepth 1000000
namespace Go.Proofs.Ytifemhfpcichfaa
open Go.RowKit
open Go.Av Go.Maps

/-- The device behind the counting of a call. -/
def tick1 (d : Dv) : Dv := { d with ops := wrap64 (d.ops + 1), fails := if d.fails = -1 then -1 else wrap64 (d.fails - 1) }
/-- A call that found no error: x is what the counted device is behind its doing. -/
def stepD (d x : Dv) : Dv × Int :=
  if d.fails = 0 then (if d.done = true then ({ x with down := true }, 10) else ({ tick1 d with down := true }, 10)) else (x, 0)
theorem tick1_raw {w : World} {q : Dp} {d : Dv} (h : DevAt w q d) : DevAt (w.setCell ⟨q.p, 4, none⟩ (.int .i64 (wrap64 (d.ops + 1)))) q { d with ops := wrap64 (d.ops + 1) } := h.setP 4 _ _ rfl rfl rfl rfl
theorem tick2_raw {w : World} {q : Dp} {d : Dv} (h : DevAt w q d) (n : Int) : DevAt (w.setCell ⟨q.p, 5, none⟩ (.int .i64 n)) q { d with fails := n } := h.setP 5 _ _ rfl rfl rfl rfl
theorem down1_raw {w : World} {q : Dp} {d : Dv} (h : DevAt w q d) (b : Bool) : DevAt (w.setCell ⟨q.p, 3, none⟩ (.bool b)) q { d with down := b } := h.setP 3 _ _ rfl rfl rfl rfl
theorem step_45 {w : World} {q : Dp} {d : Dv} (h : DevAt w q d) (v : Value) (x : Dv)
    (hF : ∀ W, DevAt W q (tick1 d) → Ext (EQ q) w W → Calls Try.prog 45 #[v] W fun e W' => e = .returned (.tuple #[]) ∧ EffD q W W' x) :
    Calls Try.prog 47 #[.pointer (some ⟨q.p, 0, none⟩), .func (.func 45) #[v] #[]] w fun e w' => e = .returned (.int .i64 (stepD d x).2) ∧ EffD q w w' (stepD d x).1 := by
  have HD := asideI h
  have HF := asideI hF
  obtain ⟨⟨a0, a1, a2, a3, a4, a5, a6⟩, b0, b1, b2, b3, b4, b5, b6⟩ := h.cells
  clear h hF
  by_cases h0 : d.fails = 0
  · have hb : (d.fails == 0) = true := by simpa using h0
    have hne : ¬ d.fails = -1 := by omega
    have hnb : (d.fails == -1) = false := by simpa using hne
    have ht : tick1 d = { d with ops := wrap64 (d.ops + 1), fails := -1 } := by rw [tick1, if_neg hne, h0, show wrap64 (0 - 1) = -1 by simp [wrap64]]
    cases hdn : d.done with
    | true =>
      have hr : stepD d x = ({ x with down := true }, 10) := by rw [stepD, if_pos h0, if_pos hdn]
      rw [hdn] at a6
      rw [hr]
      have HT := asideI (And.intro ht h0)
      have HDN := asideI hdn
      clear ht hr hdn
      go_enter Try.func47, Try.ntmps47
      go_wp2_with (first
        | (go_at_call 45
           refine (HF.out _ (by rw [HT.out.1]; first | exact tick2_raw (tick1_raw HD.out) _) (by first | exact extQ_set (extQ_set (Ext.refl _ _) (.inl (.inl rfl)) _ _) (.inl (.inl rfl)) _ _)).mono ?_
           rintro e w2 ⟨rfl, hx⟩
           have HX := asideI hx
           obtain ⟨⟨c0, c1, c2, c3, c4, c5, c6⟩, e0, e1, e2, e3, e4, e5, e6⟩ := hx.1.cells
           clear hx a0 a1 a2 a3 a4 a5 a6 b0 b1 b2 b3 b4 b5 b6
           simp only [])
        | go_in)
      all_goals go_ret
      all_goals exact ⟨rfl, down1_raw HX.out.1 true, extQ_set (Ext.trans (extQ_set (extQ_set (Ext.refl _ _) (.inl (.inl rfl)) _ _) (.inl (.inl rfl)) _ _) HX.out.2) (.inl (.inl rfl)) _ _⟩
    | false =>
      have hr : stepD d x = ({ tick1 d with down := true }, 10) := by rw [stepD, if_pos h0, if_neg (by rw [hdn]; simp)]
      rw [hdn] at a6
      rw [hr]
      have HT := asideI (And.intro ht h0)
      have HDN := asideI hdn
      clear ht hr hdn
      go_enter Try.func47, Try.ntmps47
      go_wp2
      all_goals go_ret
      all_goals refine ⟨rfl, ?_, extQ_set (extQ_set (extQ_set (Ext.refl _ _) (.inl (.inl rfl)) _ _) (.inl (.inl rfl)) _ _) (.inl (.inl rfl)) _ _⟩
      all_goals rw [HT.out.1]
      all_goals exact down1_raw (tick2_raw (tick1_raw HD.out) _) true
  · have hb : (d.fails == 0) = false := by simpa using h0
    have hr : stepD d x = (x, 0) := by rw [stepD, if_neg h0]
    rw [hr]
    have H0 := asideI h0
    by_cases hne : d.fails = -1
    · have hnb : (d.fails == -1) = true := by simpa using hne
      have ht : tick1 d = { d with ops := wrap64 (d.ops + 1) } := by rw [tick1, if_pos hne, ← hne]
      have HT := asideI ht
      clear ht hr
      go_enter Try.func47, Try.ntmps47
      go_wp2_with (first
        | (go_at_call 45
           refine (HF.out _ (by rw [HT.out]; exact tick1_raw HD.out) (extQ_set (Ext.refl _ _) (.inl (.inl rfl)) _ _)).mono ?_
           rintro e w2 ⟨rfl, hx⟩
           have HX := asideI hx
           clear hx
           simp only [])
        | go_in)
      all_goals go_ret
      all_goals exact ⟨rfl, HX.out.1, Ext.trans (extQ_set (Ext.refl _ _) (.inl (.inl rfl)) _ _) HX.out.2⟩
    · have hnb : (d.fails == -1) = false := by simpa using hne
      have ht : tick1 d = { d with ops := wrap64 (d.ops + 1), fails := wrap64 (d.fails - 1) } := by rw [tick1, if_neg hne]
      have HT := asideI ht
      clear ht hr
      go_enter Try.func47, Try.ntmps47
      go_wp2_with (first
        | (go_at_call 45
           refine (HF.out _ (by rw [HT.out]; exact tick2_raw (tick1_raw HD.out) _) (extQ_set (extQ_set (Ext.refl _ _) (.inl (.inl rfl)) _ _) (.inl (.inl rfl)) _ _)).mono ?_
           rintro e w2 ⟨rfl, hx⟩
           have HX := asideI hx
           clear hx
           simp only [])
        | go_in)
      all_goals go_ret
      all_goals exact ⟨rfl, HX.out.1, Ext.trans (extQ_set (extQ_set (Ext.refl _ _) (.inl (.inl rfl)) _ _) (.inl (.inl rfl)) _ _) HX.out.2⟩
theorem step_48 {w : World} {q : Dp} {d : Dv} (h : DevAt w q d) (v u : Value) (x : Dv)
    (hF : ∀ W, DevAt W q (tick1 d) → Ext (EQ q) w W → Calls Try.prog 48 #[v, u] W fun e W' => e = .returned (.tuple #[]) ∧ EffD q W W' x) :
    Calls Try.prog 47 #[.pointer (some ⟨q.p, 0, none⟩), .func (.func 48) #[] #[v, u]] w fun e w' => e = .returned (.int .i64 (stepD d x).2) ∧ EffD q w w' (stepD d x).1 := by
  have HD := asideI h
  have HF := asideI hF
  obtain ⟨⟨a0, a1, a2, a3, a4, a5, a6⟩, b0, b1, b2, b3, b4, b5, b6⟩ := h.cells
  clear h hF
  by_cases h0 : d.fails = 0
  · have hb : (d.fails == 0) = true := by simpa using h0
    have hne : ¬ d.fails = -1 := by omega
    have hnb : (d.fails == -1) = false := by simpa using hne
    have ht : tick1 d = { d with ops := wrap64 (d.ops + 1), fails := -1 } := by rw [tick1, if_neg hne, h0, show wrap64 (0 - 1) = -1 by simp [wrap64]]
    cases hdn : d.done with
    | true =>
      have hr : stepD d x = ({ x with down := true }, 10) := by rw [stepD, if_pos h0, if_pos hdn]
      rw [hdn] at a6
      rw [hr]
      have HT := asideI (And.intro ht h0)
      have HDN := asideI hdn
      clear ht hr hdn
      go_enter Try.func47, Try.ntmps47
      go_wp2_with (first
        | (go_at_call 48
           refine (HF.out _ (by rw [HT.out.1]; first | exact tick2_raw (tick1_raw HD.out) _) (by first | exact extQ_set (extQ_set (Ext.refl _ _) (.inl (.inl rfl)) _ _) (.inl (.inl rfl)) _ _)).mono ?_
           rintro e w2 ⟨rfl, hx⟩
           have HX := asideI hx
           obtain ⟨⟨c0, c1, c2, c3, c4, c5, c6⟩, e0, e1, e2, e3, e4, e5, e6⟩ := hx.1.cells
           clear hx a0 a1 a2 a3 a4 a5 a6 b0 b1 b2 b3 b4 b5 b6
           simp only [])
        | go_in)
      all_goals go_ret
      all_goals exact ⟨rfl, down1_raw HX.out.1 true, extQ_set (Ext.trans (extQ_set (extQ_set (Ext.refl _ _) (.inl (.inl rfl)) _ _) (.inl (.inl rfl)) _ _) HX.out.2) (.inl (.inl rfl)) _ _⟩
    | false =>
      have hr : stepD d x = ({ tick1 d with down := true }, 10) := by rw [stepD, if_pos h0, if_neg (by rw [hdn]; simp)]
      rw [hdn] at a6
      rw [hr]
      have HT := asideI (And.intro ht h0)
      have HDN := asideI hdn
      clear ht hr hdn
      go_enter Try.func47, Try.ntmps47
      go_wp2
      all_goals go_ret
      all_goals refine ⟨rfl, ?_, extQ_set (extQ_set (extQ_set (Ext.refl _ _) (.inl (.inl rfl)) _ _) (.inl (.inl rfl)) _ _) (.inl (.inl rfl)) _ _⟩
      all_goals rw [HT.out.1]
      all_goals exact down1_raw (tick2_raw (tick1_raw HD.out) _) true
  · have hb : (d.fails == 0) = false := by simpa using h0
    have hr : stepD d x = (x, 0) := by rw [stepD, if_neg h0]
    rw [hr]
    have H0 := asideI h0
    by_cases hne : d.fails = -1
    · have hnb : (d.fails == -1) = true := by simpa using hne
      have ht : tick1 d = { d with ops := wrap64 (d.ops + 1) } := by rw [tick1, if_pos hne, ← hne]
      have HT := asideI ht
      clear ht hr
      go_enter Try.func47, Try.ntmps47
      go_wp2_with (first
        | (go_at_call 48
           refine (HF.out _ (by rw [HT.out]; exact tick1_raw HD.out) (extQ_set (Ext.refl _ _) (.inl (.inl rfl)) _ _)).mono ?_
           rintro e w2 ⟨rfl, hx⟩
           have HX := asideI hx
           clear hx
           simp only [])
        | go_in)
      all_goals go_ret
      all_goals exact ⟨rfl, HX.out.1, Ext.trans (extQ_set (Ext.refl _ _) (.inl (.inl rfl)) _ _) HX.out.2⟩
    · have hnb : (d.fails == -1) = false := by simpa using hne
      have ht : tick1 d = { d with ops := wrap64 (d.ops + 1), fails := wrap64 (d.fails - 1) } := by rw [tick1, if_neg hne]
      have HT := asideI ht
      clear ht hr
      go_enter Try.func47, Try.ntmps47
      go_wp2_with (first
        | (go_at_call 48
           refine (HF.out _ (by rw [HT.out]; exact tick2_raw (tick1_raw HD.out) _) (extQ_set (extQ_set (Ext.refl _ _) (.inl (.inl rfl)) _ _) (.inl (.inl rfl)) _ _)).mono ?_
           rintro e w2 ⟨rfl, hx⟩
           have HX := asideI hx
           clear hx
           simp only [])
        | go_in)
      all_goals go_ret
      all_goals exact ⟨rfl, HX.out.1, Ext.trans (extQ_set (extQ_set (Ext.refl _ _) (.inl (.inl rfl)) _ _) (.inl (.inl rfl)) _ _) HX.out.2⟩
theorem step_57 {w : World} {q : Dp} {d : Dv} (h : DevAt w q d) (v u : Value) (x : Dv)
    (hF : ∀ W, DevAt W q (tick1 d) → Ext (EQ q) w W → Calls Try.prog 57 #[v, u] W fun e W' => e = .returned (.tuple #[]) ∧ EffD q W W' x) :
    Calls Try.prog 47 #[.pointer (some ⟨q.p, 0, none⟩), .func (.func 57) #[] #[v, u]] w fun e w' => e = .returned (.int .i64 (stepD d x).2) ∧ EffD q w w' (stepD d x).1 := by
  have HD := asideI h
  have HF := asideI hF
  obtain ⟨⟨a0, a1, a2, a3, a4, a5, a6⟩, b0, b1, b2, b3, b4, b5, b6⟩ := h.cells
  clear h hF
  by_cases h0 : d.fails = 0
  · have hb : (d.fails == 0) = true := by simpa using h0
    have hne : ¬ d.fails = -1 := by omega
    have hnb : (d.fails == -1) = false := by simpa using hne
    have ht : tick1 d = { d with ops := wrap64 (d.ops + 1), fails := -1 } := by rw [tick1, if_neg hne, h0, show wrap64 (0 - 1) = -1 by simp [wrap64]]
    cases hdn : d.done with
    | true =>
      have hr : stepD d x = ({ x with down := true }, 10) := by rw [stepD, if_pos h0, if_pos hdn]
      rw [hdn] at a6
      rw [hr]
      have HT := asideI (And.intro ht h0)
      have HDN := asideI hdn
      clear ht hr hdn
      go_enter Try.func47, Try.ntmps47
      go_wp2_with (first
        | (go_at_call 57
           refine (HF.out _ (by rw [HT.out.1]; first | exact tick2_raw (tick1_raw HD.out) _) (by first | exact extQ_set (extQ_set (Ext.refl _ _) (.inl (.inl rfl)) _ _) (.inl (.inl rfl)) _ _)).mono ?_
           rintro e w2 ⟨rfl, hx⟩
           have HX := asideI hx
           obtain ⟨⟨c0, c1, c2, c3, c4, c5, c6⟩, e0, e1, e2, e3, e4, e5, e6⟩ := hx.1.cells
           clear hx a0 a1 a2 a3 a4 a5 a6 b0 b1 b2 b3 b4 b5 b6
           simp only [])
        | go_in)
      all_goals go_ret
      all_goals exact ⟨rfl, down1_raw HX.out.1 true, extQ_set (Ext.trans (extQ_set (extQ_set (Ext.refl _ _) (.inl (.inl rfl)) _ _) (.inl (.inl rfl)) _ _) HX.out.2) (.inl (.inl rfl)) _ _⟩
    | false =>
      have hr : stepD d x = ({ tick1 d with down := true }, 10) := by rw [stepD, if_pos h0, if_neg (by rw [hdn]; simp)]
      rw [hdn] at a6
      rw [hr]
      have HT := asideI (And.intro ht h0)
      have HDN := asideI hdn
      clear ht hr hdn
      go_enter Try.func47, Try.ntmps47
      go_wp2
      all_goals go_ret
      all_goals refine ⟨rfl, ?_, extQ_set (extQ_set (extQ_set (Ext.refl _ _) (.inl (.inl rfl)) _ _) (.inl (.inl rfl)) _ _) (.inl (.inl rfl)) _ _⟩
      all_goals rw [HT.out.1]
      all_goals exact down1_raw (tick2_raw (tick1_raw HD.out) _) true
  · have hb : (d.fails == 0) = false := by simpa using h0
    have hr : stepD d x = (x, 0) := by rw [stepD, if_neg h0]
    rw [hr]
    have H0 := asideI h0
    by_cases hne : d.fails = -1
    · have hnb : (d.fails == -1) = true := by simpa using hne
      have ht : tick1 d = { d with ops := wrap64 (d.ops + 1) } := by rw [tick1, if_pos hne, ← hne]
      have HT := asideI ht
      clear ht hr
      go_enter Try.func47, Try.ntmps47
      go_wp2_with (first
        | (go_at_call 57
           refine (HF.out _ (by rw [HT.out]; exact tick1_raw HD.out) (extQ_set (Ext.refl _ _) (.inl (.inl rfl)) _ _)).mono ?_
           rintro e w2 ⟨rfl, hx⟩
           have HX := asideI hx
           clear hx
           simp only [])
        | go_in)
      all_goals go_ret
      all_goals exact ⟨rfl, HX.out.1, Ext.trans (extQ_set (Ext.refl _ _) (.inl (.inl rfl)) _ _) HX.out.2⟩
    · have hnb : (d.fails == -1) = false := by simpa using hne
      have ht : tick1 d = { d with ops := wrap64 (d.ops + 1), fails := wrap64 (d.fails - 1) } := by rw [tick1, if_neg hne]
      have HT := asideI ht
      clear ht hr
      go_enter Try.func47, Try.ntmps47
      go_wp2_with (first
        | (go_at_call 57
           refine (HF.out _ (by rw [HT.out]; exact tick2_raw (tick1_raw HD.out) _) (extQ_set (extQ_set (Ext.refl _ _) (.inl (.inl rfl)) _ _) (.inl (.inl rfl)) _ _)).mono ?_
           rintro e w2 ⟨rfl, hx⟩
           have HX := asideI hx
           clear hx
           simp only [])
        | go_in)
      all_goals go_ret
      all_goals exact ⟨rfl, HX.out.1, Ext.trans (extQ_set (extQ_set (Ext.refl _ _) (.inl (.inl rfl)) _ _) (.inl (.inl rfl)) _ _) HX.out.2⟩
theorem step_51 {w : World} {q : Dp} {d : Dv} (h : DevAt w q d) (v0 v1 v2 v3 v4 : Value) (x : Dv)
    (hF : ∀ W, DevAt W q (tick1 d) → Ext (EQ q) w W → Calls Try.prog 51 #[v0, v1, v2, v3, v4] W fun e W' => e = .returned (.tuple #[]) ∧ EffD q W W' x) :
    Calls Try.prog 47 #[.pointer (some ⟨q.p, 0, none⟩), .func (.func 51) #[] #[v0, v1, v2, v3, v4]] w fun e w' => e = .returned (.int .i64 (stepD d x).2) ∧ EffD q w w' (stepD d x).1 := by
  have HD := asideI h
  have HF := asideI hF
  obtain ⟨⟨a0, a1, a2, a3, a4, a5, a6⟩, b0, b1, b2, b3, b4, b5, b6⟩ := h.cells
  clear h hF
  by_cases h0 : d.fails = 0
  · have hb : (d.fails == 0) = true := by simpa using h0
    have hne : ¬ d.fails = -1 := by omega
    have hnb : (d.fails == -1) = false := by simpa using hne
    have ht : tick1 d = { d with ops := wrap64 (d.ops + 1), fails := -1 } := by rw [tick1, if_neg hne, h0, show wrap64 (0 - 1) = -1 by simp [wrap64]]
    cases hdn : d.done with
    | true =>
      have hr : stepD d x = ({ x with down := true }, 10) := by rw [stepD, if_pos h0, if_pos hdn]
      rw [hdn] at a6
      rw [hr]
      have HT := asideI (And.intro ht h0)
      have HDN := asideI hdn
      clear ht hr hdn
      go_enter Try.func47, Try.ntmps47
      go_wp2_with (first
        | (go_at_call 51
           refine (HF.out _ (by rw [HT.out.1]; first | exact tick2_raw (tick1_raw HD.out) _) (by first | exact extQ_set (extQ_set (Ext.refl _ _) (.inl (.inl rfl)) _ _) (.inl (.inl rfl)) _ _)).mono ?_
           rintro e w2 ⟨rfl, hx⟩
           have HX := asideI hx
           obtain ⟨⟨c0, c1, c2, c3, c4, c5, c6⟩, e0, e1, e2, e3, e4, e5, e6⟩ := hx.1.cells
           clear hx a0 a1 a2 a3 a4 a5 a6 b0 b1 b2 b3 b4 b5 b6
           simp only [])
        | go_in)
      all_goals go_ret
      all_goals exact ⟨rfl, down1_raw HX.out.1 true, extQ_set (Ext.trans (extQ_set (extQ_set (Ext.refl _ _) (.inl (.inl rfl)) _ _) (.inl (.inl rfl)) _ _) HX.out.2) (.inl (.inl rfl)) _ _⟩
    | false =>
      have hr : stepD d x = ({ tick1 d with down := true }, 10) := by rw [stepD, if_pos h0, if_neg (by rw [hdn]; simp)]
      rw [hdn] at a6
      rw [hr]
      have HT := asideI (And.intro ht h0)
      have HDN := asideI hdn
      clear ht hr hdn
      go_enter Try.func47, Try.ntmps47
      go_wp2
      all_goals go_ret
      all_goals refine ⟨rfl, ?_, extQ_set (extQ_set (extQ_set (Ext.refl _ _) (.inl (.inl rfl)) _ _) (.inl (.inl rfl)) _ _) (.inl (.inl rfl)) _ _⟩
      all_goals rw [HT.out.1]
      all_goals exact down1_raw (tick2_raw (tick1_raw HD.out) _) true
  · have hb : (d.fails == 0) = false := by simpa using h0
    have hr : stepD d x = (x, 0) := by rw [stepD, if_neg h0]
    rw [hr]
    have H0 := asideI h0
    by_cases hne : d.fails = -1
    · have hnb : (d.fails == -1) = true := by simpa using hne
      have ht : tick1 d = { d with ops := wrap64 (d.ops + 1) } := by rw [tick1, if_pos hne, ← hne]
      have HT := asideI ht
      clear ht hr
      go_enter Try.func47, Try.ntmps47
      go_wp2_with (first
        | (go_at_call 51
           refine (HF.out _ (by rw [HT.out]; exact tick1_raw HD.out) (extQ_set (Ext.refl _ _) (.inl (.inl rfl)) _ _)).mono ?_
           rintro e w2 ⟨rfl, hx⟩
           have HX := asideI hx
           clear hx
           simp only [])
        | go_in)
      all_goals go_ret
      all_goals exact ⟨rfl, HX.out.1, Ext.trans (extQ_set (Ext.refl _ _) (.inl (.inl rfl)) _ _) HX.out.2⟩
    · have hnb : (d.fails == -1) = false := by simpa using hne
      have ht : tick1 d = { d with ops := wrap64 (d.ops + 1), fails := wrap64 (d.fails - 1) } := by rw [tick1, if_neg hne]
      have HT := asideI ht
      clear ht hr
      go_enter Try.func47, Try.ntmps47
      go_wp2_with (first
        | (go_at_call 51
           refine (HF.out _ (by rw [HT.out]; exact tick2_raw (tick1_raw HD.out) _) (extQ_set (extQ_set (Ext.refl _ _) (.inl (.inl rfl)) _ _) (.inl (.inl rfl)) _ _)).mono ?_
           rintro e w2 ⟨rfl, hx⟩
           have HX := asideI hx
           clear hx
           simp only [])
        | go_in)
      all_goals go_ret
      all_goals exact ⟨rfl, HX.out.1, Ext.trans (extQ_set (extQ_set (Ext.refl _ _) (.inl (.inl rfl)) _ _) (.inl (.inl rfl)) _ _) HX.out.2⟩
end Go.Proofs.Ytifemhfpcichfaa

/- Zone: Flush, Reset, Finish, Fail. -/

set_option linter.unusedSimpArgs false
set_option linter.unusedVariables false
set_option maxHeartbeats 4000000
set_option maxRecDepth 1000000
namespace Go.Proofs.Ytifemhfpcichfaa
open Go.RowKit
open Go.Av Go.Maps

theorem asked_cases (d : Dv) : (d.down = false ∧ askedD d = 0) ∨ (d.down = true ∧ askedD d = 10) := by
  unfold askedD
  cases d.down <;> simp
def flushD (d : Dv) : Dv × Int := if d.down = true then (d, 10) else stepD d (safeD (tick1 d))
theorem flush_raw {w : World} {q : Dp} {d : Dv} (h : DevAt w q d) : Calls Try.prog 14 #[.pointer (some ⟨q.p, 0, none⟩)] w fun e w' => e = .returned (.int .i64 (flushD d).2) ∧ EffD q w w' (flushD d).1 := by
  have HA := asideI (asked_raw h)
  have HS := asideI (step_45 h (.pointer (some ⟨q.p, 0, none⟩)) (safeD (tick1 d)) (fun W hW _ => safe_raw hW))
  have HD := asideI h
  clear h
  unfold flushD
  rcases asked_cases d with ⟨h1, h2⟩ | ⟨h1, h2⟩
  · rw [h2] at HA
    rw [if_neg (by rw [h1]; simp)]
    clear h1 h2
    generalize stepD d (safeD (tick1 d)) = r at HS ⊢
    obtain ⟨x, n⟩ := r
    go_enter Try.func14, Try.ntmps14
    go_wp2_with (first
      | (go_at_call 49; refine HA.out.mono ?_; rintro e w2 ⟨rfl, h2⟩; obtain rfl := h2.symm; simp only [])
      | (go_at_call 47; refine HS.out.mono ?_; rintro e w2 ⟨rfl, hx⟩; have HX := asideI hx; clear hx; simp only [])
      | go_in)
    go_ret
    exact ⟨rfl, HX.out⟩
  · rw [h2] at HA
    rw [if_pos h1]
    clear h1 h2
    go_enter Try.func14, Try.ntmps14
    go_wp2_with (first
      | (go_at_call 49; refine HA.out.mono ?_; rintro e w2 ⟨rfl, h2⟩; obtain rfl := h2.symm; simp only [])
      | go_in)
    go_ret
    exact ⟨rfl, EffD.refl HD.out⟩
/-- A zone's emptying. -/
def emptyD (d : Dv) (z : Nat) : Dv := { cutD d z 0 with zs := d.zs.set z ⟨0, 0, false⟩ }
theorem DevAt.z3 {w : World} {q : Dp} {d : Dv} (h : DevAt w q d) {z : Nat} (hz : z < d.zs.length) (a b : Int) (c : Bool) :
    DevAt (((w.setCell ⟨q.za, z * 3, none⟩ (.int .i64 a)).setCell ⟨q.za, z * 3 + 1, none⟩ (.int .i64 b)).setCell ⟨q.za, z * 3 + 2, none⟩ (.bool c)) q { d with zs := d.zs.set z ⟨a, b, c⟩ } := by
  have h1 := h.setZ (i := z) (k := 0) hz (by omega) (.int .i64 a) ⟨a, (d.zs.getD z z0).lo, (d.zs.getD z z0).fin⟩ rfl
  have e1 : (d.zs.set z ⟨a, (d.zs.getD z z0).lo, (d.zs.getD z z0).fin⟩).getD z z0 = ⟨a, (d.zs.getD z z0).lo, (d.zs.getD z z0).fin⟩ := by rw [List.getD_eq_getElem?_getD, List.getElem?_set_self hz]; rfl
  have h2 := h1.setZ (i := z) (k := 1) (by simpa using hz) (by omega) (.int .i64 b) ⟨a, b, (d.zs.getD z z0).fin⟩ (by simp only [e1]; rfl)
  have e2 : ((d.zs.set z ⟨a, (d.zs.getD z z0).lo, (d.zs.getD z z0).fin⟩).set z ⟨a, b, (d.zs.getD z z0).fin⟩).getD z z0 = ⟨a, b, (d.zs.getD z z0).fin⟩ := by rw [List.getD_eq_getElem?_getD, List.getElem?_set_self (by simpa using hz)]; rfl
  have h3 := h2.setZ (i := z) (k := 2) (by simpa using hz) (by omega) (.bool c) ⟨a, b, c⟩ (by simp only [e2]; rfl)
  simpa [List.set_set] using h3
/-- Cells of boxes that a closure has captured. -/
def BoxV (w : World) (b : Nat) (v : Value) : Prop := ∃ te fr, w.heap[b]? = some (.cells #[v] te fr) ∧ fr.1 = fr.2
theorem BoxV.keeps {w W : World} {q : Dp} {b : Nat} {v : Value} (h : BoxV w b v) (hb : ¬ EQ q b) (k : Ext (EQ q) w W) : BoxV W b v := by
  obtain ⟨te, fr, h1, h2⟩ := h
  exact ⟨te, fr, (k.block b (Array.getElem?_eq_some_iff.1 h1).1 hb).trans h1, h2⟩
theorem BoxV.cell {w : World} {b : Nat} {v : Value} (h : BoxV w b v) : w.cell? ⟨b, 0, none⟩ = some v := by
  obtain ⟨te, fr, h1, h2⟩ := h
  simp [World.cell?, h1]
theorem clo48 {W : World} {q : Dp} {d : Dv} (h : DevAt W q d) {b0 b1 : Nat} {z : Nat} (hb0 : BoxV W b0 (.pointer (some ⟨q.p, 0, none⟩))) (hb1 : BoxV W b1 (.int .i64 z)) (n0 : ¬ EQ q b0) (n1 : ¬ EQ q b1) (hz : z < d.zs.length) (hw : (d.zs.getD z z0).wr ≤ 100000) :
    Calls Try.prog 48 #[.pointer (some ⟨b0, 0, none⟩), .pointer (some ⟨b1, 0, none⟩)] W fun e W' => e = .returned (.tuple #[]) ∧ EffD q W W' (emptyD d z) := by
  have HC := asideI (cut_raw h z 0 hz hw (by omega))
  have HB := asideI (And.intro hb0 hb1)
  have c0 := hb0.cell
  have c1 := hb1.cell
  have hlen := h.len
  clear h hb0 hb1
  go_enter Try.func48, Try.ntmps48
  go_wp2_with (first
    | (go_at_call 44
       refine HC.out.mono ?_
       rintro e w2 ⟨rfl, hx⟩
       have HX := asideI hx
       have k0 := (HB.out.1.keeps n0 hx.2).cell
       have k1 := (HB.out.2.keeps n1 hx.2).cell
       obtain ⟨⟨a0, a1, a2, a3, a4, a5, a6⟩, e0, e1, e2, e3, e4, e5, e6⟩ := hx.1.cells
       have hzc : z < (cutD d z 0).zs.length := by simpa [cutD] using hz
       obtain ⟨⟨x0, x1, x2⟩, y0, y1, y2⟩ := hx.1.zcells (i := z) hzc
       have hl2 : (cutD d z 0).zs.length = d.zs.length := by simp [cutD]
       rw [hl2] at a0
       have hzz : (z : Int) < d.zs.length := by omega
       clear hx c0 c1
       simp only [])
    | go_in)
  go_region
  all_goals go_wp2
  all_goals go_end0
  all_goals refine ⟨rfl, ?_⟩
  all_goals (
    have hzc : z < (cutD d z 0).zs.length := by simpa [cutD] using hz
    have h3 := (HX.out.1.z3 hzc 0 0 false).drew
    have e : ({ cutD d z 0 with zs := (cutD d z 0).zs.set z ⟨0, 0, false⟩ } : Dv) = emptyD d z := by simp [emptyD, cutD, List.set_set]
    rw [e] at h3
    exact ⟨h3, Ext.trans (extQ_set (extQ_set (extQ_set HX.out.2 (.inl (.inr (.inl rfl))) _ _) (.inl (.inr (.inl rfl))) _ _) (.inl (.inr (.inl rfl))) _ _) (extQ (ext_drew _))⟩)
theorem notEQ {w : World} {q : Dp} {d : Dv} (h : DevAt w q d) {b : Nat} (hb : w.heap.size ≤ b) : ¬ EQ q b := by
  obtain ⟨h1, h2, h3⟩ := h.lt
  rintro (e | e | e) <;> omega
theorem at_cases (d : Dv) (z : Int) : (d.down = true ∧ atD d z = 10) ∨ (d.down = false ∧ hasZ d z = false ∧ atD d z = 11) ∨ (d.down = false ∧ hasZ d z = true ∧ atD d z = 0) := by
  unfold atD
  rcases asked_cases d with ⟨h1, h2⟩ | ⟨h1, h2⟩
  · rw [h2]
    cases hz : hasZ d z with
    | false => exact .inr (.inl ⟨h1, rfl, by simp⟩)
    | true => exact .inr (.inr ⟨h1, rfl, by simp⟩)
  · rw [h2]; exact .inl ⟨h1, by simp⟩
/-- A reset. -/
def resetD (d : Dv) (z : Int) : Dv × Int := if atD d z ≠ 0 then (d, atD d z) else stepD d (emptyD (tick1 d) z.toNat)
theorem boxV1 (w : World) (v u : Value) (t t' : TypeId) : BoxV ((w.alloc (.cells #[v] t)).alloc (.cells #[u] t')) w.heap.size v ∧ BoxV ((w.alloc (.cells #[v] t)).alloc (.cells #[u] t')) (w.heap.size + 1) u := by
  have hs : (w.alloc (.cells #[v] t)).heap.size = w.heap.size + 1 := by simp
  refine ⟨⟨t, (0, 0), ?_, rfl⟩, ⟨t', (0, 0), ?_, rfl⟩⟩
  · rw [alloc_get, hs, if_neg (by omega), alloc_get, if_pos rfl]
  · rw [alloc_get, hs, if_pos rfl]
theorem reset_raw {w : World} {q : Dp} {d : Dv} (h : DevAt w q d) (z : Int) (hw : ∀ i, i < d.zs.length → (d.zs.getD i z0).wr ≤ 100000) : Calls Try.prog 13 #[.pointer (some ⟨q.p, 0, none⟩), .int .i64 z] w fun e w' => e = .returned (.int .i64 (resetD d z).2) ∧ EffD q w w' (resetD d z).1 := by
  obtain ⟨b0, b1⟩ := boxV1 w (.pointer (some ⟨q.p, 0, none⟩)) (.int .i64 z) 26 3
  have h2 := (h.alloc (.cells #[.pointer (some ⟨q.p, 0, none⟩)] 26)).alloc (.cells #[.int .i64 z] 3)
  have hx : Ext (fun _ => False) w ((w.alloc (.cells #[.pointer (some ⟨q.p, 0, none⟩)] 26)).alloc (.cells #[.int .i64 z] 3)) := (ext_alloc1 _ _).trans (ext_alloc1 _ _)
  have n0 := notEQ h (Nat.le_refl w.heap.size)
  have n1 := notEQ h (Nat.le_succ w.heap.size)
  have HA := asideI (at_raw h2 z)
  unfold resetD
  have HH := asideI (And.intro h2 hx)
  rcases at_cases d z with ⟨h1, e1⟩ | ⟨h1, hz, e1⟩ | ⟨h1, hz, e1⟩
  · rw [e1] at HA ⊢
    rw [if_pos (by simp)]
    clear h h2 hx b0 b1 h1 e1
    go_enter Try.func13, Try.ntmps13
    go_wp2_with (first
      | (go_at_call 46; refine HA.out.mono ?_; rintro e w2 ⟨rfl, h2⟩; obtain rfl := h2.symm; simp only [])
      | go_in)
    go_ret
    exact ⟨rfl, HH.out.1, extQ HH.out.2⟩
  · rw [e1] at HA ⊢
    rw [if_pos (by simp)]
    clear h h2 hx b0 b1 h1 e1 hz
    go_enter Try.func13, Try.ntmps13
    go_wp2_with (first
      | (go_at_call 46; refine HA.out.mono ?_; rintro e w2 ⟨rfl, h2⟩; obtain rfl := h2.symm; simp only [])
      | go_in)
    go_ret
    exact ⟨rfl, HH.out.1, extQ HH.out.2⟩
  · rw [e1] at HA ⊢
    rw [if_neg (by simp)]
    obtain ⟨hz0, hz1⟩ := hasZ_iff hz
    obtain ⟨i, rfl⟩ : ∃ i : Nat, z = i := ⟨z.toNat, by omega⟩
    have hi : i < d.zs.length := by omega
    rw [show ((i : Nat) : Int).toNat = i by omega]
    have HS := asideI (step_48 h2 (.pointer (some ⟨w.heap.size, 0, none⟩)) (.pointer (some ⟨w.heap.size + 1, 0, none⟩)) (emptyD (tick1 d) i) (fun W hW hE => clo48 hW (b0.keeps n0 hE) (b1.keeps n1 hE) n0 n1 hi (hw i hi)))
    clear h h2 hx b0 b1 h1 e1 hz
    generalize stepD d (emptyD (tick1 d) i) = r at HS ⊢
    obtain ⟨x, n⟩ := r
    go_enter Try.func13, Try.ntmps13
    go_wp2_with (first
      | (go_at_call 46; refine HA.out.mono ?_; rintro e w2 ⟨rfl, h2⟩; obtain rfl := h2.symm; simp only [])
      | (go_at_call 47; refine HS.out.mono ?_; rintro e w2 ⟨rfl, hx⟩; have HX := asideI hx; clear hx; simp only [])
      | go_in)
    go_ret
    exact ⟨rfl, HX.out.1, (extQ HH.out.2).trans HX.out.2⟩
end Go.Proofs.Ytifemhfpcichfaa

/- Zone: Finish, Fail, Read, New. -/

set_option linter.unusedSimpArgs false
set_option linter.unusedVariables false
set_option maxHeartbeats 4000000
set_option maxRecDepth 1000000
namespace Go.Proofs.Ytifemhfpcichfaa
open Go.RowKit
open Go.Av Go.Maps

def finZ (d : Dv) (z : Nat) : Dv := { d with zs := d.zs.set z ⟨(d.zs.getD z z0).wr, (d.zs.getD z z0).lo, true⟩ }
theorem clo57 {W : World} {q : Dp} {d : Dv} (h : DevAt W q d) {b0 b1 : Nat} {z : Nat} (hb0 : BoxV W b0 (.pointer (some ⟨q.p, 0, none⟩))) (hb1 : BoxV W b1 (.int .i64 z)) (hz : z < d.zs.length) :
    Calls Try.prog 57 #[.pointer (some ⟨b0, 0, none⟩), .pointer (some ⟨b1, 0, none⟩)] W fun e W' => e = .returned (.tuple #[]) ∧ EffD q W W' (finZ d z) := by
  have HD := asideI h
  have c0 := hb0.cell
  have c1 := hb1.cell
  have hlen := h.len
  have hzz : (z : Int) < d.zs.length := by omega
  obtain ⟨⟨a0, a1, a2, a3, a4, a5, a6⟩, e0, e1, e2, e3, e4, e5, e6⟩ := h.cells
  obtain ⟨⟨x0, x1, x2⟩, y0, y1, y2⟩ := h.zcells (i := z) hz
  clear h hb0 hb1
  go_enter Try.func57, Try.ntmps57
  go_region
  all_goals go_wp2
  all_goals go_end0
  all_goals exact ⟨rfl, (HD.out.drew).setZ (i := z) (k := 2) hz (by omega) (.bool true) ⟨(d.zs.getD z z0).wr, (d.zs.getD z z0).lo, true⟩ rfl, extQ_set (extQ (ext_drew _)) (.inl (.inr (.inl rfl))) _ _⟩
def finishD (d : Dv) (z : Int) : Dv × Int := if atD d z ≠ 0 then (d, atD d z) else stepD d (finZ (tick1 d) z.toNat)
theorem finish_raw {w : World} {q : Dp} {d : Dv} (h : DevAt w q d) (z : Int) : Calls Try.prog 28 #[.pointer (some ⟨q.p, 0, none⟩), .int .i64 z] w fun e w' => e = .returned (.int .i64 (finishD d z).2) ∧ EffD q w w' (finishD d z).1 := by
  obtain ⟨b0, b1⟩ := boxV1 w (.pointer (some ⟨q.p, 0, none⟩)) (.int .i64 z) 26 3
  have h2 := (h.alloc (.cells #[.pointer (some ⟨q.p, 0, none⟩)] 26)).alloc (.cells #[.int .i64 z] 3)
  have hx : Ext (fun _ => False) w ((w.alloc (.cells #[.pointer (some ⟨q.p, 0, none⟩)] 26)).alloc (.cells #[.int .i64 z] 3)) := (ext_alloc1 _ _).trans (ext_alloc1 _ _)
  have n0 := notEQ h (Nat.le_refl w.heap.size)
  have n1 := notEQ h (Nat.le_succ w.heap.size)
  have HA := asideI (at_raw h2 z)
  unfold finishD
  have HH := asideI (And.intro h2 hx)
  rcases at_cases d z with ⟨h1, e1⟩ | ⟨h1, hz, e1⟩ | ⟨h1, hz, e1⟩
  · rw [e1] at HA ⊢
    rw [if_pos (by simp)]
    clear h h2 hx b0 b1 h1 e1
    go_enter Try.func28, Try.ntmps28
    go_wp2_with (first
      | (go_at_call 46; refine HA.out.mono ?_; rintro e w2 ⟨rfl, h2⟩; obtain rfl := h2.symm; simp only [])
      | go_in)
    go_ret
    exact ⟨rfl, HH.out.1, extQ HH.out.2⟩
  · rw [e1] at HA ⊢
    rw [if_pos (by simp)]
    clear h h2 hx b0 b1 h1 e1 hz
    go_enter Try.func28, Try.ntmps28
    go_wp2_with (first
      | (go_at_call 46; refine HA.out.mono ?_; rintro e w2 ⟨rfl, h2⟩; obtain rfl := h2.symm; simp only [])
      | go_in)
    go_ret
    exact ⟨rfl, HH.out.1, extQ HH.out.2⟩
  · rw [e1] at HA ⊢
    rw [if_neg (by simp)]
    obtain ⟨hz0, hz1⟩ := hasZ_iff hz
    obtain ⟨i, rfl⟩ : ∃ i : Nat, z = i := ⟨z.toNat, by omega⟩
    have hi : i < d.zs.length := by omega
    rw [show ((i : Nat) : Int).toNat = i by omega]
    have HS := asideI (step_57 h2 (.pointer (some ⟨w.heap.size, 0, none⟩)) (.pointer (some ⟨w.heap.size + 1, 0, none⟩)) (finZ (tick1 d) i) (fun W hW hE => clo57 hW (b0.keeps n0 hE) (b1.keeps n1 hE) hi))
    clear h h2 hx b0 b1 h1 e1 hz
    generalize stepD d (finZ (tick1 d) i) = r at HS ⊢
    obtain ⟨x, n⟩ := r
    go_enter Try.func28, Try.ntmps28
    go_wp2_with (first
      | (go_at_call 46; refine HA.out.mono ?_; rintro e w2 ⟨rfl, h2⟩; obtain rfl := h2.symm; simp only [])
      | (go_at_call 47; refine HS.out.mono ?_; rintro e w2 ⟨rfl, hx⟩; have HX := asideI hx; clear hx; simp only [])
      | go_in)
    go_ret
    exact ⟨rfl, HX.out.1, (extQ HH.out.2).trans HX.out.2⟩
def failD (d : Dv) (n : Int) (b : Bool) : Dv × Int := if d.down = true then (d, 10) else if n < 0 then (d, 2) else ({ d with fails := n, done := b }, 0)
theorem fail_raw {w : World} {q : Dp} {d : Dv} (h : DevAt w q d) (n : Int) (b : Bool) : Calls Try.prog 39 #[.pointer (some ⟨q.p, 0, none⟩), .int .i64 n, .bool b] w fun e w' => e = .returned (.int .i64 (failD d n b).2) ∧ EffD q w w' (failD d n b).1 := by
  have HA := asideI (asked_raw h)
  have HD := asideI h
  obtain ⟨⟨a0, a1, a2, a3, a4, a5, a6⟩, e0, e1, e2, e3, e4, e5, e6⟩ := h.cells
  clear h
  unfold failD
  rcases asked_cases d with ⟨h1, h2⟩ | ⟨h1, h2⟩
  · rw [h2] at HA
    rw [if_neg (by rw [h1]; simp)]
    clear h1 h2
    by_cases hn : n < 0
    · rw [if_pos hn]
      go_enter Try.func39, Try.ntmps39
      go_wp2_with (first
        | (go_at_call 49; refine HA.out.mono ?_; rintro e w2 ⟨rfl, h2⟩; obtain rfl := h2.symm; simp only [])
        | go_in)
      go_ret
      exact ⟨rfl, EffD.refl HD.out⟩
    · rw [if_neg hn]
      go_enter Try.func39, Try.ntmps39
      go_wp2_with (first
        | (go_at_call 49; refine HA.out.mono ?_; rintro e w2 ⟨rfl, h2⟩; obtain rfl := h2.symm; simp only [])
        | go_in)
      go_ret
      exact ⟨rfl, (tick2_raw HD.out n).setP 6 _ { d with fails := n, done := b } rfl rfl rfl rfl, extQ_set (extQ_set (Ext.refl _ _) (.inl (.inl rfl)) _ _) (.inl (.inl rfl)) _ _⟩
  · rw [h2] at HA
    rw [if_pos h1]
    clear h1 h2
    go_enter Try.func39, Try.ntmps39
    go_wp2_with (first
      | (go_at_call 49; refine HA.out.mono ?_; rintro e w2 ⟨rfl, h2⟩; obtain rfl := h2.symm; simp only [])
      | go_in)
    go_ret
    exact ⟨rfl, EffD.refl HD.out⟩
end Go.Proofs.Ytifemhfpcichfaa

/- Zone: Append's closure. -/



set_option linter.unusedSimpArgs false
set_option linter.unusedVariables false
set_option maxHeartbeats 4000000
set_option maxRecDepth 1000000
namespace Go.Proofs.Ytifemhfpcichfaa
open Go.RowKit
open Go.Av Go.Maps

/-- A block that is written. -/
def putD (d : Dv) (z : Nat) (cs : List Value) : Dv :=
  { d with zs := d.zs.set z ⟨(d.zs.getD z z0).wr + 1, (d.zs.getD z z0).lo + 1, (d.zs.getD z z0).fin⟩, n := d.n + 1, D := d.D.put (kl z (d.zs.getD z z0).wr) (.held (.agg cs.toArray)) }
theorem clo51 {W : World} {q : Dp} {d : Dv} (h : DevAt W q d) {b0 b1 b2 b3 b4 : Nat} {z : Nat} {vb off cap : Nat} {cs : List Value} (hb0 : BoxV W b0 (.slice (some ⟨vb, off, none⟩) 64 cap)) (hb1 : BoxV W b1 (.pointer (some ⟨q.p, 0, none⟩))) (hb2 : BoxV W b2 (.int .i64 z)) (hb3 : BoxV W b3 (.int .i64 (d.zs.getD z z0).wr)) (hb4 : BoxV W b4 (.pointer (some ⟨q.za, z * 3, none⟩)))
    (n0 : ¬ EQ q b0) (n1 : ¬ EQ q b1) (n2 : ¬ EQ q b2) (n3 : ¬ EQ q b3) (n4 : ¬ EQ q b4) (hz : z < d.zs.length) (hn : d.n < 100000) (hw : 0 ≤ (d.zs.getD z z0).wr ∧ (d.zs.getD z z0).wr ≤ 100000) (hlo : 0 ≤ (d.zs.getD z z0).lo ∧ (d.zs.getD z z0).lo ≤ 100000)
    (nv : ¬ EQ q vb) (hcs : W.rangeAt vb off cs) (hcl : cs.length = 64) :
    Calls Try.prog 51 #[.pointer (some ⟨b0, 0, none⟩), .pointer (some ⟨b1, 0, none⟩), .pointer (some ⟨b2, 0, none⟩), .pointer (some ⟨b3, 0, none⟩), .pointer (some ⟨b4, 0, none⟩)] W fun e W' => e = .returned (.tuple #[]) ∧ EffD q W W' (putD d z cs) := by
  have hlen := h.len
  obtain ⟨X, hX⟩ : ∃ X, X = d.zs.getD z z0 := ⟨_, rfl⟩
  rw [← hX] at hb3 hw hlo
  have hx0 := hb0.cell
  have hx1 := hb1.cell
  have hx2 := hb2.cell
  have hx3 := hb3.cell
  have hx4 := hb4.cell
  obtain ⟨⟨a0, a1, a2, a3, a4, a5, a6⟩, e0, e1, e2, e3, e4, e5, e6⟩ := h.cells
  obtain ⟨w2, hrun, ho, ht⟩ := h.drew.bm.store (t := 81) (e := 86) K88 (by kernel_rfl) (Nat.lt_trans hn (by decide)) (key := kv z X.wr) (val := .agg cs.toArray) (kl := kl z X.wr) (d := .held (.agg cs.toArray)) (ps := [])
    (key88 ⟨by omega, by omega⟩ ⟨by omega, by omega⟩) rfl
  have hT := h.drew.turn ho ht
  have hE2 : Ext (EQ q) W w2 := (extQ (ext_drew W)).trans hT.2
  have k0 := (hb0.keeps n0 hE2).cell
  have k1 := (hb1.keeps n1 hE2).cell
  have k2 := (hb2.keeps n2 hE2).cell
  have k3 := (hb3.keeps n3 hE2).cell
  have k4 := (hb4.keeps n4 hE2).cell
  obtain ⟨⟨_, _, f2, _, _, _, _⟩, _⟩ := hT.1.cells
  obtain ⟨⟨x0, x1, x2⟩, y0, y1, y2⟩ := hT.1.zcells (i := z) hz
  rw [← hX] at x0 x1
  have hcs2 : w2.rangeAt vb off cs := fun j v hv => by
    rw [← hcs j v hv]
    exact World.cell?_of_block (hE2.block vb (World.block_lt_of_cell? W ⟨vb, off + j, none⟩ (hcs j v hv)) nv)
  have hk : (Instr.mapUpdate 81 (.map (some q.mb)) (.agg #[.int .i64 z, .int .i64 X.wr]) (.agg cs.toArray)).run Try.prog W.drew = .ok () w2 := hrun
  have HT := asideI hT
  have HD := asideI h
  have HX := asideI hX
  have harr : ∀ W2 : World, (Instr.arrayAt 86 (.slice (some ⟨vb, off, none⟩) 64 cap)).run Try.prog W2 = .ok (.pointer (some ⟨vb, off, none⟩)) W2 := fun W2 => by
    have he : Try.prog.underlying 86 = some (.array 64 5) := by kernel_rfl
    simp [Instr.arrayAt, run_underlying he]
  clear h ho ht hrun hX hT hE2
  have hu86 : Try.prog.underlying 86 = some (.array 64 5) := by kernel_rfl
  have hi86 : (Try.prog.info? 86).map (·.size) = some cs.length := by rw [hcl]; kernel_rfl
  go_enter Try.func51, Try.ntmps51
  go_wp2
  go_region_held (fun W2 => W2.cell? ⟨b0, 0, none⟩ = some (.slice (some ⟨vb, off, none⟩) 64 cap) ∧ W2.cell? ⟨b1, 0, none⟩ = some (.pointer (some ⟨q.p, 0, none⟩)) ∧ W2.cell? ⟨b2, 0, none⟩ = some (.int .i64 z) ∧ W2.cell? ⟨b3, 0, none⟩ = some (.int .i64 X.wr) ∧ W2.cell? ⟨q.p, 2, none⟩ = some (.map (some q.mb)) ∧ W2.rangeAt vb off cs) (first | (simp [*]; done) | (refine ⟨?_, ?_, ?_, ?_, ?_, ?_⟩ <;> assumption)) (fail)
  have hw1 : wrap64 (X.wr + 1) = X.wr + 1 := by unfold wrap64; omega
  have hw2 : wrap64 (X.lo + 1) = X.lo + 1 := by unfold wrap64; omega
  clear hk hcs2 hcs
  have m4 : ¬ (b4 = q.za) := fun e => n4 (.inr (.inl e))
  have m4' : ¬ (q.za = b4) := fun e => n4 (.inr (.inl e.symm))
  go_wp2
  go_end0
  refine ⟨rfl, ?_⟩
  have hz2 : z < ({ d with n := d.n + 1, D := d.D.put (kl z X.wr) (.held (.agg cs.toArray)) } : Dv).zs.length := hz
  have s1 := HT.out.1.setZ (i := z) (k := 0) hz2 (by omega) (.int .i64 (X.wr + 1)) ⟨X.wr + 1, X.lo, X.fin⟩ (by simp only [← HX.out]; rfl)
  have e1 : (d.zs.set z ⟨X.wr + 1, X.lo, X.fin⟩).getD z z0 = ⟨X.wr + 1, X.lo, X.fin⟩ := by rw [List.getD_eq_getElem?_getD, List.getElem?_set_self hz]; rfl
  have s2 := s1.setZ (i := z) (k := 1) (by simpa using hz) (by omega) (.int .i64 (X.lo + 1)) ⟨X.wr + 1, X.lo + 1, X.fin⟩ (by simp only [e1]; rfl)
  refine ⟨?_, extQ_set (extQ_set ((extQ (ext_drew W)).trans HT.out.2) (.inl (.inr (.inl rfl))) _ _) (.inl (.inr (.inl rfl))) _ _⟩
  have e : ({ d with zs := (d.zs.set z ⟨X.wr + 1, X.lo, X.fin⟩).set z ⟨X.wr + 1, X.lo + 1, X.fin⟩, n := d.n + 1, D := d.D.put (kl z X.wr) (.held (.agg cs.toArray)) } : Dv) = putD d z cs := by
    rw [putD, ← HX.out, List.set_set]
  rw [← e]
  exact s2
end Go.Proofs.Ytifemhfpcichfaa
