import Derived.Test.YtifemhfpcichfaaMZsF
import Derived.Test.YtifemhfpcichfaaAvL3
import Derived.Test.YtifemhfpcichfaaProg
import Derived.KernelRfl
import Derived.Test.YtifemhfpcichfaaAvAA
import Derived.Test.YtifemhfpcichfaaMZrA

set_option linter.unusedVariables false
set_option linter.unusedSimpArgs false

/- Zalloc: the zones' kinds (the walk). -/

set_option linter.unusedSimpArgs false
set_option linter.unusedVariables false
set_option maxHeartbeats 4000000
set_option maxRecDepth 1000000
namespace Go.Proofs.Ytifemhfpcichfaa
open Go.RowKit
open Go.Av Go.Maps

/-- What Kinds tells: a row of its own. -/
def KindsP (d : Dv) (S : List Int) (w : World) (e : Ending) (w' : World) : Prop := ∃ v, e = .returned v ∧ w'.ownsRow w.heap.size 5 1 v d.zs.length (u8s (kindsB d S)) ∧ Ext (fun _ => False) w w'
structure KInv (w wr : World) (mb m : Nat) (S us : List Int) (bs : List UInt8) (v : Value) : Prop where
  own : wr.ownsRow (mb + 1) 5 1 v bs.length (u8s bs)
  set : SetM wr mb m us
  ext : Ext (fun _ => False) w wr
theorem own_base {w : World} {base b2 e size n : Nat} {v : Value} {xs : List Value} (k : b2 ≤ base) (h : w.ownsRow base e size v n xs) : w.ownsRow b2 e size v n xs := by
  refine ⟨h.1, ?_⟩
  rcases h.2 with h2 | ⟨g, cap, cur, h1, h2, h3⟩
  · exact .inl h2
  · exact .inr ⟨g, cap, cur, h1, Nat.le_trans k h2, h3⟩
theorem KInv.next {w wr Wn w6 : World} {mb m : Nat} {S us : List Int} {bs : List UInt8} {v v' : Value} {c : UInt8} (h : KInv w wr mb m S us bs v) (hmb : w.heap.size ≤ mb) (k : Ext (fun _ => False) wr Wn) (h1 : w6.ownsRow (mb + 1) 5 1 v' (bs.length + 1) (u8s bs ++ [.int .u8 c.toNat])) (h2 : Wn.grownBy w6 v.ownBlock) : KInv w w6 mb m S us (bs ++ [c]) v' := by
  refine ⟨?_, h.set.keep ?_, grown_ext (own_ext h.own k) h2 (by omega) (h.ext.trans k)⟩
  · rw [List.length_append, show u8s (bs ++ [c]) = u8s bs ++ [.int .u8 c.toNat] by simp [u8s]]
    exact h1
  · have hl := h.set.lt
    refine (h2.5 mb (Nat.lt_of_lt_of_le hl k.size) ?_).trans (k.block mb hl id)
    rcases h.own.2 with ⟨e, _⟩ | ⟨g, cap, cur, e, hg, _⟩
    · rw [e]; simp [Value.ownBlock]
    · rw [e]; simp only [Value.ownBlock]; intro q; injection q with q; omega
theorem row_cell {w : World} {base n : Nat} {v : Value} {us : List Int} (h : w.ownsRow base 3 1 v n (I3 us)) {i : Nat} (hi : i < us.length) : ∃ b c, v = .slice (some ⟨b, 0, none⟩) n c ∧ base ≤ b ∧ b < w.heap.size ∧ w.cell? ⟨b, i, none⟩ = some (.int .i64 (us.getD i 0)) := by
  have hl : us.length = n := by have := h.1; simpa [I3] using this
  rcases h.2 with ⟨_, h2⟩ | ⟨g, cap, cur, h1, h2, h3, h4, h5, h6, h7⟩
  · omega
  · refine ⟨g, cap, h1, h2, (Array.getElem?_eq_some_iff.1 h3).1, ?_⟩
    rw [cell_of_block h3]
    have e : (cur.toList.take (n * 1))[i]? = (I3 us)[i]? := by rw [h7]
    rw [List.getElem?_take_of_lt (by omega), Array.getElem?_toList] at e
    rw [e]
    simp [I3, List.getD_eq_getElem?_getD, hi]
theorem kinds_raw (hS : SortC) {w : World} {q : Dp} {d : Dv} (hD : DevAt w q d) {v : Value} {cs : List (List Int)} (h : StW w v cs) (hb : cs.flatten.length ≤ 50000) (hcl : cs.length ≤ 1000000) (hI : ∀ z ∈ cs.flatten, I64 z) :
    Calls Try.prog 31 #[.pointer (some ⟨q.p, 0, none⟩), v] w (KindsP d cs.flatten w) := by
  obtain ⟨i0, hi, hz0, hz1, hz2⟩ := info_parts (P := Try.prog) (e := 5) (z := .int .u8 0) (size := 1) (bytes := 1) (by kernel_rfl)
  have hu : Try.prog.underlying 24 = some (.slice 5) := by kernel_rfl
  have hSW := h
  obtain ⟨nx, tp, tn, tc, cp, cc, rfl, hC⟩ := h
  have HI := asideI hi
  have HZ0 := asideI hz0
  have HZ1 := asideI hz1
  have HZ2 := asideI hz2
  have HU := asideI hu
  have HD := asideI hD
  have hlen := hD.len
  have HSW := asideI hSW
  have HI64 := asideI hI
  have hmm := fun w => run_makeMap (P := Try.prog) 103 w
  obtain ⟨W, hW⟩ : ∃ W, W = (w.alloc (.cells #[.int .i64 nx, .slice tp tn tc, .slice cp cs.length cc] 58)).alloc (.map #[] 0) := ⟨_, rfl⟩
  have HW := asideI hW
  have HX := asideI (show Ext (fun _ => False) w W by rw [hW]; exact (ext_alloc1 _ _).trans (ext_alloc1 _ _))
  have HM := asideI (show SetM W (w.heap.size + 1) 0 [] by rw [hW]; have := SetM.new (w.alloc (.cells #[.int .i64 nx, .slice tp tn tc, .slice cp cs.length cc] 58)); simpa using this)
  have k0 : W.heap[w.heap.size]? = some (.cells #[.int .i64 nx, .slice tp tn tc, .slice cp cs.length cc] 58) := by rw [hW, alloc_get, if_neg (by simp), alloc_get, if_pos rfl]
  have c0 : W.cell? ⟨w.heap.size, 0, none⟩ = some (.int .i64 nx) := by simp [World.cell?, k0]
  have c1 : W.cell? ⟨w.heap.size, 1, none⟩ = some (.slice tp tn tc) := by simp [World.cell?, k0]
  have c2 : W.cell? ⟨w.heap.size, 2, none⟩ = some (.slice cp cs.length cc) := by simp [World.cell?, k0]
  have HZS := asideI (stzones_raw hS (hSW.ext HX.out) (by omega) hcl)
  clear hi hz0 hz1 hz2 hu hC hSW hI hW k0 hD
  show Calls Try.prog 31 #[.pointer (some ⟨q.p, 0, none⟩), .agg #[.int .i64 nx, .slice tp tn tc, .slice cp cs.length cc]] w _
  go_enter Try.func31, Try.ntmps31
  go_wp2_with (first
    | (go_at_call 58; rw [← HW.out]; refine HZS.out.mono ?_
       rintro e w1 ⟨zv, us, rfl, hu1, hu2, hu3, hu4⟩
       obtain ⟨zp, zc, rfl⟩ := own_slice hu3
       have HR := asideI (And.intro hu2 (And.intro hu3 hu4))
       have HU1 := asideI hu1
       clear hu1 hu2 hu3 hu4
       simp only [])
    | go_in)
  have hlu : us.length ≤ 50000 := by rw [HU1.out]; exact hb
  have hs1 : W.heap.size ≤ w1.heap.size := HR.out.2.2.size
  have hsW : W.heap.size = w.heap.size + 1 + 1 := by rw [HW.out]; simp
  clear c0 c1 c2
  go_loopg [14] us.length (fun gg s14 wr => ∃ (i : Nat), s14 = .int .i64 i ∧ i ≤ us.length ∧ us.length - i ≤ gg ∧ Aside (SetM wr (w.heap.size + 1) i (us.take i) ∧ Ext (fun k => k = w.heap.size + 1) w1 wr))
  case atStart => exact ⟨0, rfl, by omega, by omega, HM.out.keep (HR.out.2.2.block _ (by omega) id), Ext.refl _ _⟩
  case round =>
    obtain ⟨i, rfl, hi, hgg, H2⟩ := hrel
    by_cases hlt : i < us.length
    · have hz : (i : Int) < (us.length : Int) := by omega
      have hw : IntKind.i64.wrap ((i : Int) + 1) = (i : Int) + 1 := by rw [IntKind.wrap_i64]; omega
      obtain ⟨b, c, he, hb1, hb2, hb3⟩ := row_cell HR.out.2.1 hlt
      cases he
      replace hb3 := (World.cell?_of_block (H2.out.2.block b hb2 (by omega))).trans hb3
      have htk : us.take (i + 1) = us.take i ++ [us.getD i 0] := by rw [List.take_add_one, List.getD_eq_getElem?_getD, List.getElem?_eq_getElem hlt]; rfl
      have hmem : us.getD i 0 ∈ us := by rw [List.getD_eq_getElem?_getD, List.getElem?_eq_getElem hlt]; simp
      have h64 := HI64.out _ ((HR.out.1 _).1 hmem)
      obtain ⟨w2, hrun, hset, hgr⟩ := H2.out.1.put (by omega) h64
      rw [← htk] at hset
      have HSET := asideI (And.intro hset (H2.out.2.trans (show Ext (fun k => k = w.heap.size + 1) wr w2 from ⟨hgr.1, hgr.2, hgr.3, hgr.4, fun k hk hne => hgr.5 k hk (fun e => hne (Option.some.inj e))⟩)))
      clear htk hmem h64 hset hgr
      generalize us.getD i 0 = zz at hb3 hrun
      go_wp2
      go_roundg (us.length - (i + 1))
      case measure => omega
      case rel => exact ⟨i + 1, by simp, by omega, by omega, HSET.out⟩
    · obtain rfl : i = us.length := by omega
      have hE0 : Ext (fun _ => False) w wr := extF (HX.out.trans HR.out.2.2) H2.out.2 (by rintro b rfl; omega)
      have hset := H2.out.1
      rw [List.take_length] at hset
      have hms : w1.heap.size ≤ wr.heap.size := H2.out.2.size
      have HSET := asideI hset
      have HE0 := asideI hE0
      have HDR := asideI (HD.out.ext hE0)
      clear hset hE0
      go_wp2_with (first
        | (go_at_call 56; refine (zones_raw HDR.out).mono ?_; rintro e w4 ⟨rfl, h4w⟩; obtain rfl := h4w.symm; simp only [])
        | go_in)
      go_loopg [8, 23] d.zs.length (fun gg s8 s23 wz => ∃ (z : Nat), s23 = .int .i64 z ∧ z ≤ d.zs.length ∧ d.zs.length - z ≤ gg ∧ Aside (KInv w wz (w.heap.size + 1) us.length us us ((kindsB d us).take z) s8))
      case atStart => exact ⟨0, rfl, by omega, by omega, ⟨⟨rfl, .inl ⟨rfl, rfl⟩⟩, HSET.out, HE0.out⟩⟩
      case round =>
        obtain ⟨z, rfl, hz6, hgg2, H3⟩ := hrel
        obtain ⟨sp, sc, rfl⟩ := own_slice H3.out.own
        by_cases hzl : z < d.zs.length
        · have hz : (z : Int) < (d.zs.length : Int) := by omega
          have hw : IntKind.i64.wrap ((z : Int) + 1) = (z : Int) + 1 := by rw [IntKind.wrap_i64]; omega
          generalize hbs : (kindsB d us).take z = bs at H3 ⊢
          have HBE := asideI hbs
          have HBL : Aside (bs.length = z) := by show _ = _; rw [← hbs, List.length_take, kindsB_len]; omega
          clear hbs
          by_cases h2 : z < 2
          · have h2i : (z : Int) < 2 := by omega
            have HKT := asideI (show (kindsB d us).take (z + 1) = bs ++ [1] by rw [kindsB_take d us hzl, HBE.out]; unfold kindD; rw [if_pos h2])
            go_wp2_with (first
              | (at_builtin; refine wpList_append_own _ rfl _ _ 24 rfl (w.heap.size + 1 + 1) 5 i0 (.int .u8 0) 1 1 HU.out HI.out HZ0.out HZ1.out HZ2.out rfl (by decide) _ _ _ rfl (own_ext H3.out.own (ext_alloc1 _ _)) ⟨wr.heap.size, 0, none⟩ 1 1 [.int .u8 1] rfl ?q1x1 ?q1x2 ?q1x3 ?q1x4 ?q1x5 ?q1x6 ?_)
              | go_in)
            try (case q1x1 => rfl)
            try (case q1x2 => exact one_new _ _ _ _ rfl)
            try (case q1x3 => first | rfl | (intro u hu; rw [List.mem_singleton] at hu; rw [hu]; rfl))
            try (case q1x4 => have := HBL.out; unfold maxLen; omega)
            try (case q1x5 => have := HBL.out; omega)
            try (case q1x6 => have h1 := H3.out.ext.size; have h2 := H3.out.set.lt; have h3 := (Ext.refl (fun _ => False) wr).size; have h4 : (wr.alloc (.cells #[.int .u8 1] 5)).heap.size = wr.heap.size + 1 := (by simp); omega)
            intro v' w6 hown6 hgrow hnil
            obtain ⟨p6, c6, rfl⟩ := own_slice hown6
            have HK6 := asideI (KInv.next (c := 1) H3.out (by omega) (ext_alloc1 _ _) hown6 hgrow)
            clear hown6 hgrow hnil
            rw [← HKT.out] at HK6
            go_wp2
            go_roundg (d.zs.length - (z + 1))
            case measure => omega
            case rel => exact ⟨z + 1, by simp, by omega, by omega, HK6.out⟩
          · have h2i : ¬ (z : Int) < 2 := by omega
            have hlk := H3.out.set.look (z := (z : Int)) ⟨by omega, by omega⟩
            by_cases hm : (z : Int) ∈ us
            · rw [decide_eq_true hm] at hlk
              have HKT := asideI (show (kindsB d us).take (z + 1) = bs ++ [2] by rw [kindsB_take d us hzl, HBE.out]; unfold kindD; rw [if_neg h2, if_pos hm])
              clear hm
              go_wp2_with (first
                | (at_builtin; refine wpList_append_own _ rfl _ _ 24 rfl (w.heap.size + 1 + 1) 5 i0 (.int .u8 0) 1 1 HU.out HI.out HZ0.out HZ1.out HZ2.out rfl (by decide) _ _ _ rfl (own_ext H3.out.own (ext_alloc1 _ _)) ⟨wr.heap.size, 0, none⟩ 1 1 [.int .u8 2] rfl ?q2x1 ?q2x2 ?q2x3 ?q2x4 ?q2x5 ?q2x6 ?_)
                | go_in)
              try (case q2x1 => rfl)
              try (case q2x2 => exact one_new _ _ _ _ rfl)
              try (case q2x3 => first | rfl | (intro u hu; rw [List.mem_singleton] at hu; rw [hu]; rfl))
              try (case q2x4 => have := HBL.out; unfold maxLen; omega)
              try (case q2x5 => have := HBL.out; omega)
              try (case q2x6 => have h1 := H3.out.ext.size; have h2 := H3.out.set.lt; have h3 := (Ext.refl (fun _ => False) wr).size; have h4 : (wr.alloc (.cells #[.int .u8 2] 5)).heap.size = wr.heap.size + 1 := (by simp); omega)
              intro v' w6 hown6 hgrow hnil
              obtain ⟨p6, c6, rfl⟩ := own_slice hown6
              have HK6 := asideI (KInv.next (c := 2) H3.out (by omega) (ext_alloc1 _ _) hown6 hgrow)
              clear hown6 hgrow hnil
              rw [← HKT.out] at HK6
              go_wp2
              go_roundg (d.zs.length - (z + 1))
              case measure => omega
              case rel => exact ⟨z + 1, by simp, by omega, by omega, HK6.out⟩
            · rw [decide_eq_false hm] at hlk
              have HST := asideI (state_raw (HD.out.ext H3.out.ext) (z : Int))
              by_cases hs0 : stD d z = 0
              · rw [hs0] at HST
                have HKT := asideI (show (kindsB d us).take (z + 1) = bs ++ [0] by rw [kindsB_take d us hzl, HBE.out]; unfold kindD; rw [if_neg h2, if_neg hm, if_pos hs0])
                clear hm hs0
                go_wp2_with (first
                  | (go_at_call 21; refine HST.out.mono ?_; rintro e w5 ⟨rfl, hx5⟩; have HX5 := asideI hx5; clear hx5; simp only [])
                  | (at_builtin; refine wpList_append_own _ rfl _ _ 24 rfl (w.heap.size + 1 + 1) 5 i0 (.int .u8 0) 1 1 HU.out HI.out HZ0.out HZ1.out HZ2.out rfl (by decide) _ _ _ rfl (own_ext H3.out.own (HX5.out.trans (ext_alloc1 _ _))) ⟨w5.heap.size, 0, none⟩ 1 1 [.int .u8 0] rfl ?q0x1 ?q0x2 ?q0x3 ?q0x4 ?q0x5 ?q0x6 ?_)
                  | go_in)
                try (case q0x1 => rfl)
                try (case q0x2 => exact one_new _ _ _ _ rfl)
                try (case q0x3 => first | rfl | (intro u hu; rw [List.mem_singleton] at hu; rw [hu]; rfl))
                try (case q0x4 => have := HBL.out; unfold maxLen; omega)
                try (case q0x5 => have := HBL.out; omega)
                try (case q0x6 => have h1 := H3.out.ext.size; have h2 := H3.out.set.lt; have h3 := (HX5.out).size; have h4 : (w5.alloc (.cells #[.int .u8 0] 5)).heap.size = w5.heap.size + 1 := (by simp); omega)
                intro v' w6 hown6 hgrow hnil
                obtain ⟨p6, c6, rfl⟩ := own_slice hown6
                have HK6 := asideI (KInv.next (c := 0) H3.out (by omega) (HX5.out.trans (ext_alloc1 _ _)) hown6 hgrow)
                clear hown6 hgrow hnil
                rw [← HKT.out] at HK6
                go_wp2
                go_roundg (d.zs.length - (z + 1))
                case measure => omega
                case rel => exact ⟨z + 1, by simp, by omega, by omega, HK6.out⟩
              · have hs0b : (stD d z == 0) = false := by simpa using hs0
                have HKT := asideI (show (kindsB d us).take (z + 1) = bs ++ [3] by rw [kindsB_take d us hzl, HBE.out]; unfold kindD; rw [if_neg h2, if_neg hm, if_neg hs0])
                clear hm
                generalize stD d z = sv at HST hs0 hs0b
                go_wp2_with (first
                  | (go_at_call 21; refine HST.out.mono ?_; rintro e w5 ⟨rfl, hx5⟩; have HX5 := asideI hx5; clear hx5; simp only [])
                  | (at_builtin; refine wpList_append_own _ rfl _ _ 24 rfl (w.heap.size + 1 + 1) 5 i0 (.int .u8 0) 1 1 HU.out HI.out HZ0.out HZ1.out HZ2.out rfl (by decide) _ _ _ rfl (own_ext H3.out.own (HX5.out.trans (ext_alloc1 _ _))) ⟨w5.heap.size, 0, none⟩ 1 1 [.int .u8 3] rfl ?q3x1 ?q3x2 ?q3x3 ?q3x4 ?q3x5 ?q3x6 ?_)
                  | go_in)
                try (case q3x1 => rfl)
                try (case q3x2 => exact one_new _ _ _ _ rfl)
                try (case q3x3 => first | rfl | (intro u hu; rw [List.mem_singleton] at hu; rw [hu]; rfl))
                try (case q3x4 => have := HBL.out; unfold maxLen; omega)
                try (case q3x5 => have := HBL.out; omega)
                try (case q3x6 => have h1 := H3.out.ext.size; have h2 := H3.out.set.lt; have h3 := (HX5.out).size; have h4 : (w5.alloc (.cells #[.int .u8 3] 5)).heap.size = w5.heap.size + 1 := (by simp); omega)
                intro v' w6 hown6 hgrow hnil
                obtain ⟨p6, c6, rfl⟩ := own_slice hown6
                have HK6 := asideI (KInv.next (c := 3) H3.out (by omega) (HX5.out.trans (ext_alloc1 _ _)) hown6 hgrow)
                clear hown6 hgrow hnil
                rw [← HKT.out] at HK6
                go_wp2
                go_roundg (d.zs.length - (z + 1))
                case measure => omega
                case rel => exact ⟨z + 1, by simp, by omega, by omega, HK6.out⟩
        · obtain rfl : z = d.zs.length := by omega
          have hk := H3.out
          rw [List.take_of_length_le (by rw [kindsB_len]; exact Nat.le_refl _)] at hk
          have HK := asideI hk
          clear hk
          go_wp2
          go_ret
          have he : kindsB d us = kindsB d cs.flatten := kindsB_iff HR.out.1
          have ho := own_base (Nat.le_trans (Nat.le_succ _) (Nat.le_succ _)) HK.out.own
          refine ⟨_, rfl, ?_, HK.out.ext⟩
          rw [← he, ← kindsB_len d us, List.take_of_length_le (by rw [kindsB_len]; exact Nat.le_refl _)]
          exact ho
end Go.Proofs.Ytifemhfpcichfaa

/- Zalloc: the zones of a kind (the walk). -/

set_option linter.unusedSimpArgs false
set_option linter.unusedVariables false
set_option maxHeartbeats 4000000
set_option maxRecDepth 1000000
namespace Go.Proofs.Ytifemhfpcichfaa
open Go.RowKit
open Go.Av Go.Maps

def ofT (d : Dv) (S : List Int) (k : UInt8) (n : Nat) : List Int := ((List.range n).filter fun z => decide (kindD d S z = k)).map fun (z : Nat) => (z : Int)
def ofD (d : Dv) (S : List Int) (k : UInt8) : List Int := ofT d S k d.zs.length
theorem ofT_succ (d : Dv) (S : List Int) (k : UInt8) (n : Nat) : ofT d S k (n + 1) = ofT d S k n ++ (if kindD d S n = k then [(n : Int)] else []) := by
  unfold ofT
  rw [List.range_succ, List.filter_append, List.map_append]
  congr 1
  by_cases h : kindD d S n = k <;> simp [h]
theorem ofT_len (d : Dv) (S : List Int) (k : UInt8) (n : Nat) : (ofT d S k n).length ≤ n := by
  unfold ofT
  rw [List.length_map]
  exact Nat.le_trans (List.length_filter_le _ _) (by simp)
theorem row_at {w : World} {base n : Nat} {e : TypeId} {v : Value} {xs : List Value} (h : w.ownsRow base e 1 v n xs) {i : Nat} (hi : i < n) : ∃ b c, v = .slice (some ⟨b, 0, none⟩) n c ∧ base ≤ b ∧ b < w.heap.size ∧ w.cell? ⟨b, i, none⟩ = xs[i]? := by
  rcases h.2 with ⟨_, h2⟩ | ⟨g, cap, cur, h1, h2, h3, h4, h5, h6, h7⟩
  · omega
  · refine ⟨g, cap, h1, h2, (Array.getElem?_eq_some_iff.1 h3).1, ?_⟩
    rw [cell_of_block h3, ← h7, List.getElem?_take_of_lt (by omega), Array.getElem?_toList]
/-- A row of numbers of a call's own. -/
def IntsP (l : List Int) (w : World) (e : Ending) (w' : World) : Prop := ∃ v, e = .returned v ∧ w'.ownsRow w.heap.size 3 1 v l.length (I3 l) ∧ Ext (fun _ => False) w w'
theorem of_raw (hS : SortC) {w : World} {q : Dp} {d : Dv} (hD : DevAt w q d) {v : Value} {cs : List (List Int)} (h : StW w v cs) (hb : cs.flatten.length ≤ 50000) (hcl : cs.length ≤ 1000000) (hI : ∀ z ∈ cs.flatten, I64 z) (kk : UInt8) :
    Calls Try.prog 55 #[.pointer (some ⟨q.p, 0, none⟩), v, .int .u8 kk.toNat] w (IntsP (ofD d cs.flatten kk) w) := by
  obtain ⟨i0, hi, hz0, hz1, hz2⟩ := info_parts (P := Try.prog) (e := 3) (z := .int .i64 0) (size := 1) (bytes := 8) (by kernel_rfl)
  have hu : Try.prog.underlying 53 = some (.slice 3) := by kernel_rfl
  have hSW := h
  obtain ⟨nx, tp, tn, tc, cp, cc, rfl, hC⟩ := h
  have HI := asideI hi
  have HZ0 := asideI hz0
  have HZ1 := asideI hz1
  have HZ2 := asideI hz2
  have HU := asideI hu
  have hlen := hD.len
  have HX := asideI (ext_alloc1 w (.cells #[.int .i64 nx, .slice tp tn tc, .slice cp cs.length cc] 58))
  have HKS := asideI (kinds_raw hS (hD.ext HX.out) (hSW.ext HX.out) hb hcl hI)
  clear hi hz0 hz1 hz2 hu hC hSW hI hD
  show Calls Try.prog 55 #[.pointer (some ⟨q.p, 0, none⟩), .agg #[.int .i64 nx, .slice tp tn tc, .slice cp cs.length cc], .int .u8 kk.toNat] w _
  generalize cs.flatten = S at HKS hb
  go_enter Try.func55, Try.ntmps55
  go_wp2_with (first
    | (go_at_call 31; refine HKS.out.mono ?_
       rintro e w1 ⟨zv, rfl, hu1, hu2⟩
       obtain ⟨zp, zc, rfl⟩ := own_slice hu1
       have HR := asideI hu1
       have HX1 := asideI hu2
       clear hu1 hu2
       simp only [])
    | go_in)
  go_loopg [7, 14] d.zs.length (fun gg s7 s14 wr => ∃ (z : Nat), s14 = .int .i64 z ∧ z ≤ d.zs.length ∧ d.zs.length - z ≤ gg ∧ Aside (ZInv w1 (ofT d S kk z) s7 wr))
  case atStart => exact ⟨0, rfl, by omega, by omega, ⟨rfl, .inl ⟨rfl, rfl⟩⟩, Ext.refl _ _⟩
  case round =>
    obtain ⟨z, rfl, hz6, hgg, H2⟩ := hrel
    obtain ⟨sp, sc, rfl⟩ := own_slice H2.out.1
    have hol := ofT_len d S kk z
    have hsu := ofT_succ d S kk z
    generalize hys : ofT d S kk z = ys at H2 hol hsu ⊢
    have HYS := asideI hys
    clear hys
    by_cases hlt : z < d.zs.length
    · have hz : (z : Int) < (d.zs.length : Int) := by omega
      have hw : IntKind.i64.wrap ((z : Int) + 1) = (z : Int) + 1 := by rw [IntKind.wrap_i64]; omega
      obtain ⟨b, c, he, hb1, hb2, hb3⟩ := row_at HR.out hlt
      cases he
      replace hb3 := (World.cell?_of_block (H2.out.2.block b hb2 id)).trans hb3
      have hby : (u8s (kindsB d S))[z]? = some (.int .u8 (kindD d S z).toNat) := by simp [u8s, kindsB, hlt]
      rw [hby] at hb3
      clear hby
      by_cases hk : kindD d S z = kk
      · rw [if_pos hk] at hsu
        rw [hk] at hb3
        have HSU := asideI hsu
        clear hsu hk
        go_wp2_with (first
          | (at_builtin; refine wpList_append_own _ rfl _ _ 53 rfl w1.heap.size 3 i0 (.int .i64 0) 1 8 HU.out HI.out HZ0.out HZ1.out HZ2.out rfl (by decide) _ _ _ rfl (own_ext H2.out.1 (ext_alloc1 _ _)) ⟨wr.heap.size, 0, none⟩ 1 1 [.int .i64 z] rfl ?qc1 ?qc2 ?qc3 ?qc4 ?qc5 ?qc6 ?_)
          | go_in)
        try (case qc1 => rfl)
        try (case qc2 => exact one_new _ _ _ _ rfl)
        try (case qc3 => first | rfl | (intro u hu; rw [List.mem_singleton] at hu; rw [hu]; rfl))
        try (case qc4 => unfold maxLen; omega)
        try (case qc5 => omega)
        try (case qc6 => have h1 := H2.out.2.size; have h4 : (wr.alloc (.cells #[.int .i64 z] 3)).heap.size = wr.heap.size + 1 := (by simp); omega)
        intro v' w6 hown6 hgrow hnil
        obtain ⟨p6, c6, rfl⟩ := own_slice hown6
        have HK6 := asideI (show ZInv w1 (ys ++ [(z : Int)]) (.slice p6 (ys.length + 1) c6) w6 from ⟨by rw [show I3 (ys ++ [(z : Int)]) = I3 ys ++ [.int .i64 z] by simp [I3], List.length_append]; exact hown6, grown_ext (own_ext H2.out.1 (ext_alloc1 _ _)) hgrow (Nat.le_refl _) (H2.out.2.trans (ext_alloc1 _ _))⟩)
        clear hown6 hgrow hnil
        rw [← HSU.out] at HK6
        go_wp2
        go_roundg (d.zs.length - (z + 1))
        case measure => omega
        case rel => exact ⟨z + 1, by simp, by omega, by omega, HK6.out⟩
      · rw [if_neg hk, List.append_nil] at hsu
        have hkn : ¬ (((kindD d S z).toNat : Int) = (kk.toNat : Int)) := fun e => hk (UInt8.toNat_inj.1 (by omega))
        have hkb : (((kindD d S z).toNat : Int) == (kk.toNat : Int)) = false := by simpa using hkn
        generalize ((kindD d S z).toNat : Int) = kb at hb3 hkn hkb
        have HSU := asideI hsu
        clear hsu hk
        go_wp2
        go_roundg (d.zs.length - (z + 1))
        case measure => omega
        case rel => exact ⟨z + 1, by simp, by omega, by omega, by rw [HSU.out]; exact H2.out⟩
    · obtain rfl : z = d.zs.length := by omega
      go_wp2
      go_ret
      have hx : Ext (fun _ => False) w wr := (HX.out.trans HX1.out).trans H2.out.2
      refine ⟨_, rfl, ?_, hx⟩
      rw [show ofD d S kk = ys from HYS.out]
      exact own_base (HX.out.trans HX1.out).size H2.out.1
end Go.Proofs.Ytifemhfpcichfaa

/- Zalloc: Waiting, Room, Next, Sweep (the walks). -/

set_option linter.unusedSimpArgs false
set_option linter.unusedVariables false
set_option maxHeartbeats 4000000
set_option maxRecDepth 1000000
namespace Go.Proofs.Ytifemhfpcichfaa
open Go.RowKit
open Go.Av Go.Maps

/-- A state, of moderate size. -/
structure StOK (w : World) (v : Value) (cs : List (List Int)) : Prop where
  st : StW w v cs
  n : cs.flatten.length ≤ 50000
  c : cs.length ≤ 1000000
  i : ∀ z ∈ cs.flatten, I64 z
theorem StOK.ext {w w' : World} {v : Value} {cs : List (List Int)} (h : StOK w v cs) (k : Ext (fun _ => False) w w') : StOK w' v cs := ⟨h.st.ext k, h.n, h.c, h.i⟩
theorem waiting_raw (hS : SortC) {w : World} {q : Dp} {d : Dv} (hD : DevAt w q d) {v : Value} {cs : List (List Int)} (h : StOK w v cs) : Calls Try.prog 33 #[.pointer (some ⟨q.p, 0, none⟩), v] w (IntsP (ofD d cs.flatten 3) w) := by
  have hv := h.st
  obtain ⟨nx, tp, tn, tc, cp, cc, rfl, hC⟩ := hv
  have HX := asideI (ext_alloc1 w (.cells #[.int .i64 nx, .slice tp tn tc, .slice cp cs.length cc] 58))
  have hO := of_raw hS (hD.ext HX.out) (h.st.ext HX.out) h.n h.c h.i 3
  have HO : Aside (Calls Try.prog 55 #[.pointer (some ⟨q.p, 0, none⟩), .agg #[.int .i64 nx, .slice tp tn tc, .slice cp cs.length cc], .int .u8 3] _ _) := hO
  clear hC h hD hO
  show Calls Try.prog 33 #[.pointer (some ⟨q.p, 0, none⟩), .agg #[.int .i64 nx, .slice tp tn tc, .slice cp cs.length cc]] w _
  generalize ofD d cs.flatten 3 = l at HO ⊢
  go_enter Try.func33, Try.ntmps33
  go_wp2_with (first
    | (go_at_call 55; refine HO.out.mono ?_
       rintro e w1 ⟨zv, rfl, hu1, hu2⟩
       obtain ⟨zp, zc, rfl⟩ := own_slice hu1
       have HR := asideI (And.intro hu1 hu2)
       clear hu1 hu2
       simp only [])
    | go_in)
  go_ret
  exact ⟨_, rfl, own_base HX.out.size HR.out.1, HX.out.trans HR.out.2⟩
/-- How many zones from the third on are open. -/
def cntD (d : Dv) : Nat → Int
  | 0 => 0
  | n + 1 => cntD d n + (if 2 ≤ n ∧ stD d n = 1 then 1 else 0)
theorem cntD_le (d : Dv) : ∀ n, 0 ≤ cntD d n ∧ cntD d n ≤ n
  | 0 => ⟨Int.le_refl _, Int.le_refl _⟩
  | n + 1 => by have := cntD_le d n; unfold cntD; split <;> omega
def roomD (d : Dv) : Int := max 0 (12 - cntD d d.zs.length)
theorem room_raw {w : World} {q : Dp} {d : Dv} (hD : DevAt w q d) (h2 : 2 ≤ d.zs.length) : Calls Try.prog 26 #[.pointer (some ⟨q.p, 0, none⟩)] w fun e w' => e = .returned (.int .i64 (roomD d)) ∧ Ext (fun _ => False) w w' := by
  have hlen := hD.len
  have HD := asideI hD
  have hc2 : cntD d 2 = 0 := by simp [cntD]
  clear hD
  go_enter Try.func26, Try.ntmps26
  go_wp2
  go_loopg [3, 4] d.zs.length (fun gg s3 s4 wr => ∃ (z : Nat), s4 = .int .i64 z ∧ s3 = .int .i64 (12 - cntD d z) ∧ 2 ≤ z ∧ z ≤ d.zs.length ∧ d.zs.length - z ≤ gg ∧ Aside (Ext (fun _ => False) w wr))
  case atStart => exact ⟨2, rfl, by rw [hc2]; rfl, by omega, h2, by omega, Ext.refl _ _⟩
  case round =>
    obtain ⟨z, rfl, rfl, hz2, hz6, hgg, H2⟩ := hrel
    have HD2 := asideI (HD.out.ext H2.out)
    have HS := asideI (state_raw HD2.out (z : Int))
    have hcl := cntD_le d z
    have hcs : cntD d (z + 1) = cntD d z + (if stD d z = 1 then 1 else 0) := by
      rw [cntD]; congr 1; simp only [hz2, true_and]
    generalize hcn : cntD d z = cn at hcl hcs ⊢
    have HCN := asideI hcn
    clear hcn
    by_cases hlt : z < d.zs.length
    · have hz : (z : Int) < (d.zs.length : Int) := by omega
      have hw : IntKind.i64.wrap ((z : Int) + 1) = (z : Int) + 1 := by rw [IntKind.wrap_i64]; omega
      have hwc : IntKind.i64.wrap (12 - cn - 1) = 12 - cn - 1 := by rw [IntKind.wrap_i64]; omega
      by_cases hs : stD d z = 1
      · rw [hs] at HS
        rw [if_pos hs] at hcs
        have HCS := asideI hcs
        clear hs hcs
        go_wp2_with (first
          | (go_at_call 56; refine (zones_raw HD2.out).mono ?_; rintro e w4 ⟨rfl, h4w⟩; obtain rfl := h4w.symm; simp only [])
          | (go_at_call 21; refine HS.out.mono ?_; rintro e w5 ⟨rfl, hx5⟩; have HX5 := asideI hx5; clear hx5; simp only [])
          | go_in)
        go_roundg (d.zs.length - (z + 1))
        case measure => omega
        case rel => exact ⟨z + 1, by simp, by rw [HCS.out]; congr 1; omega, by omega, by omega, by omega, H2.out.trans HX5.out⟩
      · have hsb : (stD d z == 1) = false := by simpa using hs
        rw [if_neg hs] at hcs
        have HCS := asideI hcs
        clear hcs
        generalize stD d z = sv at HS hs hsb
        go_wp2_with (first
          | (go_at_call 56; refine (zones_raw HD2.out).mono ?_; rintro e w4 ⟨rfl, h4w⟩; obtain rfl := h4w.symm; simp only [])
          | (go_at_call 21; refine HS.out.mono ?_; rintro e w5 ⟨rfl, hx5⟩; have HX5 := asideI hx5; clear hx5; simp only [])
          | go_in)
        go_roundg (d.zs.length - (z + 1))
        case measure => omega
        case rel => exact ⟨z + 1, by simp, by rw [HCS.out]; congr 1; omega, by omega, by omega, by omega, H2.out.trans HX5.out⟩
    · obtain rfl : z = d.zs.length := by omega
      have hmx : max (0 : Int) (12 - cn) = roomD d := by unfold roomD; rw [HCN.out]
      go_wp2_with (first
        | (go_at_call 56; refine (zones_raw HD2.out).mono ?_; rintro e w4 ⟨rfl, h4w⟩; obtain rfl := h4w.symm; simp only [])
        | go_in)
      all_goals go_ret
      all_goals
        refine ⟨?_, H2.out⟩
        rw [← hmx]
        first
          | rfl
          | (simp; done)
          | (simp; omega)
          | (congr 2; omega)
def nextD (d : Dv) (S : List Int) : Int × Int := match ofD d S 0 with
  | [] => (0, 9)
  | z :: _ => if roomD d = 0 then (0, 14) else (z, 0)
def StR (w : World) (v : Value) (cs : List (List Int)) : Prop := StOK w v cs
theorem next_raw2 (hS : SortC) {w : World} {q : Dp} {d : Dv} (hD : DevAt w q d) (h2 : 2 ≤ d.zs.length) {v : Value} {cs : List (List Int)} (h : StOK w v cs) : Calls Try.prog 24 #[.pointer (some ⟨q.p, 0, none⟩), v] w fun e w' => e = .returned (.tuple #[.int .i64 (nextD d cs.flatten).1, .int .i64 (nextD d cs.flatten).2]) ∧ Ext (fun _ => False) w w' := by
  have hv := h.st
  obtain ⟨nx, tp, tn, tc, cp, cc, rfl, hC⟩ := hv
  have HX := asideI (ext_alloc1 w (.cells #[.int .i64 nx, .slice tp tn tc, .slice cp cs.length cc] 58))
  have hO := of_raw hS (hD.ext HX.out) (h.st.ext HX.out) h.n h.c h.i 0
  have HO : Aside (Calls Try.prog 55 #[.pointer (some ⟨q.p, 0, none⟩), .agg #[.int .i64 nx, .slice tp tn tc, .slice cp cs.length cc], .int .u8 0] _ _) := hO
  have HD := asideI (hD.ext HX.out)
  clear hC h hD hO
  show Calls Try.prog 24 #[.pointer (some ⟨q.p, 0, none⟩), .agg #[.int .i64 nx, .slice tp tn tc, .slice cp cs.length cc]] w _
  rcases hl : ofD d cs.flatten 0 with _ | ⟨z, t⟩
  · have hN : nextD d cs.flatten = (0, 9) := by unfold nextD; rw [hl]
    rw [hN]
    rw [hl] at HO
    clear hl hN
    go_enter Try.func24, Try.ntmps24
    go_wp2_with (first
      | (go_at_call 55; refine HO.out.mono ?_
         rintro e w1 ⟨zv, rfl, hu1, hu2⟩
         obtain ⟨zp, zc, rfl⟩ := own_slice hu1
         have HR := asideI (And.intro hu1 hu2)
         clear hu1 hu2
         simp only [])
      | go_in)
    go_ret2
    exact ⟨rfl, HX.out.trans HR.out.2⟩
  · have hN : nextD d cs.flatten = if roomD d = 0 then (0, 14) else (z, 0) := by unfold nextD; rw [hl]
    rw [hN]
    rw [hl] at HO
    clear hl hN
    have hne : ¬ ((t.length : Int) + 1 = 0) := by omega
    by_cases hr : roomD d = 0
    · rw [if_pos hr]
      have HRM := asideI (fun (W : World) (k : Ext (fun _ => False) (w.alloc (.cells #[.int .i64 nx, .slice tp tn tc, .slice cp cs.length cc] 58)) W) => room_raw (HD.out.ext k) h2)
      rw [hr] at HRM
      clear hr
      go_enter Try.func24, Try.ntmps24
      go_wp2_with (first
        | (go_at_call 26; refine (HRM.out _ HR.out.2).mono ?_; rintro e w2 ⟨rfl, hx2⟩; have HX2 := asideI hx2; clear hx2; simp only [])
        | (go_at_call 55; refine HO.out.mono ?_
           rintro e w1 ⟨zv, rfl, hu1, hu2⟩
           obtain ⟨zp, zc, rfl⟩ := own_slice hu1
           have HR := asideI (And.intro hu1 hu2)
           clear hu1 hu2
           simp only [])
        | go_in)
      go_ret2
      exact ⟨rfl, (HX.out.trans HR.out.2).trans HX2.out⟩
    · rw [if_neg hr]
      have HRM := asideI (fun (W : World) (k : Ext (fun _ => False) (w.alloc (.cells #[.int .i64 nx, .slice tp tn tc, .slice cp cs.length cc] 58)) W) => room_raw (HD.out.ext k) h2)
      have hrb : (roomD d == 0) = false := by simpa using hr
      generalize roomD d = rm at HRM hr hrb
      go_enter Try.func24, Try.ntmps24
      go_wp2_with (first
        | (go_at_call 26; refine (HRM.out _ HR.out.2).mono ?_; rintro e w2 ⟨rfl, hx2⟩; have HX2 := asideI hx2; have hz0 := (cell_ext hx2 hz0); clear hx2; simp only [])
        | (go_at_call 55; refine HO.out.mono ?_
           rintro e w1 ⟨zv, rfl, hu1, hu2⟩
           obtain ⟨zb, zc, rfl, _, _, hz0⟩ := row_cell hu1 (i := 0) (by simp)
           have HR := asideI (And.intro hu1 hu2)
           clear hu1 hu2
           simp only [])
        | go_in)
      go_ret2
      exact ⟨rfl, (HX.out.trans HR.out.2).trans HX2.out⟩
end Go.Proofs.Ytifemhfpcichfaa

/- Zalloc: a state by content, and as it stands in memory. -/


set_option linter.unusedSimpArgs false
set_option linter.unusedVariables false
set_option maxHeartbeats 4000000
set_option maxRecDepth 1000000
namespace Go.Proofs.Ytifemhfpcichfaa
open Go.RowKit
open Go.Av Go.Maps

structure Tpc where
  id : Int
  name : ByteArray
  parts : Int
  cp : Bool
structure Chn where
  t : Int
  i : Int
  st : Int
  ls : List (Int × Int)
structure Stt where
  nx : Int
  ts : List Tpc
  cs : List Chn
def Tpc.sv (t : Tpc) : SV := .agg [.int .i64 t.id, .str t.name, .int .i64 t.parts, .bool t.cp]
def lkS (l : Int × Int) : SV := .agg [.int .i64 l.1, .int .i64 l.2]
def LkL (l : List (Int × Int)) : List SV := l.map lkS
def Chn.cells (c : Chn) : List SV := [.int .i64 c.t, .int .i64 c.i, .int .i64 c.st, .sl 2 (LkL c.ls)]
def Chn.sv (c : Chn) : SV := .agg c.cells
def TpL (l : List Tpc) : List SV := l.map Tpc.sv
def ChL (l : List Chn) : List SV := l.map Chn.sv
@[simp] theorem LkL_length (l : List (Int × Int)) : (LkL l).length = l.length := by simp [LkL]
@[simp] theorem TpL_length (l : List Tpc) : (TpL l).length = l.length := by simp [TpL]
@[simp] theorem ChL_length (l : List Chn) : (ChL l).length = l.length := by simp [ChL]
def Stt.sv (s : Stt) : SV := .agg [.int .i64 s.nx, .sl 4 (TpL s.ts), .sl 4 (ChL s.cs)]
/-- The chains, by their zones. -/
def Stt.zs (s : Stt) : List (List Int) := s.cs.map fun c => c.ls.map (·.1)
def ch0 : Chn := ⟨0, 0, 0, []⟩
theorem lk_of {mu : Mem} {w : World} (hm : MemOK mu w) {l : List (Int × Int)} {v : Value} (h : Rep mu (.sl 2 (LkL l)) v) : ∃ p c, v = .slice p l.length c ∧ LkW w p (l.map (·.1)) := by
  rcases h.inv_sl with ⟨⟨p, cap, rfl, hp⟩, hx⟩ | ⟨b, off, cap, vals, rfl, h1, h2, h3, h4⟩
  · have e : l = [] := by cases l with | nil => rfl | cons a r => simp [LkL] at hx
    subst e
    exact ⟨p, cap, rfl, fun k hk => by simp at hk⟩
  · rw [LkL_length] at h1 h3 h4 ⊢
    refine ⟨_, cap, rfl, fun k hk => ?_⟩
    have hk2 : k < l.length := by simpa using hk
    have hg : (LkL l).getD k .undef = lkS (l.getD k (0, 0)) := by simp [LkL, List.getD_eq_getElem?_getD, hk2]
    have hz : (l.map (·.1)).getD k 0 = (l.getD k (0, 0)).1 := by simp [List.getD_eq_getElem?_getD, hk2]
    rw [hz]
    generalize l.getD k (0, 0) = x at hg ⊢
    have r0 := h4 k 0 hk2 (by omega)
    have r1 := h4 k 1 hk2 (by omega)
    rw [hg] at r0 r1
    have e0 : vals k 0 = .int .i64 x.1 := Rep.inv_int r0
    have e1 : vals k 1 = .int .i64 x.2 := Rep.inv_int r1
    refine ⟨b, off, x.2, rfl, ?_, ?_⟩
    · rw [← e0]; exact (hm _ _ _ (h3 k 0 hk2 (by omega))).1
    · rw [← e1]; exact (hm _ _ _ (h3 k 1 hk2 (by omega))).1
theorem ch_of {mu : Mem} {w : World} (hm : MemOK mu w) {l : List Chn} {v : Value} (h : Rep mu (.sl 4 (ChL l)) v) : ∃ p c, v = .slice p l.length c ∧ ChW w p (l.map fun c => c.ls.map (·.1)) := by
  rcases h.inv_sl with ⟨⟨p, cap, rfl, hp⟩, hx⟩ | ⟨b, off, cap, vals, rfl, h1, h2, h3, h4⟩
  · have e : l = [] := by cases l with | nil => rfl | cons a r => simp [ChL] at hx
    subst e
    exact ⟨p, cap, rfl, fun k hk => by simp at hk⟩
  · rw [ChL_length] at h1 h3 h4 ⊢
    refine ⟨_, cap, rfl, fun k hk => ?_⟩
    have hk2 : k < l.length := by simpa using hk
    have hg : (ChL l).getD k .undef = (l.getD k ch0).sv := by simp [ChL, List.getD_eq_getElem?_getD, hk2]
    have hz : (l.map fun c => c.ls.map (·.1)).getD k [] = (l.getD k ch0).ls.map (·.1) := by simp [List.getD_eq_getElem?_getD, hk2]
    rw [hz]
    generalize l.getD k ch0 = x at hg ⊢
    have hc : ∀ j, j < 4 → Rep mu (x.cells.getD j .undef) (vals k j) ∧ w.cell? ⟨b, off + k * 4 + j, none⟩ = some (vals k j) := fun j hj => by
      have := h4 k j hk2 hj
      rw [hg] at this
      exact ⟨this, (hm _ _ _ (h3 k j hk2 hj)).1⟩
    have e0 : vals k 0 = .int .i64 x.t := Rep.inv_int (hc 0 (by omega)).1
    have e1 : vals k 1 = .int .i64 x.i := Rep.inv_int (hc 1 (by omega)).1
    have e2 : vals k 2 = .int .i64 x.st := Rep.inv_int (hc 2 (by omega)).1
    obtain ⟨lp, lc, e3, hL⟩ := lk_of hm (show Rep mu (.sl 2 (LkL x.ls)) (vals k 3) from (hc 3 (by omega)).1)
    refine ⟨b, off, x.t, x.i, x.st, lp, lc, rfl, ⟨?_, ?_, ?_, ?_⟩, hL⟩
    · rw [← e0]; exact (hc 0 (by omega)).2
    · rw [← e1]; exact (hc 1 (by omega)).2
    · rw [← e2]; exact (hc 2 (by omega)).2
    · rw [List.length_map, ← e3]; exact (hc 3 (by omega)).2
/-- A state in memory. -/
theorem st_of {mu : Mem} {w : World} (hm : MemOK mu w) {s : Stt} {v : Value} (h : Rep mu s.sv v) : StW w v s.zs := by
  obtain ⟨vs, rfl, hl, hc⟩ := Rep.inv_agg h
  match vs, hl with
  | [v0, v1, v2], _ =>
    have e0 : v0 = .int .i64 s.nx := Rep.inv_int (hc 0 (by simp))
    have h1 : Rep mu (.sl 4 (TpL s.ts)) v1 := hc 1 (by simp)
    obtain ⟨cp, cc, rfl, hC⟩ := ch_of hm (show Rep mu (.sl 4 (ChL s.cs)) v2 from hc 2 (by simp))
    subst e0
    rcases h1.inv_sl with ⟨⟨p, cap, rfl, _⟩, _⟩ | ⟨b, off, cap, _, rfl, _⟩
    · exact ⟨s.nx, p, 0, cap, cp, cc, by simp [stV, Stt.zs], hC⟩
    · exact ⟨s.nx, some ⟨b, off, none⟩, s.ts.length, cap, cp, cc, by simp [stV, Stt.zs], hC⟩
end Go.Proofs.Ytifemhfpcichfaa

set_option maxRecDepth 100000
namespace Go.Proofs.Ytifemhfpcichfaa

open Go.Av
/-- bilander/bilanderref09.Light -/
def ac29 : AC :=
 (.seq
  (.reg [⟨(some 1), none, .box 3 (.t 0)⟩,
    ⟨(some 2), none, .mv (.c (.bool false))⟩])
  (.seq
   (.seq
    (.reg [⟨(some 5), none, .faddr (.t 1) 1⟩,
      ⟨(some 6), none, .load none (.t 5)⟩,
      ⟨(some 7), none, .len false (.t 6)⟩,
      ⟨(some 8), none, .bin .gtr (.t 7) (.c (.int .i64 20))⟩,
      ⟨(some 9), none, .take 8⟩,
      ⟨(some 10), (some (9, false)), .faddr (.t 1) 2⟩,
      ⟨(some 11), (some (9, false)), .load none (.t 10)⟩,
      ⟨(some 12), (some (9, false)), .len false (.t 11)⟩,
      ⟨(some 13), (some (9, false)), .bin .gtr (.t 12) (.c (.int .i64 60))⟩,
      ⟨(some 14), none, .pick (.t 9) (.c (.bool true)) (.t 13)⟩])
    (.cond (.t 14)
     (.seq
      (.reg [⟨(some 2), none, .mv (.c (.bool false))⟩])
      .ret)
     .skip))
   (.seq
    (.seq
     (.reg [⟨(some 3), none, .mv (.c (.int .i64 0))⟩])
     (.block 0
      (.loop
       (.seq
        (.seq
         (.reg [⟨(some 15), none, .mv (.t 3)⟩,
           ⟨(some 16), none, .faddr (.t 1) 1⟩,
           ⟨(some 17), none, .load none (.t 16)⟩,
           ⟨(some 18), none, .len false (.t 17)⟩,
           ⟨(some 19), none, .bin .lss (.t 15) (.t 18)⟩])
         (.cond (.t 19)
          .skip
          (.exit 0)))
        (.seq
         (.block 1
          (.seq
           (.reg [⟨(some 22), none, .faddr (.t 1) 1⟩,
             ⟨(some 23), none, .load none (.t 22)⟩,
             ⟨(some 24), none, .mv (.t 3)⟩,
             ⟨(some 25), none, .iaddr 4 (.t 23) (.t 24)⟩,
             ⟨(some 26), none, .faddr (.t 25) 1⟩,
             ⟨(some 27), none, .load none (.t 26)⟩,
             ⟨(some 28), none, .len true (.t 27)⟩,
             ⟨(some 29), none, .bin .gtr (.t 28) (.c (.int .i64 100))⟩])
           (.cond (.t 29)
            (.seq
             (.reg [⟨(some 2), none, .mv (.c (.bool false))⟩])
             .ret)
            .skip)))
         (.reg [⟨(some 20), none, .take 3⟩,
           ⟨(some 21), none, .bin .add (.t 20) (.c (.int .i64 1))⟩,
           ⟨(some 3), none, .take 21⟩]))))))
    (.seq
     (.seq
      (.reg [⟨(some 4), none, .mv (.c (.int .i64 0))⟩])
      (.block 2
       (.loop
        (.seq
         (.seq
          (.reg [⟨(some 30), none, .mv (.t 4)⟩,
            ⟨(some 31), none, .faddr (.t 1) 2⟩,
            ⟨(some 32), none, .load none (.t 31)⟩,
            ⟨(some 33), none, .len false (.t 32)⟩,
            ⟨(some 34), none, .bin .lss (.t 30) (.t 33)⟩])
          (.cond (.t 34)
           .skip
           (.exit 2)))
         (.seq
          (.block 3
           (.seq
            (.reg [⟨(some 37), none, .faddr (.t 1) 2⟩,
              ⟨(some 38), none, .load none (.t 37)⟩,
              ⟨(some 39), none, .mv (.t 4)⟩,
              ⟨(some 40), none, .iaddr 4 (.t 38) (.t 39)⟩,
              ⟨(some 41), none, .faddr (.t 40) 3⟩,
              ⟨(some 42), none, .load none (.t 41)⟩,
              ⟨(some 43), none, .len false (.t 42)⟩,
              ⟨(some 44), none, .bin .gtr (.t 43) (.c (.int .i64 70))⟩])
            (.cond (.t 44)
             (.seq
              (.reg [⟨(some 2), none, .mv (.c (.bool false))⟩])
              .ret)
             .skip)))
          (.reg [⟨(some 35), none, .take 4⟩,
            ⟨(some 36), none, .bin .add (.t 35) (.c (.int .i64 1))⟩,
            ⟨(some 4), none, .take 36⟩]))))))
     (.seq
      (.reg [⟨(some 2), none, .mv (.c (.bool true))⟩])
      .ret)))))
def ar29 : List AR := [.t 2]
theorem comp29 : Try.f29.body.bind (comp Try.prog 45) = some ac29 := by kernel_rfl
theorem cres29 : compRes Try.prog Try.f29.results.toList = some ar29 := by kernel_rfl
/-- bilander/bilanderref09.Owner -/
def ac32 : AC :=
 (.seq
  (.reg [⟨(some 2), none, .box 3 (.t 0)⟩,
    ⟨(some 4), none, .alloc [(.int .i64 0), (.int .i64 0)]⟩,
    ⟨(some 5), none, .mv (.c (.bool false))⟩])
  (.seq
   (.seq
    (.reg [⟨(some 6), none, .mv (.c (.int .i64 0))⟩])
    (.block 0
     (.loop
      (.seq
       (.seq
        (.reg [⟨(some 8), none, .mv (.t 6)⟩,
          ⟨(some 9), none, .faddr (.t 2) 2⟩,
          ⟨(some 10), none, .load none (.t 9)⟩,
          ⟨(some 11), none, .len false (.t 10)⟩,
          ⟨(some 12), none, .bin .lss (.t 8) (.t 11)⟩])
        (.cond (.t 12)
         .skip
         (.exit 0)))
       (.seq
        (.block 1
         (.seq
          (.reg [⟨(some 7), none, .mv (.c (.int .i64 0))⟩])
          (.block 2
           (.loop
            (.seq
             (.seq
              (.reg [⟨(some 15), none, .mv (.t 7)⟩,
                ⟨(some 16), none, .faddr (.t 2) 2⟩,
                ⟨(some 17), none, .load none (.t 16)⟩,
                ⟨(some 18), none, .mv (.t 6)⟩,
                ⟨(some 19), none, .iaddr 4 (.t 17) (.t 18)⟩,
                ⟨(some 20), none, .faddr (.t 19) 3⟩,
                ⟨(some 21), none, .load none (.t 20)⟩,
                ⟨(some 22), none, .len false (.t 21)⟩,
                ⟨(some 23), none, .bin .lss (.t 15) (.t 22)⟩])
              (.cond (.t 23)
               .skip
               (.exit 2)))
             (.seq
              (.block 3
               (.seq
                (.reg [⟨(some 26), none, .faddr (.t 2) 2⟩,
                  ⟨(some 27), none, .load none (.t 26)⟩,
                  ⟨(some 28), none, .mv (.t 6)⟩,
                  ⟨(some 29), none, .iaddr 4 (.t 27) (.t 28)⟩,
                  ⟨(some 30), none, .faddr (.t 29) 3⟩,
                  ⟨(some 31), none, .load none (.t 30)⟩,
                  ⟨(some 32), none, .mv (.t 7)⟩,
                  ⟨(some 33), none, .iaddr 2 (.t 31) (.t 32)⟩,
                  ⟨(some 34), none, .faddr (.t 33) 0⟩,
                  ⟨(some 35), none, .load none (.t 34)⟩,
                  ⟨(some 36), none, .mv (.t 1)⟩,
                  ⟨(some 37), none, .bin .eql (.t 35) (.t 36)⟩])
                (.cond (.t 37)
                 (.seq
                  (.reg [⟨(some 38), none, .faddr (.t 2) 2⟩,
                    ⟨(some 39), none, .load none (.t 38)⟩,
                    ⟨(some 40), none, .mv (.t 6)⟩,
                    ⟨(some 41), none, .iaddr 4 (.t 39) (.t 40)⟩,
                    ⟨(some 42), none, .faddr (.t 41) 0⟩,
                    ⟨(some 43), none, .load (some 2) (.t 42)⟩,
                    ⟨none, none, .store 2 (.t 4) (.t 43)⟩,
                    ⟨(some 5), none, .mv (.c (.bool true))⟩])
                  .ret)
                 .skip)))
              (.reg [⟨(some 24), none, .take 7⟩,
                ⟨(some 25), none, .bin .add (.t 24) (.c (.int .i64 1))⟩,
                ⟨(some 7), none, .take 25⟩])))))))
        (.reg [⟨(some 13), none, .take 6⟩,
          ⟨(some 14), none, .bin .add (.t 13) (.c (.int .i64 1))⟩,
          ⟨(some 6), none, .take 14⟩]))))))
   (.seq
    (.reg [⟨(some 44), none, .build [(.int .i64 0), (.int .i64 0)] []⟩,
      ⟨none, none, .store 2 (.t 4) (.t 44)⟩,
      ⟨(some 5), none, .mv (.c (.bool false))⟩])
    .ret)))
def ar32 : List AR := [.c 4 (some 2), .t 5]
theorem comp32 : Try.f32.body.bind (comp Try.prog 45) = some ac32 := by kernel_rfl
theorem cres32 : compRes Try.prog Try.f32.results.toList = some ar32 := by kernel_rfl
end Go.Proofs.Ytifemhfpcichfaa

/- Zalloc: Light, by content. -/




set_option linter.unusedSimpArgs false
set_option linter.unusedVariables false
set_option maxHeartbeats 8000000
namespace Go.Proofs.Ytifemhfpcichfaa

open Go.Av
def tp0 : Tpc := ⟨0, ⟨#[]⟩, 0, false⟩
theorem TpL_get (l : List Tpc) {i : Nat} (h : i < l.length) : (TpL l)[i]?.getD .undef = (l.getD i tp0).sv := by simp [TpL, List.getD_eq_getElem?_getD, h]
theorem ChL_get (l : List Chn) {i : Nat} (h : i < l.length) : (ChL l)[i]?.getD .undef = (l.getD i ch0).sv := by simp [ChL, List.getD_eq_getElem?_getD, h]
def lightS (s : Stt) : Bool := decide (s.ts.length ≤ 20) && decide (s.cs.length ≤ 60) && s.ts.all (fun t => decide (t.name.size ≤ 100)) && s.cs.all (fun c => decide (c.ls.length ≤ 70))
theorem all_drop {α : Type} (l : List α) (f : α → Bool) {i : Nat} (h : i < l.length) (d : α) : (l.drop i).all f = (f (l.getD i d) && (l.drop (i + 1)).all f) := by
  rw [List.drop_eq_getElem_cons h, List.all_cons, List.getD_eq_getElem?_getD, List.getElem?_eq_getElem h]; rfl
theorem light_st (s : Stt) : Pure Try.prog 29 [s.sv] (.sv (.bool (lightS s))) := by
  refine pure_go R0_ok Try.func29 Try.ntmps29 comp29 cres29 (by decide) (by simp [Stt.sv]) ?_
  obtain ⟨nx, ts, cs⟩ := s
  unfold lightS
  simp only
  by_cases h20 : ts.length ≤ 20
  case neg =>
    have h1 : (20 : Int) < ts.length := by omega
    simp [ac29, ar29, R0, Stt.sv, h20, h1]
  have h1 : ¬ (20 : Int) < ts.length := by omega
  by_cases h60 : cs.length ≤ 60
  case neg =>
    have h2 : (60 : Int) < cs.length := by omega
    simp [ac29, ar29, R0, Stt.sv, h20, h1, h60, h2]
  have h2 : ¬ (60 : Int) < cs.length := by omega
  simp [ac29, ar29, R0, Stt.sv, h20, h1, h60, h2]
  refine awpR_loop (α := Nat) (fun i => i ≤ ts.length ∧ ts.all (fun t => decide (t.name.size ≤ 100)) = (ts.drop i).all (fun t => decide (t.name.size ≤ 100))) (fun i => { n := 45, sl := [(1, .lptr 1 0), (3, .sv (.int .i64 i))], bx := [(1, [.sv (.int .i64 nx), .sv (.sl 4 (TpL ts)), .sv (.sl 4 (ChL cs))])], hp := fun _ => none })
    (fun i => ts.length - i) 0 ⟨by omega, by simp⟩ (by simp) ?_
  rintro i ⟨hi, ha⟩
  by_cases h : i < ts.length
  · have hlt : (i : Int) < ts.length := by omega
    have hw : IntKind.i64.wrap ((i : Int) + 1) = (i : Int) + 1 := by rw [IntKind.wrap_i64]; omega
    have hg := TpL_get ts h
    have hge : (TpL ts)[i]'(by simpa using h) = (ts.getD i tp0).sv := by rw [← hg, List.getElem?_eq_getElem]; rfl
    rw [all_drop ts _ h tp0] at ha
    generalize ts.getD i tp0 = x at *
    by_cases q : x.name.size ≤ 100
    · have q2 : ¬ (100 : Int) < x.name.size := by omega
      rw [show decide (x.name.size ≤ 100) = true by simpa using q, Bool.true_and] at ha
      simp [hlt, h, hg, hge, hw, q2, Tpc.sv]
      exact ⟨i + 1, ⟨by omega, by simpa using ha⟩, by omega, by omega⟩
    · have q2 : (100 : Int) < x.name.size := by omega
      rw [show decide (x.name.size ≤ 100) = false by simpa using q, Bool.false_and] at ha
      simp [hlt, h, hg, hge, hw, q2, Tpc.sv]
      intro hh
      exact absurd ha (by simpa using hh)
  · obtain rfl : i = ts.length := by omega
    have hlt : ¬ ((ts.length : Nat) : Int) < ts.length := by omega
    rw [List.drop_length] at ha
    simp [hlt]
    rw [show ts.all (fun t => decide (t.name.size ≤ 100)) = true by simpa using ha]
    clear ha hlt hi
    refine awpR_loop (α := Nat) (fun i => i ≤ cs.length ∧ cs.all (fun c => decide (c.ls.length ≤ 70)) = (cs.drop i).all (fun c => decide (c.ls.length ≤ 70))) (fun i => { n := 45, sl := [(1, .lptr 1 0), (4, .sv (.int .i64 i))], bx := [(1, [.sv (.int .i64 nx), .sv (.sl 4 (TpL ts)), .sv (.sl 4 (ChL cs))])], hp := fun _ => none })
      (fun i => cs.length - i) 0 ⟨by omega, by simp⟩ (by simp) ?_
    rintro j ⟨hj, hb⟩
    by_cases h : j < cs.length
    · have hlt : (j : Int) < cs.length := by omega
      have hw : IntKind.i64.wrap ((j : Int) + 1) = (j : Int) + 1 := by rw [IntKind.wrap_i64]; omega
      have hg := ChL_get cs h
      have hge : (ChL cs)[j]'(by simpa using h) = (cs.getD j ch0).sv := by rw [← hg, List.getElem?_eq_getElem]; rfl
      rw [all_drop cs _ h ch0] at hb
      generalize cs.getD j ch0 = x at *
      by_cases q : x.ls.length ≤ 70
      · have q2 : ¬ (70 : Int) < x.ls.length := by omega
        rw [show decide (x.ls.length ≤ 70) = true by simpa using q, Bool.true_and] at hb
        simp [hlt, h, hg, hge, hw, q2, Chn.sv, Chn.cells]
        exact ⟨j + 1, ⟨by omega, by simpa using hb⟩, by omega, by omega⟩
      · have q2 : (70 : Int) < x.ls.length := by omega
        rw [show decide (x.ls.length ≤ 70) = false by simpa using q, Bool.false_and] at hb
        simp [hlt, h, hg, hge, hw, q2, Chn.sv, Chn.cells]
        simpa using hb
    · obtain rfl : j = cs.length := by omega
      have hlt : ¬ ((cs.length : Nat) : Int) < cs.length := by omega
      rw [List.drop_length] at hb
      simp [hlt]
      simpa using hb
end Go.Proofs.Ytifemhfpcichfaa

/- Zalloc: Owner, by content. -/

set_option linter.unusedSimpArgs false
set_option linter.unusedVariables false
set_option maxHeartbeats 8000000
namespace Go.Proofs.Ytifemhfpcichfaa

open Go.Av
def hasL (z : Int) (l : List (Int × Int)) : Bool := l.any fun x => decide (x.1 = z)
def ownC (z : Int) : List Chn → Int × Int × Bool
  | [] => (0, 0, false)
  | c :: r => if hasL z c.ls = true then (c.t, c.i, true) else ownC z r
theorem ownC_drop (z : Int) (l : List Chn) {i : Nat} (h : i < l.length) : ownC z (l.drop i) = if hasL z (l.getD i ch0).ls = true then ((l.getD i ch0).t, (l.getD i ch0).i, true) else ownC z (l.drop (i + 1)) := by
  rw [List.drop_eq_getElem_cons h, List.getD_eq_getElem?_getD, List.getElem?_eq_getElem h]; rfl
theorem hasL_drop (z : Int) (l : List (Int × Int)) {i : Nat} (h : i < l.length) : hasL z (l.drop i) = (decide ((l.getD i (0, 0)).1 = z) || hasL z (l.drop (i + 1))) := by
  unfold hasL
  rw [List.drop_eq_getElem_cons h, List.any_cons, List.getD_eq_getElem?_getD, List.getElem?_eq_getElem h]; rfl
theorem LkL_get (l : List (Int × Int)) {i : Nat} (h : i < l.length) : (LkL l)[i]?.getD .undef = lkS (l.getD i (0, 0)) := by simp [LkL, List.getD_eq_getElem?_getD, h]
theorem owner_st (s : Stt) (z : Int) (hc : s.cs.length ≤ 1000) (hl : ∀ c ∈ s.cs, c.ls.length ≤ 1000) : Pure Try.prog 32 [s.sv, .int .i64 z] (.tup [.sv (.agg [.int .i64 (ownC z s.cs).1, .int .i64 (ownC z s.cs).2.1]), .sv (.bool (ownC z s.cs).2.2)]) := by
  refine pure_go R0_ok Try.func32 Try.ntmps32 comp32 cres32 (by decide) (by simp [Stt.sv]) ?_
  obtain ⟨nx, ts, cs⟩ := s
  simp only at hc hl ⊢
  simp [ac32, ar32, R0, Stt.sv]
  refine awpR_loop (α := Nat) (fun i => i ≤ cs.length ∧ ownC z cs = ownC z (cs.drop i)) (fun i => { n := 45, sl := [(1, .sv (.int .i64 z)), (2, .lptr 2 0), (4, .lptr 4 0), (6, .sv (.int .i64 i))], bx := [(2, [.sv (.int .i64 nx), .sv (.sl 4 (TpL ts)), .sv (.sl 4 (ChL cs))]), (4, [.sv (.int .i64 0), .sv (.int .i64 0)])], hp := fun _ => none })
    (fun i => cs.length - i) 0 ⟨by omega, by simp⟩ (by simp) ?_
  rintro i ⟨hi, ha⟩
  by_cases h : i < cs.length
  · have hlt : (i : Int) < cs.length := by omega
    have hw : IntKind.i64.wrap ((i : Int) + 1) = (i : Int) + 1 := by rw [IntKind.wrap_i64]; omega
    have hg := ChL_get cs h
    have hge : (ChL cs)[i]'(by simpa using h) = (cs.getD i ch0).sv := by rw [← hg, List.getElem?_eq_getElem]; rfl
    rw [ownC_drop z cs h] at ha
    have hlx : (cs.getD i ch0).ls.length ≤ 1000 := by
      rw [List.getD_eq_getElem?_getD, List.getElem?_eq_getElem h]; exact hl _ (by simp)
    generalize hx : cs.getD i ch0 = x at *
    simp [hlt, h]
    refine awpR_loop (α := Nat) (fun k => k ≤ x.ls.length ∧ hasL z x.ls = hasL z (x.ls.drop k)) (fun k => { n := 45, sl := [(1, .sv (.int .i64 z)), (2, .lptr 2 0), (4, .lptr 4 0), (6, .sv (.int .i64 i)), (7, .sv (.int .i64 k))], bx := [(2, [.sv (.int .i64 nx), .sv (.sl 4 (TpL ts)), .sv (.sl 4 (ChL cs))]), (4, [.sv (.int .i64 0), .sv (.int .i64 0)])], hp := fun _ => none })
      (fun k => x.ls.length - k) 0 ⟨by omega, by simp⟩ (by simp) ?_
    rintro k ⟨hk, hb⟩
    by_cases h2 : k < x.ls.length
    · have hlt2 : (k : Int) < x.ls.length := by omega
      have hw2 : IntKind.i64.wrap ((k : Int) + 1) = (k : Int) + 1 := by rw [IntKind.wrap_i64]; omega
      have hg2 := LkL_get x.ls h2
      have hge2 : (LkL x.ls)[k]'(by simpa using h2) = lkS (x.ls.getD k (0, 0)) := by rw [← hg2, List.getElem?_eq_getElem]; rfl
      rw [hasL_drop z x.ls h2] at hb
      generalize x.ls.getD k (0, 0) = y at *
      by_cases q : y.1 = z
      · rw [decide_eq_true q, Bool.true_or] at hb
        rw [if_pos hb] at ha
        simp [hlt, h, hg, hge, hw, hlt2, h2, hg2, hge2, hw2, q, Chn.sv, Chn.cells, lkS, ha]
      · rw [decide_eq_false q, Bool.false_or] at hb
        have qb : (y.1 == z) = false := by simpa using q
        simp [hlt, h, hg, hge, hw, hlt2, h2, hg2, hge2, hw2, q, qb, Chn.sv, Chn.cells, lkS]
        exact ⟨k + 1, ⟨by omega, hb⟩, by omega, by omega⟩
    · obtain rfl : k = x.ls.length := by omega
      have hlt2 : ¬ ((x.ls.length : Nat) : Int) < x.ls.length := by omega
      rw [List.drop_length] at hb
      rw [if_neg (by rw [hb]; simp [hasL])] at ha
      simp [hlt, h, hg, hge, hw, hlt2, Chn.sv, Chn.cells]
      exact ⟨i + 1, ⟨by omega, ha⟩, by omega, by omega⟩
  · obtain rfl : i = cs.length := by omega
    have hlt : ¬ ((cs.length : Nat) : Int) < cs.length := by omega
    rw [List.drop_length] at ha
    simp [hlt, ha, ownC]
end Go.Proofs.Ytifemhfpcichfaa
