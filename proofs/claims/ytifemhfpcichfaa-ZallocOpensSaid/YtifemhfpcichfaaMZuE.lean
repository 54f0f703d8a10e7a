import Derived.Test.YtifemhfpcichfaaMZsF
import Derived.Deep.RegionLaw
import Derived.Shelf.SlGeneric
import Derived.Shelf.SortM.Plain
import Derived.Ground.SlgmProg
import Derived.Test.YtifemhfpcichfaaProg
import Derived.Shelf.SortM.SortNone
import Derived.Sort.OwnSortedInts
import Derived.Lib.OwnBridge

set_option linter.unusedVariables false
set_option linter.unusedSimpArgs false

/- Zalloc: the zones' kinds (the walk). -/

set_option linter.unusedSimpArgs false
set_option linter.unusedVariables false
set_option maxHeartbeats 4000000
set_option maxRecDepth 1000000
namespace Go.Proofs.Ytifemhfpcichfaa
open Go.RowKit
open Go.Av Go.Maps

/-- What Kinds tells: a row of its own. -/
def KindsP (d : Dv) (S : List Int) (w : World) (e : Ending) (w' : World) : Prop := ∃ v, e = .returned v ∧ w'.ownsRow w.heap.size 5 1 v d.zs.length (u8s (kindsB d S)) ∧ Ext (fun _ => False) w w'
structure KInv (w wr : World) (mb m : Nat) (S us : List Int) (bs : List UInt8) (v : Value) : Prop where
  own : wr.ownsRow (mb + 1) 5 1 v bs.length (u8s bs)
  set : SetM wr mb m us
  ext : Ext (fun _ => False) w wr
theorem own_base {w : World} {base b2 e size n : Nat} {v : Value} {xs : List Value} (k : b2 ≤ base) (h : w.ownsRow base e size v n xs) : w.ownsRow b2 e size v n xs := by
  refine ⟨h.1, ?_⟩
  rcases h.2 with h2 | ⟨g, cap, cur, h1, h2, h3⟩
  · exact .inl h2
  · exact .inr ⟨g, cap, cur, h1, Nat.le_trans k h2, h3⟩
theorem KInv.next {w wr Wn w6 : World} {mb m : Nat} {S us : List Int} {bs : List UInt8} {v v' : Value} {c : UInt8} (h : KInv w wr mb m S us bs v) (hmb : w.heap.size ≤ mb) (k : Ext (fun _ => False) wr Wn) (h1 : w6.ownsRow (mb + 1) 5 1 v' (bs.length + 1) (u8s bs ++ [.int .u8 c.toNat])) (h2 : Wn.grownBy w6 v.ownBlock) : KInv w w6 mb m S us (bs ++ [c]) v' := by
  refine ⟨?_, h.set.keep ?_, grown_ext (own_ext h.own k) h2 (by omega) (h.ext.trans k)⟩
  · rw [List.length_append, show u8s (bs ++ [c]) = u8s bs ++ [.int .u8 c.toNat] by simp [u8s]]
    exact h1
  · have hl := h.set.lt
    refine (h2.5 mb (Nat.lt_of_lt_of_le hl k.size) ?_).trans (k.block mb hl id)
    rcases h.own.2 with ⟨e, _⟩ | ⟨g, cap, cur, e, hg, _⟩
    · rw [e]; simp [Value.ownBlock]
    · rw [e]; simp only [Value.ownBlock]; intro q; injection q with q; omega
theorem row_cell {w : World} {base n : Nat} {v : Value} {us : List Int} (h : w.ownsRow base 3 1 v n (I3 us)) {i : Nat} (hi : i < us.length) : ∃ b c, v = .slice (some ⟨b, 0, none⟩) n c ∧ base ≤ b ∧ b < w.heap.size ∧ w.cell? ⟨b, i, none⟩ = some (.int .i64 (us.getD i 0)) := by
  have hl : us.length = n := by have := h.1; simpa [I3] using this
  rcases h.2 with ⟨_, h2⟩ | ⟨g, cap, cur, h1, h2, h3, h4, h5, h6, h7⟩
  · omega
  · refine ⟨g, cap, h1, h2, (Array.getElem?_eq_some_iff.1 h3).1, ?_⟩
    rw [cell_of_block h3]
    have e : (cur.toList.take (n * 1))[i]? = (I3 us)[i]? := by rw [h7]
    rw [List.getElem?_take_of_lt (by omega), Array.getElem?_toList] at e
    rw [e]
    simp [I3, List.getD_eq_getElem?_getD, hi]
theorem kinds_raw (hS : SortC) {w : World} {q : Dp} {d : Dv} (hD : DevAt w q d) {v : Value} {cs : List (List Int)} (h : StW w v cs) (hb : cs.flatten.length ≤ 50000) (hcl : cs.length ≤ 1000000) (hI : ∀ z ∈ cs.flatten, I64 z) :
    Calls Try.prog 31 #[.pointer (some ⟨q.p, 0, none⟩), v] w (KindsP d cs.flatten w) := by
  obtain ⟨i0, hi, hz0, hz1, hz2⟩ := info_parts (P := Try.prog) (e := 5) (z := .int .u8 0) (size := 1) (bytes := 1) (by kernel_rfl)
  have hu : Try.prog.underlying 24 = some (.slice 5) := by kernel_rfl
  have hSW := h
  obtain ⟨nx, tp, tn, tc, cp, cc, rfl, hC⟩ := h
  have HI := asideI hi
  have HZ0 := asideI hz0
  have HZ1 := asideI hz1
  have HZ2 := asideI hz2
  have HU := asideI hu
  have HD := asideI hD
  have hlen := hD.len
  have HSW := asideI hSW
  have HI64 := asideI hI
  have hmm := fun w => run_makeMap (P := Try.prog) 103 w
  obtain ⟨W, hW⟩ : ∃ W, W = (w.alloc (.cells #[.int .i64 nx, .slice tp tn tc, .slice cp cs.length cc] 58)).alloc (.map #[] 0) := ⟨_, rfl⟩
  have HW := asideI hW
  have HX := asideI (show Ext (fun _ => False) w W by rw [hW]; exact (ext_alloc1 _ _).trans (ext_alloc1 _ _))
  have HM := asideI (show SetM W (w.heap.size + 1) 0 [] by rw [hW]; have := SetM.new (w.alloc (.cells #[.int .i64 nx, .slice tp tn tc, .slice cp cs.length cc] 58)); simpa using this)
  have k0 : W.heap[w.heap.size]? = some (.cells #[.int .i64 nx, .slice tp tn tc, .slice cp cs.length cc] 58) := by rw [hW, alloc_get, if_neg (by simp), alloc_get, if_pos rfl]
  have c0 : W.cell? ⟨w.heap.size, 0, none⟩ = some (.int .i64 nx) := by simp [World.cell?, k0]
  have c1 : W.cell? ⟨w.heap.size, 1, none⟩ = some (.slice tp tn tc) := by simp [World.cell?, k0]
  have c2 : W.cell? ⟨w.heap.size, 2, none⟩ = some (.slice cp cs.length cc) := by simp [World.cell?, k0]
  have HZS := asideI (stzones_raw hS (hSW.ext HX.out) (by omega) hcl)
  clear hi hz0 hz1 hz2 hu hC hSW hI hW k0 hD
  show Calls Try.prog 31 #[.pointer (some ⟨q.p, 0, none⟩), .agg #[.int .i64 nx, .slice tp tn tc, .slice cp cs.length cc]] w _
  go_enter Try.func31, Try.ntmps31
  go_wp2_with (first
    | (go_at_call 58; rw [← HW.out]; refine HZS.out.mono ?_
       rintro e w1 ⟨zv, us, rfl, hu1, hu2, hu3, hu4⟩
       obtain ⟨zp, zc, rfl⟩ := own_slice hu3
       have HR := asideI (And.intro hu2 (And.intro hu3 hu4))
       have HU1 := asideI hu1
       clear hu1 hu2 hu3 hu4
       simp only [])
    | go_in)
  have hlu : us.length ≤ 50000 := by rw [HU1.out]; exact hb
  have hs1 : W.heap.size ≤ w1.heap.size := HR.out.2.2.size
  have hsW : W.heap.size = w.heap.size + 1 + 1 := by rw [HW.out]; simp
  clear c0 c1 c2
  go_loopg [14] us.length (fun gg s14 wr => ∃ (i : Nat), s14 = .int .i64 i ∧ i ≤ us.length ∧ us.length - i ≤ gg ∧ Aside (SetM wr (w.heap.size + 1) i (us.take i) ∧ Ext (fun k => k = w.heap.size + 1) w1 wr))
  case atStart => exact ⟨0, rfl, by omega, by omega, HM.out.keep (HR.out.2.2.block _ (by omega) id), Ext.refl _ _⟩
  case round =>
    obtain ⟨i, rfl, hi, hgg, H2⟩ := hrel
    by_cases hlt : i < us.length
    · have hz : (i : Int) < (us.length : Int) := by omega
      have hw : IntKind.i64.wrap ((i : Int) + 1) = (i : Int) + 1 := by rw [IntKind.wrap_i64]; omega
      obtain ⟨b, c, he, hb1, hb2, hb3⟩ := row_cell HR.out.2.1 hlt
      cases he
      replace hb3 := (World.cell?_of_block (H2.out.2.block b hb2 (by omega))).trans hb3
      have htk : us.take (i + 1) = us.take i ++ [us.getD i 0] := by rw [List.take_add_one, List.getD_eq_getElem?_getD, List.getElem?_eq_getElem hlt]; rfl
      have hmem : us.getD i 0 ∈ us := by rw [List.getD_eq_getElem?_getD, List.getElem?_eq_getElem hlt]; simp
      have h64 := HI64.out _ ((HR.out.1 _).1 hmem)
      obtain ⟨w2, hrun, hset, hgr⟩ := H2.out.1.put (by omega) h64
      rw [← htk] at hset
      have HSET := asideI (And.intro hset (H2.out.2.trans (show Ext (fun k => k = w.heap.size + 1) wr w2 from ⟨hgr.1, hgr.2, hgr.3, hgr.4, fun k hk hne => hgr.5 k hk (fun e => hne (Option.some.inj e))⟩)))
      clear htk hmem h64 hset hgr
      generalize us.getD i 0 = zz at hb3 hrun
      go_wp2
      go_roundg (us.length - (i + 1))
      case measure => omega
      case rel => exact ⟨i + 1, by simp, by omega, by omega, HSET.out⟩
    · obtain rfl : i = us.length := by omega
      have hE0 : Ext (fun _ => False) w wr := extF (HX.out.trans HR.out.2.2) H2.out.2 (by rintro b rfl; omega)
      have hset := H2.out.1
      rw [List.take_length] at hset
      have hms : w1.heap.size ≤ wr.heap.size := H2.out.2.size
      have HSET := asideI hset
      have HE0 := asideI hE0
      have HDR := asideI (HD.out.ext hE0)
      clear hset hE0
      go_wp2_with (first
        | (go_at_call 56; refine (zones_raw HDR.out).mono ?_; rintro e w4 ⟨rfl, h4w⟩; obtain rfl := h4w.symm; simp only [])
        | go_in)
      go_loopg [8, 23] d.zs.length (fun gg s8 s23 wz => ∃ (z : Nat), s23 = .int .i64 z ∧ z ≤ d.zs.length ∧ d.zs.length - z ≤ gg ∧ Aside (KInv w wz (w.heap.size + 1) us.length us us ((kindsB d us).take z) s8))
      case atStart => exact ⟨0, rfl, by omega, by omega, ⟨⟨rfl, .inl ⟨rfl, rfl⟩⟩, HSET.out, HE0.out⟩⟩
      case round =>
        obtain ⟨z, rfl, hz6, hgg2, H3⟩ := hrel
        obtain ⟨sp, sc, rfl⟩ := own_slice H3.out.own
        by_cases hzl : z < d.zs.length
        · have hz : (z : Int) < (d.zs.length : Int) := by omega
          have hw : IntKind.i64.wrap ((z : Int) + 1) = (z : Int) + 1 := by rw [IntKind.wrap_i64]; omega
          generalize hbs : (kindsB d us).take z = bs at H3 ⊢
          have HBE := asideI hbs
          have HBL : Aside (bs.length = z) := by show _ = _; rw [← hbs, List.length_take, kindsB_len]; omega
          clear hbs
          by_cases h2 : z < 2
          · have h2i : (z : Int) < 2 := by omega
            have HKT := asideI (show (kindsB d us).take (z + 1) = bs ++ [1] by rw [kindsB_take d us hzl, HBE.out]; unfold kindD; rw [if_pos h2])
            go_wp2_with (first
              | (at_builtin; refine wpList_append_own _ rfl _ _ 24 rfl (w.heap.size + 1 + 1) 5 i0 (.int .u8 0) 1 1 HU.out HI.out HZ0.out HZ1.out HZ2.out rfl (by decide) _ _ _ rfl (own_ext H3.out.own (ext_alloc1 _ _)) ⟨wr.heap.size, 0, none⟩ 1 1 [.int .u8 1] rfl ?q1x1 ?q1x2 ?q1x3 ?q1x4 ?q1x5 ?q1x6 ?_)
              | go_in)
            try (case q1x1 => rfl)
            try (case q1x2 => exact one_new _ _ _ _ rfl)
            try (case q1x3 => first | rfl | (intro u hu; rw [List.mem_singleton] at hu; rw [hu]; rfl))
            try (case q1x4 => have := HBL.out; unfold maxLen; omega)
            try (case q1x5 => have := HBL.out; omega)
            try (case q1x6 => have h1 := H3.out.ext.size; have h2 := H3.out.set.lt; have h3 := (Ext.refl (fun _ => False) wr).size; have h4 : (wr.alloc (.cells #[.int .u8 1] 5)).heap.size = wr.heap.size + 1 := (by simp); omega)
            intro v' w6 hown6 hgrow hnil
            obtain ⟨p6, c6, rfl⟩ := own_slice hown6
            have HK6 := asideI (KInv.next (c := 1) H3.out (by omega) (ext_alloc1 _ _) hown6 hgrow)
            clear hown6 hgrow hnil
            rw [← HKT.out] at HK6
            go_wp2
            go_roundg (d.zs.length - (z + 1))
            case measure => omega
            case rel => exact ⟨z + 1, by simp, by omega, by omega, HK6.out⟩
          · have h2i : ¬ (z : Int) < 2 := by omega
            have hlk := H3.out.set.look (z := (z : Int)) ⟨by omega, by omega⟩
            by_cases hm : (z : Int) ∈ us
            · rw [decide_eq_true hm] at hlk
              have HKT := asideI (show (kindsB d us).take (z + 1) = bs ++ [2] by rw [kindsB_take d us hzl, HBE.out]; unfold kindD; rw [if_neg h2, if_pos hm])
              clear hm
              go_wp2_with (first
                | (at_builtin; refine wpList_append_own _ rfl _ _ 24 rfl (w.heap.size + 1 + 1) 5 i0 (.int .u8 0) 1 1 HU.out HI.out HZ0.out HZ1.out HZ2.out rfl (by decide) _ _ _ rfl (own_ext H3.out.own (ext_alloc1 _ _)) ⟨wr.heap.size, 0, none⟩ 1 1 [.int .u8 2] rfl ?q2x1 ?q2x2 ?q2x3 ?q2x4 ?q2x5 ?q2x6 ?_)
                | go_in)
              try (case q2x1 => rfl)
              try (case q2x2 => exact one_new _ _ _ _ rfl)
              try (case q2x3 => first | rfl | (intro u hu; rw [List.mem_singleton] at hu; rw [hu]; rfl))
              try (case q2x4 => have := HBL.out; unfold maxLen; omega)
              try (case q2x5 => have := HBL.out; omega)
              try (case q2x6 => have h1 := H3.out.ext.size; have h2 := H3.out.set.lt; have h3 := (Ext.refl (fun _ => False) wr).size; have h4 : (wr.alloc (.cells #[.int .u8 2] 5)).heap.size = wr.heap.size + 1 := (by simp); omega)
              intro v' w6 hown6 hgrow hnil
              obtain ⟨p6, c6, rfl⟩ := own_slice hown6
              have HK6 := asideI (KInv.next (c := 2) H3.out (by omega) (ext_alloc1 _ _) hown6 hgrow)
              clear hown6 hgrow hnil
              rw [← HKT.out] at HK6
              go_wp2
              go_roundg (d.zs.length - (z + 1))
              case measure => omega
              case rel => exact ⟨z + 1, by simp, by omega, by omega, HK6.out⟩
            · rw [decide_eq_false hm] at hlk
              have HST := asideI (state_raw (HD.out.ext H3.out.ext) (z : Int))
              by_cases hs0 : stD d z = 0
              · rw [hs0] at HST
                have HKT := asideI (show (kindsB d us).take (z + 1) = bs ++ [0] by rw [kindsB_take d us hzl, HBE.out]; unfold kindD; rw [if_neg h2, if_neg hm, if_pos hs0])
                clear hm hs0
                go_wp2_with (first
                  | (go_at_call 21; refine HST.out.mono ?_; rintro e w5 ⟨rfl, hx5⟩; have HX5 := asideI hx5; clear hx5; simp only [])
                  | (at_builtin; refine wpList_append_own _ rfl _ _ 24 rfl (w.heap.size + 1 + 1) 5 i0 (.int .u8 0) 1 1 HU.out HI.out HZ0.out HZ1.out HZ2.out rfl (by decide) _ _ _ rfl (own_ext H3.out.own (HX5.out.trans (ext_alloc1 _ _))) ⟨w5.heap.size, 0, none⟩ 1 1 [.int .u8 0] rfl ?q0x1 ?q0x2 ?q0x3 ?q0x4 ?q0x5 ?q0x6 ?_)
                  | go_in)
                try (case q0x1 => rfl)
                try (case q0x2 => exact one_new _ _ _ _ rfl)
                try (case q0x3 => first | rfl | (intro u hu; rw [List.mem_singleton] at hu; rw [hu]; rfl))
                try (case q0x4 => have := HBL.out; unfold maxLen; omega)
                try (case q0x5 => have := HBL.out; omega)
                try (case q0x6 => have h1 := H3.out.ext.size; have h2 := H3.out.set.lt; have h3 := (HX5.out).size; have h4 : (w5.alloc (.cells #[.int .u8 0] 5)).heap.size = w5.heap.size + 1 := (by simp); omega)
                intro v' w6 hown6 hgrow hnil
                obtain ⟨p6, c6, rfl⟩ := own_slice hown6
                have HK6 := asideI (KInv.next (c := 0) H3.out (by omega) (HX5.out.trans (ext_alloc1 _ _)) hown6 hgrow)
                clear hown6 hgrow hnil
                rw [← HKT.out] at HK6
                go_wp2
                go_roundg (d.zs.length - (z + 1))
                case measure => omega
                case rel => exact ⟨z + 1, by simp, by omega, by omega, HK6.out⟩
              · have hs0b : (stD d z == 0) = false := by simpa using hs0
                have HKT := asideI (show (kindsB d us).take (z + 1) = bs ++ [3] by rw [kindsB_take d us hzl, HBE.out]; unfold kindD; rw [if_neg h2, if_neg hm, if_neg hs0])
                clear hm
                generalize stD d z = sv at HST hs0 hs0b
                go_wp2_with (first
                  | (go_at_call 21; refine HST.out.mono ?_; rintro e w5 ⟨rfl, hx5⟩; have HX5 := asideI hx5; clear hx5; simp only [])
                  | (at_builtin; refine wpList_append_own _ rfl _ _ 24 rfl (w.heap.size + 1 + 1) 5 i0 (.int .u8 0) 1 1 HU.out HI.out HZ0.out HZ1.out HZ2.out rfl (by decide) _ _ _ rfl (own_ext H3.out.own (HX5.out.trans (ext_alloc1 _ _))) ⟨w5.heap.size, 0, none⟩ 1 1 [.int .u8 3] rfl ?q3x1 ?q3x2 ?q3x3 ?q3x4 ?q3x5 ?q3x6 ?_)
                  | go_in)
                try (case q3x1 => rfl)
                try (case q3x2 => exact one_new _ _ _ _ rfl)
                try (case q3x3 => first | rfl | (intro u hu; rw [List.mem_singleton] at hu; rw [hu]; rfl))
                try (case q3x4 => have := HBL.out; unfold maxLen; omega)
                try (case q3x5 => have := HBL.out; omega)
                try (case q3x6 => have h1 := H3.out.ext.size; have h2 := H3.out.set.lt; have h3 := (HX5.out).size; have h4 : (w5.alloc (.cells #[.int .u8 3] 5)).heap.size = w5.heap.size + 1 := (by simp); omega)
                intro v' w6 hown6 hgrow hnil
                obtain ⟨p6, c6, rfl⟩ := own_slice hown6
                have HK6 := asideI (KInv.next (c := 3) H3.out (by omega) (HX5.out.trans (ext_alloc1 _ _)) hown6 hgrow)
                clear hown6 hgrow hnil
                rw [← HKT.out] at HK6
                go_wp2
                go_roundg (d.zs.length - (z + 1))
                case measure => omega
                case rel => exact ⟨z + 1, by simp, by omega, by omega, HK6.out⟩
        · obtain rfl : z = d.zs.length := by omega
          have hk := H3.out
          rw [List.take_of_length_le (by rw [kindsB_len]; exact Nat.le_refl _)] at hk
          have HK := asideI hk
          clear hk
          go_wp2
          go_ret
          have he : kindsB d us = kindsB d cs.flatten := kindsB_iff HR.out.1
          have ho := own_base (Nat.le_trans (Nat.le_succ _) (Nat.le_succ _)) HK.out.own
          refine ⟨_, rfl, ?_, HK.out.ext⟩
          rw [← he, ← kindsB_len d us, List.take_of_length_le (by rw [kindsB_len]; exact Nat.le_refl _)]
          exact ho
end Go.Proofs.Ytifemhfpcichfaa

/- Zalloc: the zones of a kind (the walk). -/

set_option linter.unusedSimpArgs false
set_option linter.unusedVariables false
set_option maxHeartbeats 4000000
set_option maxRecDepth 1000000
namespace Go.Proofs.Ytifemhfpcichfaa
open Go.RowKit
open Go.Av Go.Maps

def ofT (d : Dv) (S : List Int) (k : UInt8) (n : Nat) : List Int := ((List.range n).filter fun z => decide (kindD d S z = k)).map fun (z : Nat) => (z : Int)
def ofD (d : Dv) (S : List Int) (k : UInt8) : List Int := ofT d S k d.zs.length
theorem ofT_succ (d : Dv) (S : List Int) (k : UInt8) (n : Nat) : ofT d S k (n + 1) = ofT d S k n ++ (if kindD d S n = k then [(n : Int)] else []) := by
  unfold ofT
  rw [List.range_succ, List.filter_append, List.map_append]
  congr 1
  by_cases h : kindD d S n = k <;> simp [h]
theorem ofT_len (d : Dv) (S : List Int) (k : UInt8) (n : Nat) : (ofT d S k n).length ≤ n := by
  unfold ofT
  rw [List.length_map]
  exact Nat.le_trans (List.length_filter_le _ _) (by simp)
theorem row_at {w : World} {base n : Nat} {e : TypeId} {v : Value} {xs : List Value} (h : w.ownsRow base e 1 v n xs) {i : Nat} (hi : i < n) : ∃ b c, v = .slice (some ⟨b, 0, none⟩) n c ∧ base ≤ b ∧ b < w.heap.size ∧ w.cell? ⟨b, i, none⟩ = xs[i]? := by
  rcases h.2 with ⟨_, h2⟩ | ⟨g, cap, cur, h1, h2, h3, h4, h5, h6, h7⟩
  · omega
  · refine ⟨g, cap, h1, h2, (Array.getElem?_eq_some_iff.1 h3).1, ?_⟩
    rw [cell_of_block h3, ← h7, List.getElem?_take_of_lt (by omega), Array.getElem?_toList]
/-- A row of numbers of a call's own. -/
def IntsP (l : List Int) (w : World) (e : Ending) (w' : World) : Prop := ∃ v, e = .returned v ∧ w'.ownsRow w.heap.size 3 1 v l.length (I3 l) ∧ Ext (fun _ => False) w w'
theorem of_raw (hS : SortC) {w : World} {q : Dp} {d : Dv} (hD : DevAt w q d) {v : Value} {cs : List (List Int)} (h : StW w v cs) (hb : cs.flatten.length ≤ 50000) (hcl : cs.length ≤ 1000000) (hI : ∀ z ∈ cs.flatten, I64 z) (kk : UInt8) :
    Calls Try.prog 55 #[.pointer (some ⟨q.p, 0, none⟩), v, .int .u8 kk.toNat] w (IntsP (ofD d cs.flatten kk) w) := by
  obtain ⟨i0, hi, hz0, hz1, hz2⟩ := info_parts (P := Try.prog) (e := 3) (z := .int .i64 0) (size := 1) (bytes := 8) (by kernel_rfl)
  have hu : Try.prog.underlying 53 = some (.slice 3) := by kernel_rfl
  have hSW := h
  obtain ⟨nx, tp, tn, tc, cp, cc, rfl, hC⟩ := h
  have HI := asideI hi
  have HZ0 := asideI hz0
  have HZ1 := asideI hz1
  have HZ2 := asideI hz2
  have HU := asideI hu
  have hlen := hD.len
  have HX := asideI (ext_alloc1 w (.cells #[.int .i64 nx, .slice tp tn tc, .slice cp cs.length cc] 58))
  have HKS := asideI (kinds_raw hS (hD.ext HX.out) (hSW.ext HX.out) hb hcl hI)
  clear hi hz0 hz1 hz2 hu hC hSW hI hD
  show Calls Try.prog 55 #[.pointer (some ⟨q.p, 0, none⟩), .agg #[.int .i64 nx, .slice tp tn tc, .slice cp cs.length cc], .int .u8 kk.toNat] w _
  generalize cs.flatten = S at HKS hb
  go_enter Try.func55, Try.ntmps55
  go_wp2_with (first
    | (go_at_call 31; refine HKS.out.mono ?_
       rintro e w1 ⟨zv, rfl, hu1, hu2⟩
       obtain ⟨zp, zc, rfl⟩ := own_slice hu1
       have HR := asideI hu1
       have HX1 := asideI hu2
       clear hu1 hu2
       simp only [])
    | go_in)
  go_loopg [7, 14] d.zs.length (fun gg s7 s14 wr => ∃ (z : Nat), s14 = .int .i64 z ∧ z ≤ d.zs.length ∧ d.zs.length - z ≤ gg ∧ Aside (ZInv w1 (ofT d S kk z) s7 wr))
  case atStart => exact ⟨0, rfl, by omega, by omega, ⟨rfl, .inl ⟨rfl, rfl⟩⟩, Ext.refl _ _⟩
  case round =>
    obtain ⟨z, rfl, hz6, hgg, H2⟩ := hrel
    obtain ⟨sp, sc, rfl⟩ := own_slice H2.out.1
    have hol := ofT_len d S kk z
    have hsu := ofT_succ d S kk z
    generalize hys : ofT d S kk z = ys at H2 hol hsu ⊢
    have HYS := asideI hys
    clear hys
    by_cases hlt : z < d.zs.length
    · have hz : (z : Int) < (d.zs.length : Int) := by omega
      have hw : IntKind.i64.wrap ((z : Int) + 1) = (z : Int) + 1 := by rw [IntKind.wrap_i64]; omega
      obtain ⟨b, c, he, hb1, hb2, hb3⟩ := row_at HR.out hlt
      cases he
      replace hb3 := (World.cell?_of_block (H2.out.2.block b hb2 id)).trans hb3
      have hby : (u8s (kindsB d S))[z]? = some (.int .u8 (kindD d S z).toNat) := by simp [u8s, kindsB, hlt]
      rw [hby] at hb3
      clear hby
      by_cases hk : kindD d S z = kk
      · rw [if_pos hk] at hsu
        rw [hk] at hb3
        have HSU := asideI hsu
        clear hsu hk
        go_wp2_with (first
          | (at_builtin; refine wpList_append_own _ rfl _ _ 53 rfl w1.heap.size 3 i0 (.int .i64 0) 1 8 HU.out HI.out HZ0.out HZ1.out HZ2.out rfl (by decide) _ _ _ rfl (own_ext H2.out.1 (ext_alloc1 _ _)) ⟨wr.heap.size, 0, none⟩ 1 1 [.int .i64 z] rfl ?qc1 ?qc2 ?qc3 ?qc4 ?qc5 ?qc6 ?_)
          | go_in)
        try (case qc1 => rfl)
        try (case qc2 => exact one_new _ _ _ _ rfl)
        try (case qc3 => first | rfl | (intro u hu; rw [List.mem_singleton] at hu; rw [hu]; rfl))
        try (case qc4 => unfold maxLen; omega)
        try (case qc5 => omega)
        try (case qc6 => have h1 := H2.out.2.size; have h4 : (wr.alloc (.cells #[.int .i64 z] 3)).heap.size = wr.heap.size + 1 := (by simp); omega)
        intro v' w6 hown6 hgrow hnil
        obtain ⟨p6, c6, rfl⟩ := own_slice hown6
        have HK6 := asideI (show ZInv w1 (ys ++ [(z : Int)]) (.slice p6 (ys.length + 1) c6) w6 from ⟨by rw [show I3 (ys ++ [(z : Int)]) = I3 ys ++ [.int .i64 z] by simp [I3], List.length_append]; exact hown6, grown_ext (own_ext H2.out.1 (ext_alloc1 _ _)) hgrow (Nat.le_refl _) (H2.out.2.trans (ext_alloc1 _ _))⟩)
        clear hown6 hgrow hnil
        rw [← HSU.out] at HK6
        go_wp2
        go_roundg (d.zs.length - (z + 1))
        case measure => omega
        case rel => exact ⟨z + 1, by simp, by omega, by omega, HK6.out⟩
      · rw [if_neg hk, List.append_nil] at hsu
        have hkn : ¬ (((kindD d S z).toNat : Int) = (kk.toNat : Int)) := fun e => hk (UInt8.toNat_inj.1 (by omega))
        have hkb : (((kindD d S z).toNat : Int) == (kk.toNat : Int)) = false := by simpa using hkn
        generalize ((kindD d S z).toNat : Int) = kb at hb3 hkn hkb
        have HSU := asideI hsu
        clear hsu hk
        go_wp2
        go_roundg (d.zs.length - (z + 1))
        case measure => omega
        case rel => exact ⟨z + 1, by simp, by omega, by omega, by rw [HSU.out]; exact H2.out⟩
    · obtain rfl : z = d.zs.length := by omega
      go_wp2
      go_ret
      have hx : Ext (fun _ => False) w wr := (HX.out.trans HX1.out).trans H2.out.2
      refine ⟨_, rfl, ?_, hx⟩
      rw [show ofD d S kk = ys from HYS.out]
      exact own_base (HX.out.trans HX1.out).size H2.out.1
end Go.Proofs.Ytifemhfpcichfaa

/- Zalloc: Waiting, Room, Next, Sweep (the walks). -/

set_option linter.unusedSimpArgs false
set_option linter.unusedVariables false
set_option maxHeartbeats 4000000
set_option maxRecDepth 1000000
namespace Go.Proofs.Ytifemhfpcichfaa
open Go.RowKit
open Go.Av Go.Maps

/-- A state, of moderate size. -/
structure StOK (w : World) (v : Value) (cs : List (List Int)) : Prop where
  st : StW w v cs
  n : cs.flatten.length ≤ 50000
  c : cs.length ≤ 1000000
  i : ∀ z ∈ cs.flatten, I64 z
theorem StOK.ext {w w' : World} {v : Value} {cs : List (List Int)} (h : StOK w v cs) (k : Ext (fun _ => False) w w') : StOK w' v cs := ⟨h.st.ext k, h.n, h.c, h.i⟩
theorem waiting_raw (hS : SortC) {w : World} {q : Dp} {d : Dv} (hD : DevAt w q d) {v : Value} {cs : List (List Int)} (h : StOK w v cs) : Calls Try.prog 33 #[.pointer (some ⟨q.p, 0, none⟩), v] w (IntsP (ofD d cs.flatten 3) w) := by
  have hv := h.st
  obtain ⟨nx, tp, tn, tc, cp, cc, rfl, hC⟩ := hv
  have HX := asideI (ext_alloc1 w (.cells #[.int .i64 nx, .slice tp tn tc, .slice cp cs.length cc] 58))
  have hO := of_raw hS (hD.ext HX.out) (h.st.ext HX.out) h.n h.c h.i 3
  have HO : Aside (Calls Try.prog 55 #[.pointer (some ⟨q.p, 0, none⟩), .agg #[.int .i64 nx, .slice tp tn tc, .slice cp cs.length cc], .int .u8 3] _ _) := hO
  clear hC h hD hO
  show Calls Try.prog 33 #[.pointer (some ⟨q.p, 0, none⟩), .agg #[.int .i64 nx, .slice tp tn tc, .slice cp cs.length cc]] w _
  generalize ofD d cs.flatten 3 = l at HO ⊢
  go_enter Try.func33, Try.ntmps33
  go_wp2_with (first
    | (go_at_call 55; refine HO.out.mono ?_
       rintro e w1 ⟨zv, rfl, hu1, hu2⟩
       obtain ⟨zp, zc, rfl⟩ := own_slice hu1
       have HR := asideI (And.intro hu1 hu2)
       clear hu1 hu2
       simp only [])
    | go_in)
  go_ret
  exact ⟨_, rfl, own_base HX.out.size HR.out.1, HX.out.trans HR.out.2⟩
/-- How many zones from the third on are open. -/
def cntD (d : Dv) : Nat → Int
  | 0 => 0
  | n + 1 => cntD d n + (if 2 ≤ n ∧ stD d n = 1 then 1 else 0)
theorem cntD_le (d : Dv) : ∀ n, 0 ≤ cntD d n ∧ cntD d n ≤ n
  | 0 => ⟨Int.le_refl _, Int.le_refl _⟩
  | n + 1 => by have := cntD_le d n; unfold cntD; split <;> omega
def roomD (d : Dv) : Int := max 0 (12 - cntD d d.zs.length)
theorem room_raw {w : World} {q : Dp} {d : Dv} (hD : DevAt w q d) (h2 : 2 ≤ d.zs.length) : Calls Try.prog 26 #[.pointer (some ⟨q.p, 0, none⟩)] w fun e w' => e = .returned (.int .i64 (roomD d)) ∧ Ext (fun _ => False) w w' := by
  have hlen := hD.len
  have HD := asideI hD
  have hc2 : cntD d 2 = 0 := by simp [cntD]
  clear hD
  go_enter Try.func26, Try.ntmps26
  go_wp2
  go_loopg [3, 4] d.zs.length (fun gg s3 s4 wr => ∃ (z : Nat), s4 = .int .i64 z ∧ s3 = .int .i64 (12 - cntD d z) ∧ 2 ≤ z ∧ z ≤ d.zs.length ∧ d.zs.length - z ≤ gg ∧ Aside (Ext (fun _ => False) w wr))
  case atStart => exact ⟨2, rfl, by rw [hc2]; rfl, by omega, h2, by omega, Ext.refl _ _⟩
  case round =>
    obtain ⟨z, rfl, rfl, hz2, hz6, hgg, H2⟩ := hrel
    have HD2 := asideI (HD.out.ext H2.out)
    have HS := asideI (state_raw HD2.out (z : Int))
    have hcl := cntD_le d z
    have hcs : cntD d (z + 1) = cntD d z + (if stD d z = 1 then 1 else 0) := by
      rw [cntD]; congr 1; simp only [hz2, true_and]
    generalize hcn : cntD d z = cn at hcl hcs ⊢
    have HCN := asideI hcn
    clear hcn
    by_cases hlt : z < d.zs.length
    · have hz : (z : Int) < (d.zs.length : Int) := by omega
      have hw : IntKind.i64.wrap ((z : Int) + 1) = (z : Int) + 1 := by rw [IntKind.wrap_i64]; omega
      have hwc : IntKind.i64.wrap (12 - cn - 1) = 12 - cn - 1 := by rw [IntKind.wrap_i64]; omega
      by_cases hs : stD d z = 1
      · rw [hs] at HS
        rw [if_pos hs] at hcs
        have HCS := asideI hcs
        clear hs hcs
        go_wp2_with (first
          | (go_at_call 56; refine (zones_raw HD2.out).mono ?_; rintro e w4 ⟨rfl, h4w⟩; obtain rfl := h4w.symm; simp only [])
          | (go_at_call 21; refine HS.out.mono ?_; rintro e w5 ⟨rfl, hx5⟩; have HX5 := asideI hx5; clear hx5; simp only [])
          | go_in)
        go_roundg (d.zs.length - (z + 1))
        case measure => omega
        case rel => exact ⟨z + 1, by simp, by rw [HCS.out]; congr 1; omega, by omega, by omega, by omega, H2.out.trans HX5.out⟩
      · have hsb : (stD d z == 1) = false := by simpa using hs
        rw [if_neg hs] at hcs
        have HCS := asideI hcs
        clear hcs
        generalize stD d z = sv at HS hs hsb
        go_wp2_with (first
          | (go_at_call 56; refine (zones_raw HD2.out).mono ?_; rintro e w4 ⟨rfl, h4w⟩; obtain rfl := h4w.symm; simp only [])
          | (go_at_call 21; refine HS.out.mono ?_; rintro e w5 ⟨rfl, hx5⟩; have HX5 := asideI hx5; clear hx5; simp only [])
          | go_in)
        go_roundg (d.zs.length - (z + 1))
        case measure => omega
        case rel => exact ⟨z + 1, by simp, by rw [HCS.out]; congr 1; omega, by omega, by omega, by omega, H2.out.trans HX5.out⟩
    · obtain rfl : z = d.zs.length := by omega
      have hmx : max (0 : Int) (12 - cn) = roomD d := by unfold roomD; rw [HCN.out]
      go_wp2_with (first
        | (go_at_call 56; refine (zones_raw HD2.out).mono ?_; rintro e w4 ⟨rfl, h4w⟩; obtain rfl := h4w.symm; simp only [])
        | go_in)
      all_goals go_ret
      all_goals
        refine ⟨?_, H2.out⟩
        rw [← hmx]
        first
          | rfl
          | (simp; done)
          | (simp; omega)
          | (congr 2; omega)
def nextD (d : Dv) (S : List Int) : Int × Int := match ofD d S 0 with
  | [] => (0, 9)
  | z :: _ => if roomD d = 0 then (0, 14) else (z, 0)
def StR (w : World) (v : Value) (cs : List (List Int)) : Prop := StOK w v cs
theorem next_raw2 (hS : SortC) {w : World} {q : Dp} {d : Dv} (hD : DevAt w q d) (h2 : 2 ≤ d.zs.length) {v : Value} {cs : List (List Int)} (h : StOK w v cs) : Calls Try.prog 24 #[.pointer (some ⟨q.p, 0, none⟩), v] w fun e w' => e = .returned (.tuple #[.int .i64 (nextD d cs.flatten).1, .int .i64 (nextD d cs.flatten).2]) ∧ Ext (fun _ => False) w w' := by
  have hv := h.st
  obtain ⟨nx, tp, tn, tc, cp, cc, rfl, hC⟩ := hv
  have HX := asideI (ext_alloc1 w (.cells #[.int .i64 nx, .slice tp tn tc, .slice cp cs.length cc] 58))
  have hO := of_raw hS (hD.ext HX.out) (h.st.ext HX.out) h.n h.c h.i 0
  have HO : Aside (Calls Try.prog 55 #[.pointer (some ⟨q.p, 0, none⟩), .agg #[.int .i64 nx, .slice tp tn tc, .slice cp cs.length cc], .int .u8 0] _ _) := hO
  have HD := asideI (hD.ext HX.out)
  clear hC h hD hO
  show Calls Try.prog 24 #[.pointer (some ⟨q.p, 0, none⟩), .agg #[.int .i64 nx, .slice tp tn tc, .slice cp cs.length cc]] w _
  rcases hl : ofD d cs.flatten 0 with _ | ⟨z, t⟩
  · have hN : nextD d cs.flatten = (0, 9) := by unfold nextD; rw [hl]
    rw [hN]
    rw [hl] at HO
    clear hl hN
    go_enter Try.func24, Try.ntmps24
    go_wp2_with (first
      | (go_at_call 55; refine HO.out.mono ?_
         rintro e w1 ⟨zv, rfl, hu1, hu2⟩
         obtain ⟨zp, zc, rfl⟩ := own_slice hu1
         have HR := asideI (And.intro hu1 hu2)
         clear hu1 hu2
         simp only [])
      | go_in)
    go_ret2
    exact ⟨rfl, HX.out.trans HR.out.2⟩
  · have hN : nextD d cs.flatten = if roomD d = 0 then (0, 14) else (z, 0) := by unfold nextD; rw [hl]
    rw [hN]
    rw [hl] at HO
    clear hl hN
    have hne : ¬ ((t.length : Int) + 1 = 0) := by omega
    by_cases hr : roomD d = 0
    · rw [if_pos hr]
      have HRM := asideI (fun (W : World) (k : Ext (fun _ => False) (w.alloc (.cells #[.int .i64 nx, .slice tp tn tc, .slice cp cs.length cc] 58)) W) => room_raw (HD.out.ext k) h2)
      rw [hr] at HRM
      clear hr
      go_enter Try.func24, Try.ntmps24
      go_wp2_with (first
        | (go_at_call 26; refine (HRM.out _ HR.out.2).mono ?_; rintro e w2 ⟨rfl, hx2⟩; have HX2 := asideI hx2; clear hx2; simp only [])
        | (go_at_call 55; refine HO.out.mono ?_
           rintro e w1 ⟨zv, rfl, hu1, hu2⟩
           obtain ⟨zp, zc, rfl⟩ := own_slice hu1
           have HR := asideI (And.intro hu1 hu2)
           clear hu1 hu2
           simp only [])
        | go_in)
      go_ret2
      exact ⟨rfl, (HX.out.trans HR.out.2).trans HX2.out⟩
    · rw [if_neg hr]
      have HRM := asideI (fun (W : World) (k : Ext (fun _ => False) (w.alloc (.cells #[.int .i64 nx, .slice tp tn tc, .slice cp cs.length cc] 58)) W) => room_raw (HD.out.ext k) h2)
      have hrb : (roomD d == 0) = false := by simpa using hr
      generalize roomD d = rm at HRM hr hrb
      go_enter Try.func24, Try.ntmps24
      go_wp2_with (first
        | (go_at_call 26; refine (HRM.out _ HR.out.2).mono ?_; rintro e w2 ⟨rfl, hx2⟩; have HX2 := asideI hx2; have hz0 := (cell_ext hx2 hz0); clear hx2; simp only [])
        | (go_at_call 55; refine HO.out.mono ?_
           rintro e w1 ⟨zv, rfl, hu1, hu2⟩
           obtain ⟨zb, zc, rfl, _, _, hz0⟩ := row_cell hu1 (i := 0) (by simp)
           have HR := asideI (And.intro hu1 hu2)
           clear hu1 hu2
           simp only [])
        | go_in)
      go_ret2
      exact ⟨rfl, (HX.out.trans HR.out.2).trans HX2.out⟩
end Go.Proofs.Ytifemhfpcichfaa

/- Zalloc: Sweep; a state that owns some zones (the walks). -/

set_option linter.unusedSimpArgs false
set_option linter.unusedVariables false
set_option maxHeartbeats 4000000
set_option maxRecDepth 1000000
namespace Go.Proofs.Ytifemhfpcichfaa
open Go.RowKit
open Go.Av Go.Maps

def sweepD (d : Dv) (S : List Int) : Dv × Int × Int := match ofD d S 3 with
  | [] => (d, 0, 8)
  | z :: _ => if (resetD d z).2 = 0 then ((resetD d z).1, z, 0) else ((resetD d z).1, 0, (resetD d z).2)
theorem sweep_raw (hS : SortC) {w : World} {q : Dp} {d : Dv} (hD : DevAt w q d) (hw : ∀ i, i < d.zs.length → (d.zs.getD i z0).wr ≤ 100000) {v : Value} {cs : List (List Int)} (h : StOK w v cs) :
    Calls Try.prog 34 #[.pointer (some ⟨q.p, 0, none⟩), v] w fun e w' => e = .returned (.tuple #[.int .i64 (sweepD d cs.flatten).2.1, .int .i64 (sweepD d cs.flatten).2.2]) ∧ EffD q w w' (sweepD d cs.flatten).1 := by
  have hv := h.st
  obtain ⟨nx, tp, tn, tc, cp, cc, rfl, hC⟩ := hv
  have HX := asideI (ext_alloc1 w (.cells #[.int .i64 nx, .slice tp tn tc, .slice cp cs.length cc] 58))
  have hO := waiting_raw hS (hD.ext HX.out) (h.ext HX.out)
  have HO : Aside (Calls Try.prog 33 #[.pointer (some ⟨q.p, 0, none⟩), .agg #[.int .i64 nx, .slice tp tn tc, .slice cp cs.length cc]] _ _) := hO
  have HD := asideI (hD.ext HX.out)
  clear hC h hD hO
  show Calls Try.prog 34 #[.pointer (some ⟨q.p, 0, none⟩), .agg #[.int .i64 nx, .slice tp tn tc, .slice cp cs.length cc]] w _
  rcases hl : ofD d cs.flatten 3 with _ | ⟨z, t⟩
  · have hN : sweepD d cs.flatten = (d, 0, 8) := by unfold sweepD; rw [hl]
    rw [hN]
    rw [hl] at HO
    clear hl hN
    go_enter Try.func34, Try.ntmps34
    go_wp2_with (first
      | (go_at_call 33; refine HO.out.mono ?_
         rintro e w1 ⟨zv, rfl, hu1, hu2⟩
         obtain ⟨zp, zc, rfl⟩ := own_slice hu1
         have HR := asideI (And.intro hu1 hu2)
         clear hu1 hu2
         simp only [])
      | go_in)
    go_ret2
    exact ⟨rfl, HD.out.ext HR.out.2, extQ (HX.out.trans HR.out.2)⟩
  · have hN : sweepD d cs.flatten = if (resetD d z).2 = 0 then ((resetD d z).1, z, 0) else ((resetD d z).1, 0, (resetD d z).2) := by unfold sweepD; rw [hl]
    rw [hN]
    rw [hl] at HO
    clear hl hN
    have hne : ¬ ((t.length : Int) + 1 = 0) := by omega
    have HRS := asideI (fun (W : World) (k : DevAt W q d) => reset_raw k z hw)
    by_cases hr : (resetD d z).2 = 0
    · rw [if_pos hr]
      rw [hr] at HRS
      generalize (resetD d z).1 = d2 at HRS ⊢
      clear hr hw
      go_enter Try.func34, Try.ntmps34
      go_wp2_with (first
        | (go_at_call 13; refine (HRS.out _ (HD.out.ext HR.out.2)).mono ?_; rintro e w2 ⟨rfl, hd2, hx2⟩; have HD2 := asideI hd2; have HX2 := asideI hx2
           have hz0' := (World.cell?_of_block (hx2.block zb (by have := HZB.out.2; omega) HZB.out.1)).trans hz0
           clear hd2 hx2 hz0; simp only [])
        | (go_at_call 33; refine HO.out.mono ?_
           rintro e w1 ⟨zv, rfl, hu1, hu2⟩
           obtain ⟨zb, zc, rfl, hb1, hb2, hz0⟩ := row_cell hu1 (i := 0) (by simp)
           have HR := asideI (And.intro hu1 hu2)
           have HZB : Aside (¬ EQ q zb ∧ zb < w1.heap.size) := ⟨fun e => by obtain ⟨l0, l1, l2⟩ := HD.out.lt; rcases e with e | e | e <;> omega, hb2⟩
           clear hu1 hu2 hb1 hb2
           simp only [])
        | go_in)
      go_ret2
      exact ⟨rfl, HD2.out, (extQ (HX.out.trans HR.out.2)).trans HX2.out⟩
    · rw [if_neg hr]
      have hrb : ((resetD d z).2 == 0) = false := by simpa using hr
      generalize (resetD d z).1 = d2 at HRS ⊢
      generalize (resetD d z).2 = rr at HRS hr hrb ⊢
      clear hw
      go_enter Try.func34, Try.ntmps34
      go_wp2_with (first
        | (go_at_call 13; refine (HRS.out _ (HD.out.ext HR.out.2)).mono ?_; rintro e w2 ⟨rfl, hd2, hx2⟩; have HD2 := asideI hd2; have HX2 := asideI hx2
           clear hd2 hx2 hz0; simp only [])
        | (go_at_call 33; refine HO.out.mono ?_
           rintro e w1 ⟨zv, rfl, hu1, hu2⟩
           obtain ⟨zb, zc, rfl, hb1, hb2, hz0⟩ := row_cell hu1 (i := 0) (by simp)
           have HR := asideI (And.intro hu1 hu2)
           clear hu1 hu2 hb1 hb2
           simp only [])
        | go_in)
      go_ret2
      exact ⟨rfl, HD2.out, (extQ (HX.out.trans HR.out.2)).trans HX2.out⟩
end Go.Proofs.Ytifemhfpcichfaa

/- Zalloc: a state that owns some zones (the walk). -/


set_option linter.unusedSimpArgs false
set_option linter.unusedVariables false
set_option maxHeartbeats 4000000
set_option maxRecDepth 1000000
namespace Go.Proofs.Ytifemhfpcichfaa
open Go.RowKit
open Go.Av Go.Maps

/-- Numbers that may be read. -/
def IntsW (w : World) (p : Option Addr) (xs : List Int) : Prop := ∀ i, i < xs.length → ∃ b o, p = some ⟨b, o, none⟩ ∧ w.cell? ⟨b, o + i, none⟩ = some (.int .i64 (xs.getD i 0))
def L2 (xs : List Int) : List Value := xs.flatMap fun z => [.int .i64 z, .int .i64 0]
theorem L2_len (xs : List Int) : (L2 xs).length = xs.length * 2 := by
  induction xs with
  | nil => rfl
  | cons x r ih => simp only [L2, List.flatMap_cons, List.length_append, List.length_cons, List.length_nil] at ih ⊢; omega
theorem two_new (W : World) (z : Value) (u : Value) (t : TypeId) (b : Nat) (hb : W.heap.size = b) : ∀ j x, [z, u][j]? = some x → (W.alloc (.cells #[z, u] t)).cell? ((⟨b, 0, none⟩ : Addr).add j) = some x := by
  intro j x hj
  have h : (W.alloc (.cells #[z, u] t)).heap[b]? = some (.cells #[z, u] t) := by rw [alloc_get, if_pos hb.symm]
  rw [Addr.add_lit, cell_of_block h, Nat.zero_add]
  match j with
  | 0 => simpa using hj
  | 1 => simpa using hj
  | j + 2 => simp at hj
structure OInv (w wr : World) (g : Nat) (xs : List Int) (lv : Value) : Prop where
  box : wr.heap[g]? = some (.cells #[.int .i64 0, .int .i64 0, .int .i64 0, lv] 98)
  own : wr.ownsRow (g + 1) 100 2 lv xs.length (L2 xs)
  ext : Ext (fun _ => False) w wr
theorem OInv.next {w wr Wn w6 : World} {g : Nat} {xs : List Int} {lv v' : Value} {z : Int} (h : OInv w wr g xs lv) (hg : w.heap.size ≤ g) (k : Ext (fun _ => False) wr Wn) (h1 : w6.ownsRow (g + 1) 100 2 v' (xs.length + 1) (L2 xs ++ [.int .i64 z, .int .i64 0])) (h2 : Wn.grownBy w6 lv.ownBlock) :
    w6.heap[g]? = some (.cells #[.int .i64 0, .int .i64 0, .int .i64 0, lv] 98) ∧ OInv w (w6.setCell ⟨g, 3, none⟩ v') g (xs ++ [z]) v' := by
  have hlt := (Array.getElem?_eq_some_iff.1 h.box).1
  have hne : some g ≠ lv.ownBlock := by
    rcases h.own.2 with ⟨e, _⟩ | ⟨g', cap, cur, e, hg, _⟩
    · rw [e]; simp [Value.ownBlock]
    · rw [e]; simp only [Value.ownBlock]; intro q; injection q with q; omega
  have hb : w6.heap[g]? = some (.cells #[.int .i64 0, .int .i64 0, .int .i64 0, lv] 98) := (h2.5 g (Nat.lt_of_lt_of_le hlt k.size) hne).trans ((k.block g hlt id).trans h.box)
  have hx := grown_ext (w0 := w) (own_ext h.own k) h2 (by omega) (h.ext.trans k)
  refine ⟨hb, blk_same hb _, ?_, extF hx (ext_set1 w6 g 3 v') (fun b e => by have e2 : b = g := e; omega)⟩
  have e : L2 (xs ++ [z]) = L2 xs ++ [.int .i64 z, .int .i64 0] := by simp [L2]
  rw [e, List.length_append]
  refine ⟨h1.1, ?_⟩
  rcases h1.2 with q | ⟨g', cap, cur, e1, e2, e3, e4⟩
  · exact .inl q
  · exact .inr ⟨g', cap, cur, e1, e2, (blk_other (by omega) _).trans e3, e4⟩
theorem L2_get : ∀ (xs : List Int) (k : Nat), k < xs.length → (L2 xs)[k * 2]? = some (.int .i64 (xs.getD k 0)) ∧ (L2 xs)[k * 2 + 1]? = some (.int .i64 0)
  | [], k, h => by simp at h
  | x :: xs, 0, _ => ⟨rfl, rfl⟩
  | x :: xs, k + 1, h => by
    have := L2_get xs k (by simpa using h)
    have e : L2 (x :: xs) = [.int .i64 x, .int .i64 0] ++ L2 xs := rfl
    rw [e]
    refine ⟨?_, ?_⟩
    · rw [List.getElem?_append_right (by simp; omega), show (k + 1) * 2 - [Value.int .i64 x, Value.int .i64 0].length = k * 2 by simp; omega, this.1]
      simp
    · rw [List.getElem?_append_right (by simp; omega), show (k + 1) * 2 + 1 - [Value.int .i64 x, Value.int .i64 0].length = k * 2 + 1 by simp; omega, this.2]
theorem lk_of_own {w : World} {base : Nat} {p : Option Addr} {c : Nat} {xs : List Int} (h : w.ownsRow base 100 2 (.slice p xs.length c) xs.length (L2 xs)) : LkW w p xs := by
  intro k hk
  rcases h.2 with ⟨_, h2⟩ | ⟨g, cap, cur, h1, h2, h3, h4, h5, h6, h7⟩
  · omega
  · cases h1
    obtain ⟨a1, a2⟩ := L2_get xs k hk
    refine ⟨g, 0, 0, rfl, ?_, ?_⟩
    · rw [cell_of_block h3, ← a1, ← h7, List.getElem?_take_of_lt (by omega), Array.getElem?_toList, Nat.zero_add]
    · rw [cell_of_block h3, ← a2, ← h7, List.getElem?_take_of_lt (by omega), Array.getElem?_toList, Nat.zero_add]
theorem owned_raw {w : World} {p : Option Addr} {c : Nat} {xs : List Int} (hxs : IntsW w p xs) (hn : xs.length ≤ 1000) (hI : ∀ z ∈ xs, I64 z) :
    Calls Try.prog 25 #[.slice p xs.length c] w fun e w' => ∃ v, e = .returned v ∧ StOK w' v [xs] ∧ Ext (fun _ => False) w w' := by
  obtain ⟨i0, hi, hz0, hz1, hz2⟩ := info_parts (P := Try.prog) (e := 100) (z := .agg #[.int .i64 0, .int .i64 0]) (size := 2) (bytes := 16) (by kernel_rfl)
  have hu : Try.prog.underlying 96 = some (.slice 100) := by kernel_rfl
  have HI := asideI hi
  have HZ0 := asideI hz0
  have HZ1 := asideI hz1
  have HZ2 := asideI hz2
  have HU := asideI hu
  have HXS := asideI hxs
  clear hi hz0 hz1 hz2 hu hxs
  go_enter Try.func25, Try.ntmps25
  go_wp2
  go_loopg [4] xs.length (fun gg s4 wr => ∃ (i : Nat), s4 = .int .i64 i ∧ i ≤ xs.length ∧ xs.length - i ≤ gg ∧ Aside (∃ lv, OInv w wr (w.heap.size + 1) (xs.take i) lv ∧ wr.heap[w.heap.size]? = some (.cells #[.int .i64 0, .slice none 0 0, .slice none 0 0] 58)))
  case atStart =>
    refine ⟨0, rfl, by omega, by omega, .slice none 0 0, ⟨?_, ⟨rfl, .inl ⟨rfl, rfl⟩⟩, (ext_alloc1 _ _).trans (ext_alloc1 _ _)⟩, ?_⟩
    · rw [alloc_get, if_pos (by simp)]
    · rw [alloc_get, if_neg (by simp), alloc_get, if_pos rfl]
  case round =>
    obtain ⟨i, rfl, hi2, hgg, H2⟩ := hrel
    obtain ⟨lv, hO, hT⟩ := H2.out
    obtain ⟨sp, sc, rfl⟩ := own_slice hO.own
    have HO := asideI hO
    have HT := asideI hT
    have hb := hO.box
    have c3 : wr.cell? ⟨w.heap.size + 1, 3, none⟩ = some (.slice sp (xs.take i).length sc) := by simp [World.cell?, hb]
    by_cases hlt : i < xs.length
    · have hz : (i : Int) < (xs.length : Int) := by omega
      have hw : IntKind.i64.wrap ((i : Int) + 1) = (i : Int) + 1 := by rw [IntKind.wrap_i64]; omega
      obtain ⟨b, o, rfl, hb3⟩ := HXS.out i hlt
      replace hb3 := cell_ext hO.ext hb3
      have htk : xs.take (i + 1) = xs.take i ++ [xs.getD i 0] := by rw [List.take_add_one, List.getD_eq_getElem?_getD, List.getElem?_eq_getElem hlt]; rfl
      have hll : (xs.take i).length ≤ 1000 := by rw [List.length_take]; omega
      generalize xs.getD i 0 = zz at hb3 htk
      have HTK := asideI htk
      clear htk H2 hO hT hb
      generalize hys : xs.take i = ys at HO c3 hll
      have HYS := asideI hys
      clear hys
      go_wp2
      have hone : ∀ u ∈ [Value.int .i64 zz, Value.int .i64 0], u.oneCell' = true := fun u hu => by
        simp only [List.mem_cons, List.not_mem_nil, or_false] at hu
        rcases hu with rfl | rfl <;> rfl
      have hbs : w.heap.size + 1 + 1 ≤ wr.heap.size := (Array.getElem?_eq_some_iff.1 HO.out.box).1
      have hds : (wr.alloc (.cells #[.int .i64 zz, .int .i64 0] 100)).drew.heap.size = wr.heap.size + 1 := by show (wr.alloc _).heap.size = _; simp
      have HEX := asideI ((ext_alloc1 wr (.cells #[.int .i64 zz, .int .i64 0] 100)).trans (ext_drew _))
      have htw : ∀ j x, [Value.int .i64 zz, Value.int .i64 0][j]? = some x → ((wr.alloc (.cells #[.int .i64 zz, .int .i64 0] 100)).drew).cell? ((⟨wr.heap.size, 0, none⟩ : Addr).add j) = some x := fun j x hj => two_new wr _ _ _ _ rfl j x hj
      have HTW := asideI htw
      clear htw
      have hl63 : ys.length + 1 ≤ maxLen := by unfold maxLen; omega
      have hg1 : w.heap.size + 1 < wr.heap.size := by omega
      have hg2 : ¬ w.heap.size + 1 = wr.heap.size := by omega
      go_region_law (refine wp_append_own _ (.tmp 13) (.tmp 19) 96 rfl (w.heap.size + 1 + 1) 100 i0 (.agg #[.int .i64 0, .int .i64 0]) 2 16 HU.out HI.out HZ0.out HZ1.out HZ2.out rfl (by decide) (.slice sp ys.length sc) ys.length (L2 ys) (by simp [Act.eval, Act.put]) (own_ext HO.out.own HEX.out) ⟨wr.heap.size, 0, none⟩ 1 1 [.int .i64 zz, .int .i64 0] (by simp [Act.eval, Act.put]) rfl HTW.out hone hl63 (by omega) (by rw [hds]; omega) ?_
                     intro v' w6 hown6 hgrow hnil
                     obtain ⟨p6, c6, rfl⟩ := own_slice hown6
                     have hnx := OInv.next HO.out (by omega) HEX.out hown6 hgrow
                     have hf := hnx.1
                     have hfz : w6.frozen? ⟨w.heap.size + 1, 3, none⟩ = false := by simp [World.frozen?, hf]
                     have hfc : w6.cell? ⟨w.heap.size + 1, 3, none⟩ = some (.slice sp ys.length sc) := by simp [World.cell?, hf]
                     have HNX := asideI hnx.2
                     have HT6 : Aside (w6.heap[w.heap.size]? = some (.cells #[.int .i64 0, .slice none 0 0, .slice none 0 0] 58)) := by
                       refine (hgrow.5 w.heap.size (by rw [hds]; omega) ?_).trans ((HEX.out.block w.heap.size (by omega) id).trans HT.out)
                       rcases HO.out.own.2 with ⟨e, _⟩ | ⟨g', cap, cur, e, hg, _⟩
                       · rw [e]; simp [Value.ownBlock]
                       · rw [e]; simp only [Value.ownBlock]; intro q; injection q with q; omega
                     clear hown6 hgrow hnil hnx hf)
      all_goals (
        go_wp2
        go_roundg (xs.length - (i + 1))
        case measure => omega
        case rel => exact ⟨i + 1, by simp, by omega, by omega, _, by rw [HTK.out, HYS.out]; exact HNX.out, (blk_other (by omega) _).trans HT6.out⟩)
    · obtain rfl : i = xs.length := by omega
      have hO2 := HO.out
      rw [List.take_length] at hO2
      have c0 : wr.cell? ⟨w.heap.size + 1, 0, none⟩ = some (.int .i64 0) := by simp [World.cell?, hb]
      have c1 : wr.cell? ⟨w.heap.size + 1, 1, none⟩ = some (.int .i64 0) := by simp [World.cell?, hb]
      have c2 : wr.cell? ⟨w.heap.size + 1, 2, none⟩ = some (.int .i64 0) := by simp [World.cell?, hb]
      have d0 : wr.frozen? ⟨w.heap.size, 0, none⟩ = false := by simp [World.frozen?, hT]
      have d1 : wr.frozen? ⟨w.heap.size, 1, none⟩ = false := by simp [World.frozen?, hT]
      have d2 : wr.frozen? ⟨w.heap.size, 2, none⟩ = false := by simp [World.frozen?, hT]
      have hsz : w.heap.size + 1 < wr.heap.size := (Array.getElem?_eq_some_iff.1 hb).1
      have e0 : wr.cell? ⟨w.heap.size, 0, none⟩ = some (.int .i64 0) := by simp [World.cell?, hT]
      have e1 : wr.cell? ⟨w.heap.size, 1, none⟩ = some (.slice none 0 0) := by simp [World.cell?, hT]
      have e2 : wr.cell? ⟨w.heap.size, 2, none⟩ = some (.slice none 0 0) := by simp [World.cell?, hT]
      have g0 : w.heap.size < wr.heap.size := by omega
      have g1 : ¬ w.heap.size = wr.heap.size := by omega
      have g2 : ¬ w.heap.size = wr.heap.size + 1 := by omega
      have g3 : w.heap.size < wr.heap.size + 1 := by omega
      have g4 : w.heap.size + 1 < wr.heap.size + 1 := by omega
      have g5 : ¬ w.heap.size + 1 = wr.heap.size := by omega
      have HO2 := asideI hO2
      clear hO hb hT H2 hO2
      go_wp2
      obtain ⟨Y, hY⟩ : ∃ Y, Y = ((wr.setCell ⟨w.heap.size, 0, none⟩ (.int .i64 1)).setCell ⟨w.heap.size, 1, none⟩ (.slice (some ⟨wr.heap.size, 0, none⟩) 1 1)).setCell ⟨w.heap.size, 2, none⟩ (.slice (some ⟨wr.heap.size + 1, 0, none⟩) 1 1) := ⟨_, rfl⟩
      have y0 : Y.heap[w.heap.size]? = some (.cells #[.int .i64 1, .slice (some ⟨wr.heap.size, 0, none⟩) 1 1, .slice (some ⟨wr.heap.size + 1, 0, none⟩) 1 1] 58) := by rw [hY]; exact blk_same (blk_same (blk_same HT.out _) _) _
      have ys : Y.heap.size = wr.heap.size := by rw [hY]; simp [World.setCell]
      have yx : Ext (fun k => k = w.heap.size) wr Y := by rw [hY]; exact ((ext_set1 wr w.heap.size 0 _).trans (ext_set1 _ w.heap.size 1 _)).trans (ext_set1 _ w.heap.size 2 _)
      rw [← hY]
      clear hY
      obtain ⟨Z, hZ⟩ : ∃ Z, Z = (Y.alloc (.cells #[.int .i64 0, .string ⟨#[97]⟩, .int .i64 1, .bool false] 102)).alloc (.cells #[.int .i64 0, .int .i64 0, .int .i64 0, .slice sp xs.length sc] 98) := ⟨_, rfl⟩
      have z0 : Z.heap[w.heap.size]? = some (.cells #[.int .i64 1, .slice (some ⟨wr.heap.size, 0, none⟩) 1 1, .slice (some ⟨wr.heap.size + 1, 0, none⟩) 1 1] 58) := by rw [hZ, alloc_get, if_neg (by simp; omega), alloc_get, if_neg (by omega)]; exact y0
      have z1 : Z.heap[wr.heap.size + 1]? = some (.cells #[.int .i64 0, .int .i64 0, .int .i64 0, .slice sp xs.length sc] 98) := by rw [hZ, alloc_get, if_pos (by simp; omega)]
      have zx : Ext (fun _ => False) Y Z := by rw [hZ]; exact (ext_alloc1 _ _).trans (ext_alloc1 _ _)
      rw [← hZ]
      clear hZ
      refine bodyPost_ret (results_cell_row rfl _ _ w.heap.size _ _ _ _ rfl z0 (show Try.prog.underlying 58 = some (Try.prog.underlying 58).get! by kernel_rfl) (by kernel_rfl) (by kernel_rfl)) rfl ?_
      have hxx : Ext (fun _ => False) w Z := extF HO2.out.ext ((yx.mono (T' := fun k => k = w.heap.size) fun _ e => e).trans (zx.mono fun _ e => e.elim)) (fun b e => by have e2 : b = w.heap.size := e; omega)
      refine ⟨_, rfl, ⟨⟨1, _, 1, 1, _, 1, rfl, ?_⟩, by simpa using Nat.le_trans hn (by omega), by simp, by simpa using hI⟩, hxx⟩
      intro j hj
      have e : j = 0 := by simpa using hj
      subst e
      refine ⟨wr.heap.size + 1, 0, 0, 0, 0, sp, sc, rfl, ⟨?_, ?_, ?_, ?_⟩, ?_⟩
      · simp [World.cell?, z1]
      · simp [World.cell?, z1]
      · simp [World.cell?, z1]
      · simp [World.cell?, z1]
      · refine lk_of_own (w := Z) (base := w.heap.size + 1 + 1) (c := sc) ?_
        refine ⟨HO2.out.own.1, ?_⟩
        rcases HO2.out.own.2 with q | ⟨g', cap, cur, q1, q2, q3, q4⟩
        · exact .inl q
        · have hl := (Array.getElem?_eq_some_iff.1 q3).1
          exact .inr ⟨g', cap, cur, q1, q2, (zx.block g' (by rw [ys]; exact hl) id).trans ((yx.block g' hl (by omega)).trans q3), q4⟩
end Go.Proofs.Ytifemhfpcichfaa

/- Zalloc: the sort of a row of numbers, off the shelf, in plain words. -/




namespace Go.Proofs.Ytifemhfpcichfaa

open Go.Shelf
def Try.sort67_ren : Go.Shelf.Ren := ⟨fun | 5 => 67 | 8 => 69 | 7 => 68 | 19 => 79 | 20 => 80 | 10 => 70 | 11 => 71 | 12 => 72 | 13 => 73 | 14 => 74 | 15 => 75 | 16 => 76 | 17 => 77 | 18 => 78 | 30 => 81 | 31 => 82 | 32 => 83 | 33 => 84 | 34 => 85 | 35 => 86 | 40 => 87 | n => n, fun | 23 => 53 | 25 => 3 | 3 => 3 | 32 => 117 | 22 => 53 | 0 => 0 | 44 => 128 | 46 => 130 | 4 => 4 | 36 => 120 | 35 => 119 | 41 => 125 | 5 => 5 | 9 => 9 | 53 => 131 | 57 => 135 | 63 => 137 | 64 => 138 | n => n, fun | n => n⟩
theorem Try.sort67 : Go.Proofs.SlLaysM.n5 Try.prog Try.sort67_ren := {
  mixed := by kernel_rfl
  f5 := ⟨Try.f67.name, by decide, Try.func67.trans (congrArg some (by kernel_rfl))⟩
  f7 := ⟨Try.f68.name, by decide, Try.func68.trans (congrArg some (by kernel_rfl))⟩
  f8 := Try.func69.trans (congrArg some (by kernel_rfl))
  f10 := ⟨Try.f70.name, by decide, Try.func70.trans (congrArg some (by kernel_rfl))⟩
  f11 := ⟨Try.f71.name, by decide, Try.func71.trans (congrArg some (by kernel_rfl))⟩
  f12 := ⟨Try.f72.name, by decide, Try.func72.trans (congrArg some (by kernel_rfl))⟩
  f13 := ⟨Try.f73.name, by decide, Try.func73.trans (congrArg some (by kernel_rfl))⟩
  f14 := ⟨Try.f74.name, by decide, Try.func74.trans (congrArg some (by kernel_rfl))⟩
  f15 := ⟨Try.f75.name, by decide, Try.func75.trans (congrArg some (by kernel_rfl))⟩
  f16 := ⟨Try.f76.name, by decide, Try.func76.trans (congrArg some (by kernel_rfl))⟩
  f17 := ⟨Try.f77.name, by decide, Try.func77.trans (congrArg some (by kernel_rfl))⟩
  f18 := ⟨Try.f78.name, by decide, Try.func78.trans (congrArg some (by kernel_rfl))⟩
  f19 := Try.func79.trans (congrArg some (by kernel_rfl))
  f20 := Try.func80.trans (congrArg some (by kernel_rfl))
  f30 := ⟨Try.f81.name, by decide, Try.func81.trans (congrArg some (by kernel_rfl))⟩
  f31 := Try.func82.trans (congrArg some (by kernel_rfl))
  f32 := Try.func83.trans (congrArg some (by kernel_rfl))
  f33 := ⟨Try.f84.name, by decide, Try.func84.trans (congrArg some (by kernel_rfl))⟩
  f34 := ⟨Try.f85.name, by decide, Try.func85.trans (congrArg some (by kernel_rfl))⟩
  f35 := ⟨Try.f86.name, by decide, Try.func86.trans (congrArg some (by kernel_rfl))⟩
  f40 := ⟨Try.f87.name, by decide, Try.func87.trans (congrArg some (by kernel_rfl))⟩
  t0 := Try.underlying0
  a0 := Try.isAgg0
  z0 := Try.sizeOf0
  v0 := Try.zeroValue0
  t3 := Try.underlying3
  a3 := Try.isAgg3
  z3 := Try.sizeOf3
  v3 := Try.zeroValue3
  t4 := Try.underlying4
  a4 := Try.isAgg4
  z4 := Try.sizeOf4
  v4 := Try.zeroValue4
  t5 := Try.underlying5
  a5 := Try.isAgg5
  z5 := Try.sizeOf5
  v5 := Try.zeroValue5
  t9 := Try.underlying9
  a9 := Try.isAgg9
  z9 := Try.sizeOf9
  v9 := Try.zeroValue9
  t22 := Try.underlying53
  a22 := Try.isAgg53
  z22 := Try.sizeOf53
  v22 := Try.zeroValue53
  t23 := Try.underlying53
  a23 := Try.isAgg53
  z23 := Try.sizeOf53
  v23 := Try.zeroValue53
  t25 := Try.underlying3
  a25 := Try.isAgg3
  z25 := Try.sizeOf3
  v25 := Try.zeroValue3
  t32 := Try.underlying117
  a32 := Try.isAgg117
  z32 := Try.sizeOf117
  v32 := Try.zeroValue117
  t35 := Try.underlying119
  a35 := Try.isAgg119
  z35 := Try.sizeOf119
  v35 := Try.zeroValue119
  t36 := Try.underlying120
  a36 := Try.isAgg120
  z36 := Try.sizeOf120
  v36 := Try.zeroValue120
  t41 := Try.underlying125
  a41 := Try.isAgg125
  z41 := Try.sizeOf125
  v41 := Try.zeroValue125
  t44 := Try.underlying128
  a44 := Try.isAgg128
  z44 := Try.sizeOf128
  v44 := Try.zeroValue128
  t46 := Try.underlying130
  a46 := Try.isAgg130
  z46 := Try.sizeOf130
  v46 := Try.zeroValue130
  t53 := Try.underlying131
  a53 := Try.isAgg131
  z53 := Try.sizeOf131
  v53 := Try.zeroValue131
  t57 := Try.underlying135
  a57 := Try.isAgg135
  z57 := Try.sizeOf135
  v57 := Try.zeroValue135
  t63 := Try.underlying137
  a63 := Try.isAgg137
  z63 := Try.sizeOf137
  v63 := Try.zeroValue137
  t64 := Try.underlying138
  a64 := Try.isAgg138
  z64 := Try.sizeOf138
  v64 := Try.zeroValue138 }
end Go.Proofs.Ytifemhfpcichfaa

/- Zalloc: the sort of a state's zones, off the shelf. -/








set_option linter.unusedSimpArgs false
set_option linter.unusedVariables false
set_option maxHeartbeats 4000000
namespace Go.Proofs.Ytifemhfpcichfaa

open Go.RowKit Go.Maps Go.Sort Go.Shelf Go.Av
theorem sort67 : SortC := by
  intro W base v ts hb hown
  by_cases hv : v = .slice none 0 0
  · subst hv
    have ht : ts = [] := by
      rcases hown.2 with ⟨_, h⟩ | ⟨g, cap, cur, h, _⟩
      · exact List.eq_nil_of_length_eq_zero h
      · cases h
    subst ht
    refine (AnyM.slices_Sort_int_none Try.sort67 none 0 W).mono ?_
    rintro e w' ⟨rfl, rfl⟩
    exact ⟨rfl, [], fun z => Iff.rfl, rfl, hown, ⟨rfl, rfl, rfl, Nat.le_refl _, fun _ _ _ => rfl⟩⟩
  · obtain ⟨g, cap, rfl, hbg, hgl, hncap, hcm, hlen, hH⟩ := Lib.holds_of_ownsRow hown hv
    refine (AnyM.slices_Sort_int Try.sort67 g 0 cap ts W hH hgl (by omega)).mono ?_
    rintro e w' ⟨rfl, n, os, rfl⟩
    have hp := List.mergeSort_perm ts (fun x y => decide (x ≤ y))
    rcases hown.2 with ⟨h0, _⟩ | ⟨g', cap', cur, hv', hbase, hgb, h1, h2, h3, h4⟩
    · exact absurd h0 hv
    cases hv'
    have hl2 : (ts.mergeSort fun x y => decide (x ≤ y)).length = ts.length := List.length_mergeSort ts
    refine ⟨rfl, ts.mergeSort fun x y => decide (x ≤ y), fun z => hp.mem_iff, hl2, ?_, grownBy_sortedI _⟩
    rw [hl2]
    exact ownsRow_sortedI (n := n) (os := os) hl2 hbase hgb h1 h2 h3
end Go.Proofs.Ytifemhfpcichfaa
