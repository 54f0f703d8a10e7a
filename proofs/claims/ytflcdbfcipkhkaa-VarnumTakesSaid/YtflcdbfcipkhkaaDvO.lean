/- Varnum: VarnumTakes (the walk, a nil array). -/
import Derived.Test.YtflcdbfcipkhkaaDvN
import Derived.Laws.AppendOwnNone

set_option linter.unusedSimpArgs false
set_option linter.unusedVariables false
set_option maxHeartbeats 40000000
set_option maxRecDepth 1000000
open Go.RowKit
namespace Go.Proofs.Ytflcdbfcipkhkaa
open Go.Av Go.Maps
theorem takes_nil {mu : Mem} {w0 : World} (hm : MemOK mu w0) {l : List Nat} (hB : Bytes l)  {bc : Nat} (hb : Rep mu (.sl 1 (bs l)) (.slice none l.length bc)) {ks : List Int} {cp : Option Addr} {cc : Nat} (hk : Rep mu (.sl 1 (ks.map fun x => SV.int .i64 x)) (.slice cp ks.length cc)) (s : ByteArray) (h1 : l.length ≤ 300) (h2 : ks.length ≤ 40) (h3 : s.size ≤ 300) :
    Calls Try.prog 3 #[.slice none l.length bc, .slice cp ks.length cc, .string s] w0 (LawV w0) := by
  obtain ⟨i0, hi, hz0, hz1, hz2⟩ := info_parts (P := Try.prog) (e := 5) (z := .int .u8 0) (size := 1) (bytes := 1) (by kernel_rfl)
  have hu : Try.prog.underlying 22 = some (.slice 5) := by kernel_rfl
  have HI := asideI hi
  have HZ0 := asideI hz0
  have HZ1 := asideI hz1
  have HZ2 := asideI hz2
  have HU := asideI hu
  have HMU := asideI hm
  have HBB := asideI hb
  have HKC := asideI (ints_cell hm hk)
  have HBY := asideI hB
  have h1i : ¬ (300 : Int) < (l.length : Int) := by omega
  have h2i : ¬ (40 : Int) < (ks.length : Int) := by omega
  have h3i : ¬ (300 : Int) < (s.size : Int) := by omega
  have hl0 : l = [] ∧ bc = 0 := by
    rcases hb.inv_sl with ⟨⟨pp, cap, e, hp⟩, hx⟩ | ⟨b, off, cap, vals, e, _⟩
    · injection e with e1 e2 e3
      exact ⟨by cases l with | nil => rfl | cons a r => simp [bs] at hx, by rw [e3]; exact hp e1.symm⟩
    · cases e
  obtain ⟨hl0, rfl⟩ := hl0
  have HL0 := asideI hl0
  clear hi hz0 hz1 hz2 hu hm hb hk hB hl0
  go_enter Try.func3, Try.ntmps3
  go_wp2_with (at_builtin; refine wpList_append_own_none rfl _ _ 22 rfl w0.heap.size 5 i0 1 HU.out HI.out _ 0 [] rfl (World.ownsRow_made w0 #[] 0 (Nat.le_refl _) (Nat.zero_le _) rfl) (by show Value.slice none l.length 0 = .slice none 0 0; rw [HL0.out]; rfl) ?_)
  have hown : (w0.alloc (.cells #[] 5)).ownsRow w0.heap.size 5 1 (.slice (some ⟨w0.heap.size, 0, none⟩) 0 0) l.length (vU l) := by rw [HL0.out]; exact World.ownsRow_made w0 #[] 0 (Nat.le_refl _) (Nat.zero_le _) rfl
  have hx1 := extA w0 (.cells #[] 5)
  generalize w0.alloc (Obj.cells #[] 5) = w1 at hown hx1 ⊢
  generalize Value.slice (some { block := w0.heap.size, off := 0 }) 0 0 = v' at hown ⊢
  obtain ⟨ip, ic, rfl⟩ : ∃ ip ic, v' = .slice ip l.length ic := by
    rcases hown.2 with ⟨h1, h2⟩ | ⟨g, cap, cur, h1, _⟩
    · rw [h1, h2]; exact ⟨_, _, rfl⟩
    · exact ⟨_, _, h1⟩
  have HNC := asideI (new_call (memX HMU.out hx1 (fun _ e => e.elim)) (base := w0.heap.size) (fun b j u e => HMU.out.lt e) hx1.size hown (by omega))
  have HRI := asideI (RowIn.of_own hown)
  have HX1 := asideI hx1
  clear hown hx1
  refine HNC.out.mono ?_
  rintro e w2 ⟨rb, mu2, rfl, k1, k2, k3, k4, k5, k6⟩
  have HK := asideI (And.intro k1 (And.intro k2 (And.intro k3 (And.intro k4 (And.intro k5 k6)))))
  clear k1 k2 k3 k4 k5 k6
  simp only []
  go_wp2
  have HRB : Aside (rb < w2.heap.size) := by
    obtain ⟨_, c, e, fr, h, _⟩ := HK.out.2.2.2.2.2
    exact (Array.getElem?_eq_some_iff.1 h).1
  have HMN : Aside (∀ b j, w2.heap.size ≤ b → mu2 b j = none) := fun b j hb => by
    cases e : mu2 b j with
    | none => rfl
    | some u => exact absurd (HK.out.2.2.1.lt e) (by omega)
  have HNG : Aside (∀ k, w0.heap.size ≤ k → k < w1.heap.size → k ≠ rb ∧ k ≠ w2.heap.size ∧ ∀ j, mu2 k j = none) := fun k h1 h2 => by
    have q1 := HK.out.2.1
    have q2 := HRB.out
    refine ⟨by omega, by omega, fun j => ?_⟩
    rw [HK.out.2.2.2.2.1 k j h2]
    cases e : mu k j with
    | none => rfl
    | some u => exact absurd (HMU.out.lt e) (by omega)
  go_loopg [10] l.length (fun gg s10 wr => ∃ (i : Nat), s10 = .int .i64 i ∧ i ≤ l.length ∧ l.length - i ≤ gg ∧ Aside (TI wr rb w2.heap.size mu mu2 l 0 l 0 none 0 ∧ RowIn wr w0.heap.size w1.heap.size (.slice ip l.length ic) l.length ∧ Ext (fun _ => False) w0 wr))
  case atStart =>
    refine ⟨0, rfl, by omega, by omega, ⟨memX HK.out.2.2.1 (extA _ _) (fun _ e => e.elim), heapKeep HK.out.2.2.2.2.2 (extA _ _) id, by rw [alloc_get, if_pos rfl], HBB.out.mono HK.out.2.2.2.1, fun j => HMN.out _ j (Nat.le_refl _), Nat.ne_of_lt HRB.out, HK.out.2.2.2.1⟩, (HRI.out.ext (Nat.le_refl _) HK.out.1).ext HK.out.1.size (extA _ _), (HX1.out.trans HK.out.1).trans (extA _ _)⟩
  case round =>
    obtain ⟨i, rfl, hil, hgg, H⟩ := hrel
    by_cases hlt : i < l.length
    · have hz : (i : Int) < (l.length : Int) := by omega
      have hw : IntKind.i64.wrap ((i : Int) + 1) = (i : Int) + 1 := by rw [IntKind.wrap_i64]; omega
      rcases H.out.2.1 with h0 | ⟨g, c, cur, e, g1, g2, g3, g4, g5⟩
      · omega
      cases e
      obtain ⟨u, hcu⟩ := g5 i hlt
      have c0 : wr.cell? ⟨g, i, none⟩ = some (.int .u8 u) := by
        simp only [World.cell?, g3]
        exact hcu
      have f0 : wr.frozen? ⟨g, i, none⟩ = false := by simp [World.frozen?, g3]
      have HG := asideI (And.intro g1 g2)
      clear g1 g2 g3 g4 g5 hcu
      go_wp2
      go_roundg (l.length - (i + 1))
      case measure => omega
      case rel => exact ⟨i + 1, by simp, by omega, by omega, H.out.1.keep (extS _ g i _) (fun b e => by subst e; exact HNG.out _ HG.out.1 HG.out.2), H.out.2.1.set i _, extF H.out.2.2 (extS _ g i _) (fun b e => by subst e; exact HG.out.1)⟩
    · obtain rfl : i = l.length := by omega
      have hz : ¬ ((l.length : Int) < (l.length : Int)) := by omega
      go_wp2
      go_loopg [11, 12] ks.length (fun gg s11 s12 wz => ∃ (k : Nat), s11 = .bool true ∧ s12 = .int .i64 k ∧ k ≤ ks.length ∧ ks.length - k ≤ gg ∧ Aside ((∃ mu' l' e' p c, TI wz rb w2.heap.size mu mu' l' e' l' e' p c ∧ Bytes l' ∧ l'.length ≤ 300) ∧ Ext (fun _ => False) w0 wz))
      case atStart => exact ⟨0, rfl, rfl, by omega, by omega, ⟨mu2, l, 0, _, _, H.out.1, HBY.out, h1⟩, H.out.2.2⟩
      case round =>
        obtain ⟨k, rfl, rfl, hkl, hgg2, H3⟩ := hrel
        by_cases hlk : k < ks.length
        · have hzk : (k : Int) < (ks.length : Int) := by omega
          have hwk : IntKind.i64.wrap ((k : Int) + 1) = (k : Int) + 1 := by rw [IntKind.wrap_i64]; omega
          obtain ⟨⟨m3, l3, e3, p3, c3, ht, hby, hln⟩, hx3⟩ := H3.out
          obtain ⟨cb, coff, rfl, hcb, hcell⟩ := HKC.out k hlk
          replace hcell := (World.cell?_of_block (hx3.block cb hcb id)).trans hcell
          obtain ⟨⟨x0, x1⟩, y0, y1⟩ := box2 ht.x
          have HT := asideI ht
          have HX3 := asideI hx3
          generalize ks.getD k 0 = ci at hcell
          by_cases hm1 : ci = -1
          · subst hm1
            have C1 := HT.out.ref (rrnum_pure l3 e3 hby (by omega)) argsNil
            have C2 := num_eff l3 e3 hby (by omega)
            have HBL := asideI (And.intro (rNum_bytes hby e3) (Nat.le_trans (rNum_le l3 e3) hln))
            generalize rNum l3 e3 = rr at C1 C2 HBL
            have HC1 := asideI C1
            have HC2 := asideI C2
            clear C1 C2 ht hx3 hby
            go_wp2_with (first
              | (go_at_call 18; refine (HPUT.out.eff HC2.out argsNil).mono ?_
                 rintro r w5 ⟨val2, m5, rfl, ht5, hv5, hx5, _⟩
                 obtain rfl := Rep.inv_int hv5
                 obtain ⟨⟨x0, x1⟩, y0, y1⟩ := box2 ht5.x
                 have HT5 := asideI ht5
                 have HX5 := asideI hx5
                 clear ht5 hv5 hx5
                 simp only [])
              | (go_at_call 17; refine HC1.out.mono ?_
                 rintro r w4 ⟨p4, c4, val, m4, rfl, q1, q2, q3, q4, q5, q6⟩
                 obtain rfl := Rep.inv_int q5
                 have hxb := (q6.block _ HT.out.xlt id).trans HT.out.x
                 obtain ⟨⟨x0, x1⟩, y0, y1⟩ := box2 hxb
                 have HPUT := asideI (HT.out.put (e2 := rr.2.2) q6 q1 q2 q3 q4)
                 have HX4 := asideI q6
                 clear q1 q2 q3 q4 q5 q6 hxb
                 simp only [])
              | go_in)
            have hss : SS rb w2.heap.size mu rr.2.1 rr.2.2 p4 c4 w5 w5.drew := ⟨⟨_, HT5.out.ext (extD _)⟩, (extD _).mono fun _ e => e.elim⟩
            have HKEY : Aside (∀ W, SS rb w2.heap.size mu rr.2.1 rr.2.2 p4 c4 w5 W → ((∃ mu' l' e' p c, TI W rb w2.heap.size mu mu' l' e' l' e' p c ∧ Bytes l' ∧ l'.length ≤ 300) ∧ Ext (fun _ => False) w0 W)) := fun W hsf => by
              obtain ⟨⟨mf, htf⟩, hxf⟩ := hsf
              refine ⟨⟨mf, rr.2.1, rr.2.2, p4, c4, htf, HBL.out.1, HBL.out.2⟩, ?_⟩
              have q0 := HX1.out.size
              have q1 := HK.out.2.1
              have q2 := HRB.out
              have q3 := HK.out.1.size
              refine extF (extF (extF (HX3.out.trans HX4.out) (extS _ w2.heap.size 0 (.slice p4 rr.2.1.length c4) |>.trans (extS _ _ 1 (.int .i64 rr.2.2))) (fun b e => ?_)) HX5.out (fun b e => ?_)) hxf (fun b e => ?_)
              · have e2 : b = w2.heap.size := e
                omega
              · have e2 : b = rb := e
                omega
              · have e2 : b = rb := e
                omega
            first
              | go_region_held3 (fun W' => W'.cell? ⟨w2.heap.size, 0, none⟩ = some (.slice p4 rr.2.1.length c4) ∧ W'.cell? ⟨w2.heap.size, 1, none⟩ = some (.int .i64 rr.2.2) ∧ SS rb w2.heap.size mu rr.2.1 rr.2.2 p4 c4 w5 W') (refine ⟨?_, ?_, ?_⟩ <;> first | assumption | (go_keep; done)) (first
                | (go_at_call 23; (try dsimp only at *); go_split_ands; refine (SS.left (e := rr.2.2) (p := p4) (c := c4) (by assumption)).mono ?_; rintro r w6 ⟨rfl, hs6⟩; obtain ⟨z0, z1⟩ := hs6.cells)
                | (go_at_call 24; (try dsimp only at *); go_split_ands; refine (SS.err (e := rr.2.2) (p := p4) (c := c4) (by assumption)).mono ?_; rintro r w6 ⟨rfl, hs6⟩; obtain ⟨z0, z1⟩ := hs6.cells)
                | (go_at_call 25; (try dsimp only at *); go_split_ands; refine (SS.done (e := rr.2.2) (p := p4) (c := c4) (by assumption)).mono ?_; rintro r w6 ⟨rfl, hs6⟩; obtain ⟨z0, z1⟩ := hs6.cells)
                | (go_at_call 26; (try dsimp only at *); go_split_ands; refine (SS.rdone (e := rr.2.2) (p := p4) (c := c4) (by assumption)).mono ?_; rintro r w6 ⟨rfl, hs6⟩; obtain ⟨z0, z1⟩ := hs6.cells))
              | fail
            all_goals (
              go_wp2
              go_roundg (ks.length - (k + 1))
              case measure => omega
              case rel => exact ⟨k + 1, rfl, by simp, by omega, by omega, HKEY.out _ (by assumption)⟩)
          · have hmb : (ci == -1) = false := by simpa using hm1
            by_cases h8 : ci ≤ 8
            · skip
              have C1 := HT.out.ref (rrfix_pure l3 e3 ci hby (by omega)) (argsCons (.int _ _) argsNil)
              have C2 := rfix_eff l3 e3 ci hby (by omega)
              have HBL := asideI (And.intro (rFixed_bytes hby e3 ci) (Nat.le_trans (rFixed_le l3 e3 ci) hln))
              generalize rFixed l3 e3 ci = rr at C1 C2 HBL
              have HC1 := asideI C1
              have HC2 := asideI C2
              clear C1 C2 ht hx3 hby
              go_wp2_with (first
                | (go_at_call 20; refine (HPUT.out.eff HC2.out (argsCons (.int _ _) argsNil)).mono ?_
                   rintro r w5 ⟨val2, m5, rfl, ht5, hv5, hx5, _⟩
                   obtain rfl := Rep.inv_int hv5
                   obtain ⟨⟨x0, x1⟩, y0, y1⟩ := box2 ht5.x
                   have HT5 := asideI ht5
                   have HX5 := asideI hx5
                   clear ht5 hv5 hx5
                   simp only [])
                | (go_at_call 19; refine HC1.out.mono ?_
                   rintro r w4 ⟨p4, c4, val, m4, rfl, q1, q2, q3, q4, q5, q6⟩
                   obtain rfl := Rep.inv_int q5
                   have hxb := (q6.block _ HT.out.xlt id).trans HT.out.x
                   obtain ⟨⟨x0, x1⟩, y0, y1⟩ := box2 hxb
                   have HPUT := asideI (HT.out.put (e2 := rr.2.2) q6 q1 q2 q3 q4)
                   have HX4 := asideI q6
                   clear q1 q2 q3 q4 q5 q6 hxb
                   simp only [])
                | go_in)
              have hss : SS rb w2.heap.size mu rr.2.1 rr.2.2 p4 c4 w5 w5.drew := ⟨⟨_, HT5.out.ext (extD _)⟩, (extD _).mono fun _ e => e.elim⟩
              have HKEY : Aside (∀ W, SS rb w2.heap.size mu rr.2.1 rr.2.2 p4 c4 w5 W → ((∃ mu' l' e' p c, TI W rb w2.heap.size mu mu' l' e' l' e' p c ∧ Bytes l' ∧ l'.length ≤ 300) ∧ Ext (fun _ => False) w0 W)) := fun W hsf => by
                obtain ⟨⟨mf, htf⟩, hxf⟩ := hsf
                refine ⟨⟨mf, rr.2.1, rr.2.2, p4, c4, htf, HBL.out.1, HBL.out.2⟩, ?_⟩
                have q0 := HX1.out.size
                have q1 := HK.out.2.1
                have q2 := HRB.out
                have q3 := HK.out.1.size
                refine extF (extF (extF (HX3.out.trans HX4.out) (extS _ w2.heap.size 0 (.slice p4 rr.2.1.length c4) |>.trans (extS _ _ 1 (.int .i64 rr.2.2))) (fun b e => ?_)) HX5.out (fun b e => ?_)) hxf (fun b e => ?_)
                · have e2 : b = w2.heap.size := e
                  omega
                · have e2 : b = rb := e
                  omega
                · have e2 : b = rb := e
                  omega
              first
                | go_region_held3 (fun W' => W'.cell? ⟨w2.heap.size, 0, none⟩ = some (.slice p4 rr.2.1.length c4) ∧ W'.cell? ⟨w2.heap.size, 1, none⟩ = some (.int .i64 rr.2.2) ∧ SS rb w2.heap.size mu rr.2.1 rr.2.2 p4 c4 w5 W') (refine ⟨?_, ?_, ?_⟩ <;> first | assumption | (go_keep; done)) (first
                  | (go_at_call 23; (try dsimp only at *); go_split_ands; refine (SS.left (e := rr.2.2) (p := p4) (c := c4) (by assumption)).mono ?_; rintro r w6 ⟨rfl, hs6⟩; obtain ⟨z0, z1⟩ := hs6.cells)
                  | (go_at_call 24; (try dsimp only at *); go_split_ands; refine (SS.err (e := rr.2.2) (p := p4) (c := c4) (by assumption)).mono ?_; rintro r w6 ⟨rfl, hs6⟩; obtain ⟨z0, z1⟩ := hs6.cells)
                  | (go_at_call 25; (try dsimp only at *); go_split_ands; refine (SS.done (e := rr.2.2) (p := p4) (c := c4) (by assumption)).mono ?_; rintro r w6 ⟨rfl, hs6⟩; obtain ⟨z0, z1⟩ := hs6.cells)
                  | (go_at_call 26; (try dsimp only at *); go_split_ands; refine (SS.rdone (e := rr.2.2) (p := p4) (c := c4) (by assumption)).mono ?_; rintro r w6 ⟨rfl, hs6⟩; obtain ⟨z0, z1⟩ := hs6.cells))
                | fail
              all_goals (
                go_wp2
                go_roundg (ks.length - (k + 1))
                case measure => omega
                case rel => exact ⟨k + 1, rfl, by simp, by omega, by omega, HKEY.out _ (by assumption)⟩)
            · skip
              have C1 := HT.out.ref (rrtext_pure l3 e3 ci hby (by omega)) (argsCons (.int _ _) argsNil)
              have C2 := rtext_eff l3 e3 ci hby (by omega)
              have HBL := asideI (And.intro (rText_bytes hby e3 ci) (Nat.le_trans (rText_le l3 e3 ci) hln))
              generalize rText l3 e3 ci = rr at C1 C2 HBL
              have HC1 := asideI C1
              have HC2 := asideI C2
              clear C1 C2 ht hx3 hby
              go_wp2_with (first
                | (go_at_call 22; refine (HPUT.out.eff HC2.out (argsCons (.int _ _) argsNil)).mono ?_
                   rintro r w5 ⟨val2, m5, rfl, ht5, hv5, hx5, _⟩
                   obtain rfl := Rep.inv_str hv5
                   obtain ⟨⟨x0, x1⟩, y0, y1⟩ := box2 ht5.x
                   have HT5 := asideI ht5
                   have HX5 := asideI hx5
                   clear ht5 hv5 hx5
                   simp only [])
                | (go_at_call 21; refine HC1.out.mono ?_
                   rintro r w4 ⟨p4, c4, val, m4, rfl, q1, q2, q3, q4, q5, q6⟩
                   obtain rfl := Rep.inv_str q5
                   have hxb := (q6.block _ HT.out.xlt id).trans HT.out.x
                   obtain ⟨⟨x0, x1⟩, y0, y1⟩ := box2 hxb
                   have HPUT := asideI (HT.out.put (e2 := rr.2.2) q6 q1 q2 q3 q4)
                   have HX4 := asideI q6
                   clear q1 q2 q3 q4 q5 q6 hxb
                   simp only [])
                | go_in)
              have hss : SS rb w2.heap.size mu rr.2.1 rr.2.2 p4 c4 w5 w5.drew := ⟨⟨_, HT5.out.ext (extD _)⟩, (extD _).mono fun _ e => e.elim⟩
              have HKEY : Aside (∀ W, SS rb w2.heap.size mu rr.2.1 rr.2.2 p4 c4 w5 W → ((∃ mu' l' e' p c, TI W rb w2.heap.size mu mu' l' e' l' e' p c ∧ Bytes l' ∧ l'.length ≤ 300) ∧ Ext (fun _ => False) w0 W)) := fun W hsf => by
                obtain ⟨⟨mf, htf⟩, hxf⟩ := hsf
                refine ⟨⟨mf, rr.2.1, rr.2.2, p4, c4, htf, HBL.out.1, HBL.out.2⟩, ?_⟩
                have q0 := HX1.out.size
                have q1 := HK.out.2.1
                have q2 := HRB.out
                have q3 := HK.out.1.size
                refine extF (extF (extF (HX3.out.trans HX4.out) (extS _ w2.heap.size 0 (.slice p4 rr.2.1.length c4) |>.trans (extS _ _ 1 (.int .i64 rr.2.2))) (fun b e => ?_)) HX5.out (fun b e => ?_)) hxf (fun b e => ?_)
                · have e2 : b = w2.heap.size := e
                  omega
                · have e2 : b = rb := e
                  omega
                · have e2 : b = rb := e
                  omega
              first
                | go_region_held3 (fun W' => W'.cell? ⟨w2.heap.size, 0, none⟩ = some (.slice p4 rr.2.1.length c4) ∧ W'.cell? ⟨w2.heap.size, 1, none⟩ = some (.int .i64 rr.2.2) ∧ SS rb w2.heap.size mu rr.2.1 rr.2.2 p4 c4 w5 W') (refine ⟨?_, ?_, ?_⟩ <;> first | assumption | (go_keep; done)) (first
                  | (go_at_call 23; (try dsimp only at *); go_split_ands; refine (SS.left (e := rr.2.2) (p := p4) (c := c4) (by assumption)).mono ?_; rintro r w6 ⟨rfl, hs6⟩; obtain ⟨z0, z1⟩ := hs6.cells)
                  | (go_at_call 24; (try dsimp only at *); go_split_ands; refine (SS.err (e := rr.2.2) (p := p4) (c := c4) (by assumption)).mono ?_; rintro r w6 ⟨rfl, hs6⟩; obtain ⟨z0, z1⟩ := hs6.cells)
                  | (go_at_call 25; (try dsimp only at *); go_split_ands; refine (SS.done (e := rr.2.2) (p := p4) (c := c4) (by assumption)).mono ?_; rintro r w6 ⟨rfl, hs6⟩; obtain ⟨z0, z1⟩ := hs6.cells)
                  | (go_at_call 26; (try dsimp only at *); go_split_ands; refine (SS.rdone (e := rr.2.2) (p := p4) (c := c4) (by assumption)).mono ?_; rintro r w6 ⟨rfl, hs6⟩; obtain ⟨z0, z1⟩ := hs6.cells))
                | fail
              all_goals (
                go_wp2
                go_roundg (ks.length - (k + 1))
                case measure => omega
                case rel => exact ⟨k + 1, rfl, by simp, by omega, by omega, HKEY.out _ (by assumption)⟩)
        · obtain rfl : k = ks.length := by omega
          have hzk : ¬ ((ks.length : Int) < (ks.length : Int)) := by omega
          have htx := fun W => text_w s h3 W
          have hrx := fun W => rtext_w s h3 W
          generalize layN (zig s.size) ++ bytesNat s = L at htx hrx
          have HTX := asideI htx
          have HRX := asideI hrx
          clear htx hrx
          have HE0 := H3.out.2.trans (extD _)
          go_wp2
          refine wp_region_noPanic ?_
          refine wp_region_held_drew (S := fun W' => Ext (fun _ => False) w0 W') (by kernel_rfl) HE0 (fun _ => ?_)
          refine wpAnyH_take (i := 0) (oi := ?oK1) (v := ?vK1) ?hi1 (by kernel_rfl) (by kernel_rfl) (by kernel_rfl) (fun _ _ _ h => h) (Or.inl ⟨?hw1, ?hy1⟩) HE0 ?_
          case hi1 => (simp only [List.getElem?_toArray, List.getElem?_cons_succ, List.getElem?_cons_zero]; rfl)
          case hw1 => rfl
          case hy1 => (intro w hSw; (try dsimp only at hSw); go_simp; try with_reducible rfl)
          try simp only [Act.put, List.setIfInBounds_toArray, List.set_cons_zero, List.set_cons_succ]
          refine wpAnyH_take (i := 1) (oi := ?oK2) (v := ?vK2) ?hi2 (by kernel_rfl) (by kernel_rfl) (by kernel_rfl) (fun _ _ _ h => h) (Or.inl ⟨?hw2, ?hy2⟩) HE0 ?_
          case hi2 => (simp only [List.getElem?_toArray, List.getElem?_cons_succ, List.getElem?_cons_zero]; rfl)
          case hw2 => rfl
          case hy2 => (intro w hSw; (try dsimp only at hSw); go_simp; try with_reducible rfl)
          try simp only [Act.put, List.setIfInBounds_toArray, List.set_cons_zero, List.set_cons_succ]
          refine wpAnyH_take (i := 2) (oi := ?oK3) (v := ?vK3) ?hi3 (by kernel_rfl) (by kernel_rfl) (by kernel_rfl) (fun _ _ _ h => h) (Or.inl ⟨?hw3, ?hy3⟩) HE0 ?_
          case hi3 => (simp only [List.getElem?_toArray, List.getElem?_cons_succ, List.getElem?_cons_zero]; rfl)
          case hw3 => rfl
          case hy3 => (intro w hSw; (try dsimp only at hSw); go_simp; try with_reducible rfl)
          try simp only [Act.put, List.setIfInBounds_toArray, List.set_cons_zero, List.set_cons_succ]
          refine wpAnyH_take (i := 5) (oi := ?oK4) (v := ?vK4) ?hi4 (by kernel_rfl) (by kernel_rfl) (by kernel_rfl) (fun _ _ _ h => h) (Or.inl ⟨?hw4, ?hy4⟩) HE0 ?_
          case hi4 => (simp only [List.getElem?_toArray, List.getElem?_cons_succ, List.getElem?_cons_zero]; rfl)
          case hw4 => rfl
          case hy4 => (intro w hSw; (try dsimp only at hSw); go_simp; try with_reducible rfl)
          try simp only [Act.put, List.setIfInBounds_toArray, List.set_cons_zero, List.set_cons_succ]
          refine wpAnyH_ready (rs := [3]) (by kernel_rfl) (by simp) ?_
          refine AllReadyH.cons (o := ?oK5) ?hi5 (fun K hK => ?_) AllReadyH.nil
          case hi5 => (simp only [List.getElem?_toArray, List.getElem?_cons_succ, List.getElem?_cons_zero]; rfl)
          go_simp
          refine (HTX.out _).mono ?_
          rintro e uu ⟨m1', p1, c1, rfl, g1, g2, hx⟩
          have HE1 : Ext (fun _ => False) w0 uu := Ext.trans HE0 hx
          have HM1 := asideI (And.intro g1 g2)
          have hcv1 := conv_ok g1 g2
          clear g1 g2
          clear hx
          try simp only []
          refine hK.out _ _ HE1 (fun _ => ?_)
          clear hK K
          try simp only [Act.put, List.setIfInBounds_toArray, List.set_cons_zero, List.set_cons_succ]
          refine wpAnyH_ready (rs := [4, 6]) (by kernel_rfl) (by simp) ?_
          refine AllReadyH.cons (o := ?oK108) ?hi108 (fun K hK => ?wy108) (AllReadyH.cons (o := ?oK109) ?hi109 (fun K hK => ?wy109) AllReadyH.nil)
          case hi108 => (simp only [List.getElem?_toArray, List.getElem?_cons_succ, List.getElem?_cons_zero]; rfl)
          case hi109 => (simp only [List.getElem?_toArray, List.getElem?_cons_succ, List.getElem?_cons_zero]; rfl)
          case wy108 =>
            go_simp
            refine hK.out _ _ HE1 (fun _ => ?_)
            clear hK K
            try simp only [Act.put, List.setIfInBounds_toArray, List.set_cons_zero, List.set_cons_succ]
            refine wpAnyH_ready (rs := [6]) (by kernel_rfl) (by simp) ?_
            refine AllReadyH.cons (o := ?oK6) ?hi6 (fun K hK => ?_) AllReadyH.nil
            case hi6 => (simp only [List.getElem?_toArray, List.getElem?_cons_succ, List.getElem?_cons_zero]; rfl)
            go_simp
            refine (HRX.out _).mono ?_
            rintro e uu ⟨m2', p2, c2, rfl, g1, g2, hx⟩
            have HE2 : Ext (fun _ => False) w0 uu := Ext.trans HE1 hx
            have hcv2 := conv_ok g1 g2
            have hcv1' := conv_ok (memX HM1.out.1 hx (fun _ e => e.elim)) HM1.out.2
            clear g1 g2
            clear hx
            try simp only []
            refine hK.out _ _ HE2 (fun _ => ?_)
            clear hK K
            try simp only [Act.put, List.setIfInBounds_toArray, List.set_cons_zero, List.set_cons_succ]
            refine wpAnyH_ready (rs := [7]) (by kernel_rfl) (by simp) ?_
            refine AllReadyH.cons (o := ?oK7) ?hi7 (fun K hK => ?_) AllReadyH.nil
            case hi7 => (simp only [List.getElem?_toArray, List.getElem?_cons_succ, List.getElem?_cons_zero]; rfl)
            go_simp
            refine hK.out _ _ HE2 (fun _ => ?_)
            clear hK K
            try simp only [Act.put, List.setIfInBounds_toArray, List.set_cons_zero, List.set_cons_succ]
            refine wpAnyH_take (i := 8) (oi := ?oK8) (v := ?vK8) ?hi8 (by kernel_rfl) (by kernel_rfl) (by kernel_rfl) (fun _ _ _ h => h) (Or.inl ⟨?hw8, ?hy8⟩) HE2 ?_
            case hi8 => (simp only [List.getElem?_toArray, List.getElem?_cons_succ, List.getElem?_cons_zero]; rfl)
            case hw8 => rfl
            case hy8 => (intro w hSw; (try dsimp only at hSw); go_simp; try with_reducible rfl)
            try simp only [Act.put, List.setIfInBounds_toArray, List.set_cons_zero, List.set_cons_succ]
            refine wpAnyH_take (i := 9) (oi := ?oK9) (v := ?vK9) ?hi9 (by kernel_rfl) (by kernel_rfl) (by kernel_rfl) (fun _ _ _ h => h) (Or.inl ⟨?hw9, ?hy9⟩) HE2 ?_
            case hi9 => (simp only [List.getElem?_toArray, List.getElem?_cons_succ, List.getElem?_cons_zero]; rfl)
            case hw9 => rfl
            case hy9 => (intro w hSw; (try dsimp only at hSw); go_simp; try with_reducible rfl)
            try simp only [Act.put, List.setIfInBounds_toArray, List.set_cons_zero, List.set_cons_succ]
            refine wpAnyH_take (i := 10) (oi := ?oK10) (v := ?vK10) ?hi10 (by kernel_rfl) (by kernel_rfl) (by kernel_rfl) (fun _ _ _ h => h) (Or.inl ⟨?hw10, ?hy10⟩) HE2 ?_
            case hi10 => (simp only [List.getElem?_toArray, List.getElem?_cons_succ, List.getElem?_cons_zero]; rfl)
            case hw10 => rfl
            case hy10 => (intro w hSw; (try dsimp only at hSw); go_simp; try with_reducible rfl)
            try simp only [Act.put, List.setIfInBounds_toArray, List.set_cons_zero, List.set_cons_succ]
            refine wpAnyH_take (i := 11) (oi := ?oK11) (v := ?vK11) ?hi11 (by kernel_rfl) (by kernel_rfl) (by kernel_rfl) (fun _ _ _ h => h) (Or.inl ⟨?hw11, ?hy11⟩) HE2 ?_
            case hi11 => (simp only [List.getElem?_toArray, List.getElem?_cons_succ, List.getElem?_cons_zero]; rfl)
            case hw11 => rfl
            case hy11 => (intro w hSw; (try dsimp only at hSw); go_simp; try with_reducible rfl)
            try simp only [Act.put, List.setIfInBounds_toArray, List.set_cons_zero, List.set_cons_succ]
            refine wpAnyH_take (i := 13) (oi := ?oK12) (v := ?vK12) ?hi12 (by kernel_rfl) (by kernel_rfl) (by kernel_rfl) (fun _ _ _ h => h) (Or.inl ⟨?hw12, ?hy12⟩) HE2 ?_
            case hi12 => (simp only [List.getElem?_toArray, List.getElem?_cons_succ, List.getElem?_cons_zero]; rfl)
            case hw12 => rfl
            case hy12 => (intro w hSw; (try dsimp only at hSw); go_simp; try with_reducible rfl)
            try simp only [Act.put, List.setIfInBounds_toArray, List.set_cons_zero, List.set_cons_succ]
            refine wpAnyH_take (i := 16) (oi := ?oK13) (v := ?vK13) ?hi13 (by kernel_rfl) (by kernel_rfl) (by kernel_rfl) (fun _ _ _ h => h) (Or.inl ⟨?hw13, ?hy13⟩) HE2 ?_
            case hi13 => (simp only [List.getElem?_toArray, List.getElem?_cons_succ, List.getElem?_cons_zero]; rfl)
            case hw13 => rfl
            case hy13 => (intro w hSw; (try dsimp only at hSw); go_simp; try with_reducible rfl)
            try simp only [Act.put, List.setIfInBounds_toArray, List.set_cons_zero, List.set_cons_succ]
            refine wpAnyH_take (i := 20) (oi := ?oK14) (v := ?vK14) ?hi14 (by kernel_rfl) (by kernel_rfl) (by kernel_rfl) (fun _ _ _ h => h) (Or.inl ⟨?hw14, ?hy14⟩) HE2 ?_
            case hi14 => (simp only [List.getElem?_toArray, List.getElem?_cons_succ, List.getElem?_cons_zero]; rfl)
            case hw14 => rfl
            case hy14 => (intro w hSw; (try dsimp only at hSw); go_simp; try with_reducible rfl)
            try simp only [Act.put, List.setIfInBounds_toArray, List.set_cons_zero, List.set_cons_succ]
            refine wpAnyH_ready (rs := [12]) (by kernel_rfl) (by simp) ?_
            refine AllReadyH.cons (o := ?oK15) ?hi15 (fun K hK => ?_) AllReadyH.nil
            case hi15 => (simp only [List.getElem?_toArray, List.getElem?_cons_succ, List.getElem?_cons_zero]; rfl)
            go_simp
            refine (numN_w _).mono ?_
            rintro e uu ⟨rfl, hx⟩
            have HE3 : Ext (fun _ => False) w0 uu := Ext.trans HE2 hx
            clear hx
            try simp only []
            refine hK.out _ _ HE3 (fun _ => ?_)
            clear hK K
            try simp only [Act.put, List.setIfInBounds_toArray, List.set_cons_zero, List.set_cons_succ]
            refine wpAnyH_ready (rs := [14]) (by kernel_rfl) (by simp) ?_
            refine AllReadyH.cons (o := ?oK16) ?hi16 (fun K hK => ?_) AllReadyH.nil
            case hi16 => (simp only [List.getElem?_toArray, List.getElem?_cons_succ, List.getElem?_cons_zero]; rfl)
            go_simp
            refine (leftN_w _).mono ?_
            rintro e uu ⟨rfl, hx⟩
            have HE4 : Ext (fun _ => False) w0 uu := Ext.trans HE3 hx
            clear hx
            try simp only []
            refine hK.out _ _ HE4 (fun _ => ?_)
            clear hK K
            try simp only [Act.put, List.setIfInBounds_toArray, List.set_cons_zero, List.set_cons_succ]
            refine wpAnyH_take (i := 15) (oi := ?oK17) (v := ?vK17) ?hi17 (by kernel_rfl) (by kernel_rfl) (by kernel_rfl) (fun _ _ _ h => h) (Or.inl ⟨?hw17, ?hy17⟩) HE4 ?_
            case hi17 => (simp only [List.getElem?_toArray, List.getElem?_cons_succ, List.getElem?_cons_zero]; rfl)
            case hw17 => rfl
            case hy17 => (intro w hSw; (try dsimp only at hSw); go_simp; try with_reducible rfl)
            try simp only [Act.put, List.setIfInBounds_toArray, List.set_cons_zero, List.set_cons_succ]
            refine wpAnyH_ready (rs := [17]) (by kernel_rfl) (by simp) ?_
            refine AllReadyH.cons (o := ?oK18) ?hi18 (fun K hK => ?_) AllReadyH.nil
            case hi18 => (simp only [List.getElem?_toArray, List.getElem?_cons_succ, List.getElem?_cons_zero]; rfl)
            go_simp
            refine (textN_w _ _).mono ?_
            rintro e uu ⟨rfl, hx⟩
            have HE5 : Ext (fun _ => False) w0 uu := Ext.trans HE4 hx
            clear hx
            try simp only []
            refine hK.out _ _ HE5 (fun _ => ?_)
            clear hK K
            try simp only [Act.put, List.setIfInBounds_toArray, List.set_cons_zero, List.set_cons_succ]
            refine wpAnyH_take (i := 18) (oi := ?oK19) (v := ?vK19) ?hi19 (by kernel_rfl) (by kernel_rfl) (by kernel_rfl) (fun _ _ _ h => h) (Or.inl ⟨?hw19, ?hy19⟩) HE5 ?_
            case hi19 => (simp only [List.getElem?_toArray, List.getElem?_cons_succ, List.getElem?_cons_zero]; rfl)
            case hw19 => rfl
            case hy19 => (intro w hSw; (try dsimp only at hSw); go_simp; try with_reducible rfl)
            try simp only [Act.put, List.setIfInBounds_toArray, List.set_cons_zero, List.set_cons_succ]
            refine wpAnyH_take (i := 19) (oi := ?oK20) (v := ?vK20) ?hi20 (by kernel_rfl) (by kernel_rfl) (by kernel_rfl) (fun _ _ _ h => h) (Or.inl ⟨?hw20, ?hy20⟩) HE5 ?_
            case hi20 => (simp only [List.getElem?_toArray, List.getElem?_cons_succ, List.getElem?_cons_zero]; rfl)
            case hw20 => rfl
            case hy20 => (intro w hSw; (try dsimp only at hSw); go_simp; try with_reducible rfl)
            try simp only [Act.put, List.setIfInBounds_toArray, List.set_cons_zero, List.set_cons_succ]
            refine wpAnyH_ready (rs := [21]) (by kernel_rfl) (by simp) ?_
            refine AllReadyH.cons (o := ?oK21) ?hi21 (fun K hK => ?_) AllReadyH.nil
            case hi21 => (simp only [List.getElem?_toArray, List.getElem?_cons_succ, List.getElem?_cons_zero]; rfl)
            go_simp
            refine (fixN_w _ _).mono ?_
            rintro e uu ⟨rfl, hx⟩
            have HE6 : Ext (fun _ => False) w0 uu := Ext.trans HE5 hx
            clear hx
            try simp only []
            refine hK.out _ _ HE6 (fun _ => ?_)
            clear hK K
            try simp only [Act.put, List.setIfInBounds_toArray, List.set_cons_zero, List.set_cons_succ]
            refine wpAnyH_take (i := 22) (oi := ?oK22) (v := ?vK22) ?hi22 (by kernel_rfl) (by kernel_rfl) (by kernel_rfl) (fun _ _ _ h => h) (Or.inl ⟨?hw22, ?hy22⟩) HE6 ?_
            case hi22 => (simp only [List.getElem?_toArray, List.getElem?_cons_succ, List.getElem?_cons_zero]; rfl)
            case hw22 => rfl
            case hy22 => (intro w hSw; (try dsimp only at hSw); go_simp; try with_reducible rfl)
            try simp only [Act.put, List.setIfInBounds_toArray, List.set_cons_zero, List.set_cons_succ]
            refine wpAnyH_take (i := 23) (oi := ?oK23) (v := ?vK23) ?hi23 (by kernel_rfl) (by kernel_rfl) (by kernel_rfl) (fun _ _ _ h => h) (Or.inl ⟨?hw23, ?hy23⟩) HE6 ?_
            case hi23 => (simp only [List.getElem?_toArray, List.getElem?_cons_succ, List.getElem?_cons_zero]; rfl)
            case hw23 => rfl
            case hy23 => (intro w hSw; (try dsimp only at hSw); go_simp; try with_reducible rfl)
            try simp only [Act.put, List.setIfInBounds_toArray, List.set_cons_zero, List.set_cons_succ]
            refine wpAnyH_take (i := 24) (oi := ?oK24) (v := ?vK24) ?hi24 (by kernel_rfl) (by kernel_rfl) (by kernel_rfl) (fun _ _ _ h => h) (Or.inl ⟨?hw24, ?hy24⟩) HE6 ?_
            case hi24 => (simp only [List.getElem?_toArray, List.getElem?_cons_succ, List.getElem?_cons_zero]; rfl)
            case hw24 => rfl
            case hy24 => (intro w hSw; (try dsimp only at hSw); go_simp; try with_reducible rfl)
            try simp only [Act.put, List.setIfInBounds_toArray, List.set_cons_zero, List.set_cons_succ]
            refine wpAnyH_take (i := 25) (oi := ?oK25) (v := ?vK25) ?hi25 (by kernel_rfl) (by kernel_rfl) (by kernel_rfl) (fun _ _ _ h => h) (Or.inl ⟨?hw25, ?hy25⟩) HE6 ?_
            case hi25 => (simp only [List.getElem?_toArray, List.getElem?_cons_succ, List.getElem?_cons_zero]; rfl)
            case hw25 => rfl
            case hy25 => (intro w hSw; (try dsimp only at hSw); go_simp; try with_reducible rfl)
            try simp only [Act.put, List.setIfInBounds_toArray, List.set_cons_zero, List.set_cons_succ]
            refine wpAnyH_take (i := 26) (oi := ?oK26) (v := ?vK26) ?hi26 (by kernel_rfl) (by kernel_rfl) (by kernel_rfl) (fun _ _ _ h => h) (Or.inl ⟨?hw26, ?hy26⟩) HE6 ?_
            case hi26 => (simp only [List.getElem?_toArray, List.getElem?_cons_succ, List.getElem?_cons_zero]; rfl)
            case hw26 => rfl
            case hy26 => (intro w hSw; (try dsimp only at hSw); go_simp; try with_reducible rfl)
            try simp only [Act.put, List.setIfInBounds_toArray, List.set_cons_zero, List.set_cons_succ]
            refine wpAnyH_take (i := 27) (oi := ?oK27) (v := ?vK27) ?hi27 (by kernel_rfl) (by kernel_rfl) (by kernel_rfl) (fun _ _ _ h => h) (Or.inl ⟨?hw27, ?hy27⟩) HE6 ?_
            case hi27 => (simp only [List.getElem?_toArray, List.getElem?_cons_succ, List.getElem?_cons_zero]; rfl)
            case hw27 => rfl
            case hy27 => (intro w hSw; (try dsimp only at hSw); go_simp; try with_reducible rfl)
            try simp only [Act.put, List.setIfInBounds_toArray, List.set_cons_zero, List.set_cons_succ]
            refine wpAnyH_ready (rs := [28]) (by kernel_rfl) (by simp) ?_
            refine AllReadyH.cons (o := ?oK28) ?hi28 (fun K hK => ?_) AllReadyH.nil
            case hi28 => (simp only [List.getElem?_toArray, List.getElem?_cons_succ, List.getElem?_cons_zero]; rfl)
            go_simp
            refine (errN_w _).mono ?_
            rintro e uu ⟨rfl, hx⟩
            have HE7 : Ext (fun _ => False) w0 uu := Ext.trans HE6 hx
            clear hx
            try simp only []
            refine hK.out _ _ HE7 (fun _ => ?_)
            clear hK K
            try simp only [Act.put, List.setIfInBounds_toArray, List.set_cons_zero, List.set_cons_succ]
            refine wpAnyH_take (i := 29) (oi := ?oK29) (v := ?vK29) ?hi29 (by kernel_rfl) (by kernel_rfl) (by kernel_rfl) (fun _ _ _ h => h) (Or.inl ⟨?hw29, ?hy29⟩) HE7 ?_
            case hi29 => (simp only [List.getElem?_toArray, List.getElem?_cons_succ, List.getElem?_cons_zero]; rfl)
            case hw29 => rfl
            case hy29 => (intro w hSw; (try dsimp only at hSw); go_simp; try with_reducible rfl)
            try simp only [Act.put, List.setIfInBounds_toArray, List.set_cons_zero, List.set_cons_succ]
            refine wpAnyH_take (i := 30) (oi := ?oK30) (v := ?vK30) ?hi30 (by kernel_rfl) (by kernel_rfl) (by kernel_rfl) (fun _ _ _ h => h) (Or.inl ⟨?hw30, ?hy30⟩) HE7 ?_
            case hi30 => (simp only [List.getElem?_toArray, List.getElem?_cons_succ, List.getElem?_cons_zero]; rfl)
            case hw30 => rfl
            case hy30 => (intro w hSw; (try dsimp only at hSw); go_simp; try with_reducible rfl)
            try simp only [Act.put, List.setIfInBounds_toArray, List.set_cons_zero, List.set_cons_succ]
            refine wpAnyH_take (i := 31) (oi := ?oK31) (v := ?vK31) ?hi31 (by kernel_rfl) (by kernel_rfl) (by kernel_rfl) (fun _ _ _ h => h) (Or.inl ⟨?hw31, ?hy31⟩) HE7 ?_
            case hi31 => (simp only [List.getElem?_toArray, List.getElem?_cons_succ, List.getElem?_cons_zero]; rfl)
            case hw31 => rfl
            case hy31 => (intro w hSw; (try dsimp only at hSw); go_simp; try with_reducible rfl)
            try simp only [Act.put, List.setIfInBounds_toArray, List.set_cons_zero, List.set_cons_succ]
            refine wpAnyH_take (i := 32) (oi := ?oK32) (v := ?vK32) ?hi32 (by kernel_rfl) (by kernel_rfl) (by kernel_rfl) (fun _ _ _ h => h) (Or.inl ⟨?hw32, ?hy32⟩) HE7 ?_
            case hi32 => (simp only [List.getElem?_toArray, List.getElem?_cons_succ, List.getElem?_cons_zero]; rfl)
            case hw32 => rfl
            case hy32 => (intro w hSw; (try dsimp only at hSw); go_simp; try with_reducible rfl)
            try simp only [Act.put, List.setIfInBounds_toArray, List.set_cons_zero, List.set_cons_succ]
            refine wpAnyH_ready (rs := [33]) (by kernel_rfl) (by simp) ?_
            refine AllReadyH.cons (o := ?oK33) ?hi33 (fun K hK => ?_) AllReadyH.nil
            case hi33 => (simp only [List.getElem?_toArray, List.getElem?_cons_succ, List.getElem?_cons_zero]; rfl)
            go_simp
            refine (doneN_w _).mono ?_
            rintro e uu ⟨rfl, hx⟩
            have HE8 : Ext (fun _ => False) w0 uu := Ext.trans HE7 hx
            clear hx
            try simp only []
            refine hK.out _ _ HE8 (fun _ => ?_)
            clear hK K
            try simp only [Act.put, List.setIfInBounds_toArray, List.set_cons_zero, List.set_cons_succ]
            refine wpAnyH_take (i := 34) (oi := ?oK34) (v := ?vK34) ?hi34 (by kernel_rfl) (by kernel_rfl) (by kernel_rfl) (fun _ _ _ h => h) (Or.inl ⟨?hw34, ?hy34⟩) HE8 ?_
            case hi34 => (simp only [List.getElem?_toArray, List.getElem?_cons_succ, List.getElem?_cons_zero]; rfl)
            case hw34 => rfl
            case hy34 => (intro w hSw; (try dsimp only at hSw); go_simp; try with_reducible rfl)
            try simp only [Act.put, List.setIfInBounds_toArray, List.set_cons_zero, List.set_cons_succ]
            refine wpAnyH_take (i := 35) (oi := ?oK35) (v := ?vK35) ?hi35 (by kernel_rfl) (by kernel_rfl) (by kernel_rfl) (fun _ _ _ h => h) (Or.inl ⟨?hw35, ?hy35⟩) HE8 ?_
            case hi35 => (simp only [List.getElem?_toArray, List.getElem?_cons_succ, List.getElem?_cons_zero]; rfl)
            case hw35 => rfl
            case hy35 => (intro w hSw; (try dsimp only at hSw); go_simp; try with_reducible rfl)
            try simp only [Act.put, List.setIfInBounds_toArray, List.set_cons_zero, List.set_cons_succ]
            refine wpAnyH_take (i := 36) (oi := ?oK36) (v := ?vK36) ?hi36 (by kernel_rfl) (by kernel_rfl) (by kernel_rfl) (fun _ _ _ h => h) (Or.inl ⟨?hw36, ?hy36⟩) HE8 ?_
            case hi36 => (simp only [List.getElem?_toArray, List.getElem?_cons_succ, List.getElem?_cons_zero]; rfl)
            case hw36 => rfl
            case hy36 => (intro w hSw; (try dsimp only at hSw); go_simp; try with_reducible rfl)
            try simp only [Act.put, List.setIfInBounds_toArray, List.set_cons_zero, List.set_cons_succ]
            refine wpAnyH_ready (rs := [37]) (by kernel_rfl) (by simp) ?_
            refine AllReadyH.cons (o := ?oK37) ?hi37 (fun K hK => ?_) AllReadyH.nil
            case hi37 => (simp only [List.getElem?_toArray, List.getElem?_cons_succ, List.getElem?_cons_zero]; rfl)
            go_simp
            refine (awake_w _).mono ?_
            rintro e uu ⟨rfl, hx⟩
            have HE9 : Ext (fun _ => False) w0 uu := Ext.trans HE8 hx
            clear hx
            try simp only []
            refine hK.out _ _ HE9 (fun _ => ?_)
            clear hK K
            try simp only [Act.put, List.setIfInBounds_toArray, List.set_cons_zero, List.set_cons_succ]
            refine wpAnyH_take (i := 38) (oi := ?oK38) (v := ?vK38) ?hi38 (by kernel_rfl) (by kernel_rfl) (by kernel_rfl) (fun _ _ _ h => h) (Or.inl ⟨?hw38, ?hy38⟩) HE9 ?_
            case hi38 => (simp only [List.getElem?_toArray, List.getElem?_cons_succ, List.getElem?_cons_zero]; rfl)
            case hw38 => rfl
            case hy38 => (intro w hSw; (try dsimp only at hSw); go_simp; try with_reducible rfl)
            try simp only [Act.put, List.setIfInBounds_toArray, List.set_cons_zero, List.set_cons_succ]
            refine wpAnyH_take (i := 39) (oi := ?oK39) (v := ?vK39) ?hi39 (by kernel_rfl) (by kernel_rfl) (by kernel_rfl) (fun _ _ _ h => h) (Or.inl ⟨?hw39, ?hy39⟩) HE9 ?_
            case hi39 => (simp only [List.getElem?_toArray, List.getElem?_cons_succ, List.getElem?_cons_zero]; rfl)
            case hw39 => rfl
            case hy39 => (intro w hSw; (try dsimp only at hSw); go_simp; try with_reducible rfl)
            try simp only [Act.put, List.setIfInBounds_toArray, List.set_cons_zero, List.set_cons_succ]
            refine wpAnyH_done (by kernel_rfl) ?_ _
            refine NoPanic.normal ?_
            go_wp2
            go_ret
            exact ⟨rfl, HE9⟩
          case wy109 =>
            go_simp
            refine (HRX.out _).mono ?_
            rintro e uu ⟨m2', p2, c2, rfl, g1, g2, hx⟩
            have HE2 : Ext (fun _ => False) w0 uu := Ext.trans HE1 hx
            have hcv2 := conv_ok g1 g2
            have hcv1' := conv_ok (memX HM1.out.1 hx (fun _ e => e.elim)) HM1.out.2
            clear g1 g2
            clear hx
            try simp only []
            refine hK.out _ _ HE2 (fun _ => ?_)
            clear hK K
            try simp only [Act.put, List.setIfInBounds_toArray, List.set_cons_zero, List.set_cons_succ]
            refine wpAnyH_ready (rs := [4, 7]) (by kernel_rfl) (by simp) ?_
            refine AllReadyH.cons (o := ?oK106) ?hi106 (fun K hK => ?wy106) (AllReadyH.cons (o := ?oK107) ?hi107 (fun K hK => ?wy107) AllReadyH.nil)
            case hi106 => (simp only [List.getElem?_toArray, List.getElem?_cons_succ, List.getElem?_cons_zero]; rfl)
            case hi107 => (simp only [List.getElem?_toArray, List.getElem?_cons_succ, List.getElem?_cons_zero]; rfl)
            case wy106 =>
              go_simp
              refine hK.out _ _ HE2 (fun _ => ?_)
              clear hK K
              try simp only [Act.put, List.setIfInBounds_toArray, List.set_cons_zero, List.set_cons_succ]
              refine wpAnyH_ready (rs := [7]) (by kernel_rfl) (by simp) ?_
              refine AllReadyH.cons (o := ?oK40) ?hi40 (fun K hK => ?_) AllReadyH.nil
              case hi40 => (simp only [List.getElem?_toArray, List.getElem?_cons_succ, List.getElem?_cons_zero]; rfl)
              go_simp
              refine hK.out _ _ HE2 (fun _ => ?_)
              clear hK K
              try simp only [Act.put, List.setIfInBounds_toArray, List.set_cons_zero, List.set_cons_succ]
              refine wpAnyH_take (i := 8) (oi := ?oK41) (v := ?vK41) ?hi41 (by kernel_rfl) (by kernel_rfl) (by kernel_rfl) (fun _ _ _ h => h) (Or.inl ⟨?hw41, ?hy41⟩) HE2 ?_
              case hi41 => (simp only [List.getElem?_toArray, List.getElem?_cons_succ, List.getElem?_cons_zero]; rfl)
              case hw41 => rfl
              case hy41 => (intro w hSw; (try dsimp only at hSw); go_simp; try with_reducible rfl)
              try simp only [Act.put, List.setIfInBounds_toArray, List.set_cons_zero, List.set_cons_succ]
              refine wpAnyH_take (i := 9) (oi := ?oK42) (v := ?vK42) ?hi42 (by kernel_rfl) (by kernel_rfl) (by kernel_rfl) (fun _ _ _ h => h) (Or.inl ⟨?hw42, ?hy42⟩) HE2 ?_
              case hi42 => (simp only [List.getElem?_toArray, List.getElem?_cons_succ, List.getElem?_cons_zero]; rfl)
              case hw42 => rfl
              case hy42 => (intro w hSw; (try dsimp only at hSw); go_simp; try with_reducible rfl)
              try simp only [Act.put, List.setIfInBounds_toArray, List.set_cons_zero, List.set_cons_succ]
              refine wpAnyH_take (i := 10) (oi := ?oK43) (v := ?vK43) ?hi43 (by kernel_rfl) (by kernel_rfl) (by kernel_rfl) (fun _ _ _ h => h) (Or.inl ⟨?hw43, ?hy43⟩) HE2 ?_
              case hi43 => (simp only [List.getElem?_toArray, List.getElem?_cons_succ, List.getElem?_cons_zero]; rfl)
              case hw43 => rfl
              case hy43 => (intro w hSw; (try dsimp only at hSw); go_simp; try with_reducible rfl)
              try simp only [Act.put, List.setIfInBounds_toArray, List.set_cons_zero, List.set_cons_succ]
              refine wpAnyH_take (i := 11) (oi := ?oK44) (v := ?vK44) ?hi44 (by kernel_rfl) (by kernel_rfl) (by kernel_rfl) (fun _ _ _ h => h) (Or.inl ⟨?hw44, ?hy44⟩) HE2 ?_
              case hi44 => (simp only [List.getElem?_toArray, List.getElem?_cons_succ, List.getElem?_cons_zero]; rfl)
              case hw44 => rfl
              case hy44 => (intro w hSw; (try dsimp only at hSw); go_simp; try with_reducible rfl)
              try simp only [Act.put, List.setIfInBounds_toArray, List.set_cons_zero, List.set_cons_succ]
              refine wpAnyH_take (i := 13) (oi := ?oK45) (v := ?vK45) ?hi45 (by kernel_rfl) (by kernel_rfl) (by kernel_rfl) (fun _ _ _ h => h) (Or.inl ⟨?hw45, ?hy45⟩) HE2 ?_
              case hi45 => (simp only [List.getElem?_toArray, List.getElem?_cons_succ, List.getElem?_cons_zero]; rfl)
              case hw45 => rfl
              case hy45 => (intro w hSw; (try dsimp only at hSw); go_simp; try with_reducible rfl)
              try simp only [Act.put, List.setIfInBounds_toArray, List.set_cons_zero, List.set_cons_succ]
              refine wpAnyH_take (i := 16) (oi := ?oK46) (v := ?vK46) ?hi46 (by kernel_rfl) (by kernel_rfl) (by kernel_rfl) (fun _ _ _ h => h) (Or.inl ⟨?hw46, ?hy46⟩) HE2 ?_
              case hi46 => (simp only [List.getElem?_toArray, List.getElem?_cons_succ, List.getElem?_cons_zero]; rfl)
              case hw46 => rfl
              case hy46 => (intro w hSw; (try dsimp only at hSw); go_simp; try with_reducible rfl)
              try simp only [Act.put, List.setIfInBounds_toArray, List.set_cons_zero, List.set_cons_succ]
              refine wpAnyH_take (i := 20) (oi := ?oK47) (v := ?vK47) ?hi47 (by kernel_rfl) (by kernel_rfl) (by kernel_rfl) (fun _ _ _ h => h) (Or.inl ⟨?hw47, ?hy47⟩) HE2 ?_
              case hi47 => (simp only [List.getElem?_toArray, List.getElem?_cons_succ, List.getElem?_cons_zero]; rfl)
              case hw47 => rfl
              case hy47 => (intro w hSw; (try dsimp only at hSw); go_simp; try with_reducible rfl)
              try simp only [Act.put, List.setIfInBounds_toArray, List.set_cons_zero, List.set_cons_succ]
              refine wpAnyH_ready (rs := [12]) (by kernel_rfl) (by simp) ?_
              refine AllReadyH.cons (o := ?oK48) ?hi48 (fun K hK => ?_) AllReadyH.nil
              case hi48 => (simp only [List.getElem?_toArray, List.getElem?_cons_succ, List.getElem?_cons_zero]; rfl)
              go_simp
              refine (numN_w _).mono ?_
              rintro e uu ⟨rfl, hx⟩
              have HE3 : Ext (fun _ => False) w0 uu := Ext.trans HE2 hx
              clear hx
              try simp only []
              refine hK.out _ _ HE3 (fun _ => ?_)
              clear hK K
              try simp only [Act.put, List.setIfInBounds_toArray, List.set_cons_zero, List.set_cons_succ]
              refine wpAnyH_ready (rs := [14]) (by kernel_rfl) (by simp) ?_
              refine AllReadyH.cons (o := ?oK49) ?hi49 (fun K hK => ?_) AllReadyH.nil
              case hi49 => (simp only [List.getElem?_toArray, List.getElem?_cons_succ, List.getElem?_cons_zero]; rfl)
              go_simp
              refine (leftN_w _).mono ?_
              rintro e uu ⟨rfl, hx⟩
              have HE4 : Ext (fun _ => False) w0 uu := Ext.trans HE3 hx
              clear hx
              try simp only []
              refine hK.out _ _ HE4 (fun _ => ?_)
              clear hK K
              try simp only [Act.put, List.setIfInBounds_toArray, List.set_cons_zero, List.set_cons_succ]
              refine wpAnyH_take (i := 15) (oi := ?oK50) (v := ?vK50) ?hi50 (by kernel_rfl) (by kernel_rfl) (by kernel_rfl) (fun _ _ _ h => h) (Or.inl ⟨?hw50, ?hy50⟩) HE4 ?_
              case hi50 => (simp only [List.getElem?_toArray, List.getElem?_cons_succ, List.getElem?_cons_zero]; rfl)
              case hw50 => rfl
              case hy50 => (intro w hSw; (try dsimp only at hSw); go_simp; try with_reducible rfl)
              try simp only [Act.put, List.setIfInBounds_toArray, List.set_cons_zero, List.set_cons_succ]
              refine wpAnyH_ready (rs := [17]) (by kernel_rfl) (by simp) ?_
              refine AllReadyH.cons (o := ?oK51) ?hi51 (fun K hK => ?_) AllReadyH.nil
              case hi51 => (simp only [List.getElem?_toArray, List.getElem?_cons_succ, List.getElem?_cons_zero]; rfl)
              go_simp
              refine (textN_w _ _).mono ?_
              rintro e uu ⟨rfl, hx⟩
              have HE5 : Ext (fun _ => False) w0 uu := Ext.trans HE4 hx
              clear hx
              try simp only []
              refine hK.out _ _ HE5 (fun _ => ?_)
              clear hK K
              try simp only [Act.put, List.setIfInBounds_toArray, List.set_cons_zero, List.set_cons_succ]
              refine wpAnyH_take (i := 18) (oi := ?oK52) (v := ?vK52) ?hi52 (by kernel_rfl) (by kernel_rfl) (by kernel_rfl) (fun _ _ _ h => h) (Or.inl ⟨?hw52, ?hy52⟩) HE5 ?_
              case hi52 => (simp only [List.getElem?_toArray, List.getElem?_cons_succ, List.getElem?_cons_zero]; rfl)
              case hw52 => rfl
              case hy52 => (intro w hSw; (try dsimp only at hSw); go_simp; try with_reducible rfl)
              try simp only [Act.put, List.setIfInBounds_toArray, List.set_cons_zero, List.set_cons_succ]
              refine wpAnyH_take (i := 19) (oi := ?oK53) (v := ?vK53) ?hi53 (by kernel_rfl) (by kernel_rfl) (by kernel_rfl) (fun _ _ _ h => h) (Or.inl ⟨?hw53, ?hy53⟩) HE5 ?_
              case hi53 => (simp only [List.getElem?_toArray, List.getElem?_cons_succ, List.getElem?_cons_zero]; rfl)
              case hw53 => rfl
              case hy53 => (intro w hSw; (try dsimp only at hSw); go_simp; try with_reducible rfl)
              try simp only [Act.put, List.setIfInBounds_toArray, List.set_cons_zero, List.set_cons_succ]
              refine wpAnyH_ready (rs := [21]) (by kernel_rfl) (by simp) ?_
              refine AllReadyH.cons (o := ?oK54) ?hi54 (fun K hK => ?_) AllReadyH.nil
              case hi54 => (simp only [List.getElem?_toArray, List.getElem?_cons_succ, List.getElem?_cons_zero]; rfl)
              go_simp
              refine (fixN_w _ _).mono ?_
              rintro e uu ⟨rfl, hx⟩
              have HE6 : Ext (fun _ => False) w0 uu := Ext.trans HE5 hx
              clear hx
              try simp only []
              refine hK.out _ _ HE6 (fun _ => ?_)
              clear hK K
              try simp only [Act.put, List.setIfInBounds_toArray, List.set_cons_zero, List.set_cons_succ]
              refine wpAnyH_take (i := 22) (oi := ?oK55) (v := ?vK55) ?hi55 (by kernel_rfl) (by kernel_rfl) (by kernel_rfl) (fun _ _ _ h => h) (Or.inl ⟨?hw55, ?hy55⟩) HE6 ?_
              case hi55 => (simp only [List.getElem?_toArray, List.getElem?_cons_succ, List.getElem?_cons_zero]; rfl)
              case hw55 => rfl
              case hy55 => (intro w hSw; (try dsimp only at hSw); go_simp; try with_reducible rfl)
              try simp only [Act.put, List.setIfInBounds_toArray, List.set_cons_zero, List.set_cons_succ]
              refine wpAnyH_take (i := 23) (oi := ?oK56) (v := ?vK56) ?hi56 (by kernel_rfl) (by kernel_rfl) (by kernel_rfl) (fun _ _ _ h => h) (Or.inl ⟨?hw56, ?hy56⟩) HE6 ?_
              case hi56 => (simp only [List.getElem?_toArray, List.getElem?_cons_succ, List.getElem?_cons_zero]; rfl)
              case hw56 => rfl
              case hy56 => (intro w hSw; (try dsimp only at hSw); go_simp; try with_reducible rfl)
              try simp only [Act.put, List.setIfInBounds_toArray, List.set_cons_zero, List.set_cons_succ]
              refine wpAnyH_take (i := 24) (oi := ?oK57) (v := ?vK57) ?hi57 (by kernel_rfl) (by kernel_rfl) (by kernel_rfl) (fun _ _ _ h => h) (Or.inl ⟨?hw57, ?hy57⟩) HE6 ?_
              case hi57 => (simp only [List.getElem?_toArray, List.getElem?_cons_succ, List.getElem?_cons_zero]; rfl)
              case hw57 => rfl
              case hy57 => (intro w hSw; (try dsimp only at hSw); go_simp; try with_reducible rfl)
              try simp only [Act.put, List.setIfInBounds_toArray, List.set_cons_zero, List.set_cons_succ]
              refine wpAnyH_take (i := 25) (oi := ?oK58) (v := ?vK58) ?hi58 (by kernel_rfl) (by kernel_rfl) (by kernel_rfl) (fun _ _ _ h => h) (Or.inl ⟨?hw58, ?hy58⟩) HE6 ?_
              case hi58 => (simp only [List.getElem?_toArray, List.getElem?_cons_succ, List.getElem?_cons_zero]; rfl)
              case hw58 => rfl
              case hy58 => (intro w hSw; (try dsimp only at hSw); go_simp; try with_reducible rfl)
              try simp only [Act.put, List.setIfInBounds_toArray, List.set_cons_zero, List.set_cons_succ]
              refine wpAnyH_take (i := 26) (oi := ?oK59) (v := ?vK59) ?hi59 (by kernel_rfl) (by kernel_rfl) (by kernel_rfl) (fun _ _ _ h => h) (Or.inl ⟨?hw59, ?hy59⟩) HE6 ?_
              case hi59 => (simp only [List.getElem?_toArray, List.getElem?_cons_succ, List.getElem?_cons_zero]; rfl)
              case hw59 => rfl
              case hy59 => (intro w hSw; (try dsimp only at hSw); go_simp; try with_reducible rfl)
              try simp only [Act.put, List.setIfInBounds_toArray, List.set_cons_zero, List.set_cons_succ]
              refine wpAnyH_take (i := 27) (oi := ?oK60) (v := ?vK60) ?hi60 (by kernel_rfl) (by kernel_rfl) (by kernel_rfl) (fun _ _ _ h => h) (Or.inl ⟨?hw60, ?hy60⟩) HE6 ?_
              case hi60 => (simp only [List.getElem?_toArray, List.getElem?_cons_succ, List.getElem?_cons_zero]; rfl)
              case hw60 => rfl
              case hy60 => (intro w hSw; (try dsimp only at hSw); go_simp; try with_reducible rfl)
              try simp only [Act.put, List.setIfInBounds_toArray, List.set_cons_zero, List.set_cons_succ]
              refine wpAnyH_ready (rs := [28]) (by kernel_rfl) (by simp) ?_
              refine AllReadyH.cons (o := ?oK61) ?hi61 (fun K hK => ?_) AllReadyH.nil
              case hi61 => (simp only [List.getElem?_toArray, List.getElem?_cons_succ, List.getElem?_cons_zero]; rfl)
              go_simp
              refine (errN_w _).mono ?_
              rintro e uu ⟨rfl, hx⟩
              have HE7 : Ext (fun _ => False) w0 uu := Ext.trans HE6 hx
              clear hx
              try simp only []
              refine hK.out _ _ HE7 (fun _ => ?_)
              clear hK K
              try simp only [Act.put, List.setIfInBounds_toArray, List.set_cons_zero, List.set_cons_succ]
              refine wpAnyH_take (i := 29) (oi := ?oK62) (v := ?vK62) ?hi62 (by kernel_rfl) (by kernel_rfl) (by kernel_rfl) (fun _ _ _ h => h) (Or.inl ⟨?hw62, ?hy62⟩) HE7 ?_
              case hi62 => (simp only [List.getElem?_toArray, List.getElem?_cons_succ, List.getElem?_cons_zero]; rfl)
              case hw62 => rfl
              case hy62 => (intro w hSw; (try dsimp only at hSw); go_simp; try with_reducible rfl)
              try simp only [Act.put, List.setIfInBounds_toArray, List.set_cons_zero, List.set_cons_succ]
              refine wpAnyH_take (i := 30) (oi := ?oK63) (v := ?vK63) ?hi63 (by kernel_rfl) (by kernel_rfl) (by kernel_rfl) (fun _ _ _ h => h) (Or.inl ⟨?hw63, ?hy63⟩) HE7 ?_
              case hi63 => (simp only [List.getElem?_toArray, List.getElem?_cons_succ, List.getElem?_cons_zero]; rfl)
              case hw63 => rfl
              case hy63 => (intro w hSw; (try dsimp only at hSw); go_simp; try with_reducible rfl)
              try simp only [Act.put, List.setIfInBounds_toArray, List.set_cons_zero, List.set_cons_succ]
              refine wpAnyH_take (i := 31) (oi := ?oK64) (v := ?vK64) ?hi64 (by kernel_rfl) (by kernel_rfl) (by kernel_rfl) (fun _ _ _ h => h) (Or.inl ⟨?hw64, ?hy64⟩) HE7 ?_
              case hi64 => (simp only [List.getElem?_toArray, List.getElem?_cons_succ, List.getElem?_cons_zero]; rfl)
              case hw64 => rfl
              case hy64 => (intro w hSw; (try dsimp only at hSw); go_simp; try with_reducible rfl)
              try simp only [Act.put, List.setIfInBounds_toArray, List.set_cons_zero, List.set_cons_succ]
              refine wpAnyH_take (i := 32) (oi := ?oK65) (v := ?vK65) ?hi65 (by kernel_rfl) (by kernel_rfl) (by kernel_rfl) (fun _ _ _ h => h) (Or.inl ⟨?hw65, ?hy65⟩) HE7 ?_
              case hi65 => (simp only [List.getElem?_toArray, List.getElem?_cons_succ, List.getElem?_cons_zero]; rfl)
              case hw65 => rfl
              case hy65 => (intro w hSw; (try dsimp only at hSw); go_simp; try with_reducible rfl)
              try simp only [Act.put, List.setIfInBounds_toArray, List.set_cons_zero, List.set_cons_succ]
              refine wpAnyH_ready (rs := [33]) (by kernel_rfl) (by simp) ?_
              refine AllReadyH.cons (o := ?oK66) ?hi66 (fun K hK => ?_) AllReadyH.nil
              case hi66 => (simp only [List.getElem?_toArray, List.getElem?_cons_succ, List.getElem?_cons_zero]; rfl)
              go_simp
              refine (doneN_w _).mono ?_
              rintro e uu ⟨rfl, hx⟩
              have HE8 : Ext (fun _ => False) w0 uu := Ext.trans HE7 hx
              clear hx
              try simp only []
              refine hK.out _ _ HE8 (fun _ => ?_)
              clear hK K
              try simp only [Act.put, List.setIfInBounds_toArray, List.set_cons_zero, List.set_cons_succ]
              refine wpAnyH_take (i := 34) (oi := ?oK67) (v := ?vK67) ?hi67 (by kernel_rfl) (by kernel_rfl) (by kernel_rfl) (fun _ _ _ h => h) (Or.inl ⟨?hw67, ?hy67⟩) HE8 ?_
              case hi67 => (simp only [List.getElem?_toArray, List.getElem?_cons_succ, List.getElem?_cons_zero]; rfl)
              case hw67 => rfl
              case hy67 => (intro w hSw; (try dsimp only at hSw); go_simp; try with_reducible rfl)
              try simp only [Act.put, List.setIfInBounds_toArray, List.set_cons_zero, List.set_cons_succ]
              refine wpAnyH_take (i := 35) (oi := ?oK68) (v := ?vK68) ?hi68 (by kernel_rfl) (by kernel_rfl) (by kernel_rfl) (fun _ _ _ h => h) (Or.inl ⟨?hw68, ?hy68⟩) HE8 ?_
              case hi68 => (simp only [List.getElem?_toArray, List.getElem?_cons_succ, List.getElem?_cons_zero]; rfl)
              case hw68 => rfl
              case hy68 => (intro w hSw; (try dsimp only at hSw); go_simp; try with_reducible rfl)
              try simp only [Act.put, List.setIfInBounds_toArray, List.set_cons_zero, List.set_cons_succ]
              refine wpAnyH_take (i := 36) (oi := ?oK69) (v := ?vK69) ?hi69 (by kernel_rfl) (by kernel_rfl) (by kernel_rfl) (fun _ _ _ h => h) (Or.inl ⟨?hw69, ?hy69⟩) HE8 ?_
              case hi69 => (simp only [List.getElem?_toArray, List.getElem?_cons_succ, List.getElem?_cons_zero]; rfl)
              case hw69 => rfl
              case hy69 => (intro w hSw; (try dsimp only at hSw); go_simp; try with_reducible rfl)
              try simp only [Act.put, List.setIfInBounds_toArray, List.set_cons_zero, List.set_cons_succ]
              refine wpAnyH_ready (rs := [37]) (by kernel_rfl) (by simp) ?_
              refine AllReadyH.cons (o := ?oK70) ?hi70 (fun K hK => ?_) AllReadyH.nil
              case hi70 => (simp only [List.getElem?_toArray, List.getElem?_cons_succ, List.getElem?_cons_zero]; rfl)
              go_simp
              refine (awake_w _).mono ?_
              rintro e uu ⟨rfl, hx⟩
              have HE9 : Ext (fun _ => False) w0 uu := Ext.trans HE8 hx
              clear hx
              try simp only []
              refine hK.out _ _ HE9 (fun _ => ?_)
              clear hK K
              try simp only [Act.put, List.setIfInBounds_toArray, List.set_cons_zero, List.set_cons_succ]
              refine wpAnyH_take (i := 38) (oi := ?oK71) (v := ?vK71) ?hi71 (by kernel_rfl) (by kernel_rfl) (by kernel_rfl) (fun _ _ _ h => h) (Or.inl ⟨?hw71, ?hy71⟩) HE9 ?_
              case hi71 => (simp only [List.getElem?_toArray, List.getElem?_cons_succ, List.getElem?_cons_zero]; rfl)
              case hw71 => rfl
              case hy71 => (intro w hSw; (try dsimp only at hSw); go_simp; try with_reducible rfl)
              try simp only [Act.put, List.setIfInBounds_toArray, List.set_cons_zero, List.set_cons_succ]
              refine wpAnyH_take (i := 39) (oi := ?oK72) (v := ?vK72) ?hi72 (by kernel_rfl) (by kernel_rfl) (by kernel_rfl) (fun _ _ _ h => h) (Or.inl ⟨?hw72, ?hy72⟩) HE9 ?_
              case hi72 => (simp only [List.getElem?_toArray, List.getElem?_cons_succ, List.getElem?_cons_zero]; rfl)
              case hw72 => rfl
              case hy72 => (intro w hSw; (try dsimp only at hSw); go_simp; try with_reducible rfl)
              try simp only [Act.put, List.setIfInBounds_toArray, List.set_cons_zero, List.set_cons_succ]
              refine wpAnyH_done (by kernel_rfl) ?_ _
              refine NoPanic.normal ?_
              go_wp2
              go_ret
              exact ⟨rfl, HE9⟩
            case wy107 =>
              go_simp
              refine hK.out _ _ HE2 (fun _ => ?_)
              clear hK K
              try simp only [Act.put, List.setIfInBounds_toArray, List.set_cons_zero, List.set_cons_succ]
              refine wpAnyH_ready (rs := [4]) (by kernel_rfl) (by simp) ?_
              refine AllReadyH.cons (o := ?oK73) ?hi73 (fun K hK => ?_) AllReadyH.nil
              case hi73 => (simp only [List.getElem?_toArray, List.getElem?_cons_succ, List.getElem?_cons_zero]; rfl)
              go_simp
              refine hK.out _ _ HE2 (fun _ => ?_)
              clear hK K
              try simp only [Act.put, List.setIfInBounds_toArray, List.set_cons_zero, List.set_cons_succ]
              refine wpAnyH_take (i := 8) (oi := ?oK74) (v := ?vK74) ?hi74 (by kernel_rfl) (by kernel_rfl) (by kernel_rfl) (fun _ _ _ h => h) (Or.inl ⟨?hw74, ?hy74⟩) HE2 ?_
              case hi74 => (simp only [List.getElem?_toArray, List.getElem?_cons_succ, List.getElem?_cons_zero]; rfl)
              case hw74 => rfl
              case hy74 => (intro w hSw; (try dsimp only at hSw); go_simp; try with_reducible rfl)
              try simp only [Act.put, List.setIfInBounds_toArray, List.set_cons_zero, List.set_cons_succ]
              refine wpAnyH_take (i := 9) (oi := ?oK75) (v := ?vK75) ?hi75 (by kernel_rfl) (by kernel_rfl) (by kernel_rfl) (fun _ _ _ h => h) (Or.inl ⟨?hw75, ?hy75⟩) HE2 ?_
              case hi75 => (simp only [List.getElem?_toArray, List.getElem?_cons_succ, List.getElem?_cons_zero]; rfl)
              case hw75 => rfl
              case hy75 => (intro w hSw; (try dsimp only at hSw); go_simp; try with_reducible rfl)
              try simp only [Act.put, List.setIfInBounds_toArray, List.set_cons_zero, List.set_cons_succ]
              refine wpAnyH_take (i := 10) (oi := ?oK76) (v := ?vK76) ?hi76 (by kernel_rfl) (by kernel_rfl) (by kernel_rfl) (fun _ _ _ h => h) (Or.inl ⟨?hw76, ?hy76⟩) HE2 ?_
              case hi76 => (simp only [List.getElem?_toArray, List.getElem?_cons_succ, List.getElem?_cons_zero]; rfl)
              case hw76 => rfl
              case hy76 => (intro w hSw; (try dsimp only at hSw); go_simp; try with_reducible rfl)
              try simp only [Act.put, List.setIfInBounds_toArray, List.set_cons_zero, List.set_cons_succ]
              refine wpAnyH_take (i := 11) (oi := ?oK77) (v := ?vK77) ?hi77 (by kernel_rfl) (by kernel_rfl) (by kernel_rfl) (fun _ _ _ h => h) (Or.inl ⟨?hw77, ?hy77⟩) HE2 ?_
              case hi77 => (simp only [List.getElem?_toArray, List.getElem?_cons_succ, List.getElem?_cons_zero]; rfl)
              case hw77 => rfl
              case hy77 => (intro w hSw; (try dsimp only at hSw); go_simp; try with_reducible rfl)
              try simp only [Act.put, List.setIfInBounds_toArray, List.set_cons_zero, List.set_cons_succ]
              refine wpAnyH_take (i := 13) (oi := ?oK78) (v := ?vK78) ?hi78 (by kernel_rfl) (by kernel_rfl) (by kernel_rfl) (fun _ _ _ h => h) (Or.inl ⟨?hw78, ?hy78⟩) HE2 ?_
              case hi78 => (simp only [List.getElem?_toArray, List.getElem?_cons_succ, List.getElem?_cons_zero]; rfl)
              case hw78 => rfl
              case hy78 => (intro w hSw; (try dsimp only at hSw); go_simp; try with_reducible rfl)
              try simp only [Act.put, List.setIfInBounds_toArray, List.set_cons_zero, List.set_cons_succ]
              refine wpAnyH_take (i := 16) (oi := ?oK79) (v := ?vK79) ?hi79 (by kernel_rfl) (by kernel_rfl) (by kernel_rfl) (fun _ _ _ h => h) (Or.inl ⟨?hw79, ?hy79⟩) HE2 ?_
              case hi79 => (simp only [List.getElem?_toArray, List.getElem?_cons_succ, List.getElem?_cons_zero]; rfl)
              case hw79 => rfl
              case hy79 => (intro w hSw; (try dsimp only at hSw); go_simp; try with_reducible rfl)
              try simp only [Act.put, List.setIfInBounds_toArray, List.set_cons_zero, List.set_cons_succ]
              refine wpAnyH_take (i := 20) (oi := ?oK80) (v := ?vK80) ?hi80 (by kernel_rfl) (by kernel_rfl) (by kernel_rfl) (fun _ _ _ h => h) (Or.inl ⟨?hw80, ?hy80⟩) HE2 ?_
              case hi80 => (simp only [List.getElem?_toArray, List.getElem?_cons_succ, List.getElem?_cons_zero]; rfl)
              case hw80 => rfl
              case hy80 => (intro w hSw; (try dsimp only at hSw); go_simp; try with_reducible rfl)
              try simp only [Act.put, List.setIfInBounds_toArray, List.set_cons_zero, List.set_cons_succ]
              refine wpAnyH_ready (rs := [12]) (by kernel_rfl) (by simp) ?_
              refine AllReadyH.cons (o := ?oK81) ?hi81 (fun K hK => ?_) AllReadyH.nil
              case hi81 => (simp only [List.getElem?_toArray, List.getElem?_cons_succ, List.getElem?_cons_zero]; rfl)
              go_simp
              refine (numN_w _).mono ?_
              rintro e uu ⟨rfl, hx⟩
              have HE3 : Ext (fun _ => False) w0 uu := Ext.trans HE2 hx
              clear hx
              try simp only []
              refine hK.out _ _ HE3 (fun _ => ?_)
              clear hK K
              try simp only [Act.put, List.setIfInBounds_toArray, List.set_cons_zero, List.set_cons_succ]
              refine wpAnyH_ready (rs := [14]) (by kernel_rfl) (by simp) ?_
              refine AllReadyH.cons (o := ?oK82) ?hi82 (fun K hK => ?_) AllReadyH.nil
              case hi82 => (simp only [List.getElem?_toArray, List.getElem?_cons_succ, List.getElem?_cons_zero]; rfl)
              go_simp
              refine (leftN_w _).mono ?_
              rintro e uu ⟨rfl, hx⟩
              have HE4 : Ext (fun _ => False) w0 uu := Ext.trans HE3 hx
              clear hx
              try simp only []
              refine hK.out _ _ HE4 (fun _ => ?_)
              clear hK K
              try simp only [Act.put, List.setIfInBounds_toArray, List.set_cons_zero, List.set_cons_succ]
              refine wpAnyH_take (i := 15) (oi := ?oK83) (v := ?vK83) ?hi83 (by kernel_rfl) (by kernel_rfl) (by kernel_rfl) (fun _ _ _ h => h) (Or.inl ⟨?hw83, ?hy83⟩) HE4 ?_
              case hi83 => (simp only [List.getElem?_toArray, List.getElem?_cons_succ, List.getElem?_cons_zero]; rfl)
              case hw83 => rfl
              case hy83 => (intro w hSw; (try dsimp only at hSw); go_simp; try with_reducible rfl)
              try simp only [Act.put, List.setIfInBounds_toArray, List.set_cons_zero, List.set_cons_succ]
              refine wpAnyH_ready (rs := [17]) (by kernel_rfl) (by simp) ?_
              refine AllReadyH.cons (o := ?oK84) ?hi84 (fun K hK => ?_) AllReadyH.nil
              case hi84 => (simp only [List.getElem?_toArray, List.getElem?_cons_succ, List.getElem?_cons_zero]; rfl)
              go_simp
              refine (textN_w _ _).mono ?_
              rintro e uu ⟨rfl, hx⟩
              have HE5 : Ext (fun _ => False) w0 uu := Ext.trans HE4 hx
              clear hx
              try simp only []
              refine hK.out _ _ HE5 (fun _ => ?_)
              clear hK K
              try simp only [Act.put, List.setIfInBounds_toArray, List.set_cons_zero, List.set_cons_succ]
              refine wpAnyH_take (i := 18) (oi := ?oK85) (v := ?vK85) ?hi85 (by kernel_rfl) (by kernel_rfl) (by kernel_rfl) (fun _ _ _ h => h) (Or.inl ⟨?hw85, ?hy85⟩) HE5 ?_
              case hi85 => (simp only [List.getElem?_toArray, List.getElem?_cons_succ, List.getElem?_cons_zero]; rfl)
              case hw85 => rfl
              case hy85 => (intro w hSw; (try dsimp only at hSw); go_simp; try with_reducible rfl)
              try simp only [Act.put, List.setIfInBounds_toArray, List.set_cons_zero, List.set_cons_succ]
              refine wpAnyH_take (i := 19) (oi := ?oK86) (v := ?vK86) ?hi86 (by kernel_rfl) (by kernel_rfl) (by kernel_rfl) (fun _ _ _ h => h) (Or.inl ⟨?hw86, ?hy86⟩) HE5 ?_
              case hi86 => (simp only [List.getElem?_toArray, List.getElem?_cons_succ, List.getElem?_cons_zero]; rfl)
              case hw86 => rfl
              case hy86 => (intro w hSw; (try dsimp only at hSw); go_simp; try with_reducible rfl)
              try simp only [Act.put, List.setIfInBounds_toArray, List.set_cons_zero, List.set_cons_succ]
              refine wpAnyH_ready (rs := [21]) (by kernel_rfl) (by simp) ?_
              refine AllReadyH.cons (o := ?oK87) ?hi87 (fun K hK => ?_) AllReadyH.nil
              case hi87 => (simp only [List.getElem?_toArray, List.getElem?_cons_succ, List.getElem?_cons_zero]; rfl)
              go_simp
              refine (fixN_w _ _).mono ?_
              rintro e uu ⟨rfl, hx⟩
              have HE6 : Ext (fun _ => False) w0 uu := Ext.trans HE5 hx
              clear hx
              try simp only []
              refine hK.out _ _ HE6 (fun _ => ?_)
              clear hK K
              try simp only [Act.put, List.setIfInBounds_toArray, List.set_cons_zero, List.set_cons_succ]
              refine wpAnyH_take (i := 22) (oi := ?oK88) (v := ?vK88) ?hi88 (by kernel_rfl) (by kernel_rfl) (by kernel_rfl) (fun _ _ _ h => h) (Or.inl ⟨?hw88, ?hy88⟩) HE6 ?_
              case hi88 => (simp only [List.getElem?_toArray, List.getElem?_cons_succ, List.getElem?_cons_zero]; rfl)
              case hw88 => rfl
              case hy88 => (intro w hSw; (try dsimp only at hSw); go_simp; try with_reducible rfl)
              try simp only [Act.put, List.setIfInBounds_toArray, List.set_cons_zero, List.set_cons_succ]
              refine wpAnyH_take (i := 23) (oi := ?oK89) (v := ?vK89) ?hi89 (by kernel_rfl) (by kernel_rfl) (by kernel_rfl) (fun _ _ _ h => h) (Or.inl ⟨?hw89, ?hy89⟩) HE6 ?_
              case hi89 => (simp only [List.getElem?_toArray, List.getElem?_cons_succ, List.getElem?_cons_zero]; rfl)
              case hw89 => rfl
              case hy89 => (intro w hSw; (try dsimp only at hSw); go_simp; try with_reducible rfl)
              try simp only [Act.put, List.setIfInBounds_toArray, List.set_cons_zero, List.set_cons_succ]
              refine wpAnyH_take (i := 24) (oi := ?oK90) (v := ?vK90) ?hi90 (by kernel_rfl) (by kernel_rfl) (by kernel_rfl) (fun _ _ _ h => h) (Or.inl ⟨?hw90, ?hy90⟩) HE6 ?_
              case hi90 => (simp only [List.getElem?_toArray, List.getElem?_cons_succ, List.getElem?_cons_zero]; rfl)
              case hw90 => rfl
              case hy90 => (intro w hSw; (try dsimp only at hSw); go_simp; try with_reducible rfl)
              try simp only [Act.put, List.setIfInBounds_toArray, List.set_cons_zero, List.set_cons_succ]
              refine wpAnyH_take (i := 25) (oi := ?oK91) (v := ?vK91) ?hi91 (by kernel_rfl) (by kernel_rfl) (by kernel_rfl) (fun _ _ _ h => h) (Or.inl ⟨?hw91, ?hy91⟩) HE6 ?_
              case hi91 => (simp only [List.getElem?_toArray, List.getElem?_cons_succ, List.getElem?_cons_zero]; rfl)
              case hw91 => rfl
              case hy91 => (intro w hSw; (try dsimp only at hSw); go_simp; try with_reducible rfl)
              try simp only [Act.put, List.setIfInBounds_toArray, List.set_cons_zero, List.set_cons_succ]
              refine wpAnyH_take (i := 26) (oi := ?oK92) (v := ?vK92) ?hi92 (by kernel_rfl) (by kernel_rfl) (by kernel_rfl) (fun _ _ _ h => h) (Or.inl ⟨?hw92, ?hy92⟩) HE6 ?_
              case hi92 => (simp only [List.getElem?_toArray, List.getElem?_cons_succ, List.getElem?_cons_zero]; rfl)
              case hw92 => rfl
              case hy92 => (intro w hSw; (try dsimp only at hSw); go_simp; try with_reducible rfl)
              try simp only [Act.put, List.setIfInBounds_toArray, List.set_cons_zero, List.set_cons_succ]
              refine wpAnyH_take (i := 27) (oi := ?oK93) (v := ?vK93) ?hi93 (by kernel_rfl) (by kernel_rfl) (by kernel_rfl) (fun _ _ _ h => h) (Or.inl ⟨?hw93, ?hy93⟩) HE6 ?_
              case hi93 => (simp only [List.getElem?_toArray, List.getElem?_cons_succ, List.getElem?_cons_zero]; rfl)
              case hw93 => rfl
              case hy93 => (intro w hSw; (try dsimp only at hSw); go_simp; try with_reducible rfl)
              try simp only [Act.put, List.setIfInBounds_toArray, List.set_cons_zero, List.set_cons_succ]
              refine wpAnyH_ready (rs := [28]) (by kernel_rfl) (by simp) ?_
              refine AllReadyH.cons (o := ?oK94) ?hi94 (fun K hK => ?_) AllReadyH.nil
              case hi94 => (simp only [List.getElem?_toArray, List.getElem?_cons_succ, List.getElem?_cons_zero]; rfl)
              go_simp
              refine (errN_w _).mono ?_
              rintro e uu ⟨rfl, hx⟩
              have HE7 : Ext (fun _ => False) w0 uu := Ext.trans HE6 hx
              clear hx
              try simp only []
              refine hK.out _ _ HE7 (fun _ => ?_)
              clear hK K
              try simp only [Act.put, List.setIfInBounds_toArray, List.set_cons_zero, List.set_cons_succ]
              refine wpAnyH_take (i := 29) (oi := ?oK95) (v := ?vK95) ?hi95 (by kernel_rfl) (by kernel_rfl) (by kernel_rfl) (fun _ _ _ h => h) (Or.inl ⟨?hw95, ?hy95⟩) HE7 ?_
              case hi95 => (simp only [List.getElem?_toArray, List.getElem?_cons_succ, List.getElem?_cons_zero]; rfl)
              case hw95 => rfl
              case hy95 => (intro w hSw; (try dsimp only at hSw); go_simp; try with_reducible rfl)
              try simp only [Act.put, List.setIfInBounds_toArray, List.set_cons_zero, List.set_cons_succ]
              refine wpAnyH_take (i := 30) (oi := ?oK96) (v := ?vK96) ?hi96 (by kernel_rfl) (by kernel_rfl) (by kernel_rfl) (fun _ _ _ h => h) (Or.inl ⟨?hw96, ?hy96⟩) HE7 ?_
              case hi96 => (simp only [List.getElem?_toArray, List.getElem?_cons_succ, List.getElem?_cons_zero]; rfl)
              case hw96 => rfl
              case hy96 => (intro w hSw; (try dsimp only at hSw); go_simp; try with_reducible rfl)
              try simp only [Act.put, List.setIfInBounds_toArray, List.set_cons_zero, List.set_cons_succ]
              refine wpAnyH_take (i := 31) (oi := ?oK97) (v := ?vK97) ?hi97 (by kernel_rfl) (by kernel_rfl) (by kernel_rfl) (fun _ _ _ h => h) (Or.inl ⟨?hw97, ?hy97⟩) HE7 ?_
              case hi97 => (simp only [List.getElem?_toArray, List.getElem?_cons_succ, List.getElem?_cons_zero]; rfl)
              case hw97 => rfl
              case hy97 => (intro w hSw; (try dsimp only at hSw); go_simp; try with_reducible rfl)
              try simp only [Act.put, List.setIfInBounds_toArray, List.set_cons_zero, List.set_cons_succ]
              refine wpAnyH_take (i := 32) (oi := ?oK98) (v := ?vK98) ?hi98 (by kernel_rfl) (by kernel_rfl) (by kernel_rfl) (fun _ _ _ h => h) (Or.inl ⟨?hw98, ?hy98⟩) HE7 ?_
              case hi98 => (simp only [List.getElem?_toArray, List.getElem?_cons_succ, List.getElem?_cons_zero]; rfl)
              case hw98 => rfl
              case hy98 => (intro w hSw; (try dsimp only at hSw); go_simp; try with_reducible rfl)
              try simp only [Act.put, List.setIfInBounds_toArray, List.set_cons_zero, List.set_cons_succ]
              refine wpAnyH_ready (rs := [33]) (by kernel_rfl) (by simp) ?_
              refine AllReadyH.cons (o := ?oK99) ?hi99 (fun K hK => ?_) AllReadyH.nil
              case hi99 => (simp only [List.getElem?_toArray, List.getElem?_cons_succ, List.getElem?_cons_zero]; rfl)
              go_simp
              refine (doneN_w _).mono ?_
              rintro e uu ⟨rfl, hx⟩
              have HE8 : Ext (fun _ => False) w0 uu := Ext.trans HE7 hx
              clear hx
              try simp only []
              refine hK.out _ _ HE8 (fun _ => ?_)
              clear hK K
              try simp only [Act.put, List.setIfInBounds_toArray, List.set_cons_zero, List.set_cons_succ]
              refine wpAnyH_take (i := 34) (oi := ?oK100) (v := ?vK100) ?hi100 (by kernel_rfl) (by kernel_rfl) (by kernel_rfl) (fun _ _ _ h => h) (Or.inl ⟨?hw100, ?hy100⟩) HE8 ?_
              case hi100 => (simp only [List.getElem?_toArray, List.getElem?_cons_succ, List.getElem?_cons_zero]; rfl)
              case hw100 => rfl
              case hy100 => (intro w hSw; (try dsimp only at hSw); go_simp; try with_reducible rfl)
              try simp only [Act.put, List.setIfInBounds_toArray, List.set_cons_zero, List.set_cons_succ]
              refine wpAnyH_take (i := 35) (oi := ?oK101) (v := ?vK101) ?hi101 (by kernel_rfl) (by kernel_rfl) (by kernel_rfl) (fun _ _ _ h => h) (Or.inl ⟨?hw101, ?hy101⟩) HE8 ?_
              case hi101 => (simp only [List.getElem?_toArray, List.getElem?_cons_succ, List.getElem?_cons_zero]; rfl)
              case hw101 => rfl
              case hy101 => (intro w hSw; (try dsimp only at hSw); go_simp; try with_reducible rfl)
              try simp only [Act.put, List.setIfInBounds_toArray, List.set_cons_zero, List.set_cons_succ]
              refine wpAnyH_take (i := 36) (oi := ?oK102) (v := ?vK102) ?hi102 (by kernel_rfl) (by kernel_rfl) (by kernel_rfl) (fun _ _ _ h => h) (Or.inl ⟨?hw102, ?hy102⟩) HE8 ?_
              case hi102 => (simp only [List.getElem?_toArray, List.getElem?_cons_succ, List.getElem?_cons_zero]; rfl)
              case hw102 => rfl
              case hy102 => (intro w hSw; (try dsimp only at hSw); go_simp; try with_reducible rfl)
              try simp only [Act.put, List.setIfInBounds_toArray, List.set_cons_zero, List.set_cons_succ]
              refine wpAnyH_ready (rs := [37]) (by kernel_rfl) (by simp) ?_
              refine AllReadyH.cons (o := ?oK103) ?hi103 (fun K hK => ?_) AllReadyH.nil
              case hi103 => (simp only [List.getElem?_toArray, List.getElem?_cons_succ, List.getElem?_cons_zero]; rfl)
              go_simp
              refine (awake_w _).mono ?_
              rintro e uu ⟨rfl, hx⟩
              have HE9 : Ext (fun _ => False) w0 uu := Ext.trans HE8 hx
              clear hx
              try simp only []
              refine hK.out _ _ HE9 (fun _ => ?_)
              clear hK K
              try simp only [Act.put, List.setIfInBounds_toArray, List.set_cons_zero, List.set_cons_succ]
              refine wpAnyH_take (i := 38) (oi := ?oK104) (v := ?vK104) ?hi104 (by kernel_rfl) (by kernel_rfl) (by kernel_rfl) (fun _ _ _ h => h) (Or.inl ⟨?hw104, ?hy104⟩) HE9 ?_
              case hi104 => (simp only [List.getElem?_toArray, List.getElem?_cons_succ, List.getElem?_cons_zero]; rfl)
              case hw104 => rfl
              case hy104 => (intro w hSw; (try dsimp only at hSw); go_simp; try with_reducible rfl)
              try simp only [Act.put, List.setIfInBounds_toArray, List.set_cons_zero, List.set_cons_succ]
              refine wpAnyH_take (i := 39) (oi := ?oK105) (v := ?vK105) ?hi105 (by kernel_rfl) (by kernel_rfl) (by kernel_rfl) (fun _ _ _ h => h) (Or.inl ⟨?hw105, ?hy105⟩) HE9 ?_
              case hi105 => (simp only [List.getElem?_toArray, List.getElem?_cons_succ, List.getElem?_cons_zero]; rfl)
              case hw105 => rfl
              case hy105 => (intro w hSw; (try dsimp only at hSw); go_simp; try with_reducible rfl)
              try simp only [Act.put, List.setIfInBounds_toArray, List.set_cons_zero, List.set_cons_succ]
              refine wpAnyH_done (by kernel_rfl) ?_ _
              refine NoPanic.normal ?_
              go_wp2
              go_ret
              exact ⟨rfl, HE9⟩
end Go.Proofs.Ytflcdbfcipkhkaa
