import Derived.Test.YtflcdbfcipkhkaaMDsF
import Derived.Test.YtflcdbfcipkhkaaMDbL
import Derived.Test.YtflcdbfcipkhkaaAvL3
import Derived.Test.YtflcdbfcipkhkaaProg
import Derived.KernelRfl
import Derived.Test.YtflcdbfcipkhkaaMDgC

set_option linter.unusedVariables false
set_option linter.unusedSimpArgs false

/- segment.Keys as a contract. -/


set_option linter.unusedSimpArgs false
set_option linter.unusedVariables false
set_option maxHeartbeats 4000000
namespace Go.Proofs.Ytflcdbfcipkhkaa
open Go.Av Go.Sort Go.Maps Go.Shelf Go.RowKit

theorem cf_of_rep {mu : Mem} {w : World} (hm : MemOK mu w) {l : List Bat} {v : Value} (h : Rep mu (.sl 6 (BL l)) v) : ∃ a cap, v = .slice a l.length cap ∧ CF w w.heap.size a l := by
  rcases h.inv_sl with ⟨⟨p, cap, rfl, _⟩, hx⟩ | ⟨b, off, cap, vals, rfl, h1, h2, h3, h4⟩
  · have : l = [] := by simpa [BL] using hx
    subst this
    exact ⟨p, cap, rfl, fun i hi => by simp at hi⟩
  · refine ⟨_, cap, by rw [BL_length], fun i hi => ?_⟩
    have hi' : i < (BL l).length := by simpa using hi
    have hgd : (BL l).getD i .undef = (l.getD i bat0).sv := by rw [List.getD_eq_getElem?_getD]; exact BL_get l hi
    have hc : ∀ j, j < 6 → w.cell? ⟨b, off + i * 6 + j, none⟩ = some (vals i j) := fun j hj => (hm _ _ _ (h3 i j hi' hj)).1
    have hv : ∀ j, j < 6 → Rep mu ((l.getD i bat0).sv.cell j) (vals i j) := fun j hj => by have := h4 i j hi' hj; rwa [hgd] at this
    generalize l.getD i bat0 = x at *
    have hb : b < w.heap.size := hm.lt (h3 i 0 hi' (by omega))
    have k0 := Rep.inv_int (hv 0 (by omega) : Rep mu (.int .i64 x.ba) (vals i 0))
    have k1 := Rep.inv_int (hv 1 (by omega) : Rep mu (.int .i64 x.ct) (vals i 1))
    have k2 := Rep.inv_int (hv 2 (by omega) : Rep mu (.int .i64 x.pr) (vals i 2))
    have k3 := Rep.inv_int (hv 3 (by omega) : Rep mu (.int .i64 x.ep) (vals i 3))
    have k4 := Rep.inv_int (hv 4 (by omega) : Rep mu (.int .i64 x.sq) (vals i 4))
    have hr : Rep mu (.sl 6 (RL x.rs)) (vals i 5) := hv 5 (by omega)
    obtain ⟨ar, cr, k5, hrec⟩ : ∃ ar cr, vals i 5 = .slice ar x.rs.length cr ∧ ∀ k, k < x.rs.length → ∃ b2 off2, ar = some ⟨b2, off2, none⟩ ∧ b2 < w.heap.size ∧ ∀ q, q < 6 → w.cell? ⟨b2, off2 + k * 6 + q, none⟩ = some ((encL (x.rs.getD k rec0)).getD q Go.undef) := by
      rcases hr.inv_sl with ⟨⟨p, cap2, e, _⟩, hx⟩ | ⟨b2, off2, cap2, vals2, e, g1, g2, g3, g4⟩
      · have : x.rs = [] := by simpa [RL] using hx
        rw [this]
        exact ⟨p, cap2, e, fun k hk => by simp at hk⟩
      · refine ⟨_, cap2, by rw [e, RL_length], fun k hk => ?_⟩
        have hk' : k < (RL x.rs).length := by simpa using hk
        refine ⟨b2, off2, rfl, hm.lt (g3 k 0 hk' (by omega)), fun q hq => ?_⟩
        have e1 : (RL x.rs).getD k .undef = (x.rs.getD k rec0).sv := by rw [List.getD_eq_getElem?_getD]; exact RL_get x.rs hk
        have h5 := g4 k q hk' hq
        rw [e1] at h5
        rw [← rep_encL_inv hq h5]
        exact (hm _ _ _ (g3 k q hk' hq)).1
    refine ⟨b, off, ar, cr, rfl, hb, ?_, ?_, ?_, ?_, ?_, ?_, hrec⟩
    · rw [← k0]; exact hc 0 (by omega)
    · rw [← k1]; exact hc 1 (by omega)
    · rw [← k2]; exact hc 2 (by omega)
    · rw [← k3]; exact hc 3 (by omega)
    · rw [← k4]; exact hc 4 (by omega)
    · rw [← k5]; exact hc 5 (by omega)
theorem keys_seg (s : Seg) (hs : okB s.ls) (hk : ∀ b ∈ s.ls, ∀ r ∈ b.rs, r.key.size ≤ 1000) : Pure Try.prog 54 [s.sv] (.sv (.sl 1 (TL (keyS s.ls [])))) := by
  intro mu w vs hm hra
  obtain ⟨v0, rfl⟩ : ∃ v0, vs = [v0] := by
    match vs, hra.1 with
    | [a], _ => exact ⟨a, rfl⟩
  obtain ⟨us, rfl, hlen, hus⟩ := Rep.inv_agg (hra.2 0 (by simp) : Rep mu (.agg s.cells) v0)
  obtain ⟨u0, u1, rfl⟩ : ∃ u0 u1, us = [u0, u1] := by
    match us, hlen with
    | [a, b], _ => exact ⟨a, b, rfl⟩
  have r0 := Rep.inv_int (hus 0 (by simp [Seg.cells]) : Rep mu (.int .i64 s.ba) u0)
  obtain ⟨a, cap, r1, hcf⟩ := cf_of_rep hm (hus 1 (by simp [Seg.cells]) : Rep mu (.sl 6 (BL s.ls)) u1)
  subst r0 r1
  refine (keys_raw s.ba a cap s.ls w hs hk hcf).mono ?_
  rintro e w' ⟨v, ss, rfl, hK, hrow, hnil, hb⟩
  have hsort := sort_keys s.ls hK
  rw [hsort] at hrow
  generalize hX : keyS s.ls [] = X at *
  have hlen2 : ss.length = X.length := by
    have := congrArg List.length hsort
    simpa using this
  rw [hlen2] at hrow
  obtain ⟨q1, q2⟩ := hrow
  have hext : Ext (fun _ => False) w w' := ⟨hb.os, hb.tape, hb.output, hb.size, fun k hk _ => hb.block k hk⟩
  rcases q2 with ⟨rfl, hn⟩ | ⟨g, cap2, cur, rfl, hg, hcur, hcap, _, hsz, htake⟩
  · have : X = [] := List.length_eq_zero_iff.1 hn
    subst this
    refine ⟨_, mu, rfl, hext, Mem.le_refl _, ?_, fun _ _ _ => rfl, fun _ => none, .slnil 1, fun _ _ q => by cases q⟩
    intro b j v hv
    have hlt := hm.lt hv
    exact ⟨(hb.cell (p := ⟨b, j, none⟩) hlt).trans (hm b j v hv).1, (hm b j v hv).2⟩
  · simp only [Nat.mul_one] at htake q1 hsz
    have hcell : ∀ i, i < X.length → cur[i]? = some (.string (X.getD i ⟨#[]⟩)) := by
      intro i hi
      have h1 : cur.toList[i]? = ((X.map bk).map encStr)[i]? := by
        rw [← htake, List.getElem?_take, if_pos hi]
      rw [← Array.getElem?_toList, h1]
      simp [hi, bk, List.getD_eq_getElem?_getD]
    have hmuN : ∀ b j v, mu b j = some v → b ≠ g := fun b j v hv q => by have := hm.lt hv; omega
    refine ⟨_, fun b j => if b = g ∧ j < X.length then cur[j]? else mu b j, rfl, hext, ?_, ?_, ?_, fun _ => none, ?_, fun _ _ q => by cases q⟩
    · intro b j v hv
      simp only
      rw [if_neg (fun q => hmuN b j v hv q.1)]
      exact hv
    · intro b j v hv
      simp only at hv
      split at hv
      · rename_i q
        obtain ⟨rfl, q2⟩ := q
        refine ⟨by rw [cell_of_block hcur]; exact hv, ?_⟩
        rw [hcell j q2] at hv
        cases hv
        rfl
      · have hlt := hm.lt hv
        exact ⟨(hb.cell (p := ⟨b, j, none⟩) hlt).trans (hm b j v hv).1, (hm b j v hv).2⟩
    · intro b j hbl
      simp only
      rw [if_neg (fun q => by omega)]
    · have hT : (TL X).length = X.length := by simp
      have := Rep.sl (mu := fun b j => if b = g ∧ j < X.length then cur[j]? else mu b j) 1 (TL X) g 0 cap2 (fun i _ => .string (X.getD i ⟨#[]⟩)) (by omega) (fun x hx => by
          simp only [TL, List.mem_map] at hx
          obtain ⟨r, _, rfl⟩ := hx
          rfl) (fun i j hi hj => by
          have hi2 : i < X.length := by omega
          obtain rfl : j = 0 := by omega
          simp only [Nat.zero_add, Nat.mul_one, Nat.add_zero]
          rw [if_pos ⟨trivial, hi2⟩]
          exact hcell i hi2) (fun i j hi hj => by
          have hi2 : i < X.length := by omega
          obtain rfl : j = 0 := by omega
          have e1 : (TL X).getD i .undef = .str (X.getD i ⟨#[]⟩) := by rw [List.getD_eq_getElem?_getD]; exact TL_get X hi2
          rw [e1]
          exact .str _)
      rw [hT] at this
      exact this
end Go.Proofs.Ytflcdbfcipkhkaa

set_option maxRecDepth 100000
namespace Go.Proofs.Ytflcdbfcipkhkaa
open Go.Av
/-- bilander/index.Build -/
def ac119 : AC :=
 (.seq
  (.reg [⟨(some 4), none, .alloc [(.int .i64 0), (.int .i64 0), .nils]⟩])
  (.seq
   (.reg [⟨(some 8), none, .mv (.t 0)⟩,
     ⟨(some 9), none, .call 149 [(.t 8)]⟩,
     ⟨(some 5), none, .alloc [(.int .i64 0), (.int .i64 0), .nils]⟩,
     ⟨none, none, .store 3 (.t 5) (.t 9)⟩])
   (.seq
    (.seq
     (.reg [⟨(some 10), none, .mv (.t 1)⟩,
       ⟨(some 11), none, .len false (.t 10)⟩,
       ⟨(some 12), none, .mv (.c (.int .i64 0))⟩])
     (.block 0
      (.loop
       (.seq
        (.reg [⟨(some 13), none, .bin .lss (.t 12) (.t 11)⟩])
        (.seq
         (.cond (.t 13)
          .skip
          (.exit 0))
         (.seq
          (.block 1
           (.seq
            (.reg [⟨(some 14), none, .iaddr 3 (.t 10) (.t 12)⟩,
              ⟨(some 15), none, .load (some 3) (.t 14)⟩,
              ⟨(some 7), none, .alloc [(.int .i64 0), (.int .i64 0), (.int .i64 0)]⟩,
              ⟨none, none, .store 3 (.t 7) (.t 15)⟩])
            (.reg [⟨(some 16), none, .load (some 3) (.t 5)⟩,
              ⟨(some 17), none, .load (some 3) (.t 7)⟩,
              ⟨(some 18), none, .call 150 [(.t 16), (.t 17)]⟩,
              ⟨none, none, .store 3 (.t 5) (.t 18)⟩])))
          (.reg [⟨(some 19), none, .bin .add (.t 12) (.c (.int .i64 1))⟩,
            ⟨(some 12), none, .take 19⟩])))))))
    (.seq
     (.reg [⟨(some 20), none, .load (some 3) (.t 5)⟩,
       ⟨none, none, .store 3 (.t 4) (.t 20)⟩])
     .ret))))
def ar119 : List AR := [.c 4 (some 3)]
theorem comp119 : Try.f119.body.bind (comp Try.prog 21) = some ac119 := by kernel_rfl
theorem cres119 : compRes Try.prog Try.f119.results.toList = some ar119 := by kernel_rfl
/-- bilander/bilanderref12.Build -/
def ac120 : AC :=
 (.seq
  (.reg [⟨(some 4), none, .alloc [(.int .i64 0), (.int .i64 0), .nils]⟩])
  (.seq
   (.reg [⟨(some 7), none, .mv (.t 0)⟩,
     ⟨(some 8), none, .call 151 [(.t 7)]⟩,
     ⟨(some 5), none, .alloc [(.int .i64 0), (.int .i64 0), .nils]⟩,
     ⟨none, none, .store 3 (.t 5) (.t 8)⟩])
   (.seq
    (.seq
     (.reg [⟨(some 6), none, .mv (.c (.int .i64 0))⟩])
     (.block 0
      (.loop
       (.seq
        (.seq
         (.reg [⟨(some 9), none, .mv (.t 6)⟩,
           ⟨(some 10), none, .mv (.t 1)⟩,
           ⟨(some 11), none, .len false (.t 10)⟩,
           ⟨(some 12), none, .bin .lss (.t 9) (.t 11)⟩])
         (.cond (.t 12)
          .skip
          (.exit 0)))
        (.seq
         (.block 1
          (.dreg [] [⟨(some 15), none, .load (some 3) (.t 5)⟩,
            ⟨(some 16), none, .mv (.t 1)⟩,
            ⟨(some 17), none, .mv (.t 6)⟩,
            ⟨(some 18), none, .iaddr 3 (.t 16) (.t 17)⟩,
            ⟨(some 19), none, .load (some 3) (.t 18)⟩,
            ⟨(some 20), none, .call 152 [(.t 15), (.t 19)]⟩,
            ⟨none, none, .store 3 (.t 5) (.t 20)⟩]))
         (.reg [⟨(some 13), none, .take 6⟩,
           ⟨(some 14), none, .bin .add (.t 13) (.c (.int .i64 1))⟩,
           ⟨(some 6), none, .take 14⟩]))))))
    (.seq
     (.reg [⟨(some 21), none, .load (some 3) (.t 5)⟩,
       ⟨none, none, .store 3 (.t 4) (.t 21)⟩])
     .ret))))
def ar120 : List AR := [.c 4 (some 3)]
theorem comp120 : Try.f120.body.bind (comp Try.prog 22) = some ac120 := by kernel_rfl
theorem cres120 : compRes Try.prog Try.f120.results.toList = some ar120 := by kernel_rfl
/-- bilander/index.New -/
def ac149 : AC :=
 (.seq
  (.reg [⟨(some 2), none, .alloc [(.int .i64 0), (.int .i64 0), .nils]⟩])
  (.seq
   (.reg [⟨(some 3), none, .mv (.t 0)⟩,
     ⟨(some 4), none, .minmax true (.t 3) (.c (.int .i64 1))⟩,
     ⟨(some 5), none, .build [(.int .i64 0), (.int .i64 0), .nils] [(0, 1, (.t 4))]⟩,
     ⟨none, none, .store 3 (.t 2) (.t 5)⟩])
   .ret))
def ar149 : List AR := [.c 2 (some 3)]
theorem comp149 : Try.f149.body.bind (comp Try.prog 6) = some ac149 := by kernel_rfl
theorem cres149 : compRes Try.prog Try.f149.results.toList = some ar149 := by kernel_rfl
/-- bilander/index.Add -/
def ac150 : AC :=
 (.seq
  (.reg [⟨(some 2), none, .box 3 (.t 0)⟩,
    ⟨(some 3), none, .box 3 (.t 1)⟩,
    ⟨(some 4), none, .alloc [(.int .i64 0), (.int .i64 0), .nils]⟩])
  (.seq
   (.reg [⟨(some 7), none, .faddr (.t 2) 0⟩,
     ⟨(some 8), none, .load none (.t 7)⟩,
     ⟨(some 9), none, .bin .lss (.t 8) (.c (.int .i64 1))⟩,
     ⟨(some 10), none, .take 9⟩,
     ⟨(some 11), (some (10, false)), .faddr (.t 2) 1⟩,
     ⟨(some 12), (some (10, false)), .load none (.t 11)⟩,
     ⟨(some 13), (some (10, false)), .faddr (.t 2) 0⟩,
     ⟨(some 14), (some (10, false)), .load none (.t 13)⟩,
     ⟨(some 15), (some (10, false)), .bin .rem (.t 12) (.t 14)⟩,
     ⟨(some 16), (some (10, false)), .bin .eql (.t 15) (.c (.int .i64 0))⟩,
     ⟨(some 17), none, .pick (.t 10) (.c (.bool true)) (.t 16)⟩,
     ⟨(some 5), none, .take 17⟩])
   (.seq
    (.reg [⟨(some 18), none, .faddr (.t 2) 1⟩,
      ⟨(some 19), none, .load none (.t 18)⟩,
      ⟨(some 20), none, .bin .add (.t 19) (.c (.int .i64 1))⟩,
      ⟨(some 21), none, .faddr (.t 2) 1⟩,
      ⟨none, none, .store 1 (.t 21) (.t 20)⟩])
    (.seq
     (.seq
      (.reg [⟨(some 22), none, .mv (.t 5)⟩,
        ⟨(some 23), none, .una .not (.t 22)⟩])
      (.cond (.t 23)
       (.seq
        (.reg [⟨(some 24), none, .faddr (.t 2) 2⟩,
          ⟨(some 25), none, .load none (.t 24)⟩,
          ⟨(some 26), none, .call 161 [(.t 25)]⟩,
          ⟨(some 27), none, .faddr (.t 2) 2⟩,
          ⟨none, none, .store 1 (.t 27) (.t 26)⟩])
        (.seq
         (.reg [⟨(some 28), none, .load (some 3) (.t 2)⟩,
           ⟨none, none, .store 3 (.t 4) (.t 28)⟩])
         .ret))
       .skip))
     (.seq
      (.seq
       (.reg [⟨(some 29), none, .faddr (.t 2) 2⟩,
         ⟨(some 30), none, .load none (.t 29)⟩,
         ⟨(some 31), none, .len false (.t 30)⟩,
         ⟨(some 6), none, .take 31⟩])
       (.seq
        (.reg [⟨(some 32), none, .mv (.t 6)⟩,
          ⟨(some 33), none, .bin .gtr (.t 32) (.c (.int .i64 0))⟩])
        (.cond (.t 33)
         (.dreg [] [⟨(some 34), none, .faddr (.t 3) 1⟩,
           ⟨(some 35), none, .load none (.t 34)⟩,
           ⟨(some 36), none, .faddr (.t 2) 2⟩,
           ⟨(some 37), none, .load none (.t 36)⟩,
           ⟨(some 38), none, .mv (.t 6)⟩,
           ⟨(some 39), none, .bin .sub (.t 38) (.c (.int .i64 1))⟩,
           ⟨(some 40), none, .iaddr 3 (.t 37) (.t 39)⟩,
           ⟨(some 41), none, .faddr (.t 40) 1⟩,
           ⟨(some 42), none, .load none (.t 41)⟩,
           ⟨(some 43), none, .minmax true (.t 35) (.t 42)⟩,
           ⟨(some 44), none, .faddr (.t 3) 1⟩,
           ⟨none, none, .store 1 (.t 44) (.t 43)⟩])
         .skip)))
      (.seq
       (.dreg [] [⟨(some 45), none, .faddr (.t 2) 2⟩,
         ⟨(some 46), none, .load none (.t 45)⟩,
         ⟨(some 47), none, .call 161 [(.t 46)]⟩,
         ⟨(some 48), none, .load (some 3) (.t 3)⟩,
         ⟨(some 49), none, .bsl 3 1 [(.int .i64 0), (.int .i64 0), (.int .i64 0)] [(0, (.t 48))]⟩,
         ⟨(some 50), none, .app 3 24 47 (.t 49)⟩,
         ⟨(some 51), none, .faddr (.t 2) 2⟩,
         ⟨none, none, .storeO (.t 51) 50⟩])
       (.seq
        (.reg [⟨(some 52), none, .load (some 3) (.t 2)⟩,
          ⟨none, none, .store 3 (.t 4) (.t 52)⟩])
        .ret)))))))
def ar150 : List AR := [.c 4 (some 3)]
theorem comp150 : Try.f150.body.bind (comp Try.prog 53) = some ac150 := by kernel_rfl
theorem cres150 : compRes Try.prog Try.f150.results.toList = some ar150 := by kernel_rfl
/-- bilander/bilanderref12.New -/
def ac151 : AC :=
 (.seq
  (.reg [⟨(some 2), none, .alloc [(.int .i64 0), (.int .i64 0), .nils]⟩])
  (.seq
   (.reg [⟨(some 3), none, .mv (.t 0)⟩,
     ⟨(some 4), none, .minmax true (.c (.int .i64 1)) (.t 3)⟩,
     ⟨(some 5), none, .build [(.int .i64 0), (.int .i64 0), .nils] [(0, 1, (.t 4))]⟩,
     ⟨none, none, .store 3 (.t 2) (.t 5)⟩])
   .ret))
def ar151 : List AR := [.c 2 (some 3)]
theorem comp151 : Try.f151.body.bind (comp Try.prog 6) = some ac151 := by kernel_rfl
theorem cres151 : compRes Try.prog Try.f151.results.toList = some ar151 := by kernel_rfl
/-- bilander/bilanderref12.Add -/
def ac152 : AC :=
 (.seq
  (.reg [⟨(some 2), none, .box 3 (.t 0)⟩,
    ⟨(some 3), none, .box 3 (.t 1)⟩,
    ⟨(some 4), none, .alloc [(.int .i64 0), (.int .i64 0), .nils]⟩])
  (.seq
   (.reg [⟨(some 8), none, .faddr (.t 2) 2⟩,
     ⟨(some 9), none, .load none (.t 8)⟩,
     ⟨(some 10), none, .len false (.t 9)⟩,
     ⟨(some 5), none, .take 10⟩])
   (.seq
    (.reg [⟨(some 11), none, .faddr (.t 2) 0⟩,
      ⟨(some 12), none, .load none (.t 11)⟩,
      ⟨(some 13), none, .bin .lss (.t 12) (.c (.int .i64 1))⟩,
      ⟨(some 14), none, .take 13⟩,
      ⟨(some 15), (some (14, false)), .faddr (.t 2) 1⟩,
      ⟨(some 16), (some (14, false)), .load none (.t 15)⟩,
      ⟨(some 17), (some (14, false)), .faddr (.t 2) 0⟩,
      ⟨(some 18), (some (14, false)), .load none (.t 17)⟩,
      ⟨(some 19), (some (14, false)), .bin .rem (.t 16) (.t 18)⟩,
      ⟨(some 20), (some (14, false)), .bin .eql (.t 19) (.c (.int .i64 0))⟩,
      ⟨(some 21), none, .pick (.t 14) (.c (.bool true)) (.t 20)⟩,
      ⟨(some 6), none, .take 21⟩])
    (.seq
     (.reg [⟨(some 22), none, .faddr (.t 2) 1⟩,
       ⟨(some 23), none, .load none (.t 22)⟩,
       ⟨(some 24), none, .bin .add (.t 23) (.c (.int .i64 1))⟩,
       ⟨(some 25), none, .faddr (.t 2) 1⟩,
       ⟨none, none, .store 1 (.t 25) (.t 24)⟩])
     (.seq
      (.seq
       (.reg [⟨(some 26), none, .mv (.t 6)⟩,
         ⟨(some 27), none, .una .not (.t 26)⟩])
       (.cond (.t 27)
        (.seq
         (.reg [⟨(some 28), none, .load (some 3) (.t 2)⟩,
           ⟨none, none, .store 3 (.t 4) (.t 28)⟩])
         .ret)
        .skip))
      (.seq
       (.seq
        (.reg [⟨(some 29), none, .mv (.t 5)⟩,
          ⟨(some 30), none, .bin .gtr (.t 29) (.c (.int .i64 0))⟩])
        (.cond (.t 30)
         (.dreg [] [⟨(some 31), none, .faddr (.t 3) 1⟩,
           ⟨(some 32), none, .load none (.t 31)⟩,
           ⟨(some 33), none, .faddr (.t 2) 2⟩,
           ⟨(some 34), none, .load none (.t 33)⟩,
           ⟨(some 35), none, .mv (.t 5)⟩,
           ⟨(some 36), none, .bin .sub (.t 35) (.c (.int .i64 1))⟩,
           ⟨(some 37), none, .iaddr 3 (.t 34) (.t 36)⟩,
           ⟨(some 38), none, .faddr (.t 37) 1⟩,
           ⟨(some 39), none, .load none (.t 38)⟩,
           ⟨(some 40), none, .minmax true (.t 32) (.t 39)⟩,
           ⟨(some 41), none, .faddr (.t 3) 1⟩,
           ⟨none, none, .store 1 (.t 41) (.t 40)⟩])
         .skip))
       (.seq
        (.reg [⟨(some 7), none, .mv (.c .nils)⟩])
        (.seq
         (.dreg [] [⟨(some 42), none, .mv (.t 7)⟩,
           ⟨(some 43), none, .faddr (.t 2) 2⟩,
           ⟨(some 44), none, .load none (.t 43)⟩,
           ⟨(some 45), none, .app 3 24 42 (.t 44)⟩,
           ⟨(some 46), none, .load (some 3) (.t 3)⟩,
           ⟨(some 47), none, .bsl 3 1 [(.int .i64 0), (.int .i64 0), (.int .i64 0)] [(0, (.t 46))]⟩,
           ⟨(some 48), none, .app 3 24 45 (.t 47)⟩,
           ⟨(some 49), none, .faddr (.t 2) 2⟩,
           ⟨none, none, .storeO (.t 49) 48⟩])
         (.seq
          (.reg [⟨(some 50), none, .load (some 3) (.t 2)⟩,
            ⟨none, none, .store 3 (.t 4) (.t 50)⟩])
          .ret)))))))))
def ar152 : List AR := [.c 4 (some 3)]
theorem comp152 : Try.f152.body.bind (comp Try.prog 51) = some ac152 := by kernel_rfl
theorem cres152 : compRes Try.prog Try.f152.results.toList = some ar152 := by kernel_rfl
/-- slices.Clone[[]bilander/index.Entry,bilander/index.Entry] -/
def ac161 : AC :=
 (.seq
  (.reg [⟨(some 2), none, .mv (.c .nils)⟩])
  (.seq
   (.seq
    (.reg [⟨(some 3), none, .mv (.t 0)⟩,
      ⟨(some 4), none, .eqn true false (.t 3)⟩])
    (.cond (.t 4)
     (.seq
      (.reg [⟨(some 2), none, .mv (.c .nils)⟩])
      .ret)
     .skip))
   (.seq
    (.reg [⟨(some 5), none, .bsl 3 0 [(.int .i64 0), (.int .i64 0), (.int .i64 0)] []⟩,
      ⟨(some 6), none, .mv (.t 0)⟩,
      ⟨(some 7), none, .app 3 24 5 (.t 6)⟩,
      ⟨(some 2), none, .take 7⟩])
    .ret)))
def ar161 : List AR := [.t 2]
theorem comp161 : Try.f161.body.bind (comp Try.prog 8) = some ac161 := by kernel_rfl
theorem cres161 : compRes Try.prog Try.f161.results.toList = some ar161 := by kernel_rfl
end Go.Proofs.Ytflcdbfcipkhkaa

/- index.Build and the document's, of some entries (from the texts IxB, IxC). -/


set_option linter.unusedSimpArgs false
set_option linter.unusedVariables false
set_option maxHeartbeats 2000000
namespace Go.Proofs.Ytflcdbfcipkhkaa
open Go.Av

def iV (n : Int) : SV := .int .i64 n
/-- An entry: offset, time, place. -/
def eV (e : Int × Int × Int) : SV := .agg [iV e.1, iV e.2.1, iV e.2.2]
def xV (every count : Int) (l : List SV) : SV := .agg [iV every, iV count, .sl 3 l]
abbrev Ent := Int × Int × Int
def EL (l : List Ent) : List SV := l.map eV
@[simp] theorem EL_length (l : List Ent) : (EL l).length = l.length := by simp [EL]
theorem EL_get (l : List Ent) {i : Nat} (h : i < l.length) : (EL l)[i]?.getD .undef = eV (l.getD i (0, 0, 0)) := by simp [EL, List.getD_eq_getElem?_getD, h]
theorem EL_app (l m : List Ent) : EL l ++ EL m = EL (l ++ m) := by simp [EL]
theorem EL_get1 (l : List Ent) {i : Nat} (h : i < l.length) : EL [l.getD i (0, 0, 0)] = [eV (l.getD i (0, 0, 0))] := rfl
def unE : SV → Ent
  | .agg [.int _ a, .int _ b, .int _ c] => (a, b, c)
  | _ => (0, 0, 0)
def unEL (xs : List SV) : List Ent := xs.map unE
@[simp] theorem unEL_EL (l : List Ent) : unEL (EL l) = l := by simp [unEL, EL, Function.comp_def, unE, eV, iV]
theorem EL_take_succ (l : List Ent) {i : Nat} (h : i < l.length) : EL (l.take (i + 1)) = EL (l.take i) ++ [eV (l.getD i (0, 0, 0))] := by
  rw [List.take_succ_eq_append_getElem h]
  simp only [EL, List.map_append, List.map_cons, List.map_nil, List.getD_eq_getElem?_getD, List.getElem?_eq_getElem h, Option.getD_some]
abbrev Idx := Int × Int × List Ent
def ixV (x : Idx) : SV := xV x.1 x.2.1 (EL x.2.2)

def newX (e : Int) : Idx := (if e < 1 then 1 else e, 0, [])
theorem new_ix (e : Int) : Pure Try.prog 149 [iV e] (.sv (ixV (newX e))) := by
  refine pure_go R0_ok Try.func149 Try.ntmps149 comp149 cres149 (by decide) (by simp) ?_
  simp [ac149, ar149, R0, ixV, newX, xV, iV, EL]
theorem rnew_ix (e : Int) : Pure Try.prog 151 [iV e] (.sv (ixV (newX e))) := by
  refine pure_go R0_ok Try.func151 Try.ntmps151 comp151 cres151 (by decide) (by simp) ?_
  simp [ac151, ar151, R0, ixV, newX, xV, iV, EL]
  split <;> split <;> omega

theorem clone_ix (l : List Ent) (hl : l.length ≤ 1000000) : Pure Try.prog 161 [.sl 3 (EL l)] (.own 3 (EL l)) := by
  refine pure_go R0_ok Try.func161 Try.ntmps161 comp161 cres161 (by decide) (by simp) ?_
  cases l with
  | nil => simp [ac161, ar161, R0, EL]
  | cons a l =>
    have e : EL (a :: l) = eV a :: EL l := rfl
    rw [e]
    simp at hl
    simp [ac161, ar161, R0]
    omega

def addT (l : List Ent) (e : Ent) : Ent := if l.length = 0 then e else (e.1, if e.2.1 < (l.getD (l.length - 1) (0, 0, 0)).2.1 then (l.getD (l.length - 1) (0, 0, 0)).2.1 else e.2.1, e.2.2)
def takes (x : Idx) : Bool := decide (x.1 < 1) || decide (x.2.1.tmod x.1 = 0)
def addX (x : Idx) (e : Ent) : Idx := (x.1, x.2.1 + 1, if takes x then x.2.2 ++ [addT x.2.2 e] else x.2.2)

def RIy : Orc := { p := fun f l => match f, l with
  | 161, [.sl 3 xs] => some (xs = EL (unEL xs) ∧ xs.length ≤ 1000000, .own 3 xs)
  | _, _ => none }
theorem RIy_ok : RIy.ok Try.prog := by
  refine ⟨fun f l c rv h hc => ?_, fun _ _ _ _ _ _ h => (by cases h), fun _ _ _ _ h => (by cases h), fun _ h => (by cases h), fun _ _ _ _ _ _ h => (by cases h), fun _ _ _ _ _ _ _ h => (by cases h)⟩
  simp only [RIy] at h
  split at h <;> cases h
  rename_i xs
  have := clone_ix (unEL xs) (by simpa [unEL] using hc.2)
  rw [← hc.1] at this
  exact this
theorem RIy_56 (l : List Ent) : RIy.p 161 [.sl 3 (EL l)] = some (EL l = EL l ∧ l.length ≤ 1000000, .own 3 (EL l)) := by
  show some (EL l = EL (unEL (EL l)) ∧ (EL l).length ≤ 1000000, LV.own 3 (EL l)) = _
  rw [unEL_EL, EL_length]

theorem add_ix (x : Idx) (e : Ent) (hl : x.2.2.length < 1000000) (hc : I64 (x.2.1 + 1)) : Pure Try.prog 150 [ixV x, eV e] (.sv (ixV (addX x e))) := by
  obtain ⟨ev, c, l⟩ := x
  obtain ⟨e1, e2, e3⟩ := e
  simp only at hl hc
  have hl2 : l.length ≤ 1000000 := by omega
  have hw : IntKind.i64.wrap (c + 1) = c + 1 := by obtain ⟨h1, h2⟩ := hc; rw [IntKind.wrap_i64]; omega
  refine pure_go RIy_ok Try.func150 Try.ntmps150 comp150 cres150 (by decide) (by simp) ?_
  by_cases ht : ev < 1
  · have ht' : takes (ev, c, l) = true := by simp [takes, ht]
    by_cases h0 : l.length = 0
    · have hl0 : l = [] := List.length_eq_zero_iff.1 h0
      subst hl0
      simp [ac150, ar150, ixV, xV, iV, eV, ht, hw, addX, ht', addT, RIy_56]
      simp [EL, eV, iV]
    · have hb : l.length - 1 < l.length := by omega
      have hg := EL_get l hb
      have hw2 : IntKind.i64.wrap ((l.length : Int) - 1) = ((l.length - 1 : Nat) : Int) := by rw [IntKind.wrap_i64]; omega
      have hpos : 0 < l.length := by omega
      have hb2 : ((l.length - 1 : Nat) : Int) < l.length := by omega
      simp only [addX, ht', addT, h0, if_false, if_true]
      generalize l.getD (l.length - 1) (0, 0, 0) = s at hg
      obtain ⟨s1, s2, s3⟩ := s
      simp [ac150, ar150, ixV, xV, iV, eV, ht, hw, hw2, h0, hpos, hg, hl2, hb2, RIy_56]
      refine ⟨by omega, ?_⟩
      simp [EL, eV, iV]
  · have hne : ev ≠ 0 := by omega
    by_cases hm : c.tmod ev = 0
    · have ht' : takes (ev, c, l) = true := by simp [takes, hm]
      by_cases h0 : l.length = 0
      · have hl0 : l = [] := List.length_eq_zero_iff.1 h0
        subst hl0
        simp [ac150, ar150, ixV, xV, iV, eV, ht, hne, hm, hw, addX, ht', addT, RIy_56]
        simp [EL, eV, iV]
      · have hb : l.length - 1 < l.length := by omega
        have hg := EL_get l hb
        have hw2 : IntKind.i64.wrap ((l.length : Int) - 1) = ((l.length - 1 : Nat) : Int) := by rw [IntKind.wrap_i64]; omega
        have hpos : 0 < l.length := by omega
        have hb2 : ((l.length - 1 : Nat) : Int) < l.length := by omega
        simp only [addX, ht', addT, h0, if_false, if_true]
        generalize l.getD (l.length - 1) (0, 0, 0) = s at hg
        obtain ⟨s1, s2, s3⟩ := s
        simp [ac150, ar150, ixV, xV, iV, eV, ht, hne, hm, hw, hw2, h0, hpos, hg, hl2, hb2, RIy_56]
        refine ⟨by omega, ?_⟩
        simp [EL, eV, iV]
    · have ht' : takes (ev, c, l) = false := by simp [takes, ht, hm]
      simp [ac150, ar150, ixV, xV, iV, eV, ht, hne, hm, hw, addX, ht', hl2, RIy_56]

theorem radd_ix (x : Idx) (e : Ent) (hl : x.2.2.length < 1000000) (hc : I64 (x.2.1 + 1)) : Pure Try.prog 152 [ixV x, eV e] (.sv (ixV (addX x e))) := by
  obtain ⟨ev, c, l⟩ := x
  obtain ⟨e1, e2, e3⟩ := e
  simp only at hl hc
  have hl2 : l.length ≤ 1000000 := by omega
  have hw : IntKind.i64.wrap (c + 1) = c + 1 := by obtain ⟨h1, h2⟩ := hc; rw [IntKind.wrap_i64]; omega
  refine pure_go R0_ok Try.func152 Try.ntmps152 comp152 cres152 (by decide) (by simp) ?_
  by_cases ht : ev < 1
  · have ht' : takes (ev, c, l) = true := by simp [takes, ht]
    by_cases h0 : l.length = 0
    · have hl0 : l = [] := List.length_eq_zero_iff.1 h0
      subst hl0
      simp [ac152, ar152, ixV, xV, iV, eV, ht, hw, addX, ht', addT]
      simp [EL, eV, iV]
    · have hb : l.length - 1 < l.length := by omega
      have hg := EL_get l hb
      have hw2 : IntKind.i64.wrap ((l.length : Int) - 1) = ((l.length - 1 : Nat) : Int) := by rw [IntKind.wrap_i64]; omega
      have hpos : 0 < l.length := by omega
      have hb2 : ((l.length - 1 : Nat) : Int) < l.length := by omega
      simp only [addX, ht', addT, h0, if_false, if_true]
      generalize l.getD (l.length - 1) (0, 0, 0) = s at hg
      obtain ⟨s1, s2, s3⟩ := s
      simp [ac152, ar152, ixV, xV, iV, eV, ht, hw, hw2, h0, hpos, hg, hl2, hb2]
      refine ⟨by omega, ?_⟩
      simp [EL, eV, iV]
  · have hne : ev ≠ 0 := by omega
    by_cases hm : c.tmod ev = 0
    · have ht' : takes (ev, c, l) = true := by simp [takes, hm]
      by_cases h0 : l.length = 0
      · have hl0 : l = [] := List.length_eq_zero_iff.1 h0
        subst hl0
        simp [ac152, ar152, ixV, xV, iV, eV, ht, hne, hm, hw, addX, ht', addT]
        simp [EL, eV, iV]
      · have hb : l.length - 1 < l.length := by omega
        have hg := EL_get l hb
        have hw2 : IntKind.i64.wrap ((l.length : Int) - 1) = ((l.length - 1 : Nat) : Int) := by rw [IntKind.wrap_i64]; omega
        have hpos : 0 < l.length := by omega
        have hb2 : ((l.length - 1 : Nat) : Int) < l.length := by omega
        simp only [addX, ht', addT, h0, if_false, if_true]
        generalize l.getD (l.length - 1) (0, 0, 0) = s at hg
        obtain ⟨s1, s2, s3⟩ := s
        simp [ac152, ar152, ixV, xV, iV, eV, ht, hne, hm, hw, hw2, h0, hpos, hg, hl2, hb2]
        refine ⟨by omega, ?_⟩
        simp [EL, eV, iV]
    · have ht' : takes (ev, c, l) = false := by simp [takes, ht, hm]
      simp [ac152, ar152, ixV, xV, iV, eV, ht, hne, hm, hw, addX, ht', hl2]

def RIx : Orc := { p := fun f l => match f, l with
  | 149, [.int .i64 e] => some (True, .sv (ixV (newX e)))
  | 151, [.int .i64 e] => some (True, .sv (ixV (newX e)))
  | 150, [.agg [.int .i64 e, .int .i64 c, .sl 3 xs], .agg [.int .i64 a, .int .i64 b, .int .i64 d]] => some (xs = EL (unEL xs) ∧ xs.length < 1000000 ∧ I64 (c + 1), .sv (ixV (addX (e, c, unEL xs) (a, b, d))))
  | 152, [.agg [.int .i64 e, .int .i64 c, .sl 3 xs], .agg [.int .i64 a, .int .i64 b, .int .i64 d]] => some (xs = EL (unEL xs) ∧ xs.length < 1000000 ∧ I64 (c + 1), .sv (ixV (addX (e, c, unEL xs) (a, b, d))))
  | _, _ => none }
theorem RIx_ok : RIx.ok Try.prog := by
  refine ⟨fun f l c rv h hc => ?_, fun _ _ _ _ _ _ h => (by cases h), fun _ _ _ _ h => (by cases h), fun _ h => (by cases h), fun _ _ _ _ _ _ h => (by cases h), fun _ _ _ _ _ _ _ h => (by cases h)⟩
  simp only [RIx] at h
  split at h <;> cases h
  · exact new_ix _
  · exact rnew_ix _
  · rename_i e c xs a b d
    have := add_ix (e, c, unEL xs) (a, b, d) (by simpa [unEL] using hc.2.1) hc.2.2
    simp only [ixV, xV] at this
    rw [← hc.1] at this
    exact this
  · rename_i e c xs a b d
    have := radd_ix (e, c, unEL xs) (a, b, d) (by simpa [unEL] using hc.2.1) hc.2.2
    simp only [ixV, xV] at this
    rw [← hc.1] at this
    exact this
theorem RIx_33 (e : Int) : RIx.p 149 [.int .i64 e] = some (True, .sv (ixV (newX e))) := rfl
theorem RIx_34 (e : Int) : RIx.p 151 [.int .i64 e] = some (True, .sv (ixV (newX e))) := rfl
theorem RIx_28 (e c : Int) (l : List Ent) (a b d : Int) : RIx.p 150 [.agg [.int .i64 e, .int .i64 c, .sl 3 (EL l)], .agg [.int .i64 a, .int .i64 b, .int .i64 d]] = some (EL l = EL l ∧ l.length < 1000000 ∧ I64 (c + 1), .sv (ixV (addX (e, c, l) (a, b, d)))) := by
  show some (EL l = EL (unEL (EL l)) ∧ (EL l).length < 1000000 ∧ I64 (c + 1), LV.sv (ixV (addX (e, c, unEL (EL l)) (a, b, d)))) = _
  rw [unEL_EL, EL_length]
theorem RIx_31 (e c : Int) (l : List Ent) (a b d : Int) : RIx.p 152 [.agg [.int .i64 e, .int .i64 c, .sl 3 (EL l)], .agg [.int .i64 a, .int .i64 b, .int .i64 d]] = some (EL l = EL l ∧ l.length < 1000000 ∧ I64 (c + 1), .sv (ixV (addX (e, c, l) (a, b, d)))) := by
  show some (EL l = EL (unEL (EL l)) ∧ (EL l).length < 1000000 ∧ I64 (c + 1), LV.sv (ixV (addX (e, c, unEL (EL l)) (a, b, d)))) = _
  rw [unEL_EL, EL_length]
def buildX (e : Int) (l : List Ent) : Idx := l.foldl addX (newX e)
theorem buildX_snoc (e : Int) (l : List Ent) (a : Ent) : buildX e (l ++ [a]) = addX (buildX e l) a := by simp [buildX]
theorem foldl_count : ∀ (l : List Ent) (x : Idx), (l.foldl addX x).2.1 = x.2.1 + l.length ∧ (l.foldl addX x).2.2.length ≤ x.2.2.length + l.length ∧ (l.foldl addX x).1 = x.1
  | [], x => by simp
  | a :: l, x => by
    obtain ⟨h1, h2, h3⟩ := foldl_count l (addX x a)
    have h4 : (addX x a).2.2.length ≤ x.2.2.length + 1 := by simp only [addX]; split <;> simp
    have h5 : (addX x a).2.1 = x.2.1 + 1 := rfl
    have h6 : (addX x a).1 = x.1 := rfl
    simp only [List.foldl_cons, List.length_cons]
    refine ⟨by rw [h1, h5]; omega, by omega, by rw [h3, h6]⟩
theorem buildX_count (e : Int) (l : List Ent) : (buildX e l).2.1 = l.length ∧ (buildX e l).2.2.length ≤ l.length := by
  obtain ⟨h1, h2, _⟩ := foldl_count l (newX e)
  refine ⟨by unfold buildX; rw [h1]; simp [newX], ?_⟩
  unfold buildX
  have : (newX e).2.2.length = 0 := rfl
  omega

theorem build_ix (e : Int) (l : List Ent) (hl : l.length ≤ 1000) : Pure Try.prog 119 [iV e, .sl 3 (EL l)] (.sv (ixV (buildX e l))) := by
  refine pure_go RIx_ok Try.func119 Try.ntmps119 comp119 cres119 (by decide) (by simp) ?_
  simp [ac119, ar119, iV, RIx_33, ixV, xV]
  refine awpR_loop (α := Nat) (fun i => i ≤ l.length) (fun i => { n := 21, sl := [(4, .lptr 4 0), (5, .lptr 5 0), (10, .sv (.sl 3 (EL l))), (11, .sv (.int .i64 l.length)), (12, .sv (.int .i64 i))], bx := [(4, [.sv (.int .i64 0), .sv (.int .i64 0), .sv .nils]), (5, [.sv (.int .i64 (buildX e (l.take i)).1), .sv (.int .i64 (buildX e (l.take i)).2.1), .sv (.sl 3 (EL (buildX e (l.take i)).2.2))])], hp := fun _ => none })
    (fun i => l.length - i) 0 (by omega) (by simp [buildX, iV]) ?_
  intro i hi
  by_cases h : i < l.length
  · have h1 : (i : Int) < l.length := by omega
    have hg := EL_get l h
    have hsn : buildX e (l.take (i + 1)) = addX (buildX e (l.take i)) (l.getD i (0, 0, 0)) := by
      rw [List.take_succ_eq_append_getElem h, buildX_snoc]
      simp [List.getD_eq_getElem?_getD, h]
    obtain ⟨hc1, hc2⟩ := buildX_count e (l.take i)
    have ht : (l.take i).length = i := by simp; omega
    rw [ht] at hc1 hc2
    have hw : IntKind.i64.wrap ((i : Int) + 1) = ((i + 1 : Nat) : Int) := by rw [IntKind.wrap_i64]; omega
    generalize l.getD i (0, 0, 0) = s at hg hsn
    generalize buildX e (l.take i) = x at hsn hc1 hc2 ⊢
    obtain ⟨x1, x2, x3⟩ := x
    obtain ⟨s1, s2, s3⟩ := s
    simp only at hc1 hc2
    simp [h1, hg, eV, iV, RIx_28, hw, ixV, xV]
    refine ⟨⟨by omega, by unfold I64; omega⟩, i + 1, by omega, by omega, by omega, ?_⟩
    rw [hsn]
    exact ⟨rfl, rfl, rfl⟩
  · have h1 : ¬ (i : Int) < l.length := by omega
    obtain rfl : i = l.length := by omega
    simp [h1, iV]

theorem rbuild_ix (e : Int) (l : List Ent) (hl : l.length ≤ 1000) : Pure Try.prog 120 [iV e, .sl 3 (EL l)] (.sv (ixV (buildX e l))) := by
  refine pure_go RIx_ok Try.func120 Try.ntmps120 comp120 cres120 (by decide) (by simp) ?_
  simp [ac120, ar120, iV, RIx_34, ixV, xV]
  refine awpR_loop (α := Nat) (fun i => i ≤ l.length) (fun i => { n := 22, sl := [(1, .sv (.sl 3 (EL l))), (4, .lptr 4 0), (5, .lptr 5 0), (6, .sv (.int .i64 i))], bx := [(4, [.sv (.int .i64 0), .sv (.int .i64 0), .sv .nils]), (5, [.sv (.int .i64 (buildX e (l.take i)).1), .sv (.int .i64 (buildX e (l.take i)).2.1), .sv (.sl 3 (EL (buildX e (l.take i)).2.2))])], hp := fun _ => none })
    (fun i => l.length - i) 0 (by omega) (by simp [buildX, iV]) ?_
  intro i hi
  by_cases h : i < l.length
  · have h1 : (i : Int) < l.length := by omega
    have hg := EL_get l h
    have hsn : buildX e (l.take (i + 1)) = addX (buildX e (l.take i)) (l.getD i (0, 0, 0)) := by
      rw [List.take_succ_eq_append_getElem h, buildX_snoc]
      simp [List.getD_eq_getElem?_getD, h]
    obtain ⟨hc1, hc2⟩ := buildX_count e (l.take i)
    have ht : (l.take i).length = i := by simp; omega
    rw [ht] at hc1 hc2
    have hw : IntKind.i64.wrap ((i : Int) + 1) = ((i + 1 : Nat) : Int) := by rw [IntKind.wrap_i64]; omega
    generalize l.getD i (0, 0, 0) = s at hg hsn
    generalize buildX e (l.take i) = x at hsn hc1 hc2 ⊢
    obtain ⟨x1, x2, x3⟩ := x
    obtain ⟨s1, s2, s3⟩ := s
    simp only at hc1 hc2
    simp [h1, hg, eV, iV, RIx_31, hw, ixV, xV]
    refine ⟨⟨by omega, by unfold I64; omega⟩, i + 1, by omega, by omega, ?_⟩
    rw [hsn]
    refine ⟨?_, rfl, rfl, rfl⟩
    omega
  · have h1 : ¬ (i : Int) < l.length := by omega
    obtain rfl : i = l.length := by omega
    simp [h1, iV]

end Go.Proofs.Ytflcdbfcipkhkaa

/- Segment: a sparse index; what is put. -/


set_option linter.unusedSimpArgs false
set_option linter.unusedVariables false
set_option maxHeartbeats 8000000
namespace Go.Proofs.Ytflcdbfcipkhkaa
open Go.Av

theorem eV_inj (a b : Ent) (h : eV a = eV b) : a = b := by
  simp [eV, iV] at h
  exact Prod.ext h.1 (Prod.ext h.2.1 h.2.2)
theorem EL_inj (a b : List Ent) (h : EL a = EL b) : a = b := map_inj eV_inj _ _ h
/-- The entries of batches. -/
def entL : Nat → List Bat → List Ent
  | _, [] => []
  | i, b :: l => (b.ba, nwB b, (i : Int)) :: entL (i + 1) l
theorem entL_length : ∀ (i : Nat) (l : List Bat), (entL i l).length = l.length
  | _, [] => rfl
  | i, b :: l => by simp [entL, entL_length (i + 1) l]
theorem entL_take : ∀ (j : Nat) (l : List Bat) {i : Nat} (h : i < l.length), (entL j l).take (i + 1) = (entL j l).take i ++ [((l.getD i bat0).ba, nwB (l.getD i bat0), ((j + i : Nat) : Int))]
  | _, [], _, h => by simp at h
  | j, b :: l, 0, h => by simp [entL]
  | j, b :: l, i + 1, h => by
    have := entL_take (j + 1) l (i := i) (by simpa using h)
    simp only [entL, List.take_succ_cons, List.getD_cons_succ]
    rw [this]
    simp only [List.cons_append, show j + 1 + i = j + (i + 1) by omega]
theorem EL_snoc (l : List Ent) (e : Ent) : EL (l ++ [e]) = EL l ++ [eV e] := by simp [EL]
def eIE (p : Int × List Ent) : List SV := [.int .i64 p.1, .sl 3 (EL p.2)]
theorem eIE_inj (a b : Int × List Ent) (h : eIE a = eIE b) : a = b := by simp [eIE] at h; exact Prod.ext h.1 (EL_inj _ _ h.2)
noncomputable def RsI : Orc := { p := fun f l => match f with
    | 119 => row eIE (fun p => (p.2.length ≤ 1000, .sv (ixV (buildX p.1 p.2)))) l
    | 120 => row eIE (fun p => (p.2.length ≤ 1000, .sv (ixV (buildX p.1 p.2)))) l
    | f => RsB.p f l }
theorem RsI_ok : RsI.ok Try.prog := by
  refine ⟨fun f l c rv h hc => ?_, fun _ _ _ _ _ _ h => (by cases h), fun _ _ _ _ h => (by cases h), fun _ h => (by cases h), fun _ _ _ _ _ _ h => (by cases h), fun _ _ _ _ _ _ _ h => (by cases h)⟩
  simp only [RsI] at h
  split at h
  · exact row_ok h hc (fun n hn => build_ix n.1 n.2 hn)
  · exact row_ok h hc (fun n hn => rbuild_ix n.1 n.2 hn)
  · exact RsB_ok.p _ _ _ _ h hc
theorem RsI_119 (n : Int) (l : List Ent) : RsI.p 119 [.int .i64 n, .sl 3 (EL l)] = some (l.length ≤ 1000, .sv (ixV (buildX n l))) := row_eq eIE_inj _ (n, l)
theorem RsI_120 (n : Int) (l : List Ent) : RsI.p 120 [.int .i64 n, .sl 3 (EL l)] = some (l.length ≤ 1000, .sv (ixV (buildX n l))) := row_eq eIE_inj _ (n, l)
theorem RsI_115 (b : Bat) : RsI.p 115 [bsv b] = some (b.rs.length ≤ 1000, .sv (.int .i64 (nwB b))) := RsB_115 b
theorem RsI_116 (b : Bat) : RsI.p 116 [bsv b] = some (b.rs.length ≤ 1000, .sv (.int .i64 (nwB b))) := RsB_116 b
theorem sparse_seg (s : Seg) (n : Int) (hs : okB s.ls) : Pure Try.prog 62 [s.sv, .int .i64 n] (.sv (ixV (buildX n (entL 0 s.ls)))) := by
  have e1 := RsI_115
  have e2 := RsI_119 n (entL 0 s.ls)
  have hR := RsI_ok
  generalize RsI = R at hR e1 e2
  refine pure_go hR Try.func62 Try.ntmps62 comp62 cres62 (by decide) (by simp) ?_
  obtain ⟨ba, l⟩ := s
  simp only at hs e2 ⊢
  have hl : l.length ≤ 1000 := hs.1
  rw [entL_length] at e2
  simp [ac62, ar62, Seg.sv, Seg.cells]
  refine awpR_loop (α := Nat) (fun i => i ≤ l.length) (fun i => { n := 29, sl := [(1, .sv (.int .i64 n)), (4, .lptr 4 0), (5, .own 3 (EL ((entL 0 l).take i))), (9, .sv (.sl 6 (BL l))), (10, .sv (.int .i64 l.length)), (11, .sv (.int .i64 i))], bx := [(4, [.sv (.int .i64 0), .sv (.int .i64 0), .sv .nils])], hp := fun _ => none })
    (fun i => l.length - i) 0 (by simp) (by simp [EL]) ?_
  intro i hi
  by_cases h : i < l.length
  · have hlt : (i : Int) < l.length := by omega
    have hw := wrap_succ h (show l.length < 4611686018427387904 by omega)
    have hg := BL_get l h
    have hge : (BL l)[i]'(by simpa using h) = (l.getD i bat0).sv := by rw [← hg, List.getElem?_eq_getElem]; rfl
    obtain ⟨ho, hr⟩ := okB_get hs h
    have ht := entL_take 0 l h
    have hlen : ((entL 0 l).take i).length ≤ 1000 := by simp [entL_length]; omega
    simp only [Nat.zero_add] at ht
    generalize l.getD i bat0 = x at *
    have e1 := e1 x
    simp [hlt, h, hg, hge, Bat.sv, Bat.cells, hw, e1, hr]
    refine ⟨by simp [entL_length] at hlen; omega, i + 1, by omega, by omega, ?_, by omega⟩
    rw [ht, EL_snoc]
    rfl
  · obtain rfl : i = l.length := by omega
    have hlt : ¬ ((l.length : Nat) : Int) < l.length := by omega
    have ht : (entL 0 l).take l.length = entL 0 l := List.take_of_length_le (by rw [entL_length]; exact Nat.le_refl _)
    generalize hX : buildX n (entL 0 l) = X at *
    obtain ⟨x1, x2, x3⟩ := X
    simp [hlt, ht, e2, hl, ixV, xV, iV]
theorem rsparse_seg (s : Seg) (n : Int) (hs : okB s.ls) : Pure Try.prog 63 [s.sv, .int .i64 n] (.sv (ixV (buildX n (entL 0 s.ls)))) := by
  have e1 := RsI_116
  have e2 := RsI_120 n (entL 0 s.ls)
  have hR := RsI_ok
  generalize RsI = R at hR e1 e2
  refine pure_go hR Try.func63 Try.ntmps63 comp63 cres63 (by decide) (by simp) ?_
  obtain ⟨ba, l⟩ := s
  simp only at hs e2 ⊢
  have hl : l.length ≤ 1000 := hs.1
  rw [entL_length] at e2
  simp [ac63, ar63, Seg.sv, Seg.cells]
  refine awpR_loop (α := Nat) (fun i => i ≤ l.length) (fun i => { n := 34, sl := [(1, .sv (.int .i64 n)), (2, .lptr 2 0), (4, .lptr 4 0), (5, .own 3 (EL ((entL 0 l).take i))), (6, .sv (.int .i64 i))], bx := [(2, [.sv (.int .i64 ba), .sv (.sl 6 (BL l))]), (4, [.sv (.int .i64 0), .sv (.int .i64 0), .sv .nils])], hp := fun _ => none })
    (fun i => l.length - i) 0 (by simp) (by simp [EL]) ?_
  intro i hi
  by_cases h : i < l.length
  · have hlt : (i : Int) < l.length := by omega
    have hw := wrap_succ h (show l.length < 4611686018427387904 by omega)
    have hg := BL_get l h
    have hge : (BL l)[i]'(by simpa using h) = (l.getD i bat0).sv := by rw [← hg, List.getElem?_eq_getElem]; rfl
    obtain ⟨ho, hr⟩ := okB_get hs h
    have ht := entL_take 0 l h
    have hlen : ((entL 0 l).take i).length ≤ 1000 := by simp [entL_length]; omega
    simp only [Nat.zero_add] at ht
    generalize l.getD i bat0 = x at *
    have e1 := e1 x
    simp [hlt, h, hg, hge, Bat.sv, Bat.cells, hw, e1, hr]
    refine ⟨by simp [entL_length] at hlen; omega, i + 1, by omega, by omega, ?_, by omega⟩
    rw [ht, EL_snoc]
    rfl
  · obtain rfl : i = l.length := by omega
    have hlt : ¬ ((l.length : Nat) : Int) < l.length := by omega
    have ht : (entL 0 l).take l.length = entL 0 l := List.take_of_length_le (by rw [entL_length]; exact Nat.le_refl _)
    generalize hX : buildX n (entL 0 l) = X at *
    obtain ⟨x1, x2, x3⟩ := X
    simp [hlt, ht, e2, hl, ixV, xV, iV]
theorem clone_bats (l : List Bat) (hl : l.length ≤ 1000) : Pure Try.prog 122 [.sl 6 (BL l)] (.own 6 (BL l)) := by
  refine pure_go R0_ok Try.func122 Try.ntmps122 comp122 cres122 (by decide) (by simp) ?_
  cases l with
  | nil => simp [ac122, ar122, R0, BL]
  | cons a l =>
    have e : BL (a :: l) = a.sv :: BL l := rfl
    rw [e]
    simp at hl
    simp [ac122, ar122, R0]
    omega
def eBL (l : List Bat) : List SV := [.sl 6 (BL l)]
theorem eBL_inj (a b : List Bat) (h : eBL a = eBL b) : a = b := by simp [eBL] at h; exact BL_inj _ _ h
noncomputable def RsJ : Orc := { p := fun f l => match f with
    | 122 => row eBL (fun l => (l.length ≤ 1000, .own 6 (BL l))) l
    | f => RsF.p f l }
theorem RsJ_ok : RsJ.ok Try.prog := by
  refine ⟨fun f l c rv h hc => ?_, fun _ _ _ _ _ _ h => (by cases h), fun _ _ _ _ h => (by cases h), fun _ h => (by cases h), fun _ _ _ _ _ _ h => (by cases h), fun _ _ _ _ _ _ _ h => (by cases h)⟩
  simp only [RsJ] at h
  split at h
  · exact row_ok h hc (fun n hn => clone_bats n hn)
  · exact RsF_ok.p _ _ _ _ h hc
theorem RsJ_122 (l : List Bat) : RsJ.p 122 [.sl 6 (BL l)] = some (l.length ≤ 1000, .own 6 (BL l)) := row_eq eBL_inj _ l
theorem RsJ_68 (s : Seg) : RsJ.p 68 [.agg [.int .i64 s.ba, .sl 6 (BL s.ls)]] = some (s.ls.length ≤ 1000, .sv (.int .i64 (segN s))) := RsF_68 s
theorem RsJ_67 (b : Bat) : RsJ.p 67 [bsv b] = some (b.ok, .sv (.int .i64 (batE b))) := RsB_67 b
/-- What is put. -/
def putS (s : Seg) (b : Bat) : Seg × Int := if batE b = 0 then (if b.ba < segN s then (⟨0, []⟩, 16) else (⟨s.ba, s.ls ++ [b]⟩, 0)) else (⟨0, []⟩, batE b)
theorem put_seg (s : Seg) (b : Bat) (hs : s.ls.length < 1000) (hb : b.ok) : Pure Try.prog 66 [s.sv, b.sv] (.tup [.sv (putS s b).1.sv, .sv (.int .i64 (putS s b).2)]) := by
  have e1 := RsJ_67 b
  have e2 := RsJ_68 s
  have e3 := RsJ_122 s.ls
  have hR := RsJ_ok
  generalize RsJ = R at hR e1 e2 e3
  refine pure_go hR Try.func66 Try.ntmps66 comp66 cres66 (by decide) (by simp) ?_
  unfold putS
  obtain ⟨ba, l⟩ := s
  simp only at hs e2 e3 ⊢
  have hl : l.length ≤ 1000 := by omega
  have hBL0 : BL [] = [] := rfl
  generalize segN ⟨ba, l⟩ = n at *
  by_cases q : batE b = 0
  · rw [q] at e1
    by_cases q2 : b.ba < n
    · simp [ac66, ar66, Seg.sv, Seg.cells, Bat.sv, Bat.cells, e1, e2, hb, hl, q, q2, hBL0]
    · simp [ac66, ar66, Seg.sv, Seg.cells, Bat.sv, Bat.cells, e1, e2, e3, hb, hl, q, q2, BL_snoc]
      omega
  · simp [ac66, ar66, Seg.sv, Seg.cells, Bat.sv, Bat.cells, e1, hb, q, hBL0]
end Go.Proofs.Ytflcdbfcipkhkaa

/- Segment: the first offset of a time. -/

set_option linter.unusedSimpArgs false
set_option linter.unusedVariables false
set_option maxHeartbeats 8000000
namespace Go.Proofs.Ytflcdbfcipkhkaa
open Go.Av

/-- The offset of the first record of a time, in a batch. -/
def tmB (t ba : Int) : List Rec → Option Int
  | [] => none
  | r :: l => if t ≤ r.tm then some (IntKind.i64.wrap (ba + r.dl)) else tmB t ba l
def tmS (t : Int) : List Bat → Int × Bool
  | [] => (0, false)
  | b :: l => match tmB t b.ba b.rs with
    | some a => (a, true)
    | none => tmS t l
theorem tmB_drop (t ba : Int) (l : List Rec) {i : Nat} (h : i < l.length) : tmB t ba (l.drop i) = if t ≤ (l.getD i rec0).tm then some (IntKind.i64.wrap (ba + (l.getD i rec0).dl)) else tmB t ba (l.drop (i + 1)) := by
  rw [List.drop_eq_getElem_cons h, tmB, List.getD_eq_getElem?_getD, List.getElem?_eq_getElem h]
  rfl
theorem tmS_drop (t : Int) (l : List Bat) {i : Nat} (h : i < l.length) : tmS t (l.drop i) = match tmB t (l.getD i bat0).ba (l.getD i bat0).rs with
    | some a => (a, true)
    | none => tmS t (l.drop (i + 1)) := by
  rw [List.drop_eq_getElem_cons h, tmS, List.getD_eq_getElem?_getD, List.getElem?_eq_getElem h]
  rfl
theorem time_pure (s : Seg) (t : Int) (hs : okB s.ls) : Pure Try.prog 52 [s.sv, .int .i64 t] (.tup [.sv (.int .i64 (tmS t s.ls).1), .sv (.bool (tmS t s.ls).2)]) := by
  have hR := RsB_ok
  generalize RsB = R at hR
  refine pure_go hR Try.func52 Try.ntmps52 comp52 cres52 (by decide) (by simp) ?_
  obtain ⟨ba, l⟩ := s
  simp only at hs
  have hl : l.length ≤ 1000 := hs.1
  simp [ac52, ar52, Seg.sv, Seg.cells]
  refine awpR_loop (α := Nat) (fun i => i ≤ l.length ∧ tmS t l = tmS t (l.drop i)) (fun i => { n := 35, sl := [(1, .sv (.int .i64 t)), (11, .sv (.sl 6 (BL l))), (12, .sv (.int .i64 l.length)), (13, .sv (.int .i64 i))], bx := [], hp := fun _ => none })
    (fun i => l.length - i) 0 ⟨by simp, by simp⟩ (by simp) ?_
  rintro i ⟨hi, ha⟩
  by_cases h : i < l.length
  · have hlt : (i : Int) < l.length := by omega
    have hw := wrap_succ h (show l.length < 4611686018427387904 by omega)
    have hg := BL_get l h
    have hge : (BL l)[i]'(by simpa using h) = (l.getD i bat0).sv := by rw [← hg, List.getElem?_eq_getElem]; rfl
    obtain ⟨ho, hr⟩ := okB_get hs h
    rw [tmS_drop t l h] at ha
    generalize l.getD i bat0 = x at *
    obtain ⟨xa, x1, x2, x3, x4, m⟩ := x
    simp only at ha hr
    simp [hlt, h, hg, hge, Bat.sv, Bat.cells, hw]
    refine awpR_loop (α := Nat) (fun k => k ≤ m.length ∧ tmB t xa m = tmB t xa (m.drop k)) (fun k => { n := 35, sl := [(1, .sv (.int .i64 t)), (7, .lptr 7 0), (11, .sv (.sl 6 (BL l))), (12, .sv (.int .i64 l.length)), (13, .sv (.int .i64 i)), (18, .sv (.sl 6 (RL m))), (19, .sv (.int .i64 m.length)), (20, .sv (.int .i64 k))], bx := [(7, [.sv (.int .i64 xa), .sv (.int .i64 x1), .sv (.int .i64 x2), .sv (.int .i64 x3), .sv (.int .i64 x4), .sv (.sl 6 (RL m))])], hp := fun _ => none })
      (fun k => m.length - k) 0 ⟨by simp, by simp⟩ (by simp) ?_
    rintro k ⟨hk, hb⟩
    by_cases h2 : k < m.length
    · have hlt2 : (k : Int) < m.length := by omega
      have hw2 := wrap_succ h2 (show m.length < 4611686018427387904 by omega)
      have hg2 := RL_get m h2
      have hge2 : (RL m)[k]'(by simpa using h2) = (m.getD k rec0).sv := by rw [← hg2, List.getElem?_eq_getElem]; rfl
      rw [tmB_drop t xa m h2] at hb
      generalize m.getD k rec0 = r at *
      by_cases q : t ≤ r.tm
      · rw [if_pos q] at hb
        rw [hb] at ha
        simp only at ha
        rw [ha]
        simp [hlt2, h2, hg2, hge2, Rec.sv, Rec.cells, hw2, q]
      · rw [if_neg q] at hb
        simp [hlt2, h2, hg2, hge2, Rec.sv, Rec.cells, hw2, q]
        refine ⟨k + 1, ⟨by omega, hb⟩, by omega, by omega⟩
    · obtain rfl : k = m.length := by omega
      have hlt2 : ¬ ((m.length : Nat) : Int) < m.length := by omega
      rw [List.drop_length, tmB] at hb
      rw [hb] at ha
      simp only at ha
      simp [hlt2, hw]
      refine ⟨i + 1, ⟨by omega, ha⟩, by omega, by omega⟩
  · obtain rfl : i = l.length := by omega
    have hlt : ¬ ((l.length : Nat) : Int) < l.length := by omega
    rw [List.drop_length, tmS] at ha
    rw [ha]
    simp [hlt]
end Go.Proofs.Ytflcdbfcipkhkaa

/- Segment: the first offset of a time, by the document. -/

set_option linter.unusedSimpArgs false
set_option linter.unusedVariables false
set_option maxHeartbeats 8000000
namespace Go.Proofs.Ytflcdbfcipkhkaa
open Go.Av

def rt1 (t ba : Int) (r : Rec) (a : Int × Bool) : Int × Bool := if t ≤ r.tm ∧ (a.2 = false ∨ IntKind.i64.wrap (ba + r.dl) < a.1) then (IntKind.i64.wrap (ba + r.dl), true) else a
def rtB (t ba : Int) : List Rec → Int × Bool → Int × Bool
  | [], a => a
  | r :: l, a => rtB t ba l (rt1 t ba r a)
def rtS (t : Int) : List Bat → Int × Bool → Int × Bool
  | [], a => a
  | b :: l, a => rtS t l (rtB t b.ba b.rs a)
theorem rtB_drop (t ba : Int) (l : List Rec) (a : Int × Bool) {i : Nat} (h : i < l.length) : rtB t ba (l.drop i) a = rtB t ba (l.drop (i + 1)) (rt1 t ba (l.getD i rec0) a) := by
  rw [List.drop_eq_getElem_cons h, rtB, List.getD_eq_getElem?_getD, List.getElem?_eq_getElem h]
  rfl
theorem rtS_drop (t : Int) (l : List Bat) (a : Int × Bool) {i : Nat} (h : i < l.length) : rtS t (l.drop i) a = rtS t (l.drop (i + 1)) (rtB t (l.getD i bat0).ba (l.getD i bat0).rs a) := by
  rw [List.drop_eq_getElem_cons h, rtS, List.getD_eq_getElem?_getD, List.getElem?_eq_getElem h]
  rfl
theorem rtime_pure (s : Seg) (t : Int) (hs : okB s.ls) : Pure Try.prog 53 [s.sv, .int .i64 t] (.tup [.sv (.int .i64 (rtS t s.ls (0, false)).1), .sv (.bool (rtS t s.ls (0, false)).2)]) := by
  have hR := RsB_ok
  generalize RsB = R at hR
  refine pure_go hR Try.func53 Try.ntmps53 comp53 cres53 (by decide) (by simp) ?_
  obtain ⟨ba, l⟩ := s
  simp only at hs
  have hl : l.length ≤ 1000 := hs.1
  simp [ac53, ar53, Seg.sv, Seg.cells]
  refine awpR_loop (α := Nat × (Int × Bool)) (fun p => p.1 ≤ l.length ∧ rtS t l (0, false) = rtS t (l.drop p.1) p.2) (fun p => { n := 64, sl := [(1, .sv (.int .i64 t)), (2, .lptr 2 0), (6, .sv (.int .i64 p.2.1)), (7, .sv (.bool p.2.2)), (8, .sv (.int .i64 p.1))], bx := [(2, [.sv (.int .i64 ba), .sv (.sl 6 (BL l))])], hp := fun _ => none })
    (fun p => l.length - p.1) (0, (0, false)) ⟨by simp, by simp⟩ (by simp) ?_
  rintro ⟨i, a, o⟩ ⟨hi, ha⟩
  simp only at hi ha ⊢
  by_cases h : i < l.length
  · have hlt : (i : Int) < l.length := by omega
    have hw := wrap_succ h (show l.length < 4611686018427387904 by omega)
    have hg := BL_get l h
    have hge : (BL l)[i]'(by simpa using h) = (l.getD i bat0).sv := by rw [← hg, List.getElem?_eq_getElem]; rfl
    obtain ⟨ho, hr⟩ := okB_get hs h
    rw [rtS_drop t l _ h] at ha
    generalize l.getD i bat0 = x at *
    obtain ⟨xa, x1, x2, x3, x4, m⟩ := x
    simp only at ha hr
    simp [-Bool.exists_bool, hlt, h, hg, hge, Bat.sv, Bat.cells, hw]
    refine awpR_loop (α := Nat × (Int × Bool)) (fun p => p.1 ≤ m.length ∧ rtB t xa m (a, o) = rtB t xa (m.drop p.1) p.2) (fun p => { n := 64, sl := [(1, .sv (.int .i64 t)), (2, .lptr 2 0), (6, .sv (.int .i64 p.2.1)), (7, .sv (.bool p.2.2)), (8, .sv (.int .i64 i)), (9, .sv (.int .i64 p.1))], bx := [(2, [.sv (.int .i64 ba), .sv (.sl 6 (BL l))])], hp := fun _ => none })
      (fun p => m.length - p.1) (0, (a, o)) ⟨by simp, by simp⟩ (by simp) ?_
    rintro ⟨k, a', o'⟩ ⟨hk, hb⟩
    simp only at hk hb ⊢
    by_cases h2 : k < m.length
    · have hlt2 : (k : Int) < m.length := by omega
      have hw2 := wrap_succ h2 (show m.length < 4611686018427387904 by omega)
      have hg2 := RL_get m h2
      have hge2 : (RL m)[k]'(by simpa using h2) = (m.getD k rec0).sv := by rw [← hg2, List.getElem?_eq_getElem]; rfl
      rw [rtB_drop t xa m _ h2] at hb
      generalize m.getD k rec0 = r at *
      unfold rt1 at hb
      simp only at hb
      generalize hW : IntKind.i64.wrap (xa + r.dl) = W at *
      by_cases q : t ≤ r.tm
      · cases o' with
        | false =>
          rw [if_pos ⟨q, .inl rfl⟩] at hb
          simp [-Bool.exists_bool, hlt, h, hg, hge, Bat.sv, Bat.cells, hlt2, h2, hg2, hge2, Rec.sv, Rec.cells, hw2, q, hW]
          refine ⟨k + 1, W, true, ⟨by omega, hb⟩, by omega, rfl, rfl, by omega⟩
        | true =>
          by_cases q2 : W < a'
          · rw [if_pos ⟨q, .inr q2⟩] at hb
            simp [-Bool.exists_bool, hlt, h, hg, hge, Bat.sv, Bat.cells, hlt2, h2, hg2, hge2, Rec.sv, Rec.cells, hw2, q, q2, hW]
            refine ⟨k + 1, W, true, ⟨by omega, hb⟩, by omega, rfl, rfl, by omega⟩
          · rw [if_neg (fun z => by rcases z.2 with z | z; (cases z); exact q2 z)] at hb
            simp [-Bool.exists_bool, hlt, h, hg, hge, Bat.sv, Bat.cells, hlt2, h2, hg2, hge2, Rec.sv, Rec.cells, hw2, q, q2, hW]
            refine ⟨k + 1, a', true, ⟨by omega, hb⟩, by omega, rfl, rfl, by omega⟩
      · rw [if_neg (fun z => q z.1)] at hb
        simp [-Bool.exists_bool, hlt, h, hg, hge, Bat.sv, Bat.cells, hlt2, h2, hg2, hge2, Rec.sv, Rec.cells, hw2, q, hW]
        refine ⟨k + 1, a', o', ⟨by omega, hb⟩, by omega, rfl, rfl, by omega⟩
    · obtain rfl : k = m.length := by omega
      have hlt2 : ¬ ((m.length : Nat) : Int) < m.length := by omega
      rw [List.drop_length, rtB] at hb
      rw [hb] at ha
      simp [-Bool.exists_bool, hlt, h, hg, hge, Bat.sv, Bat.cells, hlt2, hw]
      refine ⟨i + 1, a', o', ⟨by omega, ha⟩, by omega, rfl, rfl, by omega⟩
  · obtain rfl : i = l.length := by omega
    have hlt : ¬ ((l.length : Nat) : Int) < l.length := by omega
    rw [List.drop_length, rtS] at ha
    rw [ha]
    simp [hlt]
end Go.Proofs.Ytflcdbfcipkhkaa

/- Segment: the batches that awake looks at. -/



set_option linter.unusedSimpArgs false
set_option linter.unusedVariables false
set_option maxHeartbeats 4000000
namespace Go.Proofs.Ytflcdbfcipkhkaa
open Go.Av

def wr1 : Rec := ⟨0, 3, true, ⟨#[107]⟩, false, ⟨#[]⟩⟩
def wb1 : Bat := ⟨5, 2, 0, 0, 0, [wr1]⟩
def wb2 : Bat := ⟨9, 1, 0, 0, 0, []⟩
def ws0 : Seg := ⟨0, []⟩
def ws1 : Seg := ⟨0, [wb1]⟩
def ws2 : Seg := ⟨0, [wb1, wb2]⟩
theorem lsm (u : Nat) (h : u < 128) : layN u = [u] := layN_small h
theorem wr1E : recE wr1 = 0 := by decide
theorem wb1N : batN wb1 = 0 := by decide
theorem wb2N : batN wb2 = 0 := by decide
theorem wb1L : layB wb1 = [10, 4, 0, 0, 0, 2, 1, 0, 6, 2, 107, 0] := by
  simp only [layB, numsB, hdL, recsB, wb1, List.map_cons, List.map_nil, List.flatten_cons, List.flatten_nil, List.length_cons, List.length_nil, putR, wr1E, if_true, recP, wr1]
  have e (n : Int) (k : Nat) (h : zig n = k) (hk : k < 128) : layN (zig n) = [k] := by rw [h]; exact lsm k hk
  rw [e 5 10 (by decide) (by decide), e 2 4 (by decide) (by decide), e 0 0 (by decide) (by decide), e ((0 + 1 : Nat) : Int) 2 (by decide) (by decide), e 3 6 (by decide) (by decide), e (((⟨#[107]⟩ : ByteArray).size : Nat) : Int) 2 (by decide) (by decide), e (((⟨#[]⟩ : ByteArray).size : Nat) : Int) 0 (by decide) (by decide)]
  decide
theorem wb2L : layB wb2 = [18, 2, 0, 0, 0, 0] := by
  simp only [layB, numsB, hdL, recsB, wb2, List.map_cons, List.map_nil, List.flatten_cons, List.flatten_nil, List.length_cons, List.length_nil]
  have e (n : Int) (k : Nat) (h : zig n = k) (hk : k < 128) : layN (zig n) = [k] := by rw [h]; exact lsm k hk
  rw [e 9 18 (by decide) (by decide), e 1 2 (by decide) (by decide), e 0 0 (by decide) (by decide), e ((0 : Nat) : Int) 0 (by decide) (by decide)]
  decide
theorem wb1E : batE wb1 = 0 := by
  have : chkL wb1.ct (-1) wb1.rs = 0 := by decide
  simp [batE, wb1N, this, wb1L]
theorem wb2E : batE wb2 = 0 := by
  have : chkL wb2.ct (-1) wb2.rs = 0 := by decide
  simp [batE, wb2N, this, wb2L]
theorem wb0E : batE bat0 = 11 := by decide
theorem wput1 : putS ws0 wb1 = (ws1, 0) := by
  rw [putS, if_pos wb1E, if_neg (by decide)]; rfl
theorem wput2 : putS ws1 wb2 = (ws2, 0) := by
  rw [putS, if_pos wb2E, if_neg (by decide)]; rfl
theorem wput3 : (putS ws2 wb2).2 = 16 := by
  rw [putS, if_pos wb2E, if_pos (by decide)]
theorem wnext : segN ws2 = 10 := by decide
theorem wfetch : fetL 7 1 ws2.ls [] = [wb2] := by decide
theorem wtime : tmS 3 ws2.ls = (5, true) := by decide
theorem wnewest : nwL (-1) ws2.ls = 3 := by decide
theorem wkeys : keyS ws2.ls [] = [⟨#[107]⟩] := by
  have : insK ⟨#[107]⟩ [] = [⟨#[107]⟩] := by simp [insK, atK, posK]
  simp [keyS, ws2, wb1, wb2, keyB, keyR, wr1, this]
theorem wblk : blkS ws2.ls = 2 := by
  simp [blkS, ws2, needB, wb1E, wb2E, putB, wb1L, wb2L, blkN]
theorem wneed : needB bat0 = 0 := by simp [needB, wb0E]
theorem wsparse : buildX 2 (entL 0 ws2.ls) = (2, 2, [(5, 3, 0)]) := by decide
theorem wcheck : segE ws2 = 0 := by
  have : nxB wb1 = 7 := by decide
  simp only [segE, ws2, chkS, wb1E, wb2E, if_true, this]
  decide
end Go.Proofs.Ytflcdbfcipkhkaa
