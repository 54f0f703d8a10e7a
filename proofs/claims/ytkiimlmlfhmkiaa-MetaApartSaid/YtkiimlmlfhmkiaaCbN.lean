import Derived.Test.YtkiimlmlfhmkiaaCbM

set_option linter.unusedSimpArgs false
set_option linter.unusedVariables false
set_option maxHeartbeats 1000000
namespace Go.Proofs.Ytkiimlmlfhmkiaa
open Go.Av

theorem chkL_zero {ct : Int} : ∀ {l : List Rec} {last : Int}, chkL ct last l = 0 → ∀ r ∈ l, recE r = 0
  | [], _, _, r, hr => by cases hr
  | x :: l, last, h, r, hr => by
    simp only [chkL] at h
    by_cases h1 : recE x = 0
    · rw [if_neg (fun q => q h1)] at h
      by_cases h2 : x.dl ≤ last ∨ ct ≤ x.dl
      · rw [if_pos h2] at h; cases h
      · rw [if_neg h2] at h
        rcases List.mem_cons.1 hr with rfl | hr
        · exact h1
        · exact chkL_zero h r hr
    · rw [if_pos h1] at h; exact absurd h h1
theorem batE_chk {b : Bat} (h : batE b = 0) : chkL b.ct (-1) b.rs = 0 := by
  have h1 : batN b = 0 := Classical.byContradiction fun q => by rw [batE, if_pos q] at h; exact q h
  rw [batE, if_neg (fun q => q h1)] at h
  exact Classical.byContradiction fun q => by rw [if_pos q] at h; exact q h
theorem batE_num {b : Bat} (h : batE b = 0) : 1 ≤ b.ct ∧ b.ct ≤ 32 ∧ 0 ≤ b.ba ∧ b.ba + b.ct ≤ 4611686018427387903 ∧ 0 ≤ b.pr ∧ b.pr ≤ 1099511627776 ∧ 0 ≤ b.ep ∧ b.ep ≤ 32767 ∧ 0 ≤ b.sq ∧ b.sq ≤ 2147483647 := by
  have q : batN b = 0 := Classical.byContradiction fun q => by rw [batE, if_pos q] at h; exact q h
  unfold batN at q
  have q1 : ¬ (b.ct < 1 ∨ 32 < b.ct ∨ b.ba < 0 ∨ 4611686018427387903 - b.ct < b.ba) := fun z => by rw [if_pos z] at q; cases q
  rw [if_neg q1] at q
  have q2 : ¬ (b.pr < 0 ∨ 1099511627776 < b.pr ∨ b.ep < 0 ∨ 32767 < b.ep ∨ b.sq < 0 ∨ 2147483647 < b.sq) := fun z => by rw [if_pos z] at q; cases q
  omega
theorem recsB_cons (r : Rec) (l : List Rec) : recsB (r :: l) = putR r ++ recsB l := by simp [recsB]
theorem goR_recs : ∀ (rs : List Rec) (t : List Nat) (acc : List Rec), (∀ r ∈ rs, recE r = 0) → goR rs.length (recsB rs ++ t) 0 acc = some (acc ++ rs)
  | [], t, acc, _ => by simp [goR]
  | r :: rs, t, acc, h => by
    have hr : recE r = 0 := h r (by simp)
    have hp : putR r = recP r := if_pos hr
    rw [recsB_cons, hp, List.append_assoc, List.length_cons, goR, recG_put r hr]
    simp only [ne_eq, not_true_eq_false, if_false]
    rw [goR_recs rs t _ (fun x hx => h x (by simp [hx]))]
    simp
theorem goQ_recs : ∀ (rs : List Rec) (t : List Nat) (acc : List Rec), (∀ r ∈ rs, recE r = 0) → goQ rs.length (recsB rs ++ t) 0 acc = acc ++ rs
  | [], t, acc, _ => by simp [goQ]
  | r :: rs, t, acc, h => by
    have hr : recE r = 0 := h r (by simp)
    have hp : putR r = recP r := if_pos hr
    rw [recsB_cons, hp, List.append_assoc, List.length_cons, goQ, recG_put r hr, if_pos rfl]
    simp only
    rw [goQ_recs rs t _ (fun x hx => h x (by simp [hx]))]
    simp
theorem layB_split (b : Bat) (t : List Nat) : layB b ++ t = layN (zig b.ba) ++ (layN (zig b.ct) ++ (layN (zig b.pr) ++ (layN (zig b.ep) ++ (layN (zig b.sq) ++ (layN (zig b.rs.length) ++ (recsB b.rs ++ t)))))) := by
  simp [layB, numsB, hdL]
theorem p_lay {b : Bat} (h : batE b = 0) (t : List Nat) : (p1 (layB b ++ t)).1 = b.ba ∧ (p2 (layB b ++ t)).1 = b.ct ∧ (p3 (layB b ++ t)).1 = b.pr ∧ (p4 (layB b ++ t)).1 = b.ep ∧ (p5 (layB b ++ t)).1 = b.sq ∧ p6 (layB b ++ t) = ((b.rs.length : Int), recsB b.rs ++ t, 0) := by
  obtain ⟨a1, a2, a3, a4, a5, a6, a7, a8, a9, a10⟩ := batE_num h
  have hl := batE_len h
  have e1 : p1 (layB b ++ t) = (b.ba, (layN (zig b.ct) ++ (layN (zig b.pr) ++ (layN (zig b.ep) ++ (layN (zig b.sq) ++ (layN (zig b.rs.length) ++ (recsB b.rs ++ t)))))), 0) := by rw [layB_split]; exact rNum_lay ⟨by omega, by omega⟩ _
  have e2 : p2 (layB b ++ t) = (b.ct, (layN (zig b.pr) ++ (layN (zig b.ep) ++ (layN (zig b.sq) ++ (layN (zig b.rs.length) ++ (recsB b.rs ++ t))))), 0) := by unfold p2; rw [e1]; exact rNum_lay ⟨by omega, by omega⟩ _
  have e3 : p3 (layB b ++ t) = (b.pr, (layN (zig b.ep) ++ (layN (zig b.sq) ++ (layN (zig b.rs.length) ++ (recsB b.rs ++ t)))), 0) := by unfold p3; rw [e2]; exact rNum_lay ⟨by omega, by omega⟩ _
  have e4 : p4 (layB b ++ t) = (b.ep, (layN (zig b.sq) ++ (layN (zig b.rs.length) ++ (recsB b.rs ++ t))), 0) := by unfold p4; rw [e3]; exact rNum_lay ⟨by omega, by omega⟩ _
  have e5 : p5 (layB b ++ t) = (b.sq, (layN (zig b.rs.length) ++ (recsB b.rs ++ t)), 0) := by unfold p5; rw [e4]; exact rNum_lay ⟨by omega, by omega⟩ _
  have e6 : p6 (layB b ++ t) = ((b.rs.length : Int), (recsB b.rs ++ t), 0) := by unfold p6; rw [e5]; exact rNum_lay ⟨by omega, by omega⟩ _
  exact ⟨by rw [e1], by rw [e2], by rw [e3], by rw [e4], by rw [e5], e6⟩
theorem cntG_len {n : Nat} (h : n ≤ 32) : cntG (n : Int) = n := by
  unfold cntG
  rw [if_neg (by omega), if_neg (by omega)]; rfl
theorem batG_lay {b : Bat} (h : batE b = 0) : batG (layB b) = (b, 0) := by
  obtain ⟨e1, e2, e3, e4, e5, e6⟩ := p_lay h []
  rw [List.append_nil] at e1 e2 e3 e4 e5 e6
  rw [List.append_nil] at e6
  have hg := goR_recs b.rs [] [] (chkL_zero (batE_chk h))
  rw [List.append_nil, List.nil_append] at hg
  unfold batG
  rw [e6, cntG_len (batE_len h), hg, e1, e2, e3, e4, e5]
  exact if_pos ⟨h, rfl⟩
theorem batQ_lay {b : Bat} (h : batE b = 0) : batQ (layB b) = (b, 0) := by
  obtain ⟨e1, e2, e3, e4, e5, e6⟩ := p_lay h []
  rw [List.append_nil] at e1 e2 e3 e4 e5 e6
  rw [List.append_nil] at e6
  have hg := goQ_recs b.rs [] [] (chkL_zero (batE_chk h))
  rw [List.append_nil, List.nil_append] at hg
  unfold batQ
  have := batE_lay h
  rw [if_neg (by omega), e6, cntG_len (batE_len h), hg, e1, e2, e3, e4, e5]
  exact if_pos ⟨h, rfl⟩
theorem finG_cases (l : List Nat) (b : Bat) : finG l b = (bat0, 4) ∨ batE b = 0 ∧ layB b = l ∧ finG l b = (b, 0) := by
  unfold finG
  by_cases h : batE b = 0 ∧ layB b = l
  · exact .inr ⟨h.1, h.2, if_pos h⟩
  · exact .inl (if_neg h)
theorem batG_cases (l : List Nat) : batG l = (bat0, 4) ∨ ∃ b, batE b = 0 ∧ layB b = l ∧ batG l = (b, 0) := by
  unfold batG
  cases goR (cntG (p6 l).1) (p6 l).2.1 (p6 l).2.2 [] with
  | none => exact .inl rfl
  | some rs =>
    rcases finG_cases l ⟨(p1 l).1, (p2 l).1, (p3 l).1, (p4 l).1, (p5 l).1, rs⟩ with h | ⟨h1, h2, h3⟩
    · exact .inl h
    · exact .inr ⟨_, h1, h2, h3⟩
theorem batQ_cases (l : List Nat) : batQ l = (bat0, 4) ∨ ∃ b, batE b = 0 ∧ layB b = l ∧ batQ l = (b, 0) := by
  unfold batQ
  split
  · exact .inl rfl
  · rcases finG_cases l ⟨(p1 l).1, (p2 l).1, (p3 l).1, (p4 l).1, (p5 l).1, goQ (cntG (p6 l).1) (p6 l).2.1 (p6 l).2.2 []⟩ with h | ⟨h1, h2, h3⟩
    · exact .inl h
    · exact .inr ⟨_, h1, h2, h3⟩
/-- Both readers tell the same. -/
theorem batG_batQ (l : List Nat) : batG l = batQ l := by
  rcases batG_cases l with h | ⟨b, h1, h2, h3⟩
  · rcases batQ_cases l with k | ⟨b, k1, k2, k3⟩
    · rw [h, k]
    · subst k2
      rw [batG_lay k1, k3]
  · subst h2
    rw [h3, batQ_lay h1]
/-- No batch's bytes are the beginning of another one's. -/
theorem bat_prefix {a b : Bat} (ha : batE a = 0) (hb : batE b = 0) {t : List Nat} (h : layB b = layB a ++ t) : a = b := by
  obtain ⟨a1, a2, a3, a4, a5, a6⟩ := p_lay ha t
  obtain ⟨b1, b2, b3, b4, b5, b6⟩ := p_lay hb []
  rw [List.append_nil, h] at b1 b2 b3 b4 b5 b6
  rw [List.append_nil, a6] at b6
  obtain ⟨l1, l2⟩ := Prod.mk.inj b6
  have hlen : a.rs.length = b.rs.length := by omega
  have e := (Prod.mk.inj l2).1
  have g1 := goR_recs a.rs t [] (chkL_zero (batE_chk ha))
  have g2 := goR_recs b.rs [] [] (chkL_zero (batE_chk hb))
  rw [e, hlen] at g1
  rw [List.append_nil, g1] at g2
  have hrs : a.rs = b.rs := by simpa using g2
  obtain ⟨x1, x2, x3, x4, x5, x6⟩ := a
  obtain ⟨y1, y2, y3, y4, y5, y6⟩ := b
  simp only at a1 a2 a3 a4 a5 b1 b2 b3 b4 b5 hrs
  rw [a1] at b1; rw [a2] at b2; rw [a3] at b3; rw [a4] at b4; rw [a5] at b5
  subst b1 b2 b3 b4 b5 hrs
  rfl
theorem layB_inj {a b : Bat} (ha : batE a = 0) (hb : batE b = 0) (h : layB a = layB b) : a = b := bat_prefix ha hb (t := []) (by rw [h, List.append_nil])
theorem layB_pos (b : Bat) : 1 ≤ (layB b).length := by
  have := layN_pos (zig b.ba)
  simp only [layB, numsB, hdL, List.length_append, List.map_cons, List.flatten_cons]
  omega
theorem batG_more {b : Bat} (h : batE b = 0) (c : Nat) : batG (layB b ++ [c]) = (bat0, 4) := by
  rcases batG_cases (layB b ++ [c]) with k | ⟨a, k1, k2, k3⟩
  · exact k
  · have := bat_prefix h k1 k2
    subst this
    have := congrArg List.length k2
    simp at this
theorem batG_less {b : Bat} (h : batE b = 0) : batG (layB b).dropLast = (bat0, 4) := by
  rcases batG_cases (layB b).dropLast with k | ⟨a, k1, k2, k3⟩
  · exact k
  · have hne : layB b ≠ [] := fun q => by have := layB_pos b; rw [q] at this; simp at this
    have e : layB b = layB a ++ [(layB b).getLast hne] := by rw [k2]; exact (List.dropLast_concat_getLast hne).symm
    have := bat_prefix k1 h e
    subst this
    have := congrArg List.length e
    simp at this

/-! ### offsets rise -/
theorem chkL_spec {ct : Int} : ∀ {l : List Rec} {last : Int}, chkL ct last l = 0 → ∀ i, i < l.length → last < (l.getD i rec0).dl ∧ (l.getD i rec0).dl < ct ∧ ∀ j, j < i → (l.getD j rec0).dl < (l.getD i rec0).dl
  | [], _, _, i, hi => by simp at hi
  | x :: l, last, h, i, hi => by
    simp only [chkL] at h
    have h1 : recE x = 0 := chkL_zero (l := x :: l) (last := last) (ct := ct) (by simpa only [chkL] using h) x (by simp)
    rw [if_neg (fun q => q h1)] at h
    have h2 : ¬ (x.dl ≤ last ∨ ct ≤ x.dl) := fun q => by rw [if_pos q] at h; cases h
    rw [if_neg h2] at h
    cases i with
    | zero => exact ⟨by simp; omega, by simp; omega, fun j hj => absurd hj (Nat.not_lt_zero _)⟩
    | succ i =>
      obtain ⟨k1, k2, k3⟩ := chkL_spec h i (by simpa using hi)
      refine ⟨by simp at k1 ⊢; omega, by simpa using k2, fun j hj => ?_⟩
      cases j with
      | zero => simpa using k1
      | succ j => simpa using k3 j (by omega)
end Go.Proofs.Ytkiimlmlfhmkiaa
