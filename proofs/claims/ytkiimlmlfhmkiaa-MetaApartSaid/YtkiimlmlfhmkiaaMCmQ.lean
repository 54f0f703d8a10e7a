import Derived.Test.YtkiimlmlfhmkiaaMCmO
import Derived.Test.YtkiimlmlfhmkiaaMCrD

set_option linter.unusedVariables false
set_option linter.unusedSimpArgs false

/- Meta: GetAll, walked. -/


set_option linter.unusedSimpArgs false
set_option linter.unusedVariables false
set_option maxHeartbeats 4000000
set_option maxRecDepth 10000
namespace Go.Proofs.Ytkiimlmlfhmkiaa
open Go.Av

theorem getN_pos {l : List Nat} (h : (getN l).2.2 = 0) : 1 ≤ (getN l).2.1 := by
  unfold getN at h ⊢
  simp only [] at h ⊢
  split at h
  · rename_i h1
    rw [if_pos h1]
    split at h
    · rename_i h2; rw [if_pos h2]; simp
    · cases h
  · split at h <;> cases h
theorem rText_out {l : List Nat} (hl : Bytes l) (e m : Int) : Bytes (rText l e m).1 ∧ (rText l e m).1.length ≤ l.length := by
  have hb := rNum_bytes hl e
  have hln := rNum_le l e
  unfold rText
  generalize rNum l e = p at hb hln
  obtain ⟨n, l', e'⟩ := p
  simp only at hb hln ⊢
  generalize (if m > 0 then m else 0) = q
  split
  · split
    · exact ⟨fun c hc => (by cases hc), Nat.zero_le _⟩
    · exact ⟨rTake_bytes hb _ _, Nat.le_trans (rTake_le _ _ _) hln⟩
  · exact ⟨fun c hc => (by cases hc), Nat.zero_le _⟩
theorem rText_dec {l : List Nat} (e m : Int) (h : (rText l e m).2.2 = 0) : (rText l e m).2.1.length + 1 ≤ l.length := by
  have hd : (rNum l e).2.2 = 0 → (rNum l e).2.1.length + 1 ≤ l.length := by
    unfold rNum
    by_cases he : e = 0
    · rw [if_pos he]
      simp only
      intro h0
      have hk := getN_k l
      have h1 : 1 ≤ (getN l).2.1 := getN_pos h0
      simp; omega
    · rw [if_neg he]
      intro h0; exact absurd h0 he
  unfold rText at h ⊢
  generalize rNum l e = p at h hd ⊢
  obtain ⟨n, l', e'⟩ := p
  simp only at h hd ⊢
  generalize (if m > 0 then m else 0) = q at h ⊢
  split at h
  · rename_i he
    rw [if_pos he]
    split at h
    · cases h
    · rename_i hn
      rw [if_neg hn]
      exact Nat.le_trans (Nat.succ_le_succ (rTake_le2 _ _ _)) (hd he)
  · exact absurd h (by assumption)
theorem txL_bytes {X : List Nat} (h : Bytes X) : Bytes (txL X) := by
  intro c hc
  rcases List.mem_append.1 hc with hc | hc
  · exact layN_bytes _ c hc
  · exact h c hc
theorem allB_bytes {gen : Int} {l : List Met} (ho : ∀ m ∈ l, m.ok) (hg : I64 gen) (hl : l.length ≤ 100000) : Bytes (allB gen l) := by
  unfold allB
  split
  · rename_i h
    have hz : metsE l = 0 := by
      unfold allE at h
      by_cases q : gen < 0 ∨ 1099511627776 < gen
      · rw [if_pos q] at h; cases h
      · rw [if_neg q] at h
        by_cases z : metsE l = 0
        · exact z
        · rw [if_pos z] at h; exact absurd h z
    have hall := metsE_all hz
    intro c hc
    rcases List.mem_append.1 hc with hc | hc
    · exact layN_bytes _ c hc
    · rcases List.mem_append.1 hc with hc | hc
      · exact layN_bytes _ c hc
      · simp only [catM, List.mem_flatten, List.mem_map] at hc
        obtain ⟨x, ⟨m, hm, rfl⟩, hx⟩ := hc
        exact txL_bytes (metL_bytes (ho m hm) (hall m hm)) c hx
  · intro c hc; cases hc
theorem goM_stop {n : Int} {f : Nat} {l : List Nat} {e : Int} {acc : List Met} (h : ¬ (acc.length : Int) < n) : goM n f l e acc = some acc := by
  cases f <;> (unfold goM; rw [if_neg h])
theorem goM_step {n : Int} {f : Nat} {l : List Nat} {e : Int} {acc : List Met} (h : (acc.length : Int) < n) (hf : 0 < f) : goM n f l e acc = if (rText l e 8192).2.2 ≠ 0 ∨ (metG (rText l e 8192).1).2 ≠ 0 then none else goM n (f - 1) (rText l e 8192).2.1 (rText l e 8192).2.2 (acc ++ [(metG (rText l e 8192).1).1]) := by
  cases f with
  | zero => omega
  | succ f => simp only [goM]; rw [if_pos h]; rfl
theorem getAll_pure (l : List Nat) (hb : Bytes l) (hl : l.length ≤ 10000) : Pure Try.prog 24 [.sl 1 (bs l)] (.tup [.sv (.int .i64 (getA l).1), .sv (.sl 9 (ML (getA l).2.1)), .sv (.int .i64 (getA l).2.2)]) := by
  have e22 := R24_22
  have e27 := R24_27
  have e65 := R24_65
  have ee : R24.e = R24e := rfl
  have en : R24.n = R22n := rfl
  have hR := R24_ok
  have h1i := rNum_in l 0
  have b1 := rNum_bytes hb 0
  have c1 := rNum_le l 0
  unfold getA gA2 gA1
  generalize R24 = R at hR e22 e27 e65 ee en
  rcases h1 : rNum l 0 with ⟨gen, l1, e1⟩
  rw [h1] at h1i b1 c1
  simp only at h1i b1 c1 ⊢
  have h2i := rNum_in l1 e1
  have b2 := rNum_bytes b1 e1
  have c2 := rNum_le l1 e1
  rcases h2 : rNum l1 e1 with ⟨n, l2, e2⟩
  rw [h2] at h2i b2 c2
  simp only at h2i b2 c2 ⊢
  have z0 : l.length < 4611686018427387904 := by omega
  have z1 : l1.length < 4611686018427387904 := by omega
  have zz : l.length ≤ 140737488355328 := by omega
  refine pure_go hR Try.func24 Try.ntmps24 comp24 cres24 (by decide) (by simp) ?_
  simp [ac24, ar24, ee, en, R24e, R22e, R22n, isBs_bs, hb, b1, z0, z1, zz, h1, h2]
  generalize hG : goM n (l.length + 1) l2 e2 [] = G
  refine awpR_loop (α := List Met × List Nat × Int) (fun x => x.1.length + x.2.1.length ≤ l.length ∧ Bytes x.2.1 ∧ (∀ m ∈ x.1, m.ok) ∧ G = goM n (l.length + 1 - x.1.length) x.2.1 x.2.2 x.1)
    (fun x => { n := 57, sl := [(0, .sv (.sl 1 (bs l))), (5, .lptr 14 0), (6, .sv (.int .i64 gen)), (7, .sv (.int .i64 n)), (8, .own 9 (ML x.1))], bx := [(14, [.sv (.sl 1 (bs x.2.1)), .sv (.int .i64 x.2.2)])], hp := fun _ => none })
    (fun x => l.length + 1 - x.1.length) ([], l2, e2) ⟨by simp; omega, b2, fun m hm => by simp at hm, by simpa using hG.symm⟩ (by simp [ML]) ?_
  rintro ⟨acc, l', e'⟩ ⟨hi, hb', hok, hg⟩
  simp only at hi hb' hok hg
  by_cases h : (acc.length : Int) < n
  · rw [goM_step h (by omega)] at hg
    have z' : l'.length < 4611686018427387904 := by omega
    obtain ⟨bt, ct⟩ := rText_out hb' e' 8192
    have b3 := rText_bytes hb' e' 8192
    have hdec := rText_dec (l := l') e' 8192
    have hmo := metG_ok bt
    have hss := s2b_sOf _ bt
    have e22' := e22 (rText l' e' 8192).1
    rcases h3 : rText l' e' 8192 with ⟨tx, l3, e3⟩
    rw [h3] at bt ct b3 hdec hmo hss e22' hg
    simp only at bt ct b3 hdec hmo hss e22' hg
    have zt : tx.length < 140737488355328 := by omega
    rcases h4 : metG tx with ⟨M, eM'⟩
    rw [h4] at hmo e22' hg
    simp only at hmo e22' hg
    by_cases q : e3 = 0
    · by_cases q2 : eM' = 0
      · rw [if_neg (fun z => z.elim (fun y => y q) (fun y => y q2))] at hg
        have hd := hdec q
        subst q q2
        simp [h, ee, R24e, R22e, isBs_bs, hb', z', h3, hss, e22', bt, zt]
        exact ⟨by rw [sOf_size]; omega, by omega, acc ++ [M], l3, 0, ⟨by simp; omega, b3, fun m hm => by
          rcases List.mem_append.1 hm with hm | hm
          · exact hok m hm
          · simp at hm; subst hm; exact hmo, by rw [hg]; simp [Nat.sub_sub]⟩, by simp; omega, by simp [ML, Met.sv, Met.cells], rfl, rfl⟩
      · rw [if_pos (.inr q2)] at hg
        subst hg q
        simp [h, ee, R24e, R22e, isBs_bs, hb', z', h3, hss, e22', bt, zt, q2]
        exact ⟨by rw [sOf_size]; omega, rfl⟩
    · rw [if_pos (.inl q)] at hg
      subst hg
      simp [h, ee, R24e, R22e, isBs_bs, hb', z', h3, hss, e22', bt, zt, q]
      exact ⟨by rw [sOf_size]; omega, rfl⟩
  · rw [goM_stop h] at hg
    subst hg
    have e27' := e27 gen acc
    have e65' := e65 l (allB gen acc)
    have hal : acc.length ≤ 100000 := by omega
    have hbb : Bytes (allB gen acc) := allB_bytes hok h1i hal
    by_cases hA : allE gen acc = 0
    · by_cases hB : allB gen acc = l
      · have hf : finA l gen acc = (gen, acc, 0) := if_pos ⟨hA, hB⟩
        rw [hA, hB] at e27'
        rw [hB] at e65'
        simp only [hf]
        simp [h, e27', h1i, hok, hal, e65', hb]
        exact hok
      · have hf : finA l gen acc = (0, [], 4) := if_neg (fun z => hB z.2)
        have hB' : ¬ l = allB gen acc := fun z => hB z.symm
        rw [hA] at e27'
        simp only [hf]
        simp [h, e27', h1i, hok, hal, e65', hb, hbb, hB']
        exact ⟨hok, rfl⟩
    · have hf : finA l gen acc = (0, [], 4) := if_neg (fun z => hA z.1)
      simp only [hf]
      generalize allE gen acc = E at e27' hA
      simp [h, e27', h1i, hok, hal, e65', hb, hbb, hA]
      exact ⟨hok, rfl⟩
end Go.Proofs.Ytkiimlmlfhmkiaa

/- Meta: GetAll by the answer; plain laws. -/

set_option linter.unusedSimpArgs false
set_option linter.unusedVariables false
set_option maxHeartbeats 4000000
set_option maxRecDepth 10000
namespace Go.Proofs.Ytkiimlmlfhmkiaa
open Go.Av

theorem bytesNat_sOf {X : List Nat} (h : Bytes X) : bytesNat (sOf X) = X := by
  simp only [bytesNat, sOf, List.map_map]
  conv => rhs; rw [← List.map_id X]
  apply List.map_congr_left
  intro c hc
  have := h c hc
  simp [Nat.mod_eq_of_lt this]
theorem rText_txL {X : List Nat} (h : Bytes X) (hl : X.length ≤ 8192) (t : List Nat) : rText (txL X ++ t) 0 8192 = (X, t, 0) := by
  have := rText_lay (sOf X) 8192 ⟨by rw [sOf_size]; omega, by rw [sOf_size]; omega⟩ (by rw [sOf_size]; omega) t
  rw [bytesNat_sOf h, sOf_size, ← List.append_assoc] at this
  exact this
def rgoM (n : Int) : Nat → List Nat → Int → List Met → List Met
  | 0, _, _, acc => acc
  | f + 1, l, e, acc => if (acc.length : Int) < n ∧ e = 0 then rgoM n f (rText l e 8192).2.1 (rText l e 8192).2.2 (acc ++ [(metG (rText l e 8192).1).1]) else acc
def refA (l : List Nat) : Int × List Met × Int :=
  if 8192 < l.length then (0, [], 4) else finA l (gA1 l).1 (rgoM (gA2 l).1 (l.length + 2) (gA2 l).2.1 (gA2 l).2.2 [])
theorem catM_cons (m : Met) (l : List Met) : catM (m :: l) = txL (metL m) ++ catM l := by simp [catM]
theorem goM_lay : ∀ (ms : List Met) (F : Nat) (acc : List Met) (t : List Nat), (∀ m ∈ ms, m.ok) → (∀ m ∈ ms, metE m = 0) → ms.length ≤ F → goM ((acc.length + ms.length : Nat) : Int) F (catM ms ++ t) 0 acc = some (acc ++ ms)
  | [], F, acc, t, _, _, _ => by rw [goM_stop (by simp)]; simp
  | m :: ms, F, acc, t, h1, h2, h3 => by
    have hm := h1 m (by simp)
    have he := h2 m (by simp)
    have hX := rText_txL (metL_bytes hm he) (by have := metL_le hm he; omega) (catM ms ++ t)
    rw [goM_step (by simp; omega) (by simp at h3; omega), catM_cons, List.append_assoc, hX]
    simp only [metG_lay hm he]
    rw [if_neg (by simp)]
    have := goM_lay ms (F - 1) (acc ++ [m]) t (fun x hx => h1 x (by simp [hx])) (fun x hx => h2 x (by simp [hx])) (by simp at h3; omega)
    rw [show ((acc.length + (m :: ms).length : Nat) : Int) = (((acc ++ [m]).length + ms.length : Nat) : Int) by simp; omega, this]
    simp
theorem rgoM_lay : ∀ (ms : List Met) (F : Nat) (acc : List Met) (t : List Nat), (∀ m ∈ ms, m.ok) → (∀ m ∈ ms, metE m = 0) → ms.length ≤ F → rgoM ((acc.length + ms.length : Nat) : Int) F (catM ms ++ t) 0 acc = acc ++ ms
  | [], F, acc, t, _, _, _ => by cases F <;> simp [rgoM]
  | m :: ms, 0, acc, t, h1, h2, h3 => by simp at h3
  | m :: ms, F + 1, acc, t, h1, h2, h3 => by
    have hm := h1 m (by simp)
    have he := h2 m (by simp)
    have hX := rText_txL (metL_bytes hm he) (by have := metL_le hm he; omega) (catM ms ++ t)
    rw [rgoM, if_pos ⟨by simp; omega, rfl⟩, catM_cons, List.append_assoc, hX]
    simp only [metG_lay hm he]
    have := rgoM_lay ms F (acc ++ [m]) t (fun x hx => h1 x (by simp [hx])) (fun x hx => h2 x (by simp [hx])) (by simp at h3; omega)
    rw [show ((acc.length + (m :: ms).length : Nat) : Int) = (((acc ++ [m]).length + ms.length : Nat) : Int) by simp; omega, this]
    simp
theorem catM_ge : ∀ (l : List Met), l.length ≤ (catM l).length
  | [] => by simp
  | m :: l => by
    have h1 := layN_pos (zig (metL m).length)
    have := catM_ge l
    rw [catM_cons]
    simp only [txL, List.length_append, List.length_cons]; omega
/-- What may be laid. -/
def okAll (gen : Int) (ms : List Met) : Prop := I64 gen ∧ (∀ m ∈ ms, m.ok) ∧ allE gen ms = 0
theorem okAll.facts {gen : Int} {ms : List Met} (h : okAll gen ms) : (∀ m ∈ ms, metE m = 0) ∧ (allL gen ms).length ≤ 8192 ∧ ms.length ≤ 8192 ∧ allB gen ms = allL gen ms := by
  obtain ⟨h1, h2, h3⟩ := h
  have h30 := h3
  unfold allE at h3
  by_cases q : gen < 0 ∨ 1099511627776 < gen
  · rw [if_pos q] at h3; cases h3
  rw [if_neg q] at h3
  by_cases z : metsE ms = 0
  · rw [if_neg (fun y => y z)] at h3
    by_cases w : 8192 < (allL gen ms).length
    · rw [if_pos w] at h3; cases h3
    · have := catM_ge ms
      have h5 : (catM ms).length ≤ (allL gen ms).length := by simp only [allL, List.length_append]; omega
      exact ⟨metsE_all z, by omega, by omega, if_pos h30⟩
  · rw [if_pos z] at h3; exact absurd h3 z
theorem gA_lay {gen : Int} {ms : List Met} (h : okAll gen ms) (t : List Nat) : (gA1 (allL gen ms ++ t)).1 = gen ∧ gA2 (allL gen ms ++ t) = ((ms.length : Int), catM ms ++ t, 0) := by
  obtain ⟨f1, f2, f3, f4⟩ := h.facts
  have e1 : gA1 (allL gen ms ++ t) = (gen, layN (zig ms.length) ++ (catM ms ++ t), 0) := by
    have : allL gen ms ++ t = layN (zig gen) ++ (layN (zig ms.length) ++ (catM ms ++ t)) := by simp [allL]
    rw [this]; exact rNum_lay h.1 _
  refine ⟨by rw [e1], ?_⟩
  unfold gA2
  rw [e1]
  exact rNum_lay ⟨by omega, by omega⟩ _
theorem goM_all {gen : Int} {ms : List Met} (h : okAll gen ms) (t : List Nat) : goM (gA2 (allL gen ms ++ t)).1 ((allL gen ms ++ t).length + 1) (gA2 (allL gen ms ++ t)).2.1 (gA2 (allL gen ms ++ t)).2.2 [] = some ms := by
  obtain ⟨f1, f2, f3, f4⟩ := h.facts
  rw [(gA_lay h t).2]
  have hc := catM_ge ms
  have := goM_lay ms ((allL gen ms ++ t).length + 1) [] t h.2.1 f1 (by simp only [allL, List.length_append]; omega)
  simpa using this
theorem getA_lay {gen : Int} {ms : List Met} (h : okAll gen ms) : getA (allL gen ms) = (gen, ms, 0) := by
  obtain ⟨f1, f2, f3, f4⟩ := h.facts
  have h1 := goM_all h []
  have h2 := (gA_lay h []).1
  rw [List.append_nil] at h1 h2
  unfold getA
  rw [h1, h2]
  exact if_pos ⟨h.2.2, f4⟩
theorem refA_lay {gen : Int} {ms : List Met} (h : okAll gen ms) : refA (allL gen ms) = (gen, ms, 0) := by
  obtain ⟨f1, f2, f3, f4⟩ := h.facts
  have h2 := gA_lay h []
  have hc := catM_ge ms
  have h3 := rgoM_lay ms ((allL gen ms).length + 2) [] [] h.2.1 f1 (by simp only [allL, List.length_append]; omega)
  rw [List.append_nil] at h2
  unfold refA
  rw [if_neg (by omega), h2.2, h2.1]
  simp only [List.append_nil, List.nil_append, List.length_nil, Nat.zero_add] at h3 ⊢
  rw [h3]
  exact if_pos ⟨h.2.2, f4⟩
theorem all_prefix {g g' : Int} {a b : List Met} (ha : okAll g a) (hb : okAll g' b) {t : List Nat} (h : allL g' b = allL g a ++ t) : g = g' ∧ a = b := by
  have h1 := goM_all ha t
  have h2 := goM_all hb []
  have h3 := (gA_lay ha t).1
  have h4 := (gA_lay hb []).1
  rw [List.append_nil] at h2 h4
  rw [h] at h2 h4
  rw [h1] at h2
  exact ⟨h3.symm.trans h4, by simpa using h2⟩
theorem goM_ok {n : Int} : ∀ (f : Nat) (l : List Nat) (e : Int) (acc : List Met) {ms : List Met}, Bytes l → (∀ m ∈ acc, m.ok) → goM n f l e acc = some ms → ∀ m ∈ ms, m.ok
  | 0, l, e, acc, ms, hb, ho, h => by
    simp only [goM] at h
    split at h
    · cases h
    · cases h; exact ho
  | f + 1, l, e, acc, ms, hb, ho, h => by
    simp only [goM] at h
    split at h
    · split at h
      · cases h
      · exact goM_ok f _ _ _ (rText_bytes hb e 8192) (fun m hm => by
          rcases List.mem_append.1 hm with hm | hm
          · exact ho m hm
          · simp at hm; subst hm; exact metG_ok (rText_out hb e 8192).1) h
    · cases h; exact ho
theorem rgoM_ok {n : Int} : ∀ (f : Nat) (l : List Nat) (e : Int) (acc : List Met), Bytes l → (∀ m ∈ acc, m.ok) → ∀ m ∈ rgoM n f l e acc, m.ok
  | 0, l, e, acc, hb, ho => ho
  | f + 1, l, e, acc, hb, ho => by
    simp only [rgoM]
    split
    · exact rgoM_ok f _ _ _ (rText_bytes hb e 8192) (fun m hm => by
        rcases List.mem_append.1 hm with hm | hm
        · exact ho m hm
        · simp at hm; subst hm; exact metG_ok (rText_out hb e 8192).1)
    · exact ho
theorem finA_cases (l : List Nat) {gen : Int} {ms : List Met} (hg : I64 gen) (ho : ∀ m ∈ ms, m.ok) : finA l gen ms = (0, [], 4) ∨ okAll gen ms ∧ allL gen ms = l ∧ finA l gen ms = (gen, ms, 0) := by
  unfold finA
  by_cases h : allE gen ms = 0 ∧ allB gen ms = l
  · have hk : okAll gen ms := ⟨hg, ho, h.1⟩
    exact .inr ⟨hk, by rw [← hk.facts.2.2.2]; exact h.2, if_pos h⟩
  · exact .inl (if_neg h)
theorem gA1_in (l : List Nat) : I64 (gA1 l).1 := rNum_in l 0
theorem gA2_bytes {l : List Nat} (hb : Bytes l) : Bytes (gA2 l).2.1 := rNum_bytes (rNum_bytes hb 0) _
theorem getA_cases {l : List Nat} (hb : Bytes l) : getA l = (0, [], 4) ∨ ∃ gen ms, okAll gen ms ∧ allL gen ms = l ∧ getA l = (gen, ms, 0) := by
  unfold getA
  cases q : goM (gA2 l).1 (l.length + 1) (gA2 l).2.1 (gA2 l).2.2 [] with
  | none => exact .inl rfl
  | some ms =>
    rcases finA_cases l (gA1_in l) (goM_ok _ _ _ _ (gA2_bytes hb) (fun m hm => by cases hm) q) with h | ⟨h1, h2, h3⟩
    · exact .inl h
    · exact .inr ⟨_, ms, h1, h2, h3⟩
theorem refA_cases {l : List Nat} (hb : Bytes l) : refA l = (0, [], 4) ∨ ∃ gen ms, okAll gen ms ∧ allL gen ms = l ∧ refA l = (gen, ms, 0) := by
  unfold refA
  split
  · exact .inl rfl
  · rcases finA_cases l (gA1_in l) (rgoM_ok (n := (gA2 l).1) (l.length + 2) _ (gA2 l).2.2 [] (gA2_bytes hb) (fun m hm => by cases hm)) with h | ⟨h1, h2, h3⟩
    · exact .inl h
    · exact .inr ⟨_, _, h1, h2, h3⟩
theorem getA_refA {l : List Nat} (hb : Bytes l) : getA l = refA l := by
  rcases getA_cases hb with h | ⟨g, ms, h1, h2, h3⟩
  · rcases refA_cases hb with k | ⟨g, ms, k1, k2, k3⟩
    · rw [h, k]
    · subst k2
      rw [k3, getA_lay k1]
  · subst h2
    rw [h3, refA_lay h1]
theorem allL_pos (g : Int) (ms : List Met) : 1 ≤ (allL g ms).length := by
  have := layN_pos (zig g)
  simp only [allL, List.length_append]; omega
theorem allL_bytes {g : Int} {ms : List Met} (h : okAll g ms) : Bytes (allL g ms) := by
  obtain ⟨f1, f2, f3, f4⟩ := h.facts
  rw [← f4]; exact allB_bytes h.2.1 h.1 (by omega)
theorem getA_more {g : Int} {ms : List Met} (h : okAll g ms) (c : Nat) (hc : c < 256) : getA (allL g ms ++ [c]) = (0, [], 4) := by
  have hb : Bytes (allL g ms ++ [c]) := fun x hx => by
    rcases List.mem_append.1 hx with hx | hx
    · exact allL_bytes h x hx
    · simp at hx; omega
  rcases getA_cases hb with k | ⟨g', b, k1, k2, k3⟩
  · exact k
  · obtain ⟨e1, e2⟩ := all_prefix h k1 k2
    subst e1 e2
    have := congrArg List.length k2
    simp at this
theorem getA_less {g : Int} {ms : List Met} (h : okAll g ms) : getA (allL g ms).dropLast = (0, [], 4) := by
  have hb : Bytes (allL g ms).dropLast := fun x hx => allL_bytes h x (List.dropLast_subset _ hx)
  rcases getA_cases hb with k | ⟨g', b, k1, k2, k3⟩
  · exact k
  · have hne : allL g ms ≠ [] := fun q => by have := allL_pos g ms; rw [q] at this; simp at this
    have e : allL g ms = allL g' b ++ [(allL g ms).getLast hne] := by rw [k2]; exact (List.dropLast_concat_getLast hne).symm
    obtain ⟨e1, e2⟩ := all_prefix k1 h e
    subst e1 e2
    have := congrArg List.length e
    simp at this
end Go.Proofs.Ytkiimlmlfhmkiaa
