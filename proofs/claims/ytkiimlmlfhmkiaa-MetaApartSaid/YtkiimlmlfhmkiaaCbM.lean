import Derived.Test.YtkiimlmlfhmkiaaCbL

set_option linter.unusedSimpArgs false
set_option linter.unusedVariables false
set_option maxRecDepth 100000
set_option maxHeartbeats 4000000
open Go.RowKit Go.Lib
namespace Go.Proofs.Ytkiimlmlfhmkiaa
open Go.Av

theorem enters_okFn {P : Program} {f : FuncId} (h : okFn P f) : ∀ args w, (callFunc f args).run P w = .ok (.enter f args) w := by
  intro args w
  obtain ⟨fn, h1, h2, h3⟩ := h
  have hb' : fn.body.isNone = false := by cases hb : fn.body <;> simp [hb] at h2 ⊢
  simp only [callFunc, run_program, Sem.run_bind, Sem.run_pure, Result.andThen_ok, h1, h3, hb', Bool.false_eq_true, if_false]
theorem rep_encL (mu : Mem) (r : Rec) : ∀ q, q < 6 → Rep mu (r.sv.cell q) ((encL r).getD q Go.undef) := by
  intro q hq
  match q, hq with
  | 0, _ => exact .int _ _
  | 1, _ => exact .int _ _
  | 2, _ => exact .bool _
  | 3, _ => exact .str _
  | 4, _ => exact .bool _
  | 5, _ => exact .str _
theorem rep_encL_inv {mu : Mem} {r : Rec} {q : Nat} (hq : q < 6) {v : Value} (h : Rep mu (r.sv.cell q) v) : v = (encL r).getD q Go.undef := by
  match q, hq, h with
  | 0, _, h => exact Rep.inv_int h
  | 1, _, h => exact Rep.inv_int h
  | 2, _, h => exact Rep.inv_bool h
  | 3, _, h => exact Rep.inv_str h
  | 4, _, h => exact Rep.inv_bool h
  | 5, _, h => exact Rep.inv_str h
theorem rep_rec (mu : Mem) (r : Rec) : Rep mu r.sv (.agg (encL r).toArray) := by
  refine .agg _ (encL r) rfl (fun j hj => ?_)
  have hj' : j < 6 := hj
  exact rep_encL mu r j hj'
theorem repArgs_cons {mu : Mem} {v : SV} {x : Value} {l : List SV} {vs : List Value} (h : Rep mu v x) (k : RepArgs mu l vs) : RepArgs mu (v :: l) (x :: vs) := by
  refine ⟨by simp [k.1], fun j hj => ?_⟩
  cases j with
  | zero => exact h
  | succ j => exact k.2 j (by simpa using hj)
theorem RepArgs.mono {mu mu' : Mem} (h : mu.le mu') {l : List SV} {vs : List Value} (k : RepArgs mu l vs) : RepArgs mu' l vs := ⟨k.1, fun j hj => (k.2 j hj).mono h⟩

theorem del_pure (pf : FuncId) (caps : List SV) (p : Rec → Bool) (hf : okFn Try.prog pf) (hp : ∀ r : Rec, Pure Try.prog pf (r.sv :: caps) (.sv (.bool (p r)))) (l : List Rec) (hl : l.length ≤ 1000) :
    PureD Try.prog 83 6 (RL l) [.fn pf [] caps] (.own 6 (RL (l.filter fun r => !p r))) := by
  intro mu w ob val vs hm harr hra
  obtain ⟨vf, rfl⟩ : ∃ vf, vs = [vf] := by
    match vs, hra.1 with
    | [a], _ => exact ⟨a, rfl⟩
  have hvf : Rep mu (.fn pf [] caps) vf := hra.2 0 (by simp)
  obtain ⟨vc, rfl, hvc⟩ : ∃ vc : List Value, vf = .func (.func pf) #[] vc.toArray ∧ RepArgs mu caps vc := by
    cases hvf with
    | fn _ _ _ vf vc h1 h2 h3 h4 =>
      obtain rfl : vf = [] := List.length_eq_zero_iff.1 h1
      exact ⟨vc, rfl, h2, h4⟩
  have eg := enters_okFn hf
  have hcall : ∀ (W : World) (r : Rec), MemOK mu W → Calls Try.prog pf (#[.agg (encL r).toArray] ++ vc.toArray) W fun e' w' => e' = .returned (.bool (p r)) ∧ Ext (fun _ => False) W w' ∧ MemOK mu w' := by
    intro W r hW
    have := hp r mu W (.agg (encL r).toArray :: vc) hW (repArgs_cons (rep_rec mu r) hvc)
    rw [show (#[Value.agg (encL r).toArray] ++ vc.toArray) = (.agg (encL r).toArray :: vc).toArray by simp]
    refine this.mono ?_
    rintro e' w' ⟨val', mu', rfl, q1, q2, q3, q4, ⟨_, q5, _⟩⟩
    exact ⟨by rw [Rep.inv_bool q5], q1, MemOK.sub q2 q3⟩
  rcases harr with ⟨rfl, hnil, rfl⟩ | ⟨b, rfl, off, cap, c, e, fr, rfl, hmu, hb, hfr, hcap, hsz, hrep⟩
  · have hl0 : l = [] := by cases l <;> simp [RL] at hnil ⊢
    subst hl0
    have hIF := idx_pure pf caps p hf hp [] (by simp) mu w [.slice none 0 0, .func (.func pf) #[] vc.toArray] hm (repArgs_cons (.slnil 6) (repArgs1 hvf))
    have hIF' : Calls Try.prog 101 #[.slice none 0 0, .func (.func pf) #[] vc.toArray] w fun e' w' => e' = .returned (.int .i64 (-1)) ∧ Ext (fun _ => False) w w' ∧ MemOK mu w' := by
      refine hIF.mono ?_
      rintro e' w' ⟨val', mu', rfl, q1, q2, q3, q4, ⟨_, q5, _⟩⟩
      exact ⟨by rw [Rep.inv_int q5]; rfl, q1, MemOK.sub q2 q3⟩
    clear hIF hcall
    have key : Calls Try.prog 83 #[.slice none 0 0, .func (.func pf) #[] vc.toArray] w fun e' w' => e' = .returned (.slice none 0 0) ∧ Ext (fun _ => False) w w' ∧ MemOK mu w' := by
      go_enter Try.func83, Try.ntmps83
      go_wp2_with (go_at_call 101; refine hIF'.mono ?_; rintro e1 w1 ⟨rfl, hx1, hm1⟩)
      go_ret
      exact ⟨rfl, hx1, hm1⟩
    refine key.mono ?_
    rintro e' w' ⟨rfl, q1, q2⟩
    exact ⟨_, mu, rfl, q1.mono (fun _ q => q.elim), Mem.le_refl _, q2, fun _ _ _ _ => rfl, fun _ => none, .inl ⟨.slnil 6, rfl⟩, fun _ _ q => by cases q⟩
  · have hln : (RL l).length = l.length := by simp
    rw [hln] at hcap
    have hrow : RowR c off l.toArray := by
      intro m hm' q hq
      have hm2 : m < l.length := by simpa using hm'
      have h1 := hrep m q (by simpa using hm2) hq
      have e1 : (RL l).getD m .undef = l[m].sv := by simp [RL, List.getD_eq_getElem?_getD, hm2]
      rw [e1] at h1
      have h2 := rep_encL_inv hq h1
      have e2 : l.toArray[m]! = l[m] := by rw [getElem!_pos _ m hm']; simp
      have hlt : off + m * 6 + q < c.size := by omega
      rw [e2, ← h2, Array.getD_eq_getD_getElem?, Array.getElem?_eq_getElem hlt]
      rfl
    have hblt : b < w.heap.size := (Array.getElem?_eq_some_iff.1 hb).1
    -- the search ahead, with the row in the memory
    have hone : ∀ r : Rec, ∀ q, q < 6 → ((encL r).getD q Go.undef).oneCell' = true := by
      intro r q hq
      match q, hq with
      | 0, _ => rfl
      | 1, _ => rfl
      | 2, _ => rfl
      | 3, _ => rfl
      | 4, _ => rfl
      | 5, _ => rfl
    have mkmem : ∀ (W : World) (c2 : Array Value) (fr2 : Nat × Nat) (F : List Rec), MemOK mu W → W.heap[b]? = some (.cells c2 e fr2) → RowR c2 off F.toArray →
        MemOK (fun b' j => if b' = b ∧ off ≤ j ∧ j < off + F.length * 6 then c2[j]? else mu b' j) W ∧ mu.le (fun b' j => if b' = b ∧ off ≤ j ∧ j < off + F.length * 6 then c2[j]? else mu b' j) ∧
        ∀ i q, i < F.length → q < 6 → (fun b' j => if b' = b ∧ off ≤ j ∧ j < off + F.length * 6 then c2[j]? else mu b' j) b (off + i * 6 + q) = some ((encL (F.getD i rec0)).getD q Go.undef) := by
      intro W c2 fr2 F hW hWb hR
      have hget : ∀ i q, i < F.length → q < 6 → c2[off + i * 6 + q]? = some ((encL (F.getD i rec0)).getD q Go.undef) := by
        intro i q hi hq
        have := hR i (by simpa using hi) q hq
        rw [this]
        congr 3
        rw [getElem!_pos _ i (by simpa using hi)]
        simp [List.getD_eq_getElem?_getD, hi]
      refine ⟨?_, ?_, ?_⟩
      · intro b' j v hv
        simp only at hv
        split at hv
        · rename_i q
          obtain ⟨rfl, q1, q2⟩ := q
          have hi : (j - off) / 6 < F.length := by omega
          have := hget ((j - off) / 6) ((j - off) % 6) hi (by omega)
          rw [show off + (j - off) / 6 * 6 + (j - off) % 6 = j by omega] at this
          rw [this] at hv
          cases hv
          exact ⟨by rw [cell_of_block hWb]; exact this, hone _ _ (by omega)⟩
        · exact hW b' j v hv
      · intro b' j v hv
        have hne : b' ≠ b := fun q => by subst q; rw [hmu] at hv; cases hv
        simp only
        rw [if_neg (fun q => hne q.1)]
        exact hv
      · intro i q hi hq
        simp only
        rw [if_pos ⟨trivial, by omega, by omega⟩]
        exact hget i q hi hq
    have repF : ∀ (mu2 : Mem) (F : List Rec) (cap : Nat), F.length ≤ cap → (∀ i q, i < F.length → q < 6 → mu2 b (off + i * 6 + q) = some ((encL (F.getD i rec0)).getD q Go.undef)) → Rep mu2 (.sl 6 (RL F)) (.slice (some ⟨b, off, none⟩) F.length cap) := by
      intro mu2 F cap hc h
      have hF : (RL F).length = F.length := by simp
      have := Rep.sl (mu := mu2) 6 (RL F) b off cap (fun i q => (encL (F.getD i rec0)).getD q Go.undef) (by omega) (fun x hx => by
          simp only [RL, List.mem_map] at hx
          obtain ⟨r, _, rfl⟩ := hx
          rfl) (fun i q hi hq => h i q (by omega) hq) (fun i q hi hq => by
          have hi' : i < F.length := by omega
          have e1 : (RL F).getD i .undef = (F.getD i rec0).sv := by simp [RL, List.getD_eq_getElem?_getD, hi']
          rw [e1]
          exact rep_encL mu2 _ q hq)
      rwa [hF] at this
    have hIF : Calls Try.prog 101 #[.slice (some ⟨b, off, none⟩) l.toArray.size cap, .func (.func pf) #[] vc.toArray] w fun e' w' => e' = .returned (.int .i64 (idxP p l.toArray.toList 0)) ∧ Ext (fun _ => False) w w' ∧ MemOK mu w' := by
      obtain ⟨m1, m2, m3⟩ := mkmem w c fr l hm hb hrow
      have := idx_pure pf caps p hf hp l (by omega) _ w [.slice (some ⟨b, off, none⟩) l.length cap, .func (.func pf) #[] vc.toArray] m1 (repArgs_cons (repF _ l cap hcap m3) (repArgs1 (hvf.mono m2)))
      refine this.mono ?_
      rintro e' w' ⟨val', mu', rfl, q1, q2, q3, q4, ⟨_, q5, _⟩⟩
      exact ⟨by rw [Rep.inv_int q5], q1, MemOK.sub (Mem.le_trans m2 q2) q3⟩
    have hsz' : off + cap * 6 ≤ c.size := hsz
    have := del_raw pf vc.toArray p eg mu hcall l.toArray (by simpa using hl) w b off cap c e fr hm hmu hb hfr (by simpa using hcap) hsz' hrow hIF
    simp only [List.size_toArray] at this
    rw [hln]
    refine this.mono ?_
    rintro e' w' ⟨rfl, q1, q2, c', fr', q3, q4, q5, q6⟩
    have hfl : (l.filter fun r => !p r).length ≤ l.length := List.length_filter_le _ _
    obtain ⟨m1, m2, m3⟩ := mkmem w' c' fr' (l.filter fun r => !p r) q2 q3 q6
    refine ⟨_, _, rfl, q1.mono (fun k q => by rw [q]), m2, m1, ?_, fun k => if k = b then some (.slot 0 0) else none, .inr ⟨b, off, cap, ?_, ?_, by simp, fun _ => rfl, ⟨c', e, fr', q3, by rw [q5]; exact hsz', q4⟩, ?_⟩, ?_⟩
    · intro b' j hb' hne
      have hne' : b' ≠ b := fun q => hne (by rw [q])
      rw [if_neg (fun q => hne' q.1)]
    · simp
    · exact repF _ _ cap (by omega) m3
    · intro j hj
      rw [RL_length] at hj
      show (if b = b ∧ off ≤ j ∧ j < off + (l.filter fun r => !p r).length * 6 then c'[j]? else mu b j) = none
      rw [if_neg (by omega)]
      exact hmu j
    · intro b' p' hp'
      simp only at hp'
      split at hp'
      · rename_i q; subst q
        exact (Array.getElem?_eq_some_iff.1 q3).1
      · cases hp'

/-! ### From -/
def caps85 (b : Bat) (off : Int) : List SV := [.eptr b.sv 0, .eptr (.agg [.int .i64 off]) 0]
theorem ok85 : okFn Try.prog 85 := ⟨_, Try.func85, rfl, rfl⟩
theorem from_pure (b : Bat) (off : Int) (hl : b.rs.length ≤ 1000) : Pure Try.prog 47 [b.sv, .int .i64 off] (.own 6 (RL (fromR b off))) := by
  have hF : fromR b off = b.rs.filter fun r => !decide (atW b r < off) := by
    unfold fromR
    congr 1
    funext r
    by_cases q : off ≤ atW b r
    · have : ¬ atW b r < off := by omega
      simp [q, this]
    · have : atW b r < off := by omega
      simp [q, this]
  rw [hF]
  let R : Orc := {
    p := fun f l => match f, l with
      | 84, [.sl 6 xs] => some (xs = RL (unRL xs) ∧ xs.length ≤ 1000, .arr 6 xs)
      | _, _ => none
    d := fun f sz xs l => match f, sz, l with
      | 83, 6, [.fn 85 [] [.eptr (.agg [.int .i64 a, .int .i64 bb, .int .i64 c, .int .i64 d, .int .i64 e, .sl 6 ys]) 0, .eptr (.agg [.int .i64 o]) 0]] => some (xs = RL (unRL xs) ∧ ys = RL (unRL ys) ∧ xs.length ≤ 1000, .own 6 (RL ((unRL xs).filter fun r => !decide (atW ⟨a, bb, c, d, e, unRL ys⟩ r < o))))
      | _, _, _ => none }
  have hR : R.ok Try.prog := by
    refine ⟨fun f l c rv h hc => ?_, fun _ _ _ _ _ _ h => (by cases h), fun _ _ _ _ h => (by cases h), fun _ h => (by cases h), fun f sz xs l c rv h hc => ?_, fun _ _ _ _ _ _ _ h => (by cases h)⟩
    · simp only [R] at h
      split at h <;> cases h
      rename_i xs
      obtain ⟨h1, h2⟩ := hc
      have := clone_recs (unRL xs) (by rw [h1] at h2; simpa using h2)
      rw [← h1] at this
      exact this.arr (by rw [h1]; exact RL_flat _)
    · simp only [R] at h
      split at h <;> cases h
      rename_i a bb cc d e ys o
      obtain ⟨h1, h2, h3⟩ := hc
      have := del_pure 85 (caps85 ⟨a, bb, cc, d, e, unRL ys⟩ o) (fun r => decide (atW ⟨a, bb, cc, d, e, unRL ys⟩ r < o)) ok85 (fun r => f85_pure ⟨a, bb, cc, d, e, unRL ys⟩ o r) (unRL xs) (by rw [h1] at h3; simpa using h3)
      simp only [caps85, Bat.sv, Bat.cells] at this
      rw [← h1, ← h2] at this
      exact this
  have hp : R.p 84 [.sl 6 (RL b.rs)] = some (RL b.rs = RL (unRL (RL b.rs)) ∧ (RL b.rs).length ≤ 1000, .arr 6 (RL b.rs)) := rfl
  have hd : R.d 83 6 (RL b.rs) [.fn 85 [] [.eptr (.agg [.int .i64 b.ba, .int .i64 b.ct, .int .i64 b.pr, .int .i64 b.ep, .int .i64 b.sq, .sl 6 (RL b.rs)]) 0, .eptr (.agg [.int .i64 off]) 0]] = some (RL b.rs = RL b.rs ∧ RL b.rs = RL b.rs ∧ (RL b.rs).length ≤ 1000, .own 6 (RL (b.rs.filter fun r => !decide (atW b r < off)))) := by
    show some (RL b.rs = RL (unRL (RL b.rs)) ∧ RL b.rs = RL (unRL (RL b.rs)) ∧ (RL b.rs).length ≤ 1000, LV.own 6 (RL ((unRL (RL b.rs)).filter fun r => !decide (atW ⟨b.ba, b.ct, b.pr, b.ep, b.sq, unRL (RL b.rs)⟩ r < off)))) = _
    rw [unRL_RL]
  rw [unRL_RL] at hp
  have hnf : R.nofz = false := rfl
  generalize R = R' at hR hp hd hnf
  refine pure_go hR Try.func47 Try.ntmps47 comp47 cres47 (by decide) (by simp) ?_
  simp [ac47, ar47, Bat.sv, Bat.cells, hp, hd, hnf, hl]
end Go.Proofs.Ytkiimlmlfhmkiaa
