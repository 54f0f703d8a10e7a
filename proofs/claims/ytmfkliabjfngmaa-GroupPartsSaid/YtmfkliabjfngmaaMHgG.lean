import Derived.Test.YtmfkliabjfngmaaMGgL
import Derived.Lib.Overlaps
import Derived.Deep.RegionLaw
import Derived.Lib.AppendZerosOnto
import Derived.Laws.NewBlocks
import Derived.Deep.RegionWith

set_option linter.unusedVariables false
set_option linter.unusedSimpArgs false

/- Group: slices.Insert of one Member, walked raw: in the middle, with room. -/



set_option linter.unusedSimpArgs false
set_option linter.unusedVariables false
set_option maxRecDepth 1000000
set_option maxHeartbeats 4000000
namespace Go.Proofs.Ytmfkliabjfngmaa
open Go.RowKit Go.Lib Go.Sort
open Go.Av

theorem ins_mid_room {w : World} {b off cap : Nat} {c : Array Value} {e : TypeId} {fr : Nat × Nat} {l : List Mb} (hb : w.heap[b]? = some (.cells c e fr)) (hfr : Unfrozen c fr) (hcap : l.length + 1 ≤ cap) (hsz : off + cap * 3 ≤ c.size) (hrow : RowM c off l) (hl : l.length ≤ 1000)
    (i : Nat) (hi : i < l.length) {vb vc : Nat} {m : Mb} {tv : TypeId} (hvb : vb ≠ b) (hv : w.heap[vb]? = some (.cells (encM m).toArray tv (0, 0))) :
    Calls Try.prog 57 #[.slice (some ⟨b, off, none⟩) l.length cap, .int .i64 i, .slice (some ⟨vb, 0, none⟩) 1 vc] w fun e' w' => e' = .returned (.slice (some ⟨b, off, none⟩) (l.length + 1) cap) ∧ w' = (w.drew.setCells b (off + (i + 1) * 3) (flatM (l.drop i))).setCells b (off + i * 3) (encM m) := by
  obtain ⟨n, hn⟩ : ∃ n, n = l.length := ⟨_, rfl⟩
  rw [← hn] at hcap hi hl ⊢
  have hz2 : ¬ ((i : Int) = (n : Int)) := by omega
  have hz3 : ((i : Int) == (n : Int)) = false := by simp; omega
  have hz4 : ¬ ((cap : Int) < (n : Int) + 1) := by omega
  have hw1 : IntKind.i64.wrap ((i : Int) + 1) = (i : Int) + 1 := by rw [IntKind.wrap_i64]; omega
  have hw2 : IntKind.i64.wrap ((n : Int) + 1) = (n : Int) + 1 := by rw [IntKind.wrap_i64]; omega
  have hb1 : (0 : Int) ≤ (i : Int) + 1 := by omega
  have hb1n : (0 : Int) ≤ (n : Int) + 1 := by omega
  have htn : ((i : Int) + 1).toNat = i + 1 := by omega
  have htn2 : ((n : Int) + 1).toNat = n + 1 := by omega
  have hb2 : ¬ (cap = i + 1) := by omega
  have hb3 : (i : Int) ≤ (n : Int) + 1 := by omega
  have hb4 : ¬ (cap = i) := by omega
  have hb5 : (i : Int) + 1 ≤ (n : Int) + 1 := by omega
  have hb6 : (i : Int) ≤ (n : Int) := by omega
  have hb7 : i ≤ n := by omega
  have hb8 : (i : Int) + 1 ≤ ((n + 1 : Nat) : Int) := by omega
  have hov : ∀ lb cb, (callFunc 80 #[.slice (some ⟨vb, 0, none⟩) 1 vc, .slice (some ⟨b, off + (i + 1) * 3, none⟩) lb cb]).run Try.prog w = .ok (.value (.bool false)) w := fun lb cb => by
    have hcz : c.size ≠ 0 := by omega
    rw [run_callFunc_extern Try.func80 (by kernel_rfl) (by kernel_rfl) (by kernel_rfl) (e := Extern.SlicesOverlaps.overlaps #[41, 41] #[4]) (by kernel_rfl),
      Lib.run_overlaps_apart w 41 4 61 (by kernel_rfl) 3 (fun w => by rfl) ⟨vb, 0, none⟩ ⟨b, off + (i + 1) * 3, none⟩ 1 vc lb cb hvb tv e 3 c.size (by simp [World.shape?, hv, encM]) (by simp [World.shape?, hb]) hcz (by simp [World.frozen?, hv]) (by simp [World.frozen?, hv])]
    rfl
  obtain ⟨i0, hi0, hs0⟩ : ∃ i0 : TypeInfo, Try.prog.info? 61 = some i0 ∧ i0.size = 3 := ⟨(Try.prog.info? 61).get!, by kernel_rfl, by kernel_rfl⟩
  have hfl : (flatM (l.drop i)).length = (n - i) * 3 := by simp [← hn]
  have hbig : (n + 1) * 3 ≤ cap * 3 := Nat.mul_le_mul_right _ hcap
  have hbd : w.drew.heap[b]? = some (.cells c e fr) := hb
  have hcp1 : ∀ ty dc sc, (Builtin.copy_ #[41, 41] ty #[.slice (some ⟨b, off + (i + 1) * 3, none⟩) (n + 1 - (i + 1)) dc, .slice (some ⟨b, off + i * 3, none⟩) (n + 1 - i) sc]).run Try.prog w.drew = .ok (goInt (Nat.min (n + 1 - i) (n + 1 - (i + 1)))) (w.drew.setCells b (off + (i + 1) * 3) (flatM (l.drop i))) := fun ty dc sc =>
    run_copy_k w.drew 41 41 ty 61 b (off + (i + 1) * 3) (n + 1 - (i + 1)) dc ⟨b, off + i * 3, none⟩ (n + 1 - i) sc 3 (flatM (l.drop i)) (by kernel_rfl) hi0 hs0 (by rw [hfl]; congr 1; simp only [Nat.min_def]; split <;> omega)
      (fun j v hj => by
        have hj2 : j < (n - i) * 3 := by rw [← hfl]; exact (List.getElem?_eq_some_iff.1 hj).1
        have h1 := flatM_get (l.drop i) (show j / 3 < (l.drop i).length by simp [← hn]; omega) (show j % 3 < 3 by omega)
        rw [show j / 3 * 3 + j % 3 = j by omega, hj] at h1
        have h2 := hrow (i + j / 3) (by omega) (j % 3) (by omega)
        have h3 : (l.drop i).getD (j / 3) mb0 = l.getD (i + j / 3) mb0 := by simp [List.getD_eq_getElem?_getD]
        rw [h3] at h1
        rw [Addr.add_lit, h1, show off + i * 3 + j = off + (i + j / 3) * 3 + j % 3 by omega, ← h2]
        exact cell_of_block hbd)
      (fun j hj => by
        have : off + (i + 1) * 3 + j < c.size := by rw [hfl] at hj; omega
        rw [cell_of_block hbd, Array.getElem?_eq_getElem this]; rfl)
      (fun j hj => by
        have hlt : off + (i + 1) * 3 + j < c.size := by rw [hfl] at hj; omega
        have := hfr.not _ hlt
        simp only [World.frozen?, hbd]; simp; omega)
      (flatM_one _)
  obtain ⟨_, c2, z1, z2, z3, z4⟩ := setCells_at (P := Try.prog) (o := off + (i + 1) * 3) (vs := flatM (l.drop i)) hbd hfr (by rw [hfl]; omega) (flatM_one _)
  obtain ⟨_, _, _, _, g5, _⟩ := setCells_heap b (flatM (l.drop i)) (off + (i + 1) * 3) w.drew
  have hv1 := (g5 vb hvb).trans (show w.drew.heap[vb]? = _ from hv)
  have hcp2 : ∀ ty dc, (Builtin.copy_ #[41, 41] ty #[.slice (some ⟨b, off + i * 3, none⟩) (n + 1 - i) dc, .slice (some ⟨vb, 0, none⟩) 1 vc]).run Try.prog (w.drew.setCells b (off + (i + 1) * 3) (flatM (l.drop i))) = .ok (goInt (Nat.min 1 (n + 1 - i))) ((w.drew.setCells b (off + (i + 1) * 3) (flatM (l.drop i))).setCells b (off + i * 3) (encM m)) := fun ty dc =>
    run_copy_k _ 41 41 ty 61 b (off + i * 3) (n + 1 - i) dc ⟨vb, 0, none⟩ 1 vc 3 (encM m) (by kernel_rfl) hi0 hs0 (by rw [show Nat.min 1 (n + 1 - i) = 1 by simp only [Nat.min_def]; split <;> omega]; rfl)
      (fun j v hj => by rw [Addr.add_lit, cell_of_block hv1]; simpa using hj)
      (fun j hj => by
        have hj3 : j < 3 := hj
        rw [cell_of_block z1, Array.getElem?_eq_getElem (show off + i * 3 + j < c2.size by omega)]; rfl)
      (fun j hj => by
        have hj3 : j < 3 := hj
        have := z3.not _ (show off + i * 3 + j < c2.size by omega)
        simp only [World.frozen?, z1]; simp; omega)
      (fun v hv => by
        simp only [encM, List.mem_cons, List.not_mem_nil, or_false] at hv
        rcases hv with rfl | rfl | rfl <;> rfl)
  clear z1 z2 z3 z4 g5 hv1
  have HB : Aside (w.heap[b]? = some (.cells c e fr)) := hb
  have HV : Aside (w.heap[vb]? = some (.cells (encM m).toArray tv (0, 0))) := hv
  have HROW : Aside (RowM c off l) := hrow
  have HN : Aside (n = l.length) := hn
  clear hb hv hrow hn
  go_enter Try.func57, Try.ntmps57
  go_wp2_with (simp only [hov])
  go_region_law (refine at_copy_step rfl (.tmp 73) (.tmp 76) 41 rfl (v := .slice (some ⟨b, off + (i + 1) * 3, none⟩) (n + 1 - (i + 1)) (cap - (i + 1))) (u := .slice (some ⟨b, off + i * 3, none⟩) (n + 1 - i) (cap - i)) (by simp [Act.eval, Act.put]) (by simp [Act.eval, Act.put]) (hcp1 _ _ _) ?_)
  go_wp2_with (first
    | (refine at_copy _ rfl _ _ 41 rfl (v := .slice (some ⟨b, off + i * 3, none⟩) (n + 1 - i) (cap - i)) (u := .slice (some ⟨vb, 0, none⟩) 1 vc) rfl rfl (hcp2 _ _) ?_)
    | go_in)
  go_ret
  exact ⟨rfl, rfl⟩
end Go.Proofs.Ytmfkliabjfngmaa

/- Group: slices.Insert of one Member, walked raw: in the middle, growing. -/



set_option linter.unusedSimpArgs false
set_option linter.unusedVariables false
set_option maxRecDepth 1000000
set_option maxHeartbeats 4000000
namespace Go.Proofs.Ytmfkliabjfngmaa
open Go.RowKit Go.Lib Go.Sort
open Go.Av

/-- A member among others. -/
def insM (l : List Mb) (i : Nat) (m : Mb) : List Mb := l.take i ++ m :: l.drop i
theorem insM_length (l : List Mb) (i : Nat) (m : Mb) (hi : i ≤ l.length) : (insM l i m).length = l.length + 1 := by simp [insM]; omega
theorem insM_end (l : List Mb) (m : Mb) : insM l l.length m = l ++ [m] := by simp [insM]
theorem rowM_ins {c : Array Value} {off : Nat} {l : List Mb} {i : Nat} {m : Mb} (hi : i ≤ l.length) (hsz : off + (l.length + 1) * 3 ≤ c.size)
    (hA : ∀ k, k < i → ∀ q, q < 3 → c.getD (off + k * 3 + q) Go.undef = (encM (l.getD k mb0)).getD q Go.undef)
    (hB : ∀ q, q < 3 → c.getD (off + i * 3 + q) Go.undef = (encM m).getD q Go.undef)
    (hC : ∀ k, k < l.length - i → ∀ q, q < 3 → c.getD (off + (i + 1 + k) * 3 + q) Go.undef = (encM (l.getD (i + k) mb0)).getD q Go.undef) : RowM c off (insM l i m) := by
  intro k hk q hq
  rw [insM_length l i m hi] at hk
  have hlt : off + k * 3 + q < c.size := by omega
  have hg : c[off + k * 3 + q]? = some (c.getD (off + k * 3 + q) Go.undef) := by rw [Array.getD_eq_getD_getElem?, Array.getElem?_eq_getElem hlt]; rfl
  rw [hg]
  congr 1
  by_cases h1 : k < i
  · have e : (insM l i m).getD k mb0 = l.getD k mb0 := by
      rw [insM, List.getD_eq_getElem?_getD, List.getElem?_append_left (by simp; omega), List.getElem?_take_of_lt h1, List.getD_eq_getElem?_getD]
    rw [hA k h1 q hq, e]
  · by_cases h2 : k = i
    · subst h2
      have e : (insM l k m).getD k mb0 = m := by
        rw [insM, List.getD_eq_getElem?_getD, List.getElem?_append_right (by simp; omega)]
        simp [Nat.min_eq_left hi]
      rw [hB q hq, e]
    · obtain ⟨d, rfl⟩ : ∃ d, k = i + 1 + d := ⟨k - (i + 1), by omega⟩
      have e : (insM l i m).getD (i + 1 + d) mb0 = l.getD (i + d) mb0 := by
        rw [insM, List.getD_eq_getElem?_getD, List.getElem?_append_right (by simp; omega)]
        simp only [List.length_take, Nat.min_eq_left hi]
        rw [show i + 1 + d - i = d + 1 by omega, List.getElem?_cons_succ, List.getElem?_drop, List.getD_eq_getElem?_getD]
      rw [hC d (by omega) q hq, e]
theorem flatM_getD (l : List Mb) {k q : Nat} (hk : k < l.length) (hq : q < 3) : (flatM l).getD (k * 3 + q) Go.undef = (encM (l.getD k mb0)).getD q Go.undef := by
  rw [List.getD_eq_getElem?_getD, flatM_get l hk hq]; rfl

theorem at_app2 {P : Program} (w : World) {ops : Array Oper} {rest : List Oper} {o : Oper} {a : Act} {Q : Exit → Act → World → Prop} (hg : o.guard = none) (s x : Operand) (t tx : TypeId)
    (hop : o.op = .call { callee := .builtin .append, args := #[s, x], argTypes := #[t, tx] }) {v u : Value} (hs : a.eval s = v) (hx : a.eval x = u) {v2 : Value} {w2 : World}
    (hrun : (Builtin.append_ #[t, tx] o.type #[v, u]).run P w = .ok v2 w2) (hK : wpList P ops Q rest (a.put o.dst v2) w2) : wpList P ops Q (o :: rest) a w := by
  refine wpList_plain hg fun K hK' => ?_
  unfold Oper.wp
  simp [execOp, hop, resolve, invoke, builtin, hs, hx, hrun, Result.andThen]
  exact hK' _ _ hK

theorem ins_mid_grow {w : World} {b off cap : Nat} {c : Array Value} {e : TypeId} {fr : Nat × Nat} {l : List Mb} (hb : w.heap[b]? = some (.cells c e fr)) (hcl : l.length ≤ cap) (hcap : ¬ l.length + 1 ≤ cap) (hsz : off + cap * 3 ≤ c.size) (hrow : RowM c off l) (hl : l.length ≤ 1000)
    (i : Nat) (hi : i < l.length) {vb vc : Nat} {m : Mb} {tv : TypeId} (hv : w.heap[vb]? = some (.cells (encM m).toArray tv (0, 0))) :
    Calls Try.prog 57 #[.slice (some ⟨b, off, none⟩) l.length cap, .int .i64 i, .slice (some ⟨vb, 0, none⟩) 1 vc] w (InsPost w (insM l i m)) := by
  obtain ⟨n, hn⟩ : ∃ n, n = l.length := ⟨_, rfl⟩
  obtain ⟨i0, hi0, hs0, hz0, hb0⟩ : ∃ i0 : TypeInfo, Try.prog.info? 61 = some i0 ∧ i0.size = 3 ∧ i0.zero = some (.agg #[.string ⟨#[]⟩, .int .i64 0, .bool false]) ∧ i0.bytes ≤ 1000 := ⟨(Try.prog.info? 61).get!, by kernel_rfl, by kernel_rfl, by kernel_rfl, by decide +kernel⟩
  rw [← hn] at hcap hi hl hcl ⊢
  have hbw : b < w.heap.size := (Array.getElem?_eq_some_iff.1 hb).1
  have hvw : vb < w.heap.size := (Array.getElem?_eq_some_iff.1 hv).1
  have hcapn : cap = n := by omega
  have hz2 : ¬ ((i : Int) = (n : Int)) := by omega
  have hz3 : (cap : Int) < (n : Int) + 1 := by omega
  have hw1 : IntKind.i64.wrap ((i : Int) + 1) = (i : Int) + 1 := by rw [IntKind.wrap_i64]; omega
  have hw2 : IntKind.i64.wrap ((n : Int) + 1) = (n : Int) + 1 := by rw [IntKind.wrap_i64]; omega
  have hw3 : IntKind.i64.wrap ((n : Int) + 1 - (i : Int)) = (n : Int) + 1 - (i : Int) := by rw [IntKind.wrap_i64]; omega
  have hkk : (n : Int) + 1 - (i : Int) = ((n + 1 - i : Nat) : Int) := by omega
  have hik : i + (n + 1 - i) = n + 1 := by omega
  have hfl : (flatM (l.take i)).length = i * 3 := by simp; omega
  have hfd : (flatM (l.drop i)).length = (n - i) * 3 := by simp [← hn]
  have hbd : w.drew.heap[b]? = some (.cells c e fr) := hb
  have hszc : off + n * 3 ≤ c.size := by have := Nat.mul_le_mul_right 3 hcl; omega
  have hold : (Builtin.firstCells i0.size i (.slice (some ⟨b, off, none⟩) i cap)).run Try.prog w.drew = .ok (flatM (l.take i)).toArray w.drew := by
    rw [hs0]
    exact run_firstCells_some w.drew 3 i ⟨b, off, none⟩ i cap (flatM (l.take i)) (by rw [hfl]) (fun j v hj => by
      have hj2 : j < i * 3 := by rw [← hfl]; exact (List.getElem?_eq_some_iff.1 hj).1
      have h1 := flatM_get (l.take i) (show j / 3 < (l.take i).length by simp; omega) (show j % 3 < 3 by omega)
      rw [show j / 3 * 3 + j % 3 = j by omega, hj] at h1
      have h2 := hrow (j / 3) (by omega) (j % 3) (by omega)
      have h3 : (l.take i).getD (j / 3) mb0 = l.getD (j / 3) mb0 := by
        rw [List.getD_eq_getElem?_getD, List.getD_eq_getElem?_getD, List.getElem?_take_of_lt (by omega)]
      rw [h3] at h1
      rw [Addr.add_lit, h1, show off + j = off + j / 3 * 3 + j % 3 by omega, ← h2]
      exact cell_of_block hbd)
  obtain ⟨G, hG⟩ : ∃ G, G = grownCap w (n + 1) cap 61 := ⟨_, rfl⟩
  obtain ⟨ROW, hROW⟩ : ∃ ROW : Array Value, ROW = (flatM (l.take i)).toArray ++ Builtin.zeroCells (Value.agg #[.string ⟨#[]⟩, .int .i64 0, .bool false]).cells (n + 1 - i) ++ Builtin.zeroCells (Value.agg #[.string ⟨#[]⟩, .int .i64 0, .bool false]).cells (G - (n + 1)) := ⟨_, rfl⟩
  have hGn : n + 1 ≤ G := by rw [hG]; exact grownCap_ge w _ _ _
  have hG63 : G ≤ 9223372036854775807 := by
    have := grownCap_le_maxLen w (n + 1) cap 61 (by unfold maxLen; omega)
    rw [← hG] at this
    unfold maxLen at this
    omega
  have hrz : ∀ ty, (Builtin.append_ #[41, 3] ty #[.slice (some ⟨b, off, none⟩) i cap, .int .i64 ((n : Int) + 1 - (i : Int))]).run Try.prog w =
      .ok (.slice (some ⟨w.heap.size, 0, none⟩) (n + 1) G) (w.drew.alloc (.cells ROW 61)) := fun ty => by
    have hmx : (n + 1) * i0.bytes ≤ 1001 * 1000 := Nat.mul_le_mul (by omega) hb0
    have hmy : (n + 1 - i) * i0.bytes ≤ 1001 * 1000 := Nat.mul_le_mul (by omega) hb0
    have h := Lib.run_append_grow_zeros (P := Try.prog) w 41 3 ty 61 i0 _ .i64 .i64 (by kernel_rfl) (by kernel_rfl) hi0 hz0 (some ⟨b, off, none⟩) i cap (flatM (l.take i)) hold (n + 1 - i) (by omega) (by omega) (by omega) (by omega) (by omega) (by rw [hik]; exact growslice_fits (by omega) (by omega))
    rw [hik, ← hG, ← hROW] at h
    rw [hkk]
    exact h
  have hRs : ROW.size = G * 3 := by
    rw [hROW]
    simp only [Array.size_append, List.size_toArray, hfl, Builtin.zeroCells, Value.cells]
    simp
    omega
  have hRg : ∀ j, j < i * 3 → ROW.getD j Go.undef = (flatM (l.take i)).getD j Go.undef := fun j hj => by
    rw [hROW, Array.getD_eq_getD_getElem?, Array.append_assoc, Array.getElem?_append_left (by simpa [hfl] using hj), List.getD_eq_getElem?_getD]
    simp
  clear hROW hold
  have hW0 : (w.drew.alloc (.cells ROW 61)).heap[w.heap.size]? = some (.cells ROW 61 (0, 0)) := by rw [alloc_get, if_pos (by simp)]
  have hWo : ∀ k, k < w.heap.size → (w.drew.alloc (.cells ROW 61)).heap[k]? = w.heap[k]? := fun k hk => by rw [alloc_get, if_neg (by simp; omega)]; rfl
  have h3G : (n + 1) * 3 ≤ G * 3 := Nat.mul_le_mul_right _ hGn
  obtain ⟨_, c1, y1, y2, y3, y4⟩ := setCells_at (P := Try.prog) (o := i * 3) (vs := encM m) hW0 (.inl rfl) (by rw [hRs]; show i * 3 + 3 ≤ _; omega) (fun v hv => by
    simp only [encM, List.mem_cons, List.not_mem_nil, or_false] at hv
    rcases hv with rfl | rfl | rfl <;> rfl)
  obtain ⟨x1, x2, x3, x4, x5, _⟩ := setCells_heap w.heap.size (encM m) (i * 3) (w.drew.alloc (.cells ROW 61))
  have hcpA : ∀ (W : World), W.heap = (w.drew.alloc (.cells ROW 61)).heap → ∀ ty dc, (Builtin.copy_ #[41, 41] ty #[.slice (some ⟨w.heap.size, i * 3, none⟩) (n + 1 - i) dc, .slice (some ⟨vb, 0, none⟩) 1 vc]).run Try.prog W = .ok (goInt 1) (W.setCells w.heap.size (i * 3) (encM m)) := fun W hWh ty dc => by
    have hn0 : W.heap[w.heap.size]? = some (.cells ROW 61 (0, 0)) := by rw [hWh]; exact hW0
    have hv0 : W.heap[vb]? = some (.cells (encM m).toArray tv (0, 0)) := by rw [hWh, hWo vb hvw]; exact hv
    have hmin : Nat.min 1 (n + 1 - i) = 1 := by simp only [Nat.min_def]; split <;> omega
    have := run_copy_k (P := Try.prog) W 41 41 ty 61 w.heap.size (i * 3) (n + 1 - i) dc ⟨vb, 0, none⟩ 1 vc 3 (encM m) (by kernel_rfl) hi0 hs0 (by rw [hmin]; rfl)
      (fun j v hj => by rw [Addr.add_lit, cell_of_block hv0]; simpa using hj)
      (fun j hj => by
        have hj3 : j < 3 := hj
        rw [cell_of_block hn0, Array.getElem?_eq_getElem (show i * 3 + j < ROW.size by omega)]; rfl)
      (fun j hj => by simp [World.frozen?, hn0])
      (fun v hv => by
        simp only [encM, List.mem_cons, List.not_mem_nil, or_false] at hv
        rcases hv with rfl | rfl | rfl <;> rfl)
    rw [hmin] at this
    exact this
  have hcpB : ∀ (W : World), W.heap = ((w.drew.alloc (.cells ROW 61)).setCells w.heap.size (i * 3) (encM m)).heap → ∀ ty dc sc, (Builtin.copy_ #[41, 41] ty #[.slice (some ⟨w.heap.size, (i + 1) * 3, none⟩) (n - i) dc, .slice (some ⟨b, off + i * 3, none⟩) (n - i) sc]).run Try.prog W = .ok (goInt (n - i : Nat)) (W.setCells w.heap.size ((i + 1) * 3) (flatM (l.drop i))) := fun W hWh ty dc sc => by
    have hn0 : W.heap[w.heap.size]? = some (.cells c1 61 (0, 0)) := by rw [hWh]; exact y1
    have hb1 : W.heap[b]? = some (.cells c e fr) := by rw [hWh, x5 b (by omega), hWo b hbw]; exact hb
    have hmin : Nat.min (n - i) (n - i) = n - i := by simp only [Nat.min_def]; split <;> omega
    have := run_copy_k (P := Try.prog) W 41 41 ty 61 w.heap.size ((i + 1) * 3) (n - i) dc ⟨b, off + i * 3, none⟩ (n - i) sc 3 (flatM (l.drop i)) (by kernel_rfl) hi0 hs0 (by rw [hmin, hfd])
      (fun j v hj => by
        have hj2 : j < (n - i) * 3 := by rw [← hfd]; exact (List.getElem?_eq_some_iff.1 hj).1
        have h1 := flatM_get (l.drop i) (show j / 3 < (l.drop i).length by simp [← hn]; omega) (show j % 3 < 3 by omega)
        rw [show j / 3 * 3 + j % 3 = j by omega, hj] at h1
        have h2 := hrow (i + j / 3) (by omega) (j % 3) (by omega)
        have h3 : (l.drop i).getD (j / 3) mb0 = l.getD (i + j / 3) mb0 := by simp [List.getD_eq_getElem?_getD]
        rw [h3] at h1
        rw [Addr.add_lit, h1, show off + i * 3 + j = off + (i + j / 3) * 3 + j % 3 by omega, ← h2]
        exact cell_of_block hb1)
      (fun j hj => by
        have : (i + 1) * 3 + j < c1.size := by rw [hfd] at hj; rw [y2, hRs]; omega
        rw [cell_of_block hn0, Array.getElem?_eq_getElem this]; rfl)
      (fun j hj => by simp [World.frozen?, hn0])
      (flatM_one _)
    rw [hmin] at this
    exact this
  have HP : Aside (∀ W : World, W.heap = ((w.drew.alloc (.cells ROW 61)).setCells w.heap.size (i * 3) (encM m)).heap → W.os = w.os → W.tape = w.tape → W.output = w.output → InsPost w (insM l i m) (.returned (.slice (some ⟨w.heap.size, 0, none⟩) (n + 1) G)) (W.setCells w.heap.size ((i + 1) * 3) (flatM (l.drop i)))) := by
    intro W hh h1 h2 h3
    have hil := insM_length l i m (by omega)
    have hW1 : W.heap[w.heap.size]? = some (.cells c1 61 (0, 0)) := by rw [hh]; exact y1
    obtain ⟨_, c2, z1, z2, z3, z4⟩ := setCells_at (P := Try.prog) (o := (i + 1) * 3) (vs := flatM (l.drop i)) hW1 y3 (by rw [hfd, y2, hRs]; omega) (flatM_one _)
    obtain ⟨u1, u2, u3, u4, u5, _⟩ := setCells_heap w.heap.size (flatM (l.drop i)) ((i + 1) * 3) W
    refine ⟨w.heap.size, G, c2, (0, 0), by rw [hil, hn], Nat.le_refl _, ⟨u1.trans h1, u2.trans h2, u3.trans h3, by rw [u4, hh, x4]; simp, fun k hk _ => by rw [u5 k (by omega), hh, x5 k (by omega), hWo k hk]⟩, z1, z3, by rw [hil, ← hn]; exact hGn, by rw [z2, y2, hRs]; omega, ?_⟩
    refine rowM_ins (by omega) (by rw [z2, y2, hRs, ← hn]; omega) (fun k hk q hq => ?_) (fun q hq => ?_) (fun k hk q hq => ?_)
    · rw [z4, if_neg (by rw [hfd]; omega), y4, if_neg (by show ¬ (_ ∧ _ < i * 3 + 3); omega), Nat.zero_add, hRg _ (by omega), flatM_getD _ (by simp; omega) hq, (show (l.take i).getD k mb0 = l.getD k mb0 by rw [List.getD_eq_getElem?_getD, List.getElem?_take_of_lt hk, List.getD_eq_getElem?_getD])]
    · rw [z4, if_neg (by rw [hfd]; omega), y4, if_pos (by show _ ∧ _ < i * 3 + 3; omega), show 0 + i * 3 + q - i * 3 = q by omega]
    · rw [z4, if_pos (by rw [hfd]; omega), show 0 + (i + 1 + k) * 3 + q - (i + 1) * 3 = k * 3 + q by omega, flatM_getD _ (by simp; omega) hq]
      simp [List.getD_eq_getElem?_getD]
  clear y1 y2 y3 y4 x1 x2 x3 x4 x5 hW0 hWo
  have hb1 : (0 : Int) ≤ (i : Int) + 1 := by omega
  have htn : ((i : Int) + 1).toNat = i + 1 := by omega
  have hb3 : (i : Int) ≤ (n : Int) := by omega
  have hin : i ≤ n := by omega
  have hGi : ¬ (G = i) := by omega
  have hGim : ¬ (G = i + 1) := by omega
  have hci : ¬ (cap = i) := by omega
  have HB : Aside (w.heap[b]? = some (.cells c e fr)) := hb
  have HV : Aside (w.heap[vb]? = some (.cells (encM m).toArray tv (0, 0))) := hv
  have HROW : Aside (RowM c off l) := hrow
  have HN : Aside (n = l.length) := hn
  clear hG hcapn hb hv hrow hn hkk hik hRg hbd hfl hfd
  go_enter Try.func57, Try.ntmps57
  go_wp2_with (first
    | (refine at_app2 _ rfl _ _ 41 3 rfl (v := .slice (some ⟨b, off, none⟩) i cap) (u := .int .i64 ((n : Int) + 1 - (i : Int))) rfl rfl (hrz _) ?_)
    | (refine at_copy _ rfl _ _ 41 rfl (v := .slice (some ⟨w.heap.size, i * 3, none⟩) (n + 1 - i) (G - i)) (u := .slice (some ⟨vb, 0, none⟩) 1 vc) rfl rfl (hcpA _ (by rfl) _ _) ?_)
    | go_in)
  go_region_law (refine at_copy_step rfl (.tmp 50) (.tmp 53) 41 rfl (v := .slice (some ⟨w.heap.size, (i + 1) * 3, none⟩) (n - i) (G - (i + 1))) (u := .slice (some ⟨b, off + i * 3, none⟩) (n - i) (cap - i)) (by simp [Act.eval, Act.put]) (by simp [Act.eval, Act.put]) (hcpB _ (by rfl) _ _ _) ?_)
  go_wp2
  go_ret
  exact HP.out _ rfl rfl rfl rfl
end Go.Proofs.Ytmfkliabjfngmaa

/- Group: one oracle for what the calls call; beat, Tick, Leave, Find. -/

set_option linter.unusedSimpArgs false
set_option linter.unusedVariables false
set_option maxHeartbeats 4000000
namespace Go.Proofs.Ytmfkliabjfngmaa

open Go.Av

theorem rowD_ok {P : Program} {α : Type} {enc : α → List SV × List SV} {F : α → Prop × LV} {f sz : Nat} {xs l : List SV} {c : Prop} {rv : LV} (h : row (fun a => .agg (enc a).1 :: (enc a).2) F (.agg xs :: l) = some (c, rv)) (hc : c) (hp : ∀ a, (F a).1 → PureD P f sz (enc a).1 (enc a).2 (F a).2) : PureD P f sz xs l rv := by
  obtain ⟨a, e1, e⟩ := row_some h
  simp only [List.cons.injEq, SV.agg.injEq] at e1
  obtain ⟨rfl, rfl⟩ := e1
  have := hp a
  rw [e] at this
  exact this hc
/-- beat, and what it answers. -/
def seenF (F : Nat) : Bool := F == 60
def eSeen (p : Grp × Int × Int × Nat) : List SV := [p.1.sv, .int .i64 p.2.1, .int .i64 p.2.2.1, .fn p.2.2.2 [] []]
theorem eSeen_inj (a b : Grp × Int × Int × Nat) (h : eSeen a = eSeen b) : a = b := by
  simp [eSeen] at h
  exact Prod.ext (Grp.sv_inj _ _ h.1) (Prod.ext h.2.1 (Prod.ext h.2.2.1 h.2.2.2))
def eGS (p : Grp × ByteArray) : List SV := [p.1.sv, .str p.2]
theorem eGS_inj (a b : Grp × ByteArray) (h : eGS a = eGS b) : a = b := by simp [eGS] at h; exact Prod.ext (Grp.sv_inj _ _ h.1) h.2
def eGM (p : Grp × List Mb) : List SV := [p.1.sv, .sl 3 (ML p.2)]
theorem eGM_inj (a b : Grp × List Mb) (h : eGM a = eGM b) : a = b := by simp [eGM] at h; exact Prod.ext (Grp.sv_inj _ _ h.1) (ML_inj _ _ h.2)
def eWith (p : Grp × Int × Mb) : List SV := [p.1.sv, .int .i64 p.2.1, p.2.2.sv]
theorem eWith_inj (a b : Grp × Int × Mb) (h : eWith a = eWith b) : a = b := by simp [eWith] at h; exact Prod.ext (Grp.sv_inj _ _ h.1) (Prod.ext h.2.1 (Mb.sv_inj _ _ h.2.2))
noncomputable def RgGp (f : FuncId) (l : List SV) : Option (Prop × LV) :=
  match f with
  | 34 => row (fun g : Grp => [g.sv]) (fun g => (g.ms.length < 4611686018427387904, .sv (.int .i64 (chkG g)))) l
  | 72 => row (fun g : Grp => [g.sv]) (fun g => (g.ms.length < 4611686018427387904 ∧ 0 ≤ g.ph, .sv (.int .i64 (chkG g)))) l
  | 49 => row eGS (fun p => (p.1.ms.length < 4611686018427387904, .sv (.int .i64 (placeP p.2 p.1.ms)))) l
  | 71 => row eGS (fun p => (p.1.ms.length < 4611686018427387904, .sv (.int .i64 (placeP p.2 p.1.ms)))) l
  | 50 => row eStr (fun s => (True, .sv (.bool (nameB s)))) l
  | 73 => row eStr (fun s => (True, .sv (.bool (nameB s)))) l
  | 51 => row eI (fun n => (True, .sv (.bool (timeB n)))) l
  | 74 => row eI (fun n => (True, .sv (.bool (timeB n)))) l
  | 52 => row eSeen (fun p => ((p.2.2.2 = 53 ∨ p.2.2.2 = 60 ∨ p.2.2.2 = 61) ∧ 0 ≤ p.2.1 ∧ p.2.1 < p.1.ms.length ∧ p.1.ms.length ≤ 1000, .sv (seenG (seenF p.2.2.2) p.1 p.2.1.toNat p.2.2.1).sv)) l
  | 56 => row eGM (fun p => (p.2.length ≤ 1000, .sv (Grp.sv ⟨IntKind.i64.wrap (p.1.ge + 1), phaseP (offM p.2), offM p.2⟩))) l
  | 76 => row eGM (fun p => (p.2.length ≤ 1000, .sv (turnG p.1 p.2).sv)) l
  | 75 => row eWith (fun p => (0 ≤ p.2.1 ∧ p.2.1 < p.1.ms.length ∧ p.1.ms.length ≤ 1000, .sv (Grp.sv ⟨p.1.ge, p.1.ph, p.1.ms.set p.2.1.toNat p.2.2⟩))) l
  | 58 => row eML (fun a => (a.length ≤ 1000, .arr 3 (ML a))) l
  | _ => none
def eDel (p : List Mb × Int) : List SV × List SV := (ML p.1, [.int .i64 p.2, .int .i64 (p.2 + 1)])
def eDelF (p : List Mb × Int × Int) : List SV × List SV := (ML p.1, [.fn 64 [] [intC p.2.1, intC p.2.2]])
noncomputable def RgGd (f : FuncId) (sz : Nat) (xs l : List SV) : Option (Prop × LV) :=
  match f, sz with
  | 62, 3 => row (fun a => .agg (eDel a).1 :: (eDel a).2) (fun p => (0 ≤ p.2 ∧ p.2 < p.1.length ∧ p.1.length ≤ 1000, .own 3 (ML (p.1.take p.2.toNat ++ p.1.drop (p.2.toNat + 1))))) (.agg xs :: l)
  | 63, 3 => row (fun a => .agg (eDelF a).1 :: (eDelF a).2) (fun p => (p.1.length ≤ 1000, .own 3 (ML (p.1.filter fun m => !lateM p.2.1 p.2.2 m)))) (.agg xs :: l)
  | _, _ => none
noncomputable def RgG : Orc := { p := RgGp, d := RgGd, fv := fun f => f == 53 || f == 60 || f == 61 }
theorem ML_flat (l : List Mb) : (ML l).all SV.flat = true := by
  simp only [List.all_eq_true, ML, List.mem_map]
  rintro x ⟨m, _, rfl⟩
  rfl
theorem RgG_ok : RgG.ok Try.prog := by
  refine ⟨fun f l c rv h hc => ?_, fun _ _ _ _ _ _ h => (by cases h), fun _ _ _ _ h => (by cases h), fun f h => ?_, fun f sz xs l c rv h hc => ?_, fun _ _ _ _ _ _ _ h => (by cases h)⟩
  · change RgGp f l = _ at h
    unfold RgGp at h
    split at h
    · exact row_ok h hc (fun x hp => chk_pure x hp)
    · exact row_ok h hc (fun x hp => rchk_pure x hp.1 hp.2)
    · exact row_ok h hc (fun x hp => place_pure x.1 x.2 hp)
    · exact row_ok h hc (fun x hp => rplace_pure x.1 x.2 hp)
    · exact row_ok h hc (fun x hp => name50 x)
    · exact row_ok h hc (fun x hp => name73 x)
    · exact row_ok h hc (fun x hp => time51 x)
    · exact row_ok h hc (fun x hp => time74 x)
    · refine row_ok h hc (fun x hp => ?_)
      obtain ⟨g, i, now, F⟩ := x
      obtain ⟨h1, h2, h3, h4⟩ := hp
      simp only at h1 h2 h3 h4
      have e : ((i.toNat : Nat) : Int) = i := Int.toNat_of_nonneg h2
      rcases h1 with rfl | rfl | rfl
      · have := seen53 g i.toNat (by omega) h4 now
        rw [e] at this; exact this
      · have := seen60 g i.toNat (by omega) h4 now
        rw [e] at this; exact this
      · have := seen61 g i.toNat (by omega) h4 now
        rw [e] at this; exact this
    · exact row_ok h hc (fun x hp => turn_pure x.1 x.2 hp)
    · exact row_ok h hc (fun x hp => rturn_pure x.1 x.2 hp)
    · refine row_ok h hc (fun x hp => ?_)
      obtain ⟨g, i, m⟩ := x
      obtain ⟨h2, h3, h4⟩ := hp
      simp only at h2 h3 h4
      have e : ((i.toNat : Nat) : Int) = i := Int.toNat_of_nonneg h2
      have := with_pure g i.toNat (by omega) h4 m
      rw [e] at this; exact this
    · exact row_ok h hc (fun x hp => (clone_pure x hp).arr (ML_flat x))
    · cases h
  · simp only [RgG, Bool.or_eq_true, beq_iff_eq] at h
    rcases h with (rfl | rfl) | rfl
    · exact ok53
    · exact ok60
    · exact ok61
  · change RgGd f sz xs l = _ at h
    unfold RgGd at h
    split at h
    · refine rowD_ok h hc (fun x hp => ?_)
      obtain ⟨a, i⟩ := x
      obtain ⟨h2, h3, h4⟩ := hp
      simp only at h2 h3 h4
      have e : ((i.toNat : Nat) : Int) = i := Int.toNat_of_nonneg h2
      have := delete_pure a i.toNat (by omega) h4
      rw [e] at this; exact this
    · refine rowD_ok h hc (fun x hp => ?_)
      exact del_pure 64 [intC x.2.1, intC x.2.2] (lateM x.2.1 x.2.2) ok64 (fun m => clo64 x.2.1 x.2.2 m) x.1 hp
    · cases h
end Go.Proofs.Ytmfkliabjfngmaa

/- Group: beat, Leave, Find, Tick. -/

set_option linter.unusedSimpArgs false
set_option linter.unusedVariables false
set_option maxHeartbeats 4000000
namespace Go.Proofs.Ytmfkliabjfngmaa

open Go.Av

theorem ML_nil : ML [] = [] := rfl
theorem RgG_34 (g : Grp) : RgG.p 34 [.agg [.int .i64 g.ge, .int .u8 g.ph, .sl 3 (ML g.ms)]] = some (g.ms.length < 4611686018427387904, .sv (.int .i64 (chkG g))) := row_eq (enc := fun g : Grp => [g.sv]) eG_inj _ g
theorem RgG_72 (g : Grp) : RgG.p 72 [.agg [.int .i64 g.ge, .int .u8 g.ph, .sl 3 (ML g.ms)]] = some (g.ms.length < 4611686018427387904 ∧ 0 ≤ g.ph, .sv (.int .i64 (chkG g))) := row_eq (enc := fun g : Grp => [g.sv]) eG_inj _ g
theorem RgG_49 (g : Grp) (s : ByteArray) : RgG.p 49 [.agg [.int .i64 g.ge, .int .u8 g.ph, .sl 3 (ML g.ms)], .str s] = some (g.ms.length < 4611686018427387904, .sv (.int .i64 (placeP s g.ms))) := row_eq eGS_inj _ (g, s)
theorem RgG_71 (g : Grp) (s : ByteArray) : RgG.p 71 [.agg [.int .i64 g.ge, .int .u8 g.ph, .sl 3 (ML g.ms)], .str s] = some (g.ms.length < 4611686018427387904, .sv (.int .i64 (placeP s g.ms))) := row_eq eGS_inj _ (g, s)
theorem RgG_50 (s : ByteArray) : RgG.p 50 [.str s] = some (True, .sv (.bool (nameB s))) := row_eq eStr_inj _ s
theorem RgG_73 (s : ByteArray) : RgG.p 73 [.str s] = some (True, .sv (.bool (nameB s))) := row_eq eStr_inj _ s
theorem RgG_51 (n : Int) : RgG.p 51 [.int .i64 n] = some (True, .sv (.bool (timeB n))) := row_eq eI_inj _ n
theorem RgG_74 (n : Int) : RgG.p 74 [.int .i64 n] = some (True, .sv (.bool (timeB n))) := row_eq eI_inj _ n
theorem RgG_52 (g : Grp) (i now : Int) (F : Nat) : RgG.p 52 [.agg [.int .i64 g.ge, .int .u8 g.ph, .sl 3 (ML g.ms)], .int .i64 i, .int .i64 now, .fn F [] []] = some ((F = 53 ∨ F = 60 ∨ F = 61) ∧ 0 ≤ i ∧ i < g.ms.length ∧ g.ms.length ≤ 1000, .sv (seenG (seenF F) g i.toNat now).sv) := row_eq eSeen_inj _ (g, i, now, F)
theorem RgG_56 (g : Grp) (l : List Mb) : RgG.p 56 [.agg [.int .i64 g.ge, .int .u8 g.ph, .sl 3 (ML g.ms)], .sl 3 (ML l)] = some (l.length ≤ 1000, .sv (Grp.sv ⟨IntKind.i64.wrap (g.ge + 1), phaseP (offM l), offM l⟩)) := row_eq eGM_inj _ (g, l)
theorem RgG_76 (g : Grp) (l : List Mb) : RgG.p 76 [.agg [.int .i64 g.ge, .int .u8 g.ph, .sl 3 (ML g.ms)], .sl 3 (ML l)] = some (l.length ≤ 1000, .sv (turnG g l).sv) := row_eq eGM_inj _ (g, l)
theorem RgG_75 (g : Grp) (i : Int) (m : Mb) : RgG.p 75 [.agg [.int .i64 g.ge, .int .u8 g.ph, .sl 3 (ML g.ms)], .int .i64 i, .agg [.str m.id, .int .i64 m.sn, .bool m.sy]] = some (0 ≤ i ∧ i < g.ms.length ∧ g.ms.length ≤ 1000, .sv (Grp.sv ⟨g.ge, g.ph, g.ms.set i.toNat m⟩)) := row_eq eWith_inj _ (g, i, m)
theorem RgG_58 (l : List Mb) : RgG.p 58 [.sl 3 (ML l)] = some (l.length ≤ 1000, .arr 3 (ML l)) := row_eq eML_inj _ l
theorem RgG_62 (l : List Mb) (i : Int) : RgG.d 62 3 (ML l) [.int .i64 i, .int .i64 (i + 1)] = some (0 ≤ i ∧ i < l.length ∧ l.length ≤ 1000, .own 3 (ML (l.take i.toNat ++ l.drop (i.toNat + 1)))) :=
  row_eq (enc := fun a => .agg (eDel a).1 :: (eDel a).2) (fun a b h => by simp [eDel] at h; exact Prod.ext (ML_inj _ _ h.1) h.2) _ (l, i)
theorem RgG_63 (l : List Mb) (now pat : Int) : RgG.d 63 3 (ML l) [.fn 64 [] [.eptr (.agg [.int .i64 now]) 0, .eptr (.agg [.int .i64 pat]) 0]] = some (l.length ≤ 1000, .own 3 (ML (l.filter fun m => !lateM now pat m))) :=
  row_eq (enc := fun a => .agg (eDelF a).1 :: (eDelF a).2) (fun a b h => by simp [eDelF, intC] at h; exact Prod.ext (ML_inj _ _ h.1) (Prod.ext h.2.1 h.2.2)) _ (l, now, pat)
theorem RgG_nofz : RgG.nofz = false := rfl
theorem RgG_fv (F : Nat) (h : F = 53 ∨ F = 60 ∨ F = 61) : RgG.fv F = true := by rcases h with rfl | rfl | rfl <;> rfl
theorem place_range (s : ByteArray) (l : List Mb) : placeP s l < l.length := by
  unfold placeP
  rcases idxM_spec (fun m => decide (m.id = s)) l 0 with ⟨h, _⟩ | ⟨k, hk, h, _⟩ <;> rw [h] <;> omega

/-- What beat answers. -/
def beatG (s : Bool) (g : Grp) (id : ByteArray) (gen now : Int) : Grp × Int :=
  if chkG g ≠ 0 then (grp0, chkG g) else if timeB now = false then (grp0, 11) else if placeP id g.ms < 0 then (grp0, 20) else if gen ≠ g.ge then (grp0, 19) else (seenG s g (placeP id g.ms).toNat now, 0)
theorem beat_pure (F : Nat) (hF : F = 53 ∨ F = 60 ∨ F = 61) (g : Grp) (id : ByteArray) (gen now : Int) (hl : g.ms.length ≤ 1000) :
    Pure Try.prog 59 [g.sv, .str id, .int .i64 gen, .int .i64 now, .fn F [] []] (.tup [.sv (beatG (seenF F) g id gen now).1.sv, .sv (.int .i64 (beatG (seenF F) g id gen now).2)]) := by
  have e34 := RgG_34 g
  have e49 := RgG_49 g id
  have e51 := RgG_51 now
  have e52 := RgG_52 g (placeP id g.ms) now F
  have hfv := RgG_fv F hF
  have hR := RgG_ok
  have hnf := RgG_nofz
  generalize RgG = R at hR e34 e49 e51 e52 hnf hfv
  have hpr := place_range id g.ms
  refine pure_go hR Try.func59 Try.ntmps59 comp59 cres59 (by decide) (by simp) ?_
  have hl4 : g.ms.length < 4611686018427387904 := by omega
  generalize hv : beatG (seenF F) g id gen now = V
  unfold beatG at hv
  obtain ⟨a, b, l⟩ := g
  simp only at *
  by_cases h1 : chkG ⟨a, b, l⟩ = 0
  · rw [h1] at e34
    rw [if_neg (by rw [h1]; simp)] at hv
    cases ht : timeB now with
    | false =>
      rw [ht, if_pos rfl] at hv
      rw [ht] at e51
      subst hv
      simp [ac59, ar59, Grp.sv, Grp.cells, grp0, ML_nil, e34, e49, e51, hl4, hnf]
    | true =>
      rw [ht, if_neg (by simp)] at hv
      rw [ht] at e51
      by_cases hp : placeP id l < 0
      · rw [if_pos hp] at hv
        subst hv
        simp [ac59, ar59, Grp.sv, Grp.cells, grp0, ML_nil, e34, e49, e51, hl4, hnf, hp]
      · rw [if_neg hp] at hv
        have hp0 : 0 ≤ placeP id l := by omega
        by_cases hg : gen = a
        · subst hg
          rw [if_neg (by simp)] at hv
          subst hv
          simp [ac59, ar59, Grp.sv, Grp.cells, seenG, e34, e49, e51, hl4, hnf, hp, hp0, hpr, hF, hfv, hl, e52]
        · have hg2 : (gen == a) = false := by simpa using hg
          rw [if_pos hg] at hv
          subst hv
          simp [ac59, ar59, Grp.sv, Grp.cells, grp0, ML_nil, e34, e49, e51, hl4, hnf, hp, hg, bne, hg2]
  · have h2 : (chkG ⟨a, b, l⟩ == 0) = false := by simpa using h1
    rw [if_pos h1] at hv
    subst hv
    simp [ac59, ar59, Grp.sv, Grp.cells, grp0, ML_nil, e34, hl4, h1, bne, h2, hnf]
end Go.Proofs.Ytmfkliabjfngmaa

/- Group: Leave, walked raw over its calls' contracts. -/

set_option linter.unusedSimpArgs false
set_option linter.unusedVariables false
set_option maxHeartbeats 4000000
set_option maxRecDepth 1000000
namespace Go.Proofs.Ytmfkliabjfngmaa

open Go.Av Go.RowKit Go.Lib

theorem pint {P : Program} {f : FuncId} {args : List SV} {k : IntKind} {n : Int} (h : Pure P f args (.sv (.int k n))) {mu : Mem} {w : World} {vs : List Value} (hm : MemOK mu w) (hra : RepArgs mu args vs) :
    Calls P f vs.toArray w fun e w' => e = .returned (.int k n) ∧ Ext (fun _ => False) w w' ∧ MemOK mu w' := by
  refine (h mu w vs hm hra).mono ?_
  rintro e w' ⟨val, mu', rfl, q1, q2, q3, q4, x, q5, q6⟩
  exact ⟨by rw [Rep.inv_int q5], q1, MemOK.sub q2 q3⟩
theorem pbool {P : Program} {f : FuncId} {args : List SV} {n : Bool} (h : Pure P f args (.sv (.bool n))) {mu : Mem} {w : World} {vs : List Value} (hm : MemOK mu w) (hra : RepArgs mu args vs) :
    Calls P f vs.toArray w fun e w' => e = .returned (.bool n) ∧ Ext (fun _ => False) w w' ∧ MemOK mu w' := by
  refine (h mu w vs hm hra).mono ?_
  rintro e w' ⟨val, mu', rfl, q1, q2, q3, q4, x, q5, q6⟩
  exact ⟨by rw [Rep.inv_bool q5], q1, MemOK.sub q2 q3⟩
/-- What holds of the memory behind calls: it has grown, and is as it was below. -/
structure Gr (B : Nat) (mu mu' : Mem) (w : World) : Prop where
  le : mu.le mu'
  ok : MemOK mu' w
  low : ∀ b j, b < B → mu' b j = mu b j
theorem clone_arr {mu : Mem} {W : World} (hm : MemOK mu W) {l : List Mb} {v : Value} (hv : Rep mu (.sl 3 (ML l)) v) (hl : l.length ≤ 1000) :
    Calls Try.prog 58 #[v] W fun e W' => ∃ val mu' ob, e = .returned val ∧ Ext (fun _ => False) W W' ∧ Gr W.heap.size mu mu' W' ∧ ArrV mu' W' 3 (ML l) val ob ∧ ∀ b, ob = some b → W.heap.size ≤ b := by
  refine ((clone_pure l hl).arr (ML_flat l) mu W [v] hm (repArgs1 hv)).mono ?_
  rintro e w' ⟨val, mu', rfl, q1, q2, q3, q4, x, q5, q6⟩
  rcases q5 with ⟨h1, h2⟩ | ⟨b, h1, h2, h3⟩
  · exact ⟨val, mu', none, rfl, q1, ⟨q2, q3, q4⟩, .inl ⟨rfl, h1, h2⟩, fun b q => by cases q⟩
  · exact ⟨val, mu', some b, rfl, q1, ⟨q2, q3, q4⟩, .inr ⟨b, rfl, h3⟩, fun b' q => by cases q; exact Nat.le_of_not_lt fun z => h2 z⟩
theorem own_step {f : FuncId} {l F : List Mb} {args : List SV} (h : PureD Try.prog f 3 (ML l) args (.own 3 (ML F))) {mu : Mem} {W : World} (hm : MemOK mu W) {ob : Option Nat} {val : Value} {vs : List Value} (hv : ArrV mu W 3 (ML l) val ob) (hra : RepArgs mu args vs) {B : Nat} (hob : ∀ b, ob = some b → B ≤ b) (hB : B ≤ W.heap.size) :
    Calls Try.prog f (val :: vs).toArray W fun e W' => ∃ val' mu', e = .returned val' ∧ (∀ k, k < B → W'.heap[k]? = W.heap[k]?) ∧ W'.os = W.os ∧ W'.tape = W.tape ∧ W'.output = W.output ∧ W.heap.size ≤ W'.heap.size ∧ Gr B mu mu' W' ∧ Rep mu' (.sl 3 (ML F)) val' := by
  refine (h mu W ob val vs hm hv hra).mono ?_
  rintro e w' ⟨val', mu', rfl, q1, q2, q3, q4, x, q5, q6⟩
  have hno : ∀ b, b < B → ob ≠ some b := fun b hb q => by have := hob b q; omega
  exact ⟨val', mu', rfl, fun k hk => q1.block k (by omega) (hno k hk), q1.os, q1.tape, q1.output, q1.size, ⟨q2, q3, fun b j hb => q4 b j (by omega) (hno b hb)⟩, OwnAt.share q5⟩
theorem turn_step {g : Grp} {l : List Mb} {mu : Mem} {W : World} (hl : l.length ≤ 1000) (hm : MemOK mu W) {v val : Value} (hg : Rep mu (.sl 3 (ML g.ms)) v) (hv : Rep mu (.sl 3 (ML l)) val) :
    Calls Try.prog 56 #[.agg #[.int .i64 g.ge, .int .u8 g.ph, v], val] W fun e W' => ∃ v' mu', e = .returned (.agg #[.int .i64 (IntKind.i64.wrap (g.ge + 1)), .int .u8 (phaseP (offM l)), v']) ∧ Ext (fun _ => False) W W' ∧ Gr W.heap.size mu mu' W' ∧ Rep mu' (.sl 3 (ML (offM l))) v' := by
  have hgr : Rep mu g.sv (.agg #[.int .i64 g.ge, .int .u8 g.ph, v]) := .agg _ [.int .i64 g.ge, .int .u8 g.ph, v] rfl (fun j hj => by
    match j, hj with
    | 0, _ => exact .int _ _
    | 1, _ => exact .int _ _
    | 2, _ => exact hg)
  refine (turn_pure g l hl mu W [_, _] hm (repArgs_cons hgr (repArgs1 hv))).mono ?_
  rintro e w' ⟨val, mu', rfl, q1, q2, q3, q4, x, q5, q6⟩
  obtain ⟨v', rfl, hv'⟩ := rep_grp (q5 : Rep mu' _ _)
  exact ⟨v', mu', rfl, q1, ⟨q2, q3, q4⟩, hv'⟩
/-- What Leave answers. -/
def leaveG (g : Grp) (id : ByteArray) : Grp × Int :=
  if chkG g ≠ 0 then (grp0, chkG g) else if placeP id g.ms < 0 then (grp0, 20) else if 1099511627776 ≤ g.ge then (grp0, 11)
  else (⟨IntKind.i64.wrap (g.ge + 1), phaseP (offM (g.ms.take (placeP id g.ms).toNat ++ g.ms.drop ((placeP id g.ms).toNat + 1))), offM (g.ms.take (placeP id g.ms).toNat ++ g.ms.drop ((placeP id g.ms).toNat + 1))⟩, 0)
theorem results_cell_tmp {P : Program} {fn : Func} {p t : Tmp} {ty : TypeId} (h : fn.results = #[.cell p ty, .tmp t]) (tmps : Array Value) (w : World) (g : Nat) (te : TypeId) (cs : Array Value) (fr : Nat × Nat) (d : TypeDesc)
    (hp : tmps.getD p Go.undef = .pointer (some ⟨g, 0, none⟩)) (hg : w.heap[g]? = some (.cells cs te fr))
    (hu : P.underlying ty = some d) (hd : (match d with | .struct _ | .array _ _ => true | _ => false) = true) (hi : (P.info? ty).map (·.size) = some cs.size) :
    (results fn tmps).run P w = .ok (.tuple #[.agg cs, tmps.getD t Go.undef]) w := by
  have hp' : tmps[p]?.getD Go.undef = .pointer (some ⟨g, 0, none⟩) := by simpa using hp
  simp [results, h, hp', asAddr, run_loadVar_row w g te ty cs fr d hg hu hd hi]
end Go.Proofs.Ytmfkliabjfngmaa

/- Group: Leave. -/


set_option linter.unusedSimpArgs false
set_option linter.unusedVariables false
set_option maxHeartbeats 4000000
set_option maxRecDepth 1000000
namespace Go.Proofs.Ytmfkliabjfngmaa

open Go.Av Go.RowKit Go.Lib

theorem ext_box {w w1 w2 : World} {A B : Obj} (h1 : w1 = (w.alloc A).alloc B) (h : Ext (fun _ => False) w1 w2) : Ext (fun _ => False) w w2 ∧ w2.heap[w.heap.size]? = some A ∧ w2.heap[w.heap.size + 1]? = some B ∧ w.heap.size + 2 ≤ w2.heap.size := by
  subst h1
  refine ⟨⟨h.os, h.tape, h.output, by have := h.size; simp at this; omega, fun k hk _ => ?_⟩, ?_, ?_, by have := h.size; simpa using this⟩
  · rw [h.block k (by simp; omega) id, alloc_get, if_neg (by simp; omega), alloc_get, if_neg (by omega)]
  · rw [h.block _ (by simp; omega) id, alloc_get, if_neg (by simp), alloc_get, if_pos rfl]
  · rw [h.block _ (by simp) id, alloc_get, if_pos (by simp)]
/-- The world behind the first two boxes of a call. -/
structure Bx2 (w W : World) (x y z x' y' z' : Value) : Prop where
  ext : Ext (fun _ => False) w W
  b0 : W.heap[w.heap.size]? = some (.cells #[x, y, z] 43)
  b1 : W.heap[w.heap.size + 1]? = some (.cells #[x', y', z'] 43)
  sz : w.heap.size + 2 ≤ W.heap.size
theorem Bx2.step {w W W' : World} {x y z x' y' z' : Value} (h : Bx2 w W x y z x' y' z') (k : Ext (fun _ => False) W W') : Bx2 w W' x y z x' y' z' :=
  ⟨h.ext.trans k, (k.block _ (Array.getElem?_eq_some_iff.1 h.b0).1 id).trans h.b0, (k.block _ (Array.getElem?_eq_some_iff.1 h.b1).1 id).trans h.b1, Nat.le_trans h.sz k.size⟩
theorem Bx2.step2 {w W W' : World} {x y z x' y' z' : Value} (h : Bx2 w W x y z x' y' z') (k : ∀ j, j < w.heap.size + 2 → W'.heap[j]? = W.heap[j]?) (h1 : W'.os = W.os) (h2 : W'.tape = W.tape) (h3 : W'.output = W.output) (h4 : W.heap.size ≤ W'.heap.size) : Bx2 w W' x y z x' y' z' :=
  ⟨⟨h1.trans h.ext.os, h2.trans h.ext.tape, h3.trans h.ext.output, Nat.le_trans h.ext.size h4, fun j hj ht => (k j (by omega)).trans (h.ext.block j hj ht)⟩, (k _ (by omega)).trans h.b0, (k _ (by omega)).trans h.b1, Nat.le_trans h.sz h4⟩
theorem Bx2.cells {w W : World} {x y z x' y' z' : Value} (h : Bx2 w W x y z x' y' z') : (W.cell? ⟨w.heap.size, 0, none⟩ = some x ∧ W.cell? ⟨w.heap.size, 1, none⟩ = some y ∧ W.cell? ⟨w.heap.size, 2, none⟩ = some z) ∧
    (W.cell? ⟨w.heap.size + 1, 0, none⟩ = some x' ∧ W.cell? ⟨w.heap.size + 1, 1, none⟩ = some y' ∧ W.cell? ⟨w.heap.size + 1, 2, none⟩ = some z') ∧
    (W.frozen? ⟨w.heap.size + 1, 0, none⟩ = false ∧ W.frozen? ⟨w.heap.size + 1, 1, none⟩ = false ∧ W.frozen? ⟨w.heap.size + 1, 2, none⟩ = false) := by
  refine ⟨⟨?_, ?_, ?_⟩, ⟨?_, ?_, ?_⟩, ?_, ?_, ?_⟩ <;> simp [World.cell?, World.frozen?, h.b0, h.b1]
theorem ret_err {mu : Mem} {w W : World} {x y z : Value} (hm : MemOK mu W) (hx : Bx2 w W x y z (.int .i64 0) (.int .u8 0) (.slice none 0 0)) (n : Int) {W2 : World} (h0 : ∀ k, k ≠ w.heap.size + 1 → W2.heap[k]? = W.heap[k]?) (ho : W2.os = W.os) (ht : W2.tape = W.tape) (hp : W2.output = W.output) (hs : W2.heap.size = W.heap.size) (hmw : ∀ j, mu (w.heap.size + 1) j = none) :
    ∃ val mu', Ending.returned (.tuple #[.agg #[.int .i64 0, .int .u8 0, .slice none 0 0], .int .i64 n]) = .returned val ∧ Ext (fun _ => False) w W2 ∧ mu.le mu' ∧ MemOK mu' W2 ∧ (∀ b j, b < w.heap.size → mu' b j = mu b j) ∧ RetRep w.heap.size mu' W2 (.tup [.sv grp0.sv, .sv (.int .i64 n)]) val := by
  refine ⟨_, mu, rfl, ⟨ho.trans hx.ext.os, ht.trans hx.ext.tape, hp.trans hx.ext.output, by rw [hs]; exact hx.ext.size, fun k hk hf => (h0 k (by omega)).trans (hx.ext.block k hk hf)⟩, Mem.le_refl _, fun b' j' v' hv' => ?_, fun _ _ _ => rfl, fun _ => none, ?_, fun _ _ q => by cases q⟩
  · obtain ⟨t1, t2⟩ := hm b' j' v' hv'
    have hne : b' ≠ w.heap.size + 1 := fun q => by subst q; rw [hmw] at hv'; cases hv'
    exact ⟨by rw [← t1]; exact World.cell?_of_block (h0 b' hne), t2⟩
  · refine ⟨[_, _], rfl, rfl, fun j hj => ?_⟩
    match j, hj with
    | 0, _ => exact (.agg _ [.int .i64 0, .int .u8 0, .slice none 0 0] rfl (fun j hj => by
        match j, hj with
        | 0, _ => exact .int _ _
        | 1, _ => exact .int _ _
        | 2, _ => exact .slnil 3) : Rep mu grp0.sv _)
    | 1, _ => exact (.int _ _ : Rep mu (.int .i64 n) _)
/-- What a call leaves behind. -/
def PostR (mu : Mem) (w : World) (rv : LV) (e : Ending) (w' : World) : Prop := ∃ val mu', e = .returned val ∧ Ext (fun _ => False) w w' ∧ mu.le mu' ∧ MemOK mu' w' ∧ (∀ b j, b < w.heap.size → mu' b j = mu b j) ∧ RetRep w.heap.size mu' w' rv val
theorem ret_grpV {mu mu' : Mem} {w W : World} {x y z x' y' z' : Value} {B : Nat} {g : Grp} {v : Value} (hg : Gr B mu mu' W) (hB : w.heap.size + 2 ≤ B) (hx : Bx2 w W x y z x' y' z') (n : Int) {W2 : World} (h0 : ∀ k, k ≠ w.heap.size + 1 → W2.heap[k]? = W.heap[k]?) (ho : W2.os = W.os) (ht : W2.tape = W.tape) (hp : W2.output = W.output) (hs : W2.heap.size = W.heap.size) (hmw : ∀ j, mu (w.heap.size + 1) j = none) (hv : Rep mu' (.sl 3 (ML g.ms)) v) :
    PostR mu w (.tup [.sv g.sv, .sv (.int .i64 n)]) (.returned (.tuple #[.agg #[.int .i64 g.ge, .int .u8 g.ph, v], .int .i64 n])) W2 := by
  refine ⟨_, mu', rfl, ⟨ho.trans hx.ext.os, ht.trans hx.ext.tape, hp.trans hx.ext.output, by rw [hs]; exact hx.ext.size, fun k hk hf => (h0 k (by omega)).trans (hx.ext.block k hk hf)⟩, hg.le, fun b' j' v' hv' => ?_, fun b j hb => hg.low b j (by omega), fun _ => none, ?_, fun _ _ q => by cases q⟩
  · obtain ⟨t1, t2⟩ := hg.ok b' j' v' hv'
    have hne : b' ≠ w.heap.size + 1 := fun q => by subst q; rw [hg.low _ _ (by omega), hmw] at hv'; cases hv'
    exact ⟨by rw [← t1]; exact World.cell?_of_block (h0 b' hne), t2⟩
  · refine ⟨[_, _], rfl, rfl, fun j hj => ?_⟩
    match j, hj with
    | 0, _ => exact (.agg _ [.int .i64 g.ge, .int .u8 g.ph, v] rfl (fun j hj => by
        match j, hj with
        | 0, _ => exact .int _ _
        | 1, _ => exact .int _ _
        | 2, _ => exact hv) : Rep mu' g.sv _)
    | 1, _ => exact (.int _ _ : Rep mu' (.int .i64 n) _)
theorem rep_slice {mu : Mem} {z : Nat} {xs : List SV} {v : Value} (h : Rep mu (.sl z xs) v) : ∃ p n c, v = .slice p n c := by
  rcases h.inv_sl with ⟨⟨p, cap, rfl, _⟩, hx⟩ | ⟨b, off, cap, vals, rfl, _⟩
  · exact ⟨_, _, _, rfl⟩
  · exact ⟨_, _, _, rfl⟩
theorem leave_pure (g : Grp) (id : ByteArray) (hl : g.ms.length ≤ 1000) : Pure Try.prog 32 [g.sv, .str id] (.tup [.sv (leaveG g id).1.sv, .sv (.int .i64 (leaveG g id).2)]) := by
  intro mu w vs hm hra
  obtain ⟨x, a, rfl⟩ : ∃ x a, vs = [x, a] := by
    match vs, hra.1 with
    | [x, a], _ => exact ⟨x, a, rfl⟩
  obtain ⟨v, rfl, hv⟩ := rep_grp (hra.2 0 (by simp))
  obtain rfl : a = .string id := Rep.inv_str (hra.2 1 (by simp))
  have hgr : Rep mu g.sv (.agg #[.int .i64 g.ge, .int .u8 g.ph, v]) := hra.2 0 (by simp)
  have HCHK : Aside (∀ W, MemOK mu W → Calls Try.prog 34 #[.agg #[.int .i64 g.ge, .int .u8 g.ph, v]] W fun e w' => e = .returned (.int .i64 (chkG g)) ∧ Ext (fun _ => False) W w' ∧ MemOK mu w') :=
    fun W hW => pint (chk_pure g (by omega)) hW (repArgs1 hgr)
  have HPL : Aside (∀ W, MemOK mu W → Calls Try.prog 49 #[.agg #[.int .i64 g.ge, .int .u8 g.ph, v], .string id] W fun e w' => e = .returned (.int .i64 (placeP id g.ms)) ∧ Ext (fun _ => False) W w' ∧ MemOK mu w') :=
    fun W hW => pint (place_pure g id (by omega)) hW (repArgs_cons hgr (repArgs1 (.str _)))
  have hmw : ∀ j, mu (w.heap.size + 1) j = none := fun j => by
    cases q : mu (w.heap.size + 1) j with
    | none => rfl
    | some v => have := hm.lt q; omega
  have HMW : Aside _ := hmw
  have HM : Aside (MemOK mu w) := hm
  have HV : Aside (Rep mu (.sl 3 (ML g.ms)) v) := hv
  have hpr := place_range id g.ms
  have hz' : leaveG g id = leaveG g id := rfl
  show Calls _ _ _ _ (PostR mu w _)
  unfold leaveG
  clear hgr hm hv hmw hra hz'
  generalize chkG g = z at HCHK ⊢
  generalize placeP id g.ms = p at HPL hpr ⊢
  obtain ⟨ge, ph, l⟩ := g
  simp only at *
  by_cases h1 : z = 0
  · subst h1
    rw [if_neg (by simp)]
    by_cases hp : p < 0
    · rw [if_pos hp]
      go_enter Try.func32, Try.ntmps32
      go_wp2_with (first
        | (go_at_call 34
           refine (HCHK.out _ ((HM.out.alloc _).alloc _)).mono ?_
           rintro e w2 ⟨rfl, hx, hm2⟩
           obtain ⟨k1, k2, k3, k4⟩ := ext_box rfl hx
           have hB : Bx2 w w2 (.int .i64 ge) (.int .u8 ph) v (.int .i64 0) (.int .u8 0) (.slice none 0 0) := ⟨k1, k2, k3, k4⟩
           obtain ⟨⟨c0, c1, c2⟩, ⟨d0, d1, d2⟩, d3, d4, d5⟩ := hB.cells
           have HB : Aside (Bx2 w w2 (.int .i64 ge) (.int .u8 ph) v (.int .i64 0) (.int .u8 0) (.slice none 0 0)) := hB
           have HM2 : Aside (MemOK mu w2) := hm2
           clear hB k1 k2 k3 k4 hx hm2
           simp only [])
        | (go_at_call 49
           refine (HPL.out _ HM2.out).mono ?_
           rintro e w3 ⟨rfl, hx, hm2⟩
           have hB : Bx2 w w3 (.int .i64 ge) (.int .u8 ph) v (.int .i64 0) (.int .u8 0) (.slice none 0 0) := HB.out.step hx
           obtain ⟨⟨c0', c1', c2'⟩, ⟨d0', d1', d2'⟩, d3', d4', d5'⟩ := hB.cells
           have HB3 : Aside (Bx2 w w3 (.int .i64 ge) (.int .u8 ph) v (.int .i64 0) (.int .u8 0) (.slice none 0 0)) := hB
           have HM3 : Aside (MemOK mu w3) := hm2
           clear hB hx hm2 c0 c1 c2 d0 d1 d2 d3 d4 d5
           simp only [])
        | go_in)
      have G1 := blk_same (j := 2) (blk_same (j := 1) (blk_same (j := 0) HB3.out.b1 (.int .i64 0)) (.int .u8 0)) (.slice none 0 0)
      refine bodyPost_ret (results_cell_tmp rfl _ _ (w.heap.size + 1) _ _ _ _ rfl G1 (show Try.prog.underlying 43 = some (Try.prog.underlying 43).get! by kernel_rfl) (by kernel_rfl) (by kernel_rfl)) rfl ?_
      exact (show PostR _ _ _ _ _ from ret_err HM3.out HB3.out 20 (fun k hk => (blk_other hk _).trans ((blk_other hk _).trans (blk_other hk _))) rfl rfl rfl (by simp [World.setCell]) HMW.out)
    · rw [if_neg hp]
      by_cases hg : 1099511627776 ≤ ge
      · rw [if_pos hg]
        go_enter Try.func32, Try.ntmps32
        go_wp2_with (first
          | (go_at_call 34
             refine (HCHK.out _ ((HM.out.alloc _).alloc _)).mono ?_
             rintro e w2 ⟨rfl, hx, hm2⟩
             obtain ⟨k1, k2, k3, k4⟩ := ext_box rfl hx
             have hB : Bx2 w w2 (.int .i64 ge) (.int .u8 ph) v (.int .i64 0) (.int .u8 0) (.slice none 0 0) := ⟨k1, k2, k3, k4⟩
             obtain ⟨⟨c0, c1, c2⟩, ⟨d0, d1, d2⟩, d3, d4, d5⟩ := hB.cells
             have HB : Aside (Bx2 w w2 (.int .i64 ge) (.int .u8 ph) v (.int .i64 0) (.int .u8 0) (.slice none 0 0)) := hB
             have HM2 : Aside (MemOK mu w2) := hm2
             clear hB k1 k2 k3 k4 hx hm2
             simp only [])
          | (go_at_call 49
             refine (HPL.out _ HM2.out).mono ?_
             rintro e w3 ⟨rfl, hx, hm2⟩
             have hB : Bx2 w w3 (.int .i64 ge) (.int .u8 ph) v (.int .i64 0) (.int .u8 0) (.slice none 0 0) := HB.out.step hx
             obtain ⟨⟨c0', c1', c2'⟩, ⟨d0', d1', d2'⟩, d3', d4', d5'⟩ := hB.cells
             have HB3 : Aside (Bx2 w w3 (.int .i64 ge) (.int .u8 ph) v (.int .i64 0) (.int .u8 0) (.slice none 0 0)) := hB
             have HM3 : Aside (MemOK mu w3) := hm2
             clear hB hx hm2 c0 c1 c2 d0 d1 d2 d3 d4 d5
             simp only [])
          | go_in)
        have G1 := blk_same (j := 2) (blk_same (j := 1) (blk_same (j := 0) HB3.out.b1 (.int .i64 0)) (.int .u8 0)) (.slice none 0 0)
        refine bodyPost_ret (results_cell_tmp rfl _ _ (w.heap.size + 1) _ _ _ _ rfl G1 (show Try.prog.underlying 43 = some (Try.prog.underlying 43).get! by kernel_rfl) (by kernel_rfl) (by kernel_rfl)) rfl ?_
        exact (show PostR _ _ _ _ _ from ret_err HM3.out HB3.out 11 (fun k hk => (blk_other hk _).trans ((blk_other hk _).trans (blk_other hk _))) rfl rfl rfl (by simp [World.setCell]) HMW.out)
      · rw [if_neg hg]
        obtain ⟨i, rfl⟩ : ∃ i : Nat, p = i := ⟨p.toNat, by omega⟩
        have hil : i < l.length := by omega
        have hw : IntKind.i64.wrap ((i : Int) + 1) = (i : Int) + 1 := by rw [IntKind.wrap_i64]; omega
        have hti : ((i : Int)).toNat = i := by omega
        rw [hti]
        go_enter Try.func32, Try.ntmps32
        go_wp2_with (first
          | (go_at_call 34
             refine (HCHK.out _ ((HM.out.alloc _).alloc _)).mono ?_
             rintro e w2 ⟨rfl, hx, hm2⟩
             obtain ⟨k1, k2, k3, k4⟩ := ext_box rfl hx
             have hB : Bx2 w w2 (.int .i64 ge) (.int .u8 ph) v (.int .i64 0) (.int .u8 0) (.slice none 0 0) := ⟨k1, k2, k3, k4⟩
             obtain ⟨⟨c0, c1, c2⟩, ⟨d0, d1, d2⟩, d3, d4, d5⟩ := hB.cells
             have HB : Aside (Bx2 w w2 (.int .i64 ge) (.int .u8 ph) v (.int .i64 0) (.int .u8 0) (.slice none 0 0)) := hB
             have HM2 : Aside (MemOK mu w2) := hm2
             clear hB k1 k2 k3 k4 hx hm2
             simp only [])
          | (go_at_call 49
             refine (HPL.out _ HM2.out).mono ?_
             rintro e w3 ⟨rfl, hx, hm2⟩
             have hB : Bx2 w w3 (.int .i64 ge) (.int .u8 ph) v (.int .i64 0) (.int .u8 0) (.slice none 0 0) := HB.out.step hx
             obtain ⟨⟨c0', c1', c2'⟩, ⟨d0', d1', d2'⟩, d3', d4', d5'⟩ := hB.cells
             have HB3 : Aside (Bx2 w w3 (.int .i64 ge) (.int .u8 ph) v (.int .i64 0) (.int .u8 0) (.slice none 0 0)) := hB
             have HM3 : Aside (MemOK mu w3) := hm2
             clear hB hx hm2 c0 c1 c2 d0 d1 d2 d3 d4 d5
             simp only [])
          | go_in)
        have HDEL : Aside _ := delete_pure l i hil hl
        go_region_with (first
          | (go_at_call 58
             refine (clone_arr (W := w3.drew) HM3.out HV.out hl).mono ?_
             rintro e w4 ⟨val4, mu4, ob, rfl, hx, hgr, harr, hob⟩
             have hB : Bx2 w w4 (.int .i64 ge) (.int .u8 ph) v (.int .i64 0) (.int .u8 0) (.slice none 0 0) := HB3.out.step (Ext.trans (b := w3.drew) ⟨rfl, rfl, rfl, Nat.le_refl _, fun _ _ _ => rfl⟩ hx)
             obtain ⟨⟨a0, a1, a2⟩, _⟩ := hB.cells
             have HB4 : Aside (Bx2 w w4 (.int .i64 ge) (.int .u8 ph) v (.int .i64 0) (.int .u8 0) (.slice none 0 0)) := hB
             have HG4 : Aside (Gr w3.heap.size mu mu4 w4 ∧ ArrV mu4 w4 3 (ML l) val4 ob ∧ (∀ b, ob = some b → w3.heap.size ≤ b) ∧ w3.heap.size ≤ w4.heap.size) := ⟨hgr, harr, hob, hx.size⟩
             clear hB hx hgr harr hob)
          | (go_at_call 62
             refine (own_step HDEL.out (W := w4) HG4.out.1.ok HG4.out.2.1 (repArgs_cons (.int _ _) (repArgs1 (.int _ _))) (B := w3.heap.size) HG4.out.2.2.1 HG4.out.2.2.2).mono ?_
             rintro e w5 ⟨val5, mu5, rfl, g1, g2, g3, g4, g5, hgr, hrep⟩
             have hs3 : w.heap.size + 2 ≤ w3.heap.size := HB3.out.sz
             have hB : Bx2 w w5 (.int .i64 ge) (.int .u8 ph) v (.int .i64 0) (.int .u8 0) (.slice none 0 0) := HB4.out.step2 (fun j hj => g1 j (by omega)) g2 g3 g4 g5
             obtain ⟨⟨b0, b1, b2⟩, _⟩ := hB.cells
             have HB5 : Aside (Bx2 w w5 (.int .i64 ge) (.int .u8 ph) v (.int .i64 0) (.int .u8 0) (.slice none 0 0)) := hB
             have HG5 : Aside (Gr w3.heap.size mu mu5 w5 ∧ Rep mu5 (.sl 3 (ML (l.take i ++ l.drop (i + 1)))) val5 ∧ w3.heap.size ≤ w5.heap.size) :=
               ⟨⟨Mem.le_trans HG4.out.1.le hgr.le, hgr.ok, fun b j hb => (hgr.low b j hb).trans (HG4.out.1.low b j hb)⟩, hrep, Nat.le_trans HG4.out.2.2.2 g5⟩
             clear hB g1 g2 g3 g4 g5 hgr hrep)
          | (go_at_call 56
             refine (turn_step (g := ⟨ge, ph, l⟩) (l := l.take i ++ l.drop (i + 1)) (by simp; omega) (W := w5) HG5.out.1.ok (HV.out.mono HG5.out.1.le) HG5.out.2.1).mono ?_
             rintro e w6 ⟨v6, mu6, rfl, hx, hgr, hrep⟩
             obtain ⟨ap, an, ac, rfl⟩ := rep_slice hrep
             have hB : Bx2 w w6 (.int .i64 ge) (.int .u8 ph) v (.int .i64 0) (.int .u8 0) (.slice none 0 0) := HB5.out.step hx
             obtain ⟨⟨x0, x1, x2⟩, ⟨y0, y1, y2⟩, y3, y4, y5⟩ := hB.cells
             have HB6 : Aside (Bx2 w w6 (.int .i64 ge) (.int .u8 ph) v (.int .i64 0) (.int .u8 0) (.slice none 0 0)) := hB
             have HG6 : Aside (Gr w3.heap.size mu mu6 w6 ∧ Rep mu6 (.sl 3 (ML (offM (l.take i ++ l.drop (i + 1))))) (.slice ap an ac)) :=
               ⟨⟨Mem.le_trans HG5.out.1.le hgr.le, hgr.ok, fun b j hb => (hgr.low b j (by have := HG5.out.2.2; omega)).trans (HG5.out.1.low b j hb)⟩, hrep⟩
             clear hB hx hgr hrep))
        all_goals go_wp2
        all_goals (
          have G1 := blk_same (j := 2) (blk_same (j := 1) (blk_same (j := 0) HB6.out.b1 (.int .i64 (IntKind.i64.wrap (ge + 1)))) (.int .u8 (phaseP (offM (l.take i ++ l.drop (i + 1)))))) (.slice ap an ac)
          refine bodyPost_ret (results_cell_tmp rfl _ _ (w.heap.size + 1) _ _ _ _ rfl G1 (show Try.prog.underlying 43 = some (Try.prog.underlying 43).get! by kernel_rfl) (by kernel_rfl) (by kernel_rfl)) rfl ?_
          exact ret_grpV (g := ⟨IntKind.i64.wrap (ge + 1), phaseP (offM (l.take i ++ l.drop (i + 1))), offM (l.take i ++ l.drop (i + 1))⟩) HG6.out.1 HB3.out.sz HB6.out 0 (fun k hk => (blk_other hk _).trans ((blk_other hk _).trans (blk_other hk _))) rfl rfl rfl (by simp [World.setCell]) HMW.out HG6.out.2)
  · rw [if_pos h1]
    have h1b : (z == 0) = false := by simpa using h1
    have h1c : (z != 0) = true := by simpa using h1
    go_enter Try.func32, Try.ntmps32
    go_wp2_with (first
      | (go_at_call 34
         refine (HCHK.out _ ((HM.out.alloc _).alloc _)).mono ?_
         rintro e w2 ⟨rfl, hx, hm2⟩
         obtain ⟨k1, k2, k3, k4⟩ := ext_box rfl hx
         have hB : Bx2 w w2 (.int .i64 ge) (.int .u8 ph) v (.int .i64 0) (.int .u8 0) (.slice none 0 0) := ⟨k1, k2, k3, k4⟩
         obtain ⟨⟨c0, c1, c2⟩, ⟨d0, d1, d2⟩, d3, d4, d5⟩ := hB.cells
         have HB : Aside (Bx2 w w2 (.int .i64 ge) (.int .u8 ph) v (.int .i64 0) (.int .u8 0) (.slice none 0 0)) := hB
         have HM2 : Aside (MemOK mu w2) := hm2
         clear hB k1 k2 k3 k4 hx hm2
         simp only [])
      | go_in)
    have G1 := blk_same (j := 2) (blk_same (j := 1) (blk_same (j := 0) HB.out.b1 (.int .i64 0)) (.int .u8 0)) (.slice none 0 0)
    refine bodyPost_ret (results_cell_tmp rfl _ _ (w.heap.size + 1) _ _ _ _ rfl G1 (show Try.prog.underlying 43 = some (Try.prog.underlying 43).get! by kernel_rfl) (by kernel_rfl) (by kernel_rfl)) rfl ?_
    exact (show PostR _ _ _ _ _ from ret_err HM2.out HB.out z (fun k hk => (blk_other hk _).trans ((blk_other hk _).trans (blk_other hk _))) rfl rfl rfl (by simp [World.setCell]) HMW.out)
end Go.Proofs.Ytmfkliabjfngmaa
