import Derived.Test.YtabidcdfmkkegaaAvC
import Derived.Laws.Entries
namespace Go.Av

/-- A constant, as an abstract value. -/
def svOf : Value → Option SV
  | .bool b => some (.bool b)
  | .int k n => some (.int k n)
  | .string s => some (.str s)
  | .pointer none => some .nilp
  | .slice none 0 0 => some .nils
  | .map none => some .nilm
  | .nilFunc => some .nilf
  | _ => none

theorem svOf_rep {v : Value} {s : SV} (h : svOf v = some s) (mu : Mem) : Rep mu s v := by
  unfold svOf at h
  split at h <;> first | (cases h; constructor) | cases h

def svOfL : List Value → Option (List SV)
  | [] => some []
  | v :: r => match svOf v, svOfL r with
    | some s, some l => some (s :: l)
    | _, _ => none
theorem svOfL_length : ∀ {vs : List Value} {ss : List SV}, svOfL vs = some ss → ss.length = vs.length
  | [], ss, h => by cases h; rfl
  | v :: r, ss, h => by
    simp only [svOfL] at h
    split at h
    · rename_i s l h1 h2
      cases h
      simp [svOfL_length h2]
    · cases h
theorem svOfL_rep (mu : Mem) : ∀ {vs : List Value} {ss : List SV}, svOfL vs = some ss → ∀ j, j < ss.length → Rep mu (ss.getD j .undef) (vs.getD j Go.undef)
  | [], ss, h, j, hj => by cases h; simp at hj
  | v :: r, ss, h, j, hj => by
    simp only [svOfL] at h
    split at h
    · rename_i s l h1 h2
      cases h
      cases j with
      | zero => simpa using svOf_rep h1 mu
      | succ j => simpa using svOfL_rep mu h2 j (by simpa using hj)
    · cases h

def compO : Operand → Option AO
  | .tmp t => some (.t t)
  | .const v => (svOf v).map .c
  | .func f => some (.c (.fn f [] []))
  | .global _ => none

variable {P : Program} {w0 : World} {mu0 : Mem} {T : Nat → Prop} {g g' : Gh} {st : St} {a : Act} {w w' : World}

theorem RepL.gv {s : Nat} {lv : LV} {val : Value} (h : RepL g w s lv val) (hg : lv.gv.1 = true) : RepL g w s lv.gv.2 val := by
  induction lv with
  | gd c v ih =>
    simp only [LV.gv, Bool.and_eq_true] at hg ⊢
    exact ih (h.1 hg.1) hg.2
  | _ => exact h

theorem RepL.sh {s : Nat} {lv : LV} {val : Value} {v : SV} (h : RepL g w s lv val) (hv : lv.sh? = some v) : Rep g.mu v val := by
  cases lv <;> simp [LV.sh?] at hv
  · subst hv; exact h
  · subst hv; exact OwnAt.share h

theorem compO_rep (h : Sim w0 mu0 T g st a w) {x : Operand} {o : AO} (hx : compO x = some o) (hg : (rdl st o).1 = true) :
    (∃ s, x = .tmp s ∧ RepL g w s (rdl st o).2 (a.eval x)) ∨ (∃ v, (rdl st o).2 = .sv v ∧ Rep g.mu v (a.eval x)) := by
  cases x with
  | tmp t =>
    simp only [compO, Option.some.injEq] at hx
    subst hx
    refine .inl ⟨t, rfl, ?_⟩
    have := h.slots t
    simp only [rdl] at hg ⊢
    simpa [Act.eval] using this.gv hg
  | const v =>
    simp only [compO, Option.map_eq_some_iff] at hx
    obtain ⟨s, hs, rfl⟩ := hx
    exact .inr ⟨s, rfl, by simpa [Act.eval] using svOf_rep hs g.mu⟩
  | func f =>
    simp only [compO, Option.some.injEq] at hx
    subst hx
    exact .inr ⟨_, rfl, by simpa [Act.eval] using Rep.fn (mu := g.mu) f [] [] [] [] rfl rfl (by simp) (by simp)⟩
  | global n => simp [compO] at hx

theorem rd_rep (h : Sim w0 mu0 T g st a w) {x : Operand} {o : AO} (hx : compO x = some o) {v : SV} (hr : rd st o = some (true, v)) : Rep g.mu v (a.eval x) := by
  simp only [rd, Option.map_eq_some_iff, Prod.mk.injEq] at hr
  obtain ⟨u, hu, hg, rfl⟩ := hr
  rcases compO_rep h hx hg with ⟨s, _, hs⟩ | ⟨v, hv, hs⟩
  · exact hs.sh hu
  · rw [hv] at hu; simp [LV.sh?] at hu; subst hu; exact hs

theorem rdl_lptr (h : Sim w0 mu0 T g st a w) {x : Operand} {o : AO} (hx : compO x = some o) {s off : Nat} (hr : rdl st o = (true, .lptr s off)) : ∃ b, g.bx s = some b ∧ a.eval x = .pointer (some ⟨b, off, none⟩) := by
  rcases compO_rep h hx (by rw [hr]) with ⟨t, _, hs⟩ | ⟨v, hv, hs⟩
  · rw [hr] at hs; exact hs
  · rw [hr] at hv; cases hv
theorem rdl_lsl (h : Sim w0 mu0 T g st a w) {x : Operand} {o : AO} (hx : compO x = some o) {s z off n cap : Nat} (hr : rdl st o = (true, .lsl s z off n cap)) : ∃ b, g.bx s = some b ∧ a.eval x = .slice (some ⟨b, off, none⟩) n cap := by
  rcases compO_rep h hx (by rw [hr]) with ⟨t, _, hs⟩ | ⟨v, hv, hs⟩
  · rw [hr] at hs; exact hs
  · rw [hr] at hv; cases hv
theorem rdl_tup (h : Sim w0 mu0 T g st a w) {x : Operand} {o : AO} (hx : compO x = some o) {vs : List RV} (hr : rdl st o = (true, .tup vs)) : Rep g.mu (.tup (vs.map RV.share)) (a.eval x) := by
  rcases compO_rep h hx (by rw [hr]) with ⟨t, _, hs⟩ | ⟨v, hv, hs⟩
  · rw [hr] at hs
    obtain ⟨us, h1, h2, h3⟩ := hs
    rw [h1]
    refine .tup _ us (by simpa using h2) (fun j hj => ?_)
    have hj' : j < vs.length := by simpa using hj
    have := (h3 j hj').share
    simpa [List.getD_eq_getElem?_getD, hj'] using this
  · rw [hr] at hv; cases hv
theorem rdl_sv (h : Sim w0 mu0 T g st a w) {x : Operand} {o : AO} (hx : compO x = some o) {v : SV} (hr : rdl st o = (true, .sv v)) : Rep g.mu v (a.eval x) :=
  rd_rep h hx (by simp [rd, hr, LV.sh?])

/-! ### inversions -/
theorem Rep.inv_int {mu : Mem} {k : IntKind} {n : Int} {v : Value} (h : Rep mu (.int k n) v) : v = .int k n := by cases h; rfl
theorem Rep.inv_bool {mu : Mem} {b : Bool} {v : Value} (h : Rep mu (.bool b) v) : v = .bool b := by cases h; rfl
theorem Rep.inv_str {mu : Mem} {s : ByteArray} {v : Value} (h : Rep mu (.str s) v) : v = .string s := by cases h; rfl
theorem Rep.inv_nilp {mu : Mem} {v : Value} (h : Rep mu .nilp v) : v = .pointer none := by cases h; rfl
theorem Rep.inv_anyb {mu : Mem} {v : Value} (h : Rep mu .anyb v) : ∃ b, v = .bool b := by cases h; exact ⟨_, rfl⟩
theorem Rep.inv_nils {mu : Mem} {v : Value} (h : Rep mu .nils v) : v = .slice none 0 0 := by cases h; rfl
theorem Rep.inv_ptr {mu : Mem} {b off : Nat} {v : Value} (h : Rep mu (.ptr b off) v) : v = .pointer (some ⟨b, off, none⟩) := by cases h; rfl
theorem Rep.inv_agg {mu : Mem} {cs : List SV} {v : Value} (h : Rep mu (.agg cs) v) : ∃ vs : List Value, v = .agg vs.toArray ∧ vs.length = cs.length ∧ ∀ j, j < cs.length → Rep mu (cs.getD j .undef) (vs.getD j Go.undef) := by
  cases h with | agg _ vs h1 h2 => exact ⟨vs, rfl, h1, h2⟩
theorem Rep.inv_tup {mu : Mem} {cs : List SV} {v : Value} (h : Rep mu (.tup cs) v) : ∃ vs : List Value, v = .tuple vs.toArray ∧ vs.length = cs.length ∧ ∀ j, j < cs.length → Rep mu (cs.getD j .undef) (vs.getD j Go.undef) := by
  cases h with | tup _ vs h1 h2 => exact ⟨vs, rfl, h1, h2⟩
theorem Rep.inv_sl {mu : Mem} {sz : Nat} {xs : List SV} {v : Value} (h : Rep mu (.sl sz xs) v) : ((∃ p cap, v = .slice p 0 cap ∧ (p = none → cap = 0)) ∧ xs = []) ∨
    ∃ b off cap, ∃ vals : Nat → Nat → Value, v = .slice (some ⟨b, off, none⟩) xs.length cap ∧ xs.length ≤ cap ∧ (∀ x ∈ xs, x.nc = sz) ∧
      (∀ i j, i < xs.length → j < sz → mu b (off + i * sz + j) = some (vals i j)) ∧ (∀ i j, i < xs.length → j < sz → Rep mu ((xs.getD i .undef).cell j) (vals i j)) := by
  cases h with
  | slnil => exact .inl ⟨⟨none, 0, rfl, fun _ => rfl⟩, rfl⟩
  | sle _ a cap => exact .inl ⟨⟨some a, cap, rfl, fun e => by cases e⟩, rfl⟩
  | sl _ _ b off cap vals h1 h2 h3 h4 => exact .inr ⟨b, off, cap, vals, rfl, h1, h2, h3, h4⟩
theorem Rep.inv_eptr {mu : Mem} {e : SV} {k : Nat} {v : Value} (h : Rep mu (.eptr e k) v) : ∃ b off, ∃ vals : Nat → Value, v = .pointer (some ⟨b, off + k, none⟩) ∧
    (∀ j, j < e.nc → mu b (off + j) = some (vals j)) ∧ (∀ j, j < e.nc → Rep mu (e.cell j) (vals j)) := by
  cases h with | eptr _ _ b off vals h1 h2 => exact ⟨b, off, vals, rfl, h1, h2⟩

/-- A value's cells, one by one. -/
theorem Rep.cells {mu : Mem} {v : SV} {x : Value} (h : Rep mu v x) (hv : v ≠ .undef) : x.cells.size = v.nc ∧ ∀ j, j < v.nc → Rep mu (v.cell j) (x.cells.getD j Go.undef) := by
  cases h with
  | undef => exact absurd rfl hv
  | agg cs vs h1 h2 => exact ⟨by simp [Value.cells, SV.nc, SV.cells, h1], fun j hj => by simpa [Value.cells, SV.cell, SV.cells, Array.getD_eq_getD_getElem?] using h2 j (by simpa [SV.nc, SV.cells] using hj)⟩
  | _ => refine ⟨by simp [Value.cells, SV.nc, SV.cells], fun j hj => ?_⟩
         simp only [SV.nc, SV.cells, List.length_cons, List.length_nil, Nat.zero_add, Nat.lt_one_iff] at hj
         subst hj
         simp only [SV.cell, SV.cells, Value.cells, List.getD_cons_zero, Array.getD_eq_getD_getElem?, List.getElem?_toArray, List.getElem?_cons_zero, Option.getD_some]
         constructor <;> assumption

def CellsAt (mu : Mem) (w : World) (b o : Nat) (cs : List SV) : Prop := ∀ j, j < cs.length → ∃ val, w.cell? ⟨b, o + j, none⟩ = some val ∧ Rep mu (cs.getD j .undef) val

def ldk (P : Program) (t : TypeId) : Option (Option Nat) :=
  match P.underlying t, P.info? t with
  | some (.struct _), some i => some (some i.size)
  | some (.array _ _), some i => some (some i.size)
  | some _, some _ => some none
  | _, _ => none

theorem run_sizeOf' {t : TypeId} {i : TypeInfo} (h : P.info? t = some i) (w : World) : (sizeOf t).run P w = .ok i.size w := by simp [sizeOf, typeInfo, h]

theorem load_ok {mu : Mem} {t : TypeId} {n : Option Nat} (ht : ldk P t = some n) {b o k : Nat} {cs : List SV} (hc : CellsAt mu w b o cs) (hk : k + n.getD 1 ≤ cs.length) :
    ∃ val, (loadVar t ⟨b, o + k, none⟩).run P w = .ok val w ∧ Rep mu (partV cs k n) val := by
  have hagg : ∀ m i, P.info? t = some i → i.size = m → k + m ≤ cs.length → (isAgg t).run P w = .ok true w → ∃ val, (loadVar t ⟨b, o + k, none⟩).run P w = .ok val w ∧ Rep mu (partV cs k (some m)) val := by
    intro m i hi hm hle hag
    let f : Nat → Value := fun j => (w.cell? ⟨b, o + (k + j), none⟩).getD Go.undef
    have hf : ∀ j, j < m → w.cell? ⟨b, o + (k + j), none⟩ = some (f j) ∧ Rep mu (cs.getD (k + j) .undef) (f j) := by
      intro j hj
      obtain ⟨val, h1, h2⟩ := hc (k + j) (by omega)
      exact ⟨by simp [f, h1], by simpa [f, h1] using h2⟩
    refine ⟨.agg ((List.range m).map f).toArray, ?_, ?_⟩
    · simp only [loadVar, Sem.run_bind, hag, Result.andThen_ok, if_true, run_sizeOf' hi, hm]
      rw [run_loadCells w _ m f (fun j hj => by rw [Addr.add_lit, Nat.add_assoc]; exact (hf j hj).1)]
      simp
    · refine .agg _ _ (by simp; omega) (fun j hj => ?_)
      have hj' : j < m := by simp at hj; omega
      have := (hf j hj').2
      simpa [List.getD, hj'] using this
  have hsc : (isAgg t).run P w = .ok false w → k + 1 ≤ cs.length → ∃ val, (loadVar t ⟨b, o + k, none⟩).run P w = .ok val w ∧ Rep mu (partV cs k none) val := by
    intro hag hle
    obtain ⟨val, h1, h2⟩ := hc k (by omega)
    exact ⟨val, by simp [loadVar, hag, h1], h2⟩
  unfold ldk at ht
  split at ht
  · rename_i fs i hu hi
    cases ht
    exact hagg _ i hi rfl (by simpa using hk) (by simp [isAgg, run_underlying hu])
  · rename_i m e i hu hi
    cases ht
    exact hagg _ i hi rfl (by simpa using hk) (by simp [isAgg, run_underlying hu])
  · rename_i d i h1 h2 hu hi
    cases ht
    refine hsc ?_ (by simpa using hk)
    simp only [isAgg, Sem.run_bind, run_underlying hu, Result.andThen_ok]
    rfl
  · cases ht
end Go.Av
