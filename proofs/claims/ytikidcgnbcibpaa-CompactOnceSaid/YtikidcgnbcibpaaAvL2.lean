import Derived.Test.YtikidcgnbcibpaaAvL1
import Derived.Laws.StructEq
import Derived.ChangeKeysEq
import Derived.Laws.RangeString

set_option linter.unusedVariables false
set_option linter.unusedSimpArgs false

set_option linter.unusedSimpArgs false
namespace Go.Av
variable {P : Program} {w0 : World} {mu0 : Mem} {T : Tc} {g g' : Gh} {st st' : St} {a : Act} {w w' : World}

def eqFs (P : Program) (rec : TypeId → Option (List Nat)) : Nat → List Field → Option (List Nat)
  | _, [] => some []
  | off, f :: r => match rec f.type, eqFs P rec (off + P.cellsOf f.type) r with
    | some n, some l => if f.name ≠ "_" ∧ f.offset = off ∧ P.cellsOf f.type = n.length ∧ n ≠ [] then some (n ++ l) else none
    | _, _ => none
/-- Of which kinds a value's cells are, whose type is compared cell by cell. -/
def eqTy (P : Program) : Nat → TypeId → Option (List Nat)
  | 0, _ => none
  | d + 1, t => match P.underlying t with
    | some .bool => some [0]
    | some (.int _) => some [1]
    | some .string => some [2]
    | some (.struct fs) => if P.stoodInHeld t = false then eqFs P (eqTy P d) 0 fs.toList else none
    | some (.array n e) => match eqTy P d e with
      | some m => if P.cellsOf e = m.length ∧ (P.info? e).isSome ∧ m ≠ [] then some (List.replicate n m).flatten else none
      | none => none
    | _ => none

theorem eqC_len : ∀ {cs ds : List SV} {b : Bool}, eqC cs ds = some b → cs.length = ds.length
  | [], [], _, _ => rfl
  | .int k a :: r, .int k' b :: s, q, h => by
    simp only [eqC] at h
    split at h
    · obtain ⟨z, hz, _⟩ := Option.map_eq_some_iff.1 h; simp [eqC_len hz]
    · cases h
  | .bool a :: r, .bool b :: s, q, h => by
    simp only [eqC] at h
    obtain ⟨z, hz, _⟩ := Option.map_eq_some_iff.1 h; simp [eqC_len hz]
  | .str a :: r, .str b :: s, q, h => by
    simp only [eqC] at h
    obtain ⟨z, hz, _⟩ := Option.map_eq_some_iff.1 h; simp [eqC_len hz]

theorem eqC_cons {c d : SV} {cs ds : List SV} {b : Bool} (h : eqC (c :: cs) (d :: ds) = some b) : ∃ x y, eqC [c] [d] = some x ∧ eqC cs ds = some y ∧ b = (x && y) := by
  unfold eqC at h
  split at h
  · rename_i e1 e2; cases e1
  · rename_i k a r k' b' s e1 e2
    cases e1; cases e2
    split at h
    · rename_i hk
      obtain ⟨z, hz, rfl⟩ := Option.map_eq_some_iff.1 h
      exact ⟨a == b', z, by simp [eqC, hk], hz, rfl⟩
    · cases h
  · rename_i a r b' s e1 e2
    cases e1; cases e2
    obtain ⟨z, hz, rfl⟩ := Option.map_eq_some_iff.1 h
    exact ⟨a == b', z, by simp [eqC], hz, rfl⟩
  · rename_i a r b' s e1 e2
    cases e1; cases e2
    obtain ⟨z, hz, rfl⟩ := Option.map_eq_some_iff.1 h
    exact ⟨a.toList == b'.toList, z, by simp [eqC], hz, rfl⟩
  · cases h

theorem eqC_split : ∀ (n : Nat) {cs ds : List SV} {b : Bool}, n ≤ cs.length → eqC cs ds = some b → ∃ x y, eqC (cs.take n) (ds.take n) = some x ∧ eqC (cs.drop n) (ds.drop n) = some y ∧ b = (x && y)
  | 0, cs, ds, b, _, h => ⟨true, b, by simp [eqC], by simpa using h, by simp⟩
  | n + 1, [], ds, b, hn, h => by simp at hn
  | n + 1, c :: cs, [], b, hn, h => by have := eqC_len h; simp at this
  | n + 1, c :: cs, d :: ds, b, hn, h => by
    obtain ⟨x, y, h1, h2, rfl⟩ := eqC_cons h
    obtain ⟨x', y', h3, h4, rfl⟩ := eqC_split n (by simpa using hn) h2
    refine ⟨x && x', y', ?_, by simpa using h4, by cases x <;> simp⟩
    simp only [List.take_succ_cons]
    clear h
    unfold eqC at h1
    split at h1
    · rename_i e1 e2; cases e1
    · rename_i k a r k' b' s e1 e2
      cases e1; cases e2
      split at h1
      · rename_i hk
        simp [eqC] at h1; subst h1
        simp [eqC, hk, h3]
      · cases h1
    · rename_i a r b' s e1 e2
      cases e1; cases e2
      simp [eqC] at h1; subst h1
      simp [eqC, h3]
    · rename_i a r b' s e1 e2
      cases e1; cases e2
      simp [eqC] at h1; subst h1
      simp [eqC, h3]
    · cases h1

/-- A value that is made of these cells. -/
def MadeOf (P : Program) (t : TypeId) (x : Value) (vs : List Value) : Prop := match P.underlying t with
  | some (.struct _) => x = .agg vs.toArray
  | some (.array _ _) => x = .agg vs.toArray
  | _ => vs = [x]

def RepLs (mu : Mem) (cs : List SV) (vs : List Value) : Prop := vs.length = cs.length ∧ ∀ j, j < cs.length → Rep mu (cs.getD j .undef) (vs.getD j Go.undef)
theorem RepLs.chunk {mu : Mem} {cs : List SV} {vs : List Value} (h : RepLs mu cs vs) (off n : Nat) : RepLs mu ((cs.drop off).take n) ((vs.drop off).take n) := by
  refine ⟨by simp [h.1], fun j hj => ?_⟩
  simp at hj
  have hjn : j < n := by omega
  have := h.2 (off + j) (by omega)
  simpa [List.getD_eq_getElem?_getD, List.getElem?_take, hjn] using this

theorem part_made {e : TypeId} {n off : Nat} {ks : List Nat} {d : Nat} (he : eqTy P d e = some ks) (hn : ks.length = n) (hc : P.cellsOf e = n) {xs : List Value} (hx : off + n ≤ xs.length) (w : World) :
    ∃ v, (part e xs.toArray off).run P w = .ok v w ∧ MadeOf P e v ((xs.drop off).take n) := by
  cases d with
  | zero => simp [eqTy] at he
  | succ d =>
    unfold eqTy at he
    have one : n = 1 → P.plainKey e = true → (∀ fs, P.underlying e ≠ some (.struct fs)) → (∀ m e', P.underlying e ≠ some (.array m e')) → ∃ v, (part e xs.toArray off).run P w = .ok v w ∧ MadeOf P e v ((xs.drop off).take n) := by
      intro hn hp h1 h2
      subst hn
      have hlt : off < xs.length := by omega
      refine ⟨xs[off], run_part_plain w hp (by simp [hlt]), ?_⟩
      unfold MadeOf
      split
      · rename_i q; exact absurd q (h1 _)
      · rename_i q; exact absurd q (h2 _ _)
      · rw [List.drop_eq_getElem_cons hlt, List.take_succ_cons, List.take_zero]
    have agg : (∃ fs, P.underlying e = some (.struct fs)) ∨ (∃ m e', P.underlying e = some (.array m e')) → ∃ v, (part e xs.toArray off).run P w = .ok v w ∧ MadeOf P e v ((xs.drop off).take n) := by
      intro hk
      have hi : ∃ i, P.info? e = some i := by
        rcases hk with ⟨fs, h⟩ | ⟨m, e', h⟩ <;> exact info_of_underlying h
      obtain ⟨i, hi⟩ := hi
      refine ⟨.agg (xs.toArray.extract off (off + P.cellsOf e)), ?_, ?_⟩
      · rcases hk with ⟨fs, h⟩ | ⟨m, e', h⟩ <;> simp [part, isAgg, run_underlying h, run_sizeOf w hi]
      · have hl : xs.toArray.extract off (off + P.cellsOf e) = ((xs.drop off).take n).toArray := by
          apply Array.ext'
          rw [Array.toList_extract, hc]
          simp [List.extract]
        rw [hl]
        unfold MadeOf
        rcases hk with ⟨fs, h⟩ | ⟨m, e', h⟩ <;> simp [h]
    split at he
    · rename_i h; cases he; exact one hn.symm (by simp [Program.plainKey, h]) (by simp [h]) (by simp [h])
    · rename_i h; cases he; exact one hn.symm (by simp [Program.plainKey, h]) (by simp [h]) (by simp [h])
    · rename_i h; cases he; exact one hn.symm (by simp [Program.plainKey, h]) (by simp [h]) (by simp [h])
    · rename_i fs h; exact agg (.inl ⟨fs, h⟩)
    · rename_i m e' h; exact agg (.inr ⟨m, e', h⟩)
    · cases he

def EqOk (P : Program) (k : Nat) (t : TypeId) (ks : List Nat) : Prop := ∀ (w : World) (mu : Mem) (x y : Value) (vs us : List Value) (cs ds : List SV) (b : Bool), MadeOf P t x vs → MadeOf P t y us → RepLs mu cs vs → RepLs mu ds us →
  cs.map kdOf = ks → ds.map kdOf = ks → eqC cs ds = some b → (Op.equalIn k t x y).run P w = .ok b w

theorem map_split {f : SV → Nat} {cs : List SV} {a b : List Nat} {off n : Nat} (h : (cs.drop off).map f = a ++ b) (hn : a.length = n) : ((cs.drop off).take n).map f = a ∧ (cs.drop (off + n)).map f = b ∧ n ≤ (cs.drop off).length := by
  subst hn
  have hl := congrArg List.length h
  simp at hl
  refine ⟨by rw [List.map_take, h]; simp, ?_, by simp; omega⟩
  rw [← List.drop_drop, List.map_drop, h]; simp

theorem eqFields_ok {d k : Nat} (ih : ∀ t n, eqTy P d t = some n → EqOk P k t n) {vs us : List Value} {mu : Mem} {cs ds : List SV} (h1 : RepLs mu cs vs) (h2 : RepLs mu ds us) (w : World) :
    ∀ (fs : List Field) (off : Nat) (ks : List Nat) (b : Bool), eqFs P (eqTy P d) off fs = some ks → (cs.drop off).map kdOf = ks → (ds.drop off).map kdOf = ks → eqC (cs.drop off) (ds.drop off) = some b → (Op.eqFields k vs.toArray us.toArray fs).run P w = .ok b w
  | [], off, ks, b, hf, hc, hd, hb => by
    simp only [eqFs, Option.some.injEq] at hf
    subst hf
    simp only [List.map_eq_nil_iff] at hc hd
    rw [hc, hd] at hb
    cases hb
    simp [Op.eqFields]
  | f :: fs, off, ks, b, hf, hc, hd, hb => by
    simp only [eqFs] at hf
    split at hf
    case h_2 => cases hf
    rename_i n l hn hl
    split at hf
    case isFalse => cases hf
    rename_i hq
    obtain ⟨hname, hoff, hcell, hne⟩ := hq
    cases hf
    rw [hcell] at hl
    obtain ⟨c1, c2, c3⟩ := map_split hc rfl
    obtain ⟨d1, d2, d3⟩ := map_split hd rfl
    obtain ⟨x, y, e1, e2, rfl⟩ := eqC_split n.length c3 hb
    rw [List.drop_drop, List.drop_drop] at e2
    simp at c3 d3
    have hz : n.length ≠ 0 := fun q => hne (List.length_eq_zero_iff.1 q)
    obtain ⟨v, p1, m1⟩ := part_made hn rfl hcell (xs := vs) (off := off) (by rw [h1.1]; omega) w
    obtain ⟨u, p2, m2⟩ := part_made hn rfl hcell (xs := us) (off := off) (by rw [h2.1]; omega) w
    have hr := ih _ _ hn w mu v u _ _ _ _ x m1 m2 (h1.chunk off n.length) (h2.chunk off n.length) c1 d1 e1
    have hrest := eqFields_ok ih h1 h2 w fs (off + n.length) l y hl c2 d2 e2
    simp only [Op.eqFields, hname, ne_eq, not_false_eq_true, if_true, Sem.run_bind, hoff, p1, p2, hr, Result.andThen_ok]
    cases x
    · simp
    · simpa using hrest

theorem eqItems_ok {d k m : Nat} {e : TypeId} {ks : List Nat} (ih : EqOk P k e ks) (hn : eqTy P d e = some ks) (hm : ks.length = m) (hz : m ≠ 0) (hcell : P.cellsOf e = m) {vs us : List Value} {mu : Mem} {cs ds : List SV} (h1 : RepLs mu cs vs) (h2 : RepLs mu ds us) (w : World) :
    ∀ (r i : Nat) (b : Bool), (cs.drop (i * m)).map kdOf = (List.replicate r ks).flatten → (ds.drop (i * m)).map kdOf = (List.replicate r ks).flatten → eqC (cs.drop (i * m)) (ds.drop (i * m)) = some b → (Op.eqItems k e m vs.toArray us.toArray ((List.range' i r))).run P w = .ok b w
  | 0, i, b, hc, hd, hb => by
    simp only [List.replicate_zero, List.flatten_nil, List.map_eq_nil_iff] at hc hd
    rw [hc, hd] at hb
    cases hb
    simp [Op.eqItems]
  | r + 1, i, b, hc, hd, hb => by
    rw [List.replicate_succ, List.flatten_cons] at hc hd
    obtain ⟨c1, c2, c3⟩ := map_split hc hm
    obtain ⟨d1, d2, d3⟩ := map_split hd hm
    obtain ⟨x, y, e1, e2, rfl⟩ := eqC_split m c3 hb
    rw [List.drop_drop, List.drop_drop] at e2
    simp at c3 d3
    obtain ⟨v, p1, m1⟩ := part_made hn hm hcell (xs := vs) (off := i * m) (by rw [h1.1]; omega) w
    obtain ⟨u, p2, m2⟩ := part_made hn hm hcell (xs := us) (off := i * m) (by rw [h2.1]; omega) w
    have hr := ih w mu v u _ _ _ _ x m1 m2 (h1.chunk (i * m) m) (h2.chunk (i * m) m) c1 d1 e1
    have hs : i * m + m = (i + 1) * m := by rw [Nat.add_mul, Nat.one_mul]
    rw [hs] at c2 d2 e2
    have hrest := eqItems_ok ih hn hm hz hcell h1 h2 w r (i + 1) y c2 d2 e2
    simp only [List.range'_succ, Op.eqItems, Sem.run_bind, p1, p2, hr, Result.andThen_ok]
    cases x
    · simp
    · simpa using hrest

theorem eqTy_ok : ∀ (d k : Nat) (t : TypeId) (ks : List Nat), d ≤ k → eqTy P d t = some ks → EqOk P k t ks
  | 0, k, t, n, _, h => by simp [eqTy] at h
  | d + 1, 0, t, n, hk, _ => by omega
  | d + 1, k + 1, t, ks, hk, h => by
    intro w mu x y vs us cs ds b m1 m2 h1 h2 hc hd hb
    have ih := fun t n => eqTy_ok d k t n (by omega)
    unfold eqTy at h
    have one : ∀ q, ks = [q] → vs = [x] → us = [y] → ∃ c d, cs = [c] ∧ ds = [d] ∧ kdOf c = q ∧ kdOf d = q ∧ Rep mu c x ∧ Rep mu d y := by
      intro q hq e1 e2
      subst hq e1 e2
      obtain ⟨c, rfl, hc'⟩ := List.map_eq_singleton_iff.1 hc
      obtain ⟨d, rfl, hd'⟩ := List.map_eq_singleton_iff.1 hd
      exact ⟨c, d, rfl, rfl, hc', hd', by simpa using h1.2 0 (by simp), by simpa using h2.2 0 (by simp)⟩
    split at h
    · rename_i hu
      cases h
      simp only [MadeOf, hu] at m1 m2
      obtain ⟨c, d', rfl, rfl, q1, q2, r1, r2⟩ := one _ rfl m1 m2
      cases c <;> simp [kdOf] at q1
      cases d' <;> simp [kdOf] at q2
      simp [eqC] at hb; subst hb
      rw [r1.inv_bool, r2.inv_bool]
      exact run_equalIn_bool' w k t _ _ hu
    · rename_i q0 hu
      cases h
      simp only [MadeOf, hu] at m1 m2
      obtain ⟨c, d', rfl, rfl, q1, q2, r1, r2⟩ := one _ rfl m1 m2
      cases c <;> simp [kdOf] at q1
      cases d' <;> simp [kdOf] at q2
      simp [eqC] at hb
      obtain ⟨rfl, rfl⟩ := hb
      rw [r1.inv_int, r2.inv_int]
      exact run_equalIn_int w k t _ q0 _ _ hu
    · rename_i hu
      cases h
      simp only [MadeOf, hu] at m1 m2
      obtain ⟨c, d', rfl, rfl, q1, q2, r1, r2⟩ := one _ rfl m1 m2
      cases c <;> simp [kdOf] at q1
      cases d' <;> simp [kdOf] at q2
      simp [eqC] at hb; subst hb
      rw [r1.inv_str, r2.inv_str]
      exact run_equalIn_string w k t _ _ hu
    · rename_i fs hu
      split at h
      case isFalse => cases h
      rename_i hst
      simp only [MadeOf, hu] at m1 m2
      subst m1 m2
      have hfs : P.fieldsOf t = fs := by simp [Program.fieldsOf, hu]
      rw [run_equalIn_agg w k t _ _ (by rw [hfs]; exact hu) hst, hfs]
      exact eqFields_ok ih h1 h2 w fs.toList 0 ks b h (by simpa using hc) (by simpa using hd) (by simpa using hb)
    · rename_i m e hu
      split at h
      case h_2 => cases h
      rename_i z hz
      split at h
      case isFalse => cases h
      rename_i hq
      cases h
      simp only [MadeOf, hu] at m1 m2
      subst m1 m2
      obtain ⟨i, hi⟩ := Option.isSome_iff_exists.1 hq.2.1
      rw [run_equalIn_array w k _ _ hu hi, hq.1, List.range_eq_range']
      exact eqItems_ok (ih _ _ hz) hz rfl (fun q => hq.2.2 (List.length_eq_zero_iff.1 q)) hq.1 h1 h2 w m 0 b (by simpa using hc) (by simpa using hd) (by simpa using hb)
    · cases h

theorem y_eqs (h : Sim w0 mu0 T g st a w) {x y : Operand} {o p : AO} {op : BinOp} {t t' : TypeId} {ks : List Nat} {neg : Bool} {ox : Oper} (hop : ox.op = .binOp op t x y t') (ht : (∃ fs, P.underlying t = some (.struct fs)) ∨ ∃ m e, P.underlying t = some (.array m e))
    (hk : eqTy P 100 t = some ks) (hgd : P.eqGuardType P.depth t = false) (hn : op = if neg then .neq else .eql) (hx : compO x = some o) (hy : compO y = some p)
    {c : Prop} {lv : LV} (he : ev2 st o p (eqsV ks neg) = some (c, lv)) (hc : c) (d : Nat) : Yields P w0 mu0 T g st a w ox d lv := by
  obtain ⟨v, u, c', hv, hu, hf, hc'⟩ := ev2_inv he hc
  have rv := rd_rep h hx hv
  have ru := rd_rep h hy hu
  unfold eqsV at hf
  split at hf
  case h_2 => cases hf
  rename_i cs ds
  split at hf
  case h_2 => cases hf
  rename_i b hb
  simp only [Option.some.injEq, Prod.mk.injEq] at hf
  obtain ⟨rfl, rfl⟩ := hf
  obtain ⟨vs, e1, l1, r1⟩ := Rep.inv_agg rv
  obtain ⟨us, e2, l2, r2⟩ := Rep.inv_agg ru
  have made : ∀ zs : List Value, MadeOf P t (.agg zs.toArray) zs := fun zs => by
    unfold MadeOf
    rcases ht with ⟨fs, q⟩ | ⟨m, e, q⟩ <;> simp [q]
  have key := eqTy_ok 100 10000 t ks (by decide) hk w g.mu _ _ vs us cs ds b (made vs) (made us) ⟨l1, r1⟩ ⟨l2, r2⟩ hc'.1 hc'.2 hb
  refine .same h (val := .bool (b != neg)) ?_ (.bool _)
  subst hn
  cases neg
  · simp only [execOp, hop, e1, e2, Bool.false_eq_true, if_false, Sem.run_bind, run_eqGuard_agg w _ t x y _ _ hgd, Result.andThen_ok, run_eql_struct, key]
    simp
  · simp only [execOp, hop, e1, e2, if_true, Sem.run_bind, run_eqGuard_agg w _ t x y _ _ hgd, Result.andThen_ok, run_neq_struct, key]
    simp
end Go.Av

set_option linter.unusedSimpArgs false
namespace Go.Av
variable {P : Program} {w0 : World} {mu0 : Mem} {T : Tc} {g g' : Gh} {st st' : St} {a : Act} {w w' : World}

def LV.isL (d : Nat) : LV → Bool
  | .lptr s _ => s == d
  | .lsl s _ _ _ _ => s == d
  | .pp s _ => s == d
  | .clo _ _ caps => caps.any fun c => c.name == d
  | .gd _ v => v.isL d
  | _ => false
def unl (d : Nat) (l : List (Nat × LV)) : List (Nat × LV) := l.map fun p => (p.1, if p.2.isL d then .sv .undef else p.2)

theorem lk_unl (d : Nat) : ∀ (l : List (Nat × LV)) (s : Nat), lk (unl d l) s = if (lk l s).isL d then .sv .undef else lk l s
  | [], s => by simp [lk, unl, LV.isL]
  | (t, v) :: l, s => by
    have := lk_unl d l s
    simp only [unl, List.map_cons, lk] at this ⊢
    split
    · rfl
    · exact this

theorem capIn {caps : List Cap} {j : Nat} (hj : j < caps.length) : caps.getD j default ∈ caps := by
  rw [List.getD_eq_getElem?_getD, List.getElem?_eq_getElem hj]
  exact List.getElem_mem hj
theorem RepC.notL {d b : Nat} {c : Cap} {v : Value} (hn : c.name ≠ d) (h : RepC g c v) : RepC { g with bx := fun t => if t = d then some b else g.bx t } c v := by
  cases c with
  | bp s off => obtain ⟨b', h1, h2⟩ := h; exact ⟨b', by rw [← h1]; exact if_neg hn, h2⟩
  | pp s off => obtain ⟨b0, o0, b', h1, h2, h3⟩ := h; exact ⟨b0, o0, b', h1, h2, by rw [← h3]; exact if_neg hn⟩
theorem RepL.notL {d b : Nat} {s : Nat} {lv : LV} {val : Value} (hl : lv.isL d = false) (h : RepL g w s lv val) : RepL { g with bx := fun t => if t = d then some b else g.bx t } w s lv val := by
  induction lv with
  | gd c v ih => exact ⟨fun hc => ih hl (h.1 hc), h.2⟩
  | sv v => exact h
  | own sz xs => exact h
  | lptr t off =>
    obtain ⟨b', h1, h2⟩ := h
    have : t ≠ d := by simpa [LV.isL] using hl
    exact ⟨b', by simp [this, h1], h2⟩
  | lsl t z off n cap =>
    obtain ⟨b', h1, h2⟩ := h
    have : t ≠ d := by simpa [LV.isL] using hl
    exact ⟨b', by simp [this, h1], h2⟩
  | tup vs =>
    obtain ⟨us, h1, h2, h3⟩ := h
    refine ⟨us, h1, h2, fun j hj => ?_⟩
    have := h3 j hj
    cases hv : vs.getD j (.sv .undef) with
    | sv v => rw [hv] at this; exact this
    | own sz xs => rw [hv] at this; exact this
  | siter t pos => exact h
  | arr sz xs => exact h
  | pn => exact h
  | pp t off =>
    have : t ≠ d := by simpa [LV.isL] using hl
    exact RepC.notL (c := .pp t off) this h
  | clo f nf caps =>
    obtain ⟨us, h1, h2, h3⟩ := h
    refine ⟨us, h1, h2, fun j hj => RepC.notL ?_ (h3 j hj)⟩
    intro e
    have : (caps.any fun c => c.name == d) = true := List.any_eq_true.2 ⟨_, capIn hj, beq_iff_eq.2 e⟩
    simp only [LV.isL] at hl
    rw [this] at hl; cases hl

def newBox (st : St) (d : Nat) (cells : List SV) : St := { st with sl := (d, .lptr d 0) :: unl d st.sl, bx := (d, cells.map .sv) :: st.bx }

/-- A new variable of the frame's own. -/
theorem Sim.newBox (h : Sim w0 mu0 T g st a w) {d : Nat} (hd : d < st.n) (hd0 : d ≠ 0) {cells : List SV} {cs : Array Value} (hc : RepCs g.mu cells cs) (e : TypeId) :
    ∃ g', Sim w0 mu0 T g' (newBox st d cells) (a.put (some d) (.pointer (some ⟨w.heap.size, 0, none⟩))) (w.alloc (.cells cs e)) := by
  have h1 := h.newImm cs e 0 none (fun j v hj => by omega)
  generalize hg1 : g.new w.heap.size cs 0 none = g1 at h1
  have hmu : g1.mu = g.mu := by
    subst hg1
    funext b j
    simp only [Gh.new]
    by_cases q : b = w.heap.size
    · subst q
      simp
      cases hm : g.mu w.heap.size j with
      | none => rfl
      | some v => have := h.mem.lt hm; omega
    · simp [q]
  have hx : g1.x w.heap.size = none := by subst hg1; simp [Gh.new]
  have hbx : g1.bx = g.bx := by subst hg1; rfl
  have hsz := h.ext.size
  have hmn : ∀ j, g1.mu w.heap.size j = none := fun j => by
    rw [hmu]
    cases hm : g.mu w.heap.size j with
    | none => rfl
    | some v => have := h.mem.lt hm; omega
  refine ⟨{ g1 with bx := fun t => if t = d then some w.heap.size else g1.bx t }, ?_⟩
  constructor
  · simpa [Act.put, Av.newBox] using h1.size
  · simpa [Act.put] using h1.defers
  · intro s
    rw [getD_put h1.size hd]
    by_cases q : s = d
    · subst q
      simp only [Av.newBox, lk, if_true]
      exact ⟨w.heap.size, by simp, rfl⟩
    · have q' : ¬ d = s := fun e => q e.symm
      simp only [Av.newBox, lk, q', if_false, q, lk_unl]
      by_cases hl : (lk st.sl s).isL d = true
      · simp only [hl, if_true]; exact .undef _
      · have hl' : (lk st.sl s).isL d = false := by simpa using hl
        simp only [hl', Bool.false_eq_true, if_false]
        exact (h1.slots s).notL hl'
  · intro s cells' hcs
    by_cases q : d = s
    · subst q
      simp only [Av.newBox, lkb, if_true, Option.some.injEq] at hcs
      subst hcs
      refine ⟨w.heap.size, by simp, ?_, hmn, hx, cs, e, (0, 0), heap_alloc_new _, .inl rfl, by simpa using hc.1, fun j hj => ?_⟩
      · simp only []; rw [h1.okb]; intro q; omega
      · have hj' : j < cells.length := by simpa using hj
        have := hc.2 j hj'
        rw [← hmu] at this
        simpa [List.getD_eq_getElem?_getD, hj', RepR] using this
    · simp only [Av.newBox, lkb, q, if_false] at hcs
      obtain ⟨b, hb, k1, k2, k3, c, e', fr, k4, k5, k6, k7⟩ := h1.boxes s cells' hcs
      have q' : ¬ s = d := fun e => q e.symm
      refine ⟨b, by simp [q', hb], k1, k2, k3, c, e', fr, k4, k5, k6, fun j hj => ?_⟩
      have := k7 j hj
      cases hv : cells'.getD j (.sv .undef) with
      | sv v => rw [hv] at this; exact this
      | own sz xs => rw [hv] at this; exact this
  · intro s s' b e1 e2
    simp only [] at e1 e2
    split at e1 <;> split at e2
    · subst_vars; rfl
    · cases e1; rw [hbx] at e2; have := h.blt s' _ e2; omega
    · cases e2; rw [hbx] at e1; have := h.blt s _ e1; omega
    · exact h1.bxinj s s' b e1 e2
  · intro b cells' hcs
    obtain ⟨k1, k2, k3, k4⟩ := h1.heap b cells' hcs
    refine ⟨k1, k2, fun s q => ?_, k4⟩
    simp only [] at q
    split at q
    · cases q
      have := h.used_lt (b := w.heap.size) (.inr (.inr (by rw [show st.hp w.heap.size = some cells' from hcs]; simp)))
      omega
    · exact k3 s q
  · exact h1.mem
  · exact h1.mem0
  · exact h1.mule
  · exact h1.ext
  · exact h1.okx
  · exact h1.xlt
  · intro s b q
    simp only [] at q
    split at q
    · cases q; simp
    · exact h1.blt s b q
  · intro s b p q r
    simp only [] at r
    split at r
    · cases r; rw [hx] at q; cases q
    · exact h1.bxx s b p q r
  · exact h1.okb
  · intro s b hb
    obtain ⟨q1, q2⟩ := h1.pin s b hb
    have hsd : s ≠ d := by rintro rfl; rcases q2 with q | q <;> omega
    exact ⟨by simp [hsd, q1], q2⟩

/-- A new object is one's own. -/
theorem Sim.adopt {g1 : Gh} (h1 : Sim w0 mu0 T g1 st a w) {d : Nat} (hd : d < st.n) (hd0 : d ≠ 0) {b0 : Nat} {cells : List SV} (hh : HeapAt g1.mu w b0 cells) (hB : w0.heap.size ≤ b0) (hx : g1.x b0 = none) (hbx : ∀ s, g1.bx s ≠ some b0) (hhp : st.hp b0 = none) :
    ∃ g', Sim w0 mu0 T g' (Av.newBox st d cells) (a.put (some d) (.pointer (some ⟨b0, 0, none⟩))) w := by
  obtain ⟨hmn, c0, e0, fr0, r1, r2, r3, r4⟩ := hh
  have hblt : b0 < w.heap.size := by
    apply Classical.byContradiction; intro q
    rw [Array.getElem?_eq_none (by omega)] at r1; cases r1
  refine ⟨{ g1 with bx := fun t => if t = d then some b0 else g1.bx t }, ?_⟩
  constructor
  · simpa [Act.put, Av.newBox] using h1.size
  · simpa [Act.put] using h1.defers
  · intro s
    rw [getD_put h1.size hd]
    by_cases q : s = d
    · subst q
      simp only [Av.newBox, lk, if_true]
      exact ⟨b0, by simp, rfl⟩
    · have q' : ¬ d = s := fun e => q e.symm
      simp only [Av.newBox, lk, q', if_false, q, lk_unl]
      by_cases hl : (lk st.sl s).isL d = true
      · simp only [hl, if_true]; exact .undef _
      · have hl' : (lk st.sl s).isL d = false := by simpa using hl
        simp only [hl', Bool.false_eq_true, if_false]
        exact (h1.slots s).notL hl'
  · intro s cells' hcs
    by_cases q : d = s
    · subst q
      simp only [Av.newBox, lkb, if_true, Option.some.injEq] at hcs
      subst hcs
      refine ⟨b0, by simp, ?_, hmn, hx, c0, e0, fr0, r1, r2, by simpa using r3, fun j hj => ?_⟩
      · simp only []; rw [h1.okb]; intro q; omega
      · have hj' : j < cells.length := by simpa using hj
        have := r4 j hj'
        simpa [List.getD_eq_getElem?_getD, hj', RepR] using this
    · simp only [Av.newBox, lkb, q, if_false] at hcs
      obtain ⟨b, hb, k1, k2, k3, c, e', fr, k4, k5, k6, k7⟩ := h1.boxes s cells' hcs
      have q' : ¬ s = d := fun e => q e.symm
      refine ⟨b, by simp [q', hb], k1, k2, k3, c, e', fr, k4, k5, k6, fun j hj => ?_⟩
      have := k7 j hj
      cases hv : cells'.getD j (.sv .undef) with
      | sv v => rw [hv] at this; exact this
      | own sz xs => rw [hv] at this; exact this
  · intro s s' b e1 e2
    simp only [] at e1 e2
    split at e1 <;> split at e2
    · subst_vars; rfl
    · cases e1; exact absurd e2 (hbx _)
    · cases e2; exact absurd e1 (hbx _)
    · exact h1.bxinj s s' b e1 e2
  · intro b cells' hcs
    obtain ⟨k1, k2, k3, k4⟩ := h1.heap b cells' hcs
    refine ⟨k1, k2, fun s q => ?_, k4⟩
    simp only [] at q
    split at q
    · cases q
      rw [show st.hp b0 = some cells' from hcs] at hhp; cases hhp
    · exact k3 s q
  · exact h1.mem
  · exact h1.mem0
  · exact h1.mule
  · exact h1.ext
  · exact h1.okx
  · exact h1.xlt
  · intro s b q
    simp only [] at q
    split at q
    · cases q; exact hblt
    · exact h1.blt s b q
  · intro s b p q r
    simp only [] at r
    split at r
    · cases r; rw [hx] at q; cases q
    · exact h1.bxx s b p q r
  · exact h1.okb
  · intro s b hb
    obtain ⟨q1, q2⟩ := h1.pin s b hb
    have hsd : s ≠ d := by rintro rfl; rcases q2 with q | q <;> omega
    exact ⟨by simp [hsd, q1], q2⟩


/-- A new array of the frame's own. -/
theorem Sim.newArr (h : Sim w0 mu0 T g st a w) {d : Nat} (hd : d < st.n) (hd0 : d ≠ 0) {cells : List SV} {cs : Array Value} (hc : RepCs g.mu cells cs) (e : TypeId) (n : Nat) :
    ∃ g', Sim w0 mu0 T g' { st with sl := (d, .lsl d 1 0 n n) :: unl d st.sl, bx := (d, cells.map .sv) :: st.bx } (a.put (some d) (.slice (some ⟨w.heap.size, 0, none⟩) n n)) (w.alloc (.cells cs e)) := by
  obtain ⟨g', hs⟩ := h.newBox hd hd0 hc e
  have h0 := hs.slots d
  rw [getD_put h.size hd] at h0
  simp only [Av.newBox, lk, if_true] at h0
  obtain ⟨b, hb, hv⟩ := h0
  have hbe : b = w.heap.size := by cases hv; rfl
  subst hbe
  have h2 := hs.put (d := d) (lv := .lsl d 1 0 n n) (val := .slice (some ⟨w.heap.size, 0, none⟩) n n) hd ⟨_, hb, rfl⟩
  have e1 : (a.put (some d) (.pointer (some ⟨w.heap.size, 0, none⟩))).put (some d) (.slice (some ⟨w.heap.size, 0, none⟩) n n) = a.put (some d) (.slice (some ⟨w.heap.size, 0, none⟩) n n) := by
    simp [Act.put]
  rw [e1] at h2
  refine ⟨g', h2.congr rfl (fun t => ?_) (fun _ => rfl) rfl⟩
  simp only [Av.newBox, lk]
  split
  · rfl
  · rfl

/-! ### a box that is not written to any more -/
def LV.frz (s : Nat) (cells : List SV) : LV → LV
  | .lptr t off => if t = s then .sv (.eptr (.agg cells) off) else .lptr t off
  | .lsl t z off n cap => if t = s then (if z = 1 ∧ off + n ≤ cells.length ∧ n ≤ cap then .sv (.sl 1 ((cells.drop off).take n)) else .sv .undef) else .lsl t z off n cap
  | .pp t off => if t = s then .sv .undef else .pp t off
  | .clo f nf caps => if (caps.any fun c => c.name == s) = true then .sv .undef else .clo f nf caps
  | .gd c v => .gd c (v.frz s cells)
  | v => v
def frzSl (s : Nat) (cells : List SV) (l : List (Nat × LV)) : List (Nat × LV) := l.map fun p => (p.1, p.2.frz s cells)
def dropB (s : Nat) : List (Nat × List RV) → List (Nat × List RV)
  | [] => []
  | (t, c) :: r => if t = s then dropB s r else (t, c) :: dropB s r
theorem lkb_dropB (s : Nat) : ∀ (l : List (Nat × List RV)) (t : Nat), lkb (dropB s l) t = if t = s then none else lkb l t
  | [], t => by simp [dropB, lkb]
  | (u, c) :: r, t => by
    simp only [dropB]
    split
    · rename_i e
      rw [lkb_dropB s r t]
      by_cases q : t = s
      · simp [q]
      · have : ¬ u = t := fun e' => q (e' ▸ e)
        simp [q, lkb, this]
    · rename_i e
      simp only [lkb]
      rw [lkb_dropB s r t]
      by_cases q : u = t
      · subst q; simp [e]
      · simp [q]
theorem lk_frzSl (s : Nat) (cells : List SV) : ∀ (l : List (Nat × LV)) (t : Nat), lk (frzSl s cells l) t = (lk l t).frz s cells
  | [], t => rfl
  | (u, v) :: r, t => by
    have := lk_frzSl s cells r t
    simp only [frzSl, List.map_cons, lk] at this ⊢
    split
    · rfl
    · exact this
def shareB : List RV → List SV := fun l => l.map RV.share
def St.frz (st : St) (s : Nat) : St := match lkb st.bx s with
  | some c => { st with sl := frzSl s (shareB c) st.sl, bx := dropB s st.bx }
  | none => st
def FrzOK (st : St) (s : Nat) : Prop := s ≠ 0 ∧ s < st.n ∧ match lkb st.bx s with
  | some c => (shareB c).all SV.isCell = true
  | none => False

theorem Sim.freeze (h : Sim w0 mu0 T g st a w) {s : Nat} (hf : FrzOK st s) : ∃ g', Sim w0 mu0 T g' (st.frz s) a w := by
  obtain ⟨hs0, hsn, hf⟩ := hf
  split at hf
  case h_2 => exact hf.elim
  rename_i cs hcs
  obtain ⟨b, hb, k1, k2, k3, c, e, fr, k4, k5, k6, k7⟩ := h.boxes s cs hcs
  have hnew : w0.heap.size ≤ b := by
    apply Classical.byContradiction
    intro q
    rw [h.okb] at k1
    obtain ⟨s', hs'⟩ := k1 (by omega)
    obtain ⟨q1, q2⟩ := h.pin s' b hs'
    have := h.bxinj s s' b hb q1
    subst this
    rcases q2 with q2 | q2
    · exact hs0 q2
    · omega
  have hrep : ∀ j, j < cs.length → Rep g.mu ((shareB cs).getD j .undef) (c.getD j Go.undef) := fun j hj => by
    have := (k7 j hj).share
    simpa [shareB, List.getD_eq_getElem?_getD, hj] using this
  have hcell : ∀ j, j < cs.length → ((shareB cs).getD j .undef).isCell = true := fun j hj => by
    have hj' : j < (shareB cs).length := by simpa [shareB] using hj
    rw [List.getD_eq_getElem?_getD, List.getElem?_eq_getElem hj']
    exact List.all_eq_true.1 hf _ (List.getElem_mem hj')
  let mu' : Mem := fun b' j => if b' = b then (if j < cs.length then some (c.getD j Go.undef) else none) else g.mu b' j
  have hle : g.mu.le mu' := fun b' j v hv => by
    have : b' ≠ b := fun q => by subst q; rw [k2] at hv; cases hv
    simp [mu', this, hv]
  let g' : Gh := { g with mu := mu', bx := fun t => if t = s then none else g.bx t }
  have hkeep : ∀ p, Keeps g w { g with mu := mu' } w p := fun p => ⟨hle, fun b' hx => ⟨hx, rfl, fun j hj => by
    have : b' ≠ b := fun q => by subst q; rw [k3] at hx; cases hx
    simp [mu', this, hj]⟩, rfl⟩
  have hmb : ∀ j, j < cs.length → mu' b j = some (c.getD j Go.undef) := fun j hj => by simp [mu', hj]
  have slot : ∀ (lv : LV) (t : Nat) (val : Value), RepL g w t lv val → RepL g' w t (lv.frz s (shareB cs)) val := by
    intro lv t val hr
    induction lv with
    | gd q v ih => exact ⟨fun hc => ih (hr.1 hc), hr.2⟩
    | sv v => exact Rep.mono hle hr
    | own sz xs =>
      have : OwnAt { g with mu := mu' } w (.slot t 0) sz xs val := OwnAt.keeps (hkeep _) hr
      exact this
    | lptr u off =>
      obtain ⟨b', h1, h2⟩ := hr
      simp only [LV.frz]
      split
      · rename_i q
        subst q
        rw [hb] at h1; cases h1
        subst h2
        have := Rep.eptr (mu := mu') (.agg (shareB cs)) off b 0 (fun j => c.getD j Go.undef) (fun j hj => by
          rw [Nat.zero_add]; exact hmb j (by simpa [SV.nc, SV.cells, shareB] using hj)) (fun j hj => by
          have hj' : j < cs.length := by simpa [SV.nc, SV.cells, shareB] using hj
          exact (hrep j hj').mono hle)
        rw [Nat.zero_add] at this
        exact this
      · rename_i q
        exact ⟨b', by simp [g', q, h1], h2⟩
    | lsl u z off n cap =>
      obtain ⟨b', h1, h2⟩ := hr
      simp only [LV.frz]
      split
      · rename_i q
        subst q
        rw [hb] at h1; cases h1
        subst h2
        split
        · rename_i hz
          obtain ⟨rfl, hz1, hz2⟩ := hz
          have hlen : (shareB cs).length = cs.length := by simp [shareB]
          rw [hlen] at hz1
          have hln : (((shareB cs).drop off).take n).length = n := by simp [hlen]; omega
          have hget : ∀ i, i < n → (((shareB cs).drop off).take n).getD i .undef = (shareB cs).getD (off + i) .undef := fun i hi => by
            simp [List.getD_eq_getElem?_getD, List.getElem?_take, hi]
          have h1c : ∀ i, i < n → ((((shareB cs).drop off).take n).getD i .undef).cells = [(shareB cs).getD (off + i) .undef] := fun i hi => by
            rw [hget i hi]
            have := hcell (off + i) (by omega)
            generalize (shareB cs).getD (off + i) .undef = v at this
            cases v <;> first | rfl | simp [SV.isCell] at this
          have := Rep.sl (mu := mu') 1 (((shareB cs).drop off).take n) b off cap (fun i j => c.getD (off + i) Go.undef) (by rw [hln]; exact hz2)
            (fun x hx => by
              obtain ⟨i, hi, rfl⟩ := List.mem_iff_getElem.1 hx
              rw [hln] at hi
              have := h1c i hi
              rw [List.getD_eq_getElem?_getD, List.getElem?_eq_getElem (by rw [hln]; exact hi)] at this
              simp only [Option.getD_some] at this
              rw [SV.nc, this]; rfl)
            (fun i j hi hj => by
              rw [hln] at hi
              have : j = 0 := by omega
              subst this
              simp only [Nat.mul_one, Nat.add_zero]
              exact hmb _ (by omega))
            (fun i j hi hj => by
              rw [hln] at hi
              have : j = 0 := by omega
              subst this
              rw [SV.cell, h1c i hi]
              simpa using (hrep (off + i) (by omega)).mono hle)
          rw [hln] at this
          exact this
        · exact .undef _
      · rename_i q
        exact ⟨b', by simp [g', q, h1], h2⟩
    | tup vs =>
      obtain ⟨us, h1, h2, h3⟩ := hr
      refine ⟨us, h1, h2, fun j hj => ?_⟩
      have := RepR.keeps (hkeep (.slot t j)) (h3 j hj)
      cases hv : vs.getD j (.sv .undef) with
      | sv v => rw [hv] at this; exact this
      | own sz xs => rw [hv] at this; exact this
    | arr sz xs =>
      rcases hr with hr | ⟨b', h2, h3, off, cap, c, e, fr, a1, a2, a3, a4, a5, a6, a7⟩
      · exact .inl hr
      · have hne : b' ≠ b := fun q => by subst q; rw [k3] at h2; cases h2
        exact .inr ⟨b', h2, h3, off, cap, c, e, fr, a1, fun j => by simp [g', mu', hne, a2], a3, a4, a5, a6, fun i j hi hj => (a7 i j hi hj).mono hle⟩
    | siter u pos =>
      obtain ⟨b', h1, h2, h3, h4, h5⟩ := hr
      have hne : b' ≠ b := fun q => by subst q; rw [k3] at h2; cases h2
      exact ⟨b', h1, h2, h3, fun j => by simp [g', mu', hne, h4], h5⟩
    | pn =>
      obtain ⟨b', h1, h2, h3, h4, h5⟩ := hr
      have hne : b' ≠ b := fun q => by subst q; rw [k3] at h2; cases h2
      exact ⟨b', h1, h2, h3, fun j => by simp [g', mu', hne, h4], h5⟩
    | pp u off =>
      simp only [LV.frz]
      split
      · exact .undef _
      · rename_i q
        obtain ⟨b0, o0, b', h1, h2, h3⟩ := hr
        exact ⟨b0, o0, b', h1, hle _ _ _ h2, by rw [← h3]; exact if_neg q⟩
    | clo f nf caps =>
      simp only [LV.frz]
      split
      · exact .undef _
      · rename_i q
        obtain ⟨us, h1, h2, h3⟩ := hr
        refine ⟨us, h1, h2, fun j hj => ?_⟩
        have hn : (caps.getD j default).name ≠ s := fun e => q (List.any_eq_true.2 ⟨_, capIn hj, beq_iff_eq.2 e⟩)
        have h4 := h3 j hj
        generalize caps.getD j default = c at hn h4
        cases c with
        | bp t off => obtain ⟨b', k1, k2⟩ := h4; exact ⟨b', by rw [← k1]; exact if_neg hn, k2⟩
        | pp t off => obtain ⟨b0, o0, b', k1, k2, k3⟩ := h4; exact ⟨b0, o0, b', k1, hle _ _ _ k2, by rw [← k3]; exact if_neg hn⟩
  have hst : st.frz s = { st with sl := frzSl s (shareB cs) st.sl, bx := dropB s st.bx } := by simp [St.frz, hcs]
  rw [hst]
  refine ⟨g', ?_⟩
  constructor
  · exact h.size
  · exact h.defers
  · intro t
    rw [lk_frzSl]
    exact slot _ t _ (h.slots t)
  · intro t cells hc
    rw [lkb_dropB] at hc
    split at hc
    · cases hc
    rename_i q
    obtain ⟨b', hb', m1, m2, m3, c2, e2, fr2, m4, m5, m6, m7⟩ := h.boxes t cells hc
    have hne : b' ≠ b := fun e => q (h.bxinj t s b (e ▸ hb') hb)
    refine ⟨b', by simp [g', q, hb'], m1, fun j => by simp [g', mu', hne, m2], m3, c2, e2, fr2, m4, m5, m6, fun j hj => ?_⟩
    have := RepR.keeps (hkeep (.cell t j)) (m7 j hj)
    cases hv : cells.getD j (.sv .undef) with
    | sv v => rw [hv] at this; exact this
    | own sz xs => rw [hv] at this; exact this
  · intro t t' b' e1 e2
    simp only [g'] at e1 e2
    split at e1
    · cases e1
    split at e2
    · cases e2
    exact h.bxinj t t' b' e1 e2
  · intro b' cells hc
    obtain ⟨⟨m1, c2, e2, fr2, m2, m3, m4, m5⟩, m6, m7, m8⟩ := h.heap b' cells hc
    have hne : b' ≠ b := fun e => m7 s (e ▸ hb)
    refine ⟨⟨fun j => by simp [g', mu', hne, m1], c2, e2, fr2, m2, m3, m4, fun j hj => (m5 j hj).mono hle⟩, m6, fun t q => ?_, m8⟩
    simp only [g'] at q
    split at q
    · cases q
    · exact m7 t q
  · intro b' j v hv
    simp only [g', mu'] at hv
    split at hv
    · rename_i q
      subst q
      split at hv
      case isFalse => cases hv
      rename_i hj
      cases hv
      refine ⟨?_, Rep.oneCell (hrep j hj) (hcell j hj)⟩
      rw [cell_of_block k4]
      have : j < c.size := by omega
      simp [Array.getD_eq_getD_getElem?, this]
    · exact h.mem b' j v hv
  · intro b' j hb' har
    have hne : b' ≠ b := by omega
    simp only [g', mu', hne, if_false]
    exact h.mem0 b' j hb' har
  · exact Mem.le_trans h.mule hle
  · exact h.ext
  · exact h.okx
  · exact h.xlt
  · intro t b' e
    simp only [g'] at e
    split at e
    · cases e
    · exact h.blt t b' e
  · intro t b' p e q
    simp only [g'] at q
    split at q
    · cases q
    · exact h.bxx t b' p e q
  · exact h.okb
  · intro s' b' hb'
    obtain ⟨q1, q2⟩ := h.pin s' b' hb'
    have hss : s' ≠ s := by rintro rfl; rcases q2 with q | q <;> omega
    exact ⟨by simp [g', hss, q1], q2⟩


/-! ### stores -/
def setR : List RV → Nat → List SV → List RV
  | cells, _, [] => cells
  | cells, off, v :: vs => setR (cells.set off (.sv v)) (off + 1) vs
theorem setR_spec : ∀ (vs : List SV) (off : Nat) (cs : List RV), (setR cs off vs).length = cs.length ∧ ∀ j, (setR cs off vs).getD j (.sv .undef) = if off ≤ j ∧ j < off + vs.length ∧ j < cs.length then .sv (vs.getD (j - off) .undef) else cs.getD j (.sv .undef)
  | [], off, cs => ⟨rfl, fun j => by simp [setR]; intro h1 h2; omega⟩
  | v :: vs, off, cs => by
    simp only [setR]
    obtain ⟨h1, h2⟩ := setR_spec vs (off + 1) (cs.set off (.sv v))
    refine ⟨by rw [h1]; simp, fun j => ?_⟩
    rw [h2 j]
    simp only [List.length_set, List.length_cons]
    by_cases e : j = off
    · subst e
      by_cases hc : j < cs.length
      · have a1 : ¬ (j + 1 ≤ j ∧ j < j + 1 + vs.length ∧ j < cs.length) := by omega
        have a2 : j ≤ j ∧ j < j + (vs.length + 1) ∧ j < cs.length := by omega
        rw [if_neg a1, if_pos a2]
        simp [List.getD_eq_getElem?_getD, hc]
      · have a1 : ¬ (j + 1 ≤ j ∧ j < j + 1 + vs.length ∧ j < cs.length) := by omega
        have a2 : ¬ (j ≤ j ∧ j < j + (vs.length + 1) ∧ j < cs.length) := by omega
        rw [if_neg a1, if_neg a2]
        simp [List.getD_eq_getElem?_getD, hc]
    · by_cases hc : off + 1 ≤ j ∧ j < off + 1 + vs.length ∧ j < cs.length
      · have a2 : off ≤ j ∧ j < off + (vs.length + 1) ∧ j < cs.length := by omega
        rw [if_pos hc, if_pos a2, show j - off = (j - (off + 1)) + 1 by omega]
        simp
      · have a2 : ¬ (off ≤ j ∧ j < off + (vs.length + 1) ∧ j < cs.length) := by omega
        rw [if_neg hc, if_neg a2]
        have : ¬ off = j := fun q => e q.symm
        simp [List.getD_eq_getElem?_getD, List.getElem?_set, this]

/-- Cells set one by one, in a block that nothing else leans on. -/
theorem setCells_at {b o : Nat} {c : Array Value} {e : TypeId} {fr : Nat × Nat} {vs : List Value} (hb : w.heap[b]? = some (.cells c e fr)) (hf : Unfrozen c fr) (hle : o + vs.length ≤ c.size) (h1 : ∀ v ∈ vs, v.oneCell' = true) :
    (storeCells ⟨b, o, none⟩ vs).run P w = .ok () (w.setCells b o vs) ∧ ∃ c', (w.setCells b o vs).heap[b]? = some (.cells c' e fr) ∧ c'.size = c.size ∧ Unfrozen c' fr ∧
      ∀ j, c'.getD j Go.undef = if o ≤ j ∧ j < o + vs.length then vs.getD (j - o) Go.undef else c.getD j Go.undef := by
  have hcell : ∀ j, j < vs.length → (w.cell? ⟨b, o + 0 + j, none⟩).isSome = true := fun j hj => by
    have : o + 0 + j < c.size := by omega
    rw [cell_of_block hb, Array.getElem?_eq_getElem this]; rfl
  have hfro : ∀ j, j < vs.length → w.frozen? ⟨b, o + 0 + j, none⟩ = false := fun j hj => by
    have hlt : o + 0 + j < c.size := by omega
    have := hf.not _ hlt
    simp only [World.frozen?, hb]
    simp only [Bool.and_eq_false_iff, decide_eq_false_iff_not]
    omega
  have hst := run_storeCells_cells (P := P) b o vs 0 w hcell hfro h1
  simp only [Nat.add_zero] at hst hcell
  obtain ⟨_, _, _, _, _, k6⟩ := setCells_heap b vs o w
  obtain ⟨c', hb', hc'⟩ := k6 c e fr hb
  refine ⟨hst, c', hb', hc', hf.size (by omega), fun j => ?_⟩
  have hcj : (w.setCells b o vs).cell? ⟨b, j, none⟩ = c'[j]? := cell_of_block hb'
  by_cases q : o ≤ j ∧ j < o + vs.length
  · rw [if_pos q]
    have := World.cell?_setCells_in b vs o w hcell (j - o) (by omega)
    rw [show o + (j - o) = j by omega, hcj] at this
    have hlt : j - o < vs.length := by omega
    rw [Array.getD_eq_getD_getElem?, this, List.getD_eq_getElem?_getD, List.getElem?_eq_getElem hlt]
  · rw [if_neg q]
    have := World.cell?_setCells_out b vs o w ⟨b, j, none⟩ (fun _ _ => by simp; omega)
    rw [hcj, cell_of_block hb] at this
    rw [Array.getD_eq_getD_getElem?, Array.getD_eq_getD_getElem?, this]

def updBox (st : St) (s : Nat) (cells : List RV) : St := { st with bx := (s, cells) :: st.bx }

theorem Sim.storeBox (h : Sim w0 mu0 T g st a w) {s b off : Nat} {cells : List RV} {vs : List SV} {us : Array Value} (hcl : lkb st.bx s = some cells) (hb : g.bx s = some b)
    (hle : off + vs.length ≤ cells.length) (hr : RepCs g.mu vs us) (hk : vs.all SV.isCell = true) :
    ∃ w', (storeCells ⟨b, off, none⟩ us.toList).run P w = .ok () w' ∧ Sim w0 mu0 T g (updBox st s (setR cells off vs)) a w' := by
  obtain ⟨b', hb', k1, k2, k3, c, e, fr, k4, k5, k6, k7⟩ := h.boxes s cells hcl
  rw [hb] at hb'; cases hb'
  have hone : ∀ v ∈ us.toList, v.oneCell' = true := by
    intro v hv
    obtain ⟨j, hj, rfl⟩ := List.mem_iff_getElem.1 hv
    have hj' : j < us.size := by simpa using hj
    have hjv : j < vs.length := by rw [← hr.1]; exact hj'
    have := hr.2 j hjv
    rw [Array.getD_eq_getD_getElem?, Array.getElem?_eq_getElem hj', List.getD_eq_getElem?_getD, List.getElem?_eq_getElem hjv] at this
    exact Rep.oneCell this (List.all_eq_true.1 hk _ (List.getElem_mem hjv))
  have hul : us.toList.length = vs.length := by simpa using hr.1
  obtain ⟨hst, c', hb', hc', hf', hget⟩ := setCells_at (P := P) (o := off) (vs := us.toList) k4 k5 (by omega) hone
  obtain ⟨q1, q2, q3, q4, q5, _⟩ := setCells_heap b us.toList off w
  refine ⟨_, hst, ?_⟩
  have hxb : ∀ b' p, g.x b' = some p → b' ≠ b := fun b' p e1 e2 => by subst e2; rw [k3] at e1; cases e1
  have hk : ∀ p, Keeps g w g (w.setCells b off us.toList) p := fun p => ⟨Mem.le_refl _, fun b' e => ⟨e, q5 b' (hxb b' p e), fun _ q => q⟩, rfl⟩
  constructor
  · exact h.size
  · exact h.defers
  · intro t
    exact RepL.keeps (fun i => hk _) (fun _ => rfl) (h.slots t)
  · intro t cells' hcs
    by_cases q : s = t
    · subst q
      simp only [updBox, lkb, if_true, Option.some.injEq] at hcs
      subst hcs
      obtain ⟨r1, r2⟩ := setR_spec vs off cells
      refine ⟨b, hb, k1, k2, k3, c', e, fr, hb', hf', by rw [hc', r1]; exact k6, fun j hj => ?_⟩
      rw [r1] at hj
      rw [r2, hget, hul]
      by_cases q : off ≤ j ∧ j < off + vs.length
      · rw [if_pos ⟨q.1, q.2, hj⟩, if_pos q]
        have := hr.2 (j - off) (by omega)
        simpa [RepR, List.getD_eq_getElem?_getD, Array.getD_eq_getD_getElem?] using this
      · rw [if_neg (fun z => q ⟨z.1, z.2.1⟩), if_neg q]
        exact RepR.keeps (hk _) (k7 j hj)
    · simp only [updBox, lkb, q, if_false] at hcs
      obtain ⟨b', hb'', m1, m2, m3, c2, e2, fr2, m4, m5, m6, m7⟩ := h.boxes t cells' hcs
      have hne : b' ≠ b := fun e => q (h.bxinj s t b hb (e ▸ hb''))
      exact ⟨b', hb'', m1, m2, m3, c2, e2, fr2, (q5 b' hne).trans m4, m5, m6, fun j hj => RepR.keeps (hk _) (m7 j hj)⟩
  · exact h.bxinj
  · intro b' cells' hcs
    obtain ⟨⟨m1, c2, e2, fr2, m2, m3, m4, m5⟩, m6, m7, m8⟩ := h.heap b' cells' hcs
    have hne : b' ≠ b := fun e => m7 s (e ▸ hb)
    exact ⟨⟨m1, c2, e2, fr2, (q5 b' hne).trans m2, m3, m4, m5⟩, m6, m7, m8⟩
  · intro b' j v hm
    have hne : b' ≠ b := fun e => by subst e; rw [k2] at hm; cases hm
    have := h.mem b' j v hm
    exact ⟨by rw [World.cell?_setCells_out b us.toList off w ⟨b', j, none⟩ (fun e1 _ => absurd e1 hne)]; exact this.1, this.2⟩
  · exact h.mem0
  · exact h.mule
  · have hbB : b < w0.heap.size → TP T b := by rw [h.okb] at k1; exact fun q => .inl (k1 q)
    exact ⟨q1.trans h.ext.os, q2.trans h.ext.tape, q3.trans h.ext.output, by rw [q4]; exact h.ext.size, fun k hk' ht' => (q5 k (fun e => by subst e; exact ht' (hbB hk'))).trans (h.ext.block k hk' ht')⟩
  · exact h.okx
  · intro b' p e; rw [q4]; exact h.xlt b' p e
  · intro s' b' e; rw [q4]; exact h.blt s' b' e
  · exact h.bxx
  · exact h.okb
  · exact h.pin
end Go.Av

/- Calls that work on boxes of the frame that calls. -/

set_option linter.unusedSimpArgs false
set_option linter.unusedVariables false
namespace Go.Av
variable {P : Program} {w0 : World} {mu0 : Mem} {T : Tc} {g g' : Gh} {st st' : St} {a : Act} {w w' : World}

/-- What a call is handed: a value, or a pointer to a box, or to one to a box. -/
inductive BA where
  | v (v : SV)
  | c (c : Cap)
  | f (f : FuncId) (nf : Nat) (caps : List Cap)
  deriving Inhabited
def RepF (g : Gh) (f : FuncId) (nf : Nat) (caps : List Cap) (val : Value) : Prop := ∃ us : List Value, val = .func (.func f) (us.take nf).toArray (us.drop nf).toArray ∧ us.length = caps.length ∧ ∀ j, j < caps.length → RepC g (caps.getD j default) (us.getD j Go.undef)
def RepB (g : Gh) : BA → Value → Prop
  | .v v, x => Rep g.mu v x
  | .c c, x => RepC g c x
  | .f f nf caps, x => RepF g f nf caps x
def BoxIn (g : Gh) (w : World) (s b : Nat) (cells : List RV) : Prop :=
  (∀ j, g.mu b j = none) ∧ g.x b = none ∧ ∃ c e fr, w.heap[b]? = some (.cells c e fr) ∧ Unfrozen c fr ∧ c.size = cells.length ∧
    ∀ j, j < cells.length → RepR g w (.cell s j) (cells.getD j (.sv .undef)) (c.getD j Go.undef)

/-- A call that works on boxes. -/
def EffB (P : Program) (f : FuncId) (bxs : List (Nat × List RV)) (args : List BA) (rv : LV) (bxs' : List (Nat × List RV)) : Prop :=
  ∀ (g : Gh) (w : World) (vs : List Value), MemOK g.mu w →
    (∀ s cells, lkb bxs s = some cells → ∃ b, g.bx s = some b ∧ BoxIn g w s b cells) →
    (∀ s s' b, g.bx s = some b → g.bx s' = some b → s = s') →
    (∀ s b, g.bx s = some b → b < w.heap.size ∧ (lkb bxs s).isSome = true) →
    (∀ b p, g.x b = some p → b < w.heap.size ∧ g.okx b ∧ (∀ s, g.bx s ≠ some b) ∧ ∃ s j, p = .cell s j) →
    vs.length = args.length → (∀ j, j < args.length → RepB g (args.getD j (.v .undef)) (vs.getD j Go.undef)) →
    Calls P f vs.toArray w fun e w' => ∃ val g', e = .returned val ∧ Ext (fun k => (∃ s, g.bx s = some k) ∨ g.x k ≠ none) w w' ∧ g.mu.le g'.mu ∧ MemOK g'.mu w' ∧
      (∀ b j, b < w.heap.size → g.x b = none → g'.mu b j = g.mu b j) ∧
      (∀ s cells, lkb bxs' s = some cells → ∃ b, g.bx s = some b ∧ BoxIn g' w' s b cells) ∧
      (∀ b p, g'.x b = some p → b < w'.heap.size ∧ (b < w.heap.size → g.x b ≠ none) ∧ ∀ s, g.bx s ≠ some b) ∧
      (∀ b, g'.okx b → b < w.heap.size → g.x b ≠ none) ∧ RepL g' w' 0 rv val

theorem lkb_append : ∀ (A B : List (Nat × List RV)) (t : Nat), lkb (A ++ B) t = match lkb A t with | some c => some c | none => lkb B t
  | [], B, t => rfl
  | (s, v) :: A, B, t => by
    simp only [List.cons_append, lkb]
    split
    · rfl
    · exact lkb_append A B t

/-- Values that stand alone. -/
def LV.alone : LV → Bool
  | .sv _ | .own _ _ | .tup _ | .arr _ _ => true
  | _ => false
theorem RepR.move {gc g2 : Gh} {p q : Place} (hmu : gc.mu = g2.mu) (hx : ∀ b, gc.x b = some p → gc.okx b → g2.x b = some q ∧ g2.okx b) {r : RV} {val : Value} (h : RepR gc w p r val) : RepR g2 w q r val := by
  cases r with
  | sv x => show Rep g2.mu x val; rw [← hmu]; exact h
  | own sz xs =>
    rcases h with ⟨h1, h2⟩ | ⟨b, off, cap, h1, h2, h3, h4, h5, h6⟩
    · exact .inl ⟨by rw [← hmu]; exact h1, h2⟩
    · exact .inr ⟨b, off, cap, h1, by rw [← hmu]; exact h2, (hx b h3 h4).1, (hx b h3 h4).2, h5, fun j hj => by rw [← hmu]; exact h6 j hj⟩
theorem RepL.move {gc g2 : Gh} {s d : Nat} (hmu : gc.mu = g2.mu) (hx : ∀ b i, gc.x b = some (.slot s i) → gc.okx b → g2.x b = some (.slot d i) ∧ g2.okx b) {lv : LV} (hal : lv.alone = true) {val : Value} (h : RepL gc w s lv val) : RepL g2 w d lv val := by
  cases lv with
  | sv x => show Rep g2.mu x val; rw [← hmu]; exact h
  | own sz xs => exact RepR.move (r := .own sz xs) hmu (fun b e => hx b 0 e) h
  | tup vs =>
    obtain ⟨us, h1, h2, h3⟩ := h
    exact ⟨us, h1, h2, fun j hj => RepR.move hmu (fun b e => hx b j e) (h3 j hj)⟩
  | arr sz xs =>
    rcases h with h | ⟨b, h2, h3, off, cap, c, e, fr, a1, a2, a3, a4, a5, a6, a7⟩
    · exact .inl h
    · exact .inr ⟨b, (hx b 0 h2 h3).1, (hx b 0 h2 h3).2, off, cap, c, e, fr, a1, fun j => by rw [← hmu]; exact a2 j, a3, a4, a5, a6, fun i j hi hj => by rw [← hmu]; exact a7 i j hi hj⟩
  | _ => cases hal

def baOf (st : St) (x : AO) : Option (Bool × BA) := match rdl st x with
  | (g, .lptr s off) => some (g, .c (.bp s off))
  | (g, .pp s off) => some (g, .c (.pp s off))
  | (g, .clo f nf caps) => some (g, .f f nf caps)
  | (g, lv) => lv.sh?.map fun y => (g, .v y)
def baList (st : St) : List AO → Option (Prop × List BA)
  | [] => some (True, [])
  | x :: r => match baOf st x, baList st r with
    | some (g, y), some (c, l) => some (g = true ∧ c, y :: l)
    | _, _ => none
def capOf (st : St) (x : AO) : Option (Bool × Cap) := match rdl st x with
  | (g, .lptr s off) => some (g, .bp s off)
  | (g, .pp s off) => some (g, .pp s off)
  | _ => none
def capList (st : St) : List AO → Option (Prop × List Cap)
  | [] => some (True, [])
  | x :: r => match capOf st x, capList st r with
    | some (g, y), some (c, l) => some (g = true ∧ c, y :: l)
    | _, _ => none
theorem baOf_rep (h : Sim w0 mu0 T g st a w) {x : Operand} {o : AO} (hx : compO x = some o) {y : BA} (hr : baOf st o = some (true, y)) : RepB g y (a.eval x) := by
  unfold baOf at hr
  split at hr
  · rename_i e; cases hr; exact rdl_lptr h hx e
  · rename_i e; cases hr; exact rdl_pp h hx e
  · rename_i e; cases hr; exact rdl_clo h hx e
  · rename_i gg lv e1 e2 e3 e
    obtain ⟨z, hz, he⟩ : ∃ z, lv.sh? = some z ∧ (gg, BA.v z) = (true, y) := by simpa using hr
    cases he
    exact rd_rep h hx (by simp [rd, e, hz])
def capsIn (bxs : List (Nat × List RV)) : List BA → Bool
  | [] => true
  | .v _ :: r => capsIn bxs r
  | .c c :: r => (lkb bxs c.name).isSome && capsIn bxs r
  | .f _ _ caps :: r => (caps.all fun c => (lkb bxs c.name).isSome) && capsIn bxs r
theorem capsIn_spec {bxs : List (Nat × List RV)} : ∀ {l : List BA}, capsIn bxs l = true → ∀ j, j < l.length → ∀ c, l.getD j (.v .undef) = .c c → (lkb bxs c.name).isSome = true
  | [], _, j, hj, _, _ => by simp at hj
  | .v v :: r, h, 0, _, c, e => by simp at e
  | .v v :: r, h, j + 1, hj, c, e => capsIn_spec (l := r) h j (by simpa using hj) c (by simpa using e)
  | .c c' :: r, h, 0, _, c, e => by
    simp only [capsIn, Bool.and_eq_true] at h
    simp at e; subst e; exact h.1
  | .c c' :: r, h, j + 1, hj, c, e => by
    simp only [capsIn, Bool.and_eq_true] at h
    exact capsIn_spec (l := r) h.2 j (by simpa using hj) c (by simpa using e)
  | .f _ _ _ :: r, h, 0, _, c, e => by simp at e
  | .f _ _ _ :: r, h, j + 1, hj, c, e => by
    simp only [capsIn, Bool.and_eq_true] at h
    exact capsIn_spec (l := r) h.2 j (by simpa using hj) c (by simpa using e)
theorem capsIn_specF {bxs : List (Nat × List RV)} : ∀ {l : List BA}, capsIn bxs l = true → ∀ j, j < l.length → ∀ f nf caps, l.getD j (.v .undef) = .f f nf caps → ∀ c ∈ caps, (lkb bxs c.name).isSome = true
  | [], _, j, hj, _, _, _, _ => by simp at hj
  | .v v :: r, h, 0, _, f, nf, caps, e => by simp at e
  | .v v :: r, h, j + 1, hj, f, nf, caps, e => capsIn_specF (l := r) h j (by simpa using hj) f nf caps (by simpa using e)
  | .c c' :: r, h, 0, _, f, nf, caps, e => by simp at e
  | .c c' :: r, h, j + 1, hj, f, nf, caps, e => by
    simp only [capsIn, Bool.and_eq_true] at h
    exact capsIn_specF (l := r) h.2 j (by simpa using hj) f nf caps (by simpa using e)
  | .f _ _ _ :: r, h, 0, _, f, nf, caps, e => by
    simp only [capsIn, Bool.and_eq_true] at h
    simp at e
    obtain ⟨rfl, rfl, rfl⟩ := e
    exact fun c hc => List.all_eq_true.1 h.1 c hc
  | .f _ _ _ :: r, h, j + 1, hj, f, nf, caps, e => by
    simp only [capsIn, Bool.and_eq_true] at h
    exact capsIn_specF (l := r) h.2 j (by simpa using hj) f nf caps (by simpa using e)
def namesIn (A B : List (Nat × List RV)) : Bool := A.all fun p => (lkb B p.1).isSome
theorem lkb_mem : ∀ {l : List (Nat × List RV)} {s : Nat} {c : List RV}, lkb l s = some c → (s, c) ∈ l
  | (t, v) :: l, s, c, h => by
    simp only [lkb] at h
    split at h
    · rename_i e; cases h; subst e; simp
    · exact List.mem_cons_of_mem _ (lkb_mem h)
theorem namesIn_spec {A B : List (Nat × List RV)} (h : namesIn A B = true) {s : Nat} (hs : (lkb A s).isSome = true) : (lkb B s).isSome = true := by
  obtain ⟨c, hc⟩ := Option.isSome_iff_exists.1 hs
  exact List.all_eq_true.1 h _ (lkb_mem hc)
def BxsAt (st : St) : List (Nat × List RV) → Prop
  | [] => True
  | (s, c) :: r => lkb st.bx s = some c ∧ BxsAt st r
theorem BxsAt.spec {st : St} : ∀ {l : List (Nat × List RV)}, BxsAt st l → ∀ s c, lkb l s = some c → lkb st.bx s = some c
  | (t, v) :: l, h, s, c, e => by
    simp only [lkb] at e
    split at e
    · rename_i q; cases e; subst q; exact h.1
    · exact BxsAt.spec h.2 s c e

open Classical in
/-- After a call that works on boxes. -/
theorem Sim.calledB (h : Sim w0 mu0 T g st a w) {f : FuncId} {bxs bxs' : List (Nat × List RV)} {args : List BA} {rv : LV} (he : EffB P f bxs args rv bxs') (hat : BxsAt st bxs) (hci : capsIn bxs args = true) (hni : namesIn bxs bxs' = true) (hal : rv.alone = true)
    {vs : List Value} (hlen : vs.length = args.length) (hrep : ∀ j, j < args.length → RepB g (args.getD j (.v .undef)) (vs.getD j Go.undef)) (d : Nat) :
    Calls P f vs.toArray w fun e w' => ∃ val g', e = .returned val ∧ Sim w0 mu0 T g' { st with bx := bxs' ++ st.bx } a w' ∧ RepL g' w' d rv val := by
  have hat' := hat.spec
  let g1 : Gh := { mu := g.mu, bx := fun s => if (lkb bxs s).isSome = true then g.bx s else none, x := fun b => match g.x b with | some (.cell s j) => if (lkb bxs s).isSome = true ∧ g.okx b then some (.cell s j) else none | _ => none, okx := g.okx, okb := g.okb }
  have hbx1 : ∀ {s b}, g1.bx s = some b → g.bx s = some b ∧ (lkb bxs s).isSome = true := fun {s b} e => by
    simp only [g1] at e
    split at e
    · rename_i q; exact ⟨e, q⟩
    · cases e
  have hx1 : ∀ {b p}, g1.x b = some p → g.x b = some p ∧ g.okx b ∧ ∃ s j, p = .cell s j ∧ (lkb bxs s).isSome = true := fun {b p} e => by
    simp only [g1] at e
    split at e
    · rename_i s j hx
      split at e
      · rename_i q; cases e; exact ⟨hx, q.2, s, j, rfl, q.1⟩
      · cases e
    · cases e
  have hx1n : ∀ {b}, g.x b = none → g1.x b = none := fun {b} e => by
    cases q : g1.x b with
    | none => rfl
    | some p => have := (hx1 q).1; rw [e] at this; cases this
  have hslot1 : ∀ {b s i}, g.x b = some (.slot s i) → g1.x b = none := fun {b s i} e => by simp only [g1, e]
  have hcell1 : ∀ {b s j}, g.x b = some (.cell s j) → ¬ (lkb bxs s).isSome = true → g1.x b = none := fun {b s j} e q => by simp only [g1, e]; rw [if_neg (fun z => q z.1)]
  have hcell2 : ∀ {b s j}, g.x b = some (.cell s j) → (lkb bxs s).isSome = true → g.okx b → g1.x b = some (.cell s j) := fun {b s j} e q z => by simp only [g1, e]; rw [if_pos ⟨q, z⟩]
  have hsz := h.ext.size
  refine (he g1 w vs h.mem ?_ ?_ ?_ ?_ hlen ?_).mono fun e w' hpost => ?_
  · intro s cells hc
    obtain ⟨b, hb, k1, k2, k3, c, e, fr, k4, k5, k6, k7⟩ := h.boxes s cells (hat' s cells hc)
    have hsome : (lkb bxs s).isSome = true := by rw [hc]; rfl
    refine ⟨b, by simp only [g1]; rw [if_pos hsome]; exact hb, k2, hx1n k3, c, e, fr, k4, k5, k6, fun j hj => ?_⟩
    have := k7 j hj
    cases hr : cells.getD j (.sv .undef) with
    | sv v => rw [hr] at this; exact this
    | own sz xs =>
      rw [hr] at this
      rcases this with q | ⟨b', off, cap, q1, q2, q3, q4, q5, q6⟩
      · exact .inl q
      · exact .inr ⟨b', off, cap, q1, q2, hcell2 q3 hsome q4, q4, q5, q6⟩
  · intro s s' b e1 e2
    exact h.bxinj s s' b (hbx1 e1).1 (hbx1 e2).1
  · intro s b e1
    exact ⟨h.blt s b (hbx1 e1).1, (hbx1 e1).2⟩
  · intro b p e1
    obtain ⟨q1, q2, s, j, q3, q4⟩ := hx1 e1
    exact ⟨h.xlt b p q1, q2, fun s' e2 => h.bxx s' b p q1 (hbx1 e2).1, s, j, q3⟩
  · intro j hj
    have := hrep j hj
    cases hb : args.getD j (.v .undef) with
    | v v => rw [hb] at this; exact this
    | c c =>
      rw [hb] at this
      have hin := capsIn_spec hci j hj c hb
      cases c with
      | bp s off => obtain ⟨b, q1, q2⟩ := this; exact ⟨b, (if_pos hin).trans q1, q2⟩
      | pp s off => obtain ⟨b0, o0, b, q1, q2, q3⟩ := this; exact ⟨b0, o0, b, q1, q2, (if_pos hin).trans q3⟩
    | f f nf caps =>
      rw [hb] at this
      obtain ⟨us, z1, z2, z3⟩ := this
      refine ⟨us, z1, z2, fun i hi => ?_⟩
      have hin := capsIn_specF hci j hj f nf caps hb _ (capIn hi)
      have := z3 i hi
      cases hc : caps.getD i default with
      | bp s off => rw [hc] at this hin; obtain ⟨b, q1, q2⟩ := this; exact ⟨b, (if_pos hin).trans q1, q2⟩
      | pp s off => rw [hc] at this hin; obtain ⟨b0, o0, b, q1, q2, q3⟩ := this; exact ⟨b0, o0, b, q1, q2, (if_pos hin).trans q3⟩
  obtain ⟨val, gc, rfl, hext, hle, hmem, hold, hbox, hxc, hokc, hrv⟩ := hpost
  let g2 : Gh := { mu := gc.mu, bx := g.bx, okx := g.okx, okb := g.okb, x := fun b => if b < w.heap.size ∧ g1.x b = none then g.x b else match gc.x b with | some (.slot 0 i) => some (.slot d i) | some (.cell s j) => some (.cell s j) | _ => none }
  have hold2 : ∀ {b}, b < w.heap.size → g1.x b = none → g2.x b = g.x b := fun {b} q1 q2 => by simp only [g2]; rw [if_pos ⟨q1, q2⟩]
  have hgc : ∀ {b p}, gc.x b = some p → ¬ (b < w.heap.size ∧ g1.x b = none) := fun {b p} e q => (hxc b p e).2.1 q.1 q.2
  have hblk : ∀ {b}, b < w.heap.size → (∀ s, (lkb bxs s).isSome = true → g.bx s ≠ some b) → g1.x b = none → w'.heap[b]? = w.heap[b]? := fun {b} q1 q2 q3 =>
    hext.block b q1 (fun z => by
      rcases z with ⟨s, z⟩ | z
      · exact q2 s (hbx1 z).2 (hbx1 z).1
      · exact z q3)
  have hok2 : ∀ b, gc.okx b → g2.okx b := fun b q => by
    by_cases z : b < w.heap.size
    · obtain ⟨p, hp⟩ := Option.ne_none_iff_exists'.1 (hokc b q z)
      exact (hx1 hp).2.1
    · exact h.okNew (Nat.le_of_not_lt z)
  refine ⟨val, g2, rfl, ?_, ?_⟩
  · constructor
    · exact h.size
    · exact h.defers
    · intro s
      refine RepL.keeps' (g := g) (g' := g2) hle (fun b i e => ?_) rfl (fun _ => rfl) (h.slots s)
      have hlt := h.xlt b _ e
      have hn := hslot1 e
      exact ⟨(hold2 hlt hn).trans e, hblk hlt (fun s' _ => h.bxx s' b _ e) hn, fun j q => (hold b j hlt hn).trans q⟩
    · intro s cells hc
      simp only at hc
      rw [lkb_append] at hc
      cases hs : lkb bxs' s with
      | some c1 =>
        rw [hs] at hc
        simp only [Option.some.injEq] at hc
        subst hc
        obtain ⟨b, hb, k2, k3, c, e, fr, k4, k5, k6, k7⟩ := hbox s _ hs
        obtain ⟨hb1, hb2⟩ := hbx1 hb
        obtain ⟨c0, hc0⟩ := Option.isSome_iff_exists.1 hb2
        obtain ⟨b', hb', m1, m2, m3, _⟩ := h.boxes s c0 (hat' s c0 hc0)
        rw [hb1] at hb'; cases hb'
        have hlt := h.blt s b hb1
        refine ⟨b, hb1, m1, k2, (hold2 hlt (hx1n m3)).trans m3, c, e, fr, k4, k5, k6, fun j hj => ?_⟩
        exact RepR.move (gc := gc) (g2 := g2) rfl (fun b' e' z => ⟨by simp only [g2]; rw [if_neg (hgc e'), e'], hok2 _ z⟩) (k7 j hj)
      | none =>
        rw [hs] at hc
        simp only at hc
        obtain ⟨b, hb, k1, k2, k3, c, e, fr, k4, k5, k6, k7⟩ := h.boxes s cells hc
        have hnot : ¬ (lkb bxs s).isSome = true := fun q => by
          have := namesIn_spec hni q
          rw [hs] at this; cases this
        have hlt := h.blt s b hb
        have hh : w'.heap[b]? = w.heap[b]? := hblk hlt (fun s' q1 q2 => by
          have := h.bxinj s' s b q2 hb
          subst this; exact hnot q1) (hx1n k3)
        refine ⟨b, hb, k1, fun j => (hold b j hlt (hx1n k3)).trans (k2 j), (hold2 hlt (hx1n k3)).trans k3, c, e, fr, hh.trans k4, k5, k6, fun j hj => ?_⟩
        refine RepR.keeps (g := g) (g' := g2) ⟨hle, fun b' e' => ?_, rfl⟩ (k7 j hj)
        have hlt' := h.xlt b' _ e'
        have hn := hcell1 e' hnot
        exact ⟨(hold2 hlt' hn).trans e', hblk hlt' (fun s' _ => h.bxx s' b' _ e') hn, fun j q => (hold b' j hlt' hn).trans q⟩
    · exact h.bxinj
    · intro b cells hc
      obtain ⟨⟨m1, c, e, fr, m2, m3, m4, m5⟩, m6, m7, m8⟩ := h.heap b cells hc
      have hlt := h.used_lt (b := b) (.inr (.inr (by rw [show st.hp b = some cells from hc]; simp)))
      have hn := hx1n m6
      exact ⟨⟨fun j => (hold b j hlt hn).trans (m1 j), c, e, fr, (hblk hlt (fun s _ => m7 s) hn).trans m2, m3, m4, fun j hj => (m5 j hj).mono hle⟩, (hold2 hlt hn).trans m6, m7, m8⟩
    · exact hmem
    · intro b j hb ht
      have hn : g1.x b = none := by
        cases q : g1.x b with
        | none => rfl
        | some p =>
          have := (hx1 q).2.1
          rw [h.okx] at this
          exact absurd (this hb) ht
      rw [show g2.mu b j = gc.mu b j from rfl, hold b j (by omega) hn]
      exact h.mem0 b j hb ht
    · exact Mem.le_trans h.mule hle
    · refine ⟨hext.os.trans h.ext.os, hext.tape.trans h.ext.tape, hext.output.trans h.ext.output, Nat.le_trans h.ext.size hext.size, fun k hk ht => (hext.block k (by omega) (fun z => ?_)).trans (h.ext.block k hk ht)⟩
      rcases z with ⟨s, z⟩ | z
      · obtain ⟨hb1, hb2⟩ := hbx1 z
        obtain ⟨c0, hc0⟩ := Option.isSome_iff_exists.1 hb2
        obtain ⟨b', hb', m1, _⟩ := h.boxes s c0 (hat' s c0 hc0)
        rw [hb1] at hb'; cases hb'
        rw [h.okb] at m1
        exact ht (.inl (m1 hk))
      · obtain ⟨p, hp⟩ := Option.ne_none_iff_exists'.1 z
        have := (hx1 hp).2.1
        rw [h.okx] at this
        exact ht (.inr (this hk))
    · exact h.okx
    · intro b p e
      simp only [g2] at e
      split at e
      · exact Nat.lt_of_lt_of_le (h.xlt b p e) hext.size
      · cases q : gc.x b with
        | none => rw [q] at e; cases e
        | some p' => exact (hxc b p' q).1
    · intro s b e
      exact Nat.lt_of_lt_of_le (h.blt s b e) hext.size
    · intro s b p e
      simp only [g2] at e
      split at e
      · exact h.bxx s b p e
      · rename_i hneg
        cases q : gc.x b with
        | none => rw [q] at e; cases e
        | some p' =>
          intro hb
          have hlt := h.blt s b hb
          obtain ⟨p1, hp1⟩ := Option.ne_none_iff_exists'.1 ((hxc b p' q).2.1 hlt)
          exact h.bxx s b _ (hx1 hp1).1 hb
    · exact h.okb
    · exact h.pin
  · exact RepL.move (gc := gc) (g2 := g2) rfl (fun b i e z => ⟨by simp only [g2]; rw [if_neg (hgc e), e]; rfl, hok2 _ z⟩) hal hrv
end Go.Av

set_option linter.unusedSimpArgs false
namespace Go.Av
variable {P : Program} {w0 : World} {mu0 : Mem} {T : Tc} {g g' : Gh} {st st' : St} {a : Act} {w w' : World}

def RepArgs (mu : Mem) (args : List SV) (vs : List Value) : Prop := vs.length = args.length ∧ ∀ j, j < args.length → Rep mu (args.getD j .undef) (vs.getD j Go.undef)

/-- A call's result, of its own. -/
def RetRepX (ok : Nat → Prop) (mu : Mem) (w : World) (rv : LV) (val : Value) : Prop :=
  ∃ x : Nat → Option Place, RepL { mu := mu, x := x, bx := fun _ => none, okx := ok } w 0 rv val ∧ ∀ b p, x b = some p → b < w.heap.size
abbrev RetRep (B : Nat) (mu : Mem) (w : World) (rv : LV) (val : Value) : Prop := RetRepX (fun b => b < B → False) mu w rv val

/-- A call that computes alone: whatever the memory, it returns this, and leaves what was there. -/
def Pure (P : Program) (f : FuncId) (args : List SV) (rv : LV) : Prop :=
  ∀ (mu : Mem) (w : World) (vs : List Value), MemOK mu w → RepArgs mu args vs →
    Calls P f vs.toArray w fun e w' => ∃ val mu', e = .returned val ∧ Ext (fun _ => False) w w' ∧ mu.le mu' ∧ MemOK mu' w' ∧ (∀ b j, b < w.heap.size → mu' b j = mu b j) ∧ RetRep w.heap.size mu' w' rv val

/-- Values that refer to no memory. -/
def SV.flat : SV → Bool
  | .undef => true
  | .int _ _ => true
  | .bool _ => true
  | .anyb => true
  | .str _ => true
  | .nils => true
  | .nilp => true
  | .agg cs => cs.all fun c => match c with
    | .undef => true
    | .int _ _ => true
    | .bool _ => true
    | .anyb => true
    | .str _ => true
    | .nils => true
    | .nilp => true
    | _ => false
  | _ => false

/-- An array of the frame's own, or none. -/
def ArrV (mu : Mem) (w : World) (sz : Nat) (xs : List SV) (val : Value) (ob : Option Nat) : Prop :=
  (ob = none ∧ xs = [] ∧ val = .slice none 0 0) ∨ ∃ b, ob = some b ∧ ArrAt mu w sz xs val b

/-- A call that takes an array over, and may change it. -/
def PureD (P : Program) (f : FuncId) (sz : Nat) (xs : List SV) (args : List SV) (rv : LV) : Prop :=
  ∀ (mu : Mem) (w : World) (ob : Option Nat) (val : Value) (vs : List Value), MemOK mu w → ArrV mu w sz xs val ob → RepArgs mu args vs →
    Calls P f (val :: vs).toArray w fun e w' => ∃ val' mu', e = .returned val' ∧ Ext (fun b => ob = some b) w w' ∧ mu.le mu' ∧ MemOK mu' w' ∧ (∀ b j, b < w.heap.size → ob ≠ some b → mu' b j = mu b j) ∧
      RetRepX (fun b => b < w.heap.size → ob = some b) mu' w' rv val'

/-- A call with a pointer to one object: it returns this, and leaves that in the object, and all else as it was. -/
def Eff1 (P : Program) (f : FuncId) (cells : List SV) (args : List SV) (rv : LV) (cells' : List SV) : Prop :=
  ∀ (mu : Mem) (w : World) (b : Nat) (vs : List Value), MemOK mu w → HeapAt mu w b cells → RepArgs mu args vs →
    Calls P f (.pointer (some ⟨b, 0, none⟩) :: vs).toArray w fun e w' => ∃ val mu', e = .returned val ∧ Ext (fun k => k = b) w w' ∧ mu.le mu' ∧ MemOK mu' w' ∧ (∀ b' j, b' < w.heap.size → mu' b' j = mu b' j) ∧
      HeapAt mu' w' b cells' ∧ RetRep w.heap.size mu' w' rv val

/-- A call that returns a new object. -/
def PureN (P : Program) (f : FuncId) (args : List SV) (cells : List SV) : Prop :=
  ∀ (mu : Mem) (w : World) (vs : List Value), MemOK mu w → RepArgs mu args vs →
    Calls P f vs.toArray w fun e w' => ∃ b mu', e = .returned (.pointer (some ⟨b, 0, none⟩)) ∧ Ext (fun _ => False) w w' ∧ mu.le mu' ∧ MemOK mu' w' ∧ (∀ b j, b < w.heap.size → mu' b j = mu b j) ∧
      w.heap.size ≤ b ∧ HeapAt mu' w' b cells

/-- A function of the program's own. -/
def okFn (P : Program) (f : FuncId) : Prop := ∃ fn, P.funcs[f]? = some fn ∧ fn.body.isSome = true ∧ (fn.name == "runtime.NumGoroutine") = false

def noL (d : Nat) (l : List (Nat × LV)) : Prop := ∀ p ∈ l, p.2.isL d = false

def AK.plain : AK → Bool
  | .take _ | .mark _ | .ext _ _ | .app _ _ _ _ | .appS _ _ | .box _ _ | .alloc _ | .store _ _ _ | .storeO _ _ | .takeLoad _ | .call _ _ | .callE _ _ _ | .callN _ _ | .callV _ _ | .rng _ | .nxt _ => false
  | _ => true

def gdv (gu : Option (Nat × Bool)) (g : Bool) (lv : LV) : LV := match gu with
  | none => lv
  | some _ => .gd g lv

def St.putS (st : St) (d : Nat) (lv : LV) : St := { st with sl := (d, lv) :: st.sl }

def storeV (st : St) (p : LV) (vs : List SV) : Option (Prop × St) :=
  match p with
  | .lptr s off => match lkb st.bx s with
    | some cells => some (off + vs.length ≤ cells.length, updBox st s (setR cells off vs))
    | none => none
  | _ => none

/-- The step of a range over a string: what is told, and the place behind. -/
def nxtV (t : ByteArray) (pos : Nat) : LV := if pos < t.size then .tup [.sv (.bool true), .sv (.int .i64 pos), .sv (.int .i32 (Utf8.decode t pos).1)] else .tup [.sv (.bool false)]
def nxtP (t : ByteArray) (pos : Nat) : Nat := if pos < t.size then pos + (Utf8.decode t pos).2 else pos

/-- One operation, on abstract states. -/
def AStep (P : Program) (st : St) (o : AOp) (K : St → Prop) : Prop :=
  match o.k with
  | .box n x => o.guard = none ∧ ∃ d, o.dst = some d ∧ (d < st.n ∧ d ≠ 0) ∧ noL d st.sl ∧ match rd st x with
    | some (g, v) => g = true ∧ v.nc = n ∧ v.known = true ∧ K { st with sl := (d, .lptr d 0) :: st.sl, bx := (d, v.cells.map .sv) :: st.bx }
    | none => False
  | .alloc zero => (o.guard = none ∧ zero = [.nilp] ∧ ∃ d, o.dst = some d ∧ d < st.n ∧ K (st.putS d .pn)) ∨
    (o.guard = none ∧ ∃ d, o.dst = some d ∧ (d < st.n ∧ d ≠ 0) ∧ noL d st.sl ∧ K { st with sl := (d, .lptr d 0) :: st.sl, bx := (d, zero.map .sv) :: st.bx })
  | .store n x v => (o.guard = none ∧ o.dst = none ∧ n = 1 ∧ ∃ s, x = .t s ∧ s < st.n ∧ match (lk st.sl s).gv, rdl st v with
    | (g1, .pn), (g2, .lptr t off) => g1 = true ∧ g2 = true ∧ K (st.putS s (.pp t off))
    | _, _ => False) ∨
    (o.guard = none ∧ o.dst = none ∧ match rdl st x, rd st v with
    | (g1, p), some (g2, u) => g1 = true ∧ g2 = true ∧ u.nc = n ∧ u.cells.all SV.isCell = true ∧ match storeV st p u.cells with
      | some (c, st') => c ∧ K st'
      | none => False
    | _, none => False)
  | .call f args => (∃ d, o.dst = some d ∧ d < st.n ∧ match gOf st o.guard, evList st args with
    | some g, some (c, l) => ∃ rv, (g = true → c ∧ Pure P f l rv) ∧ K (st.putS d (gdv o.guard g rv))
    | _, _ => False) ∨
    (o.guard = none ∧ ∃ d, o.dst = some d ∧ d < st.n ∧ match evList st args with
    | some (c, l) => ∃ sz xs, c ∧ Pure P f l (.own sz xs) ∧ xs.all SV.flat = true ∧ K (st.putS d (.arr sz xs))
    | none => False) ∨
    (o.guard = none ∧ ∃ d s rest sz xs, o.dst = some d ∧ d < st.n ∧ args = .t s :: rest ∧ (lk st.sl s).gv = (true, .arr sz xs) ∧ match evList st rest with
    | some (c, l) => ∃ rv, c ∧ PureD P f sz xs l rv ∧ K { st with sl := (d, rv) :: (s, .sv .undef) :: st.sl }
    | none => False)
  | .callE f x args => (o.guard = none ∧ ∃ d, o.dst = some d ∧ d < st.n ∧ match baList st (x :: args) with
    | some (c, l) => c ∧ ∃ bxs rv bxs', EffB P f bxs l rv bxs' ∧ BxsAt st bxs ∧ capsIn bxs l = true ∧ namesIn bxs bxs' = true ∧ rv.alone = true ∧ K { st with sl := (d, rv) :: st.sl, bx := bxs' ++ st.bx }
    | none => False) ∨
    (∃ d, o.dst = some d ∧ d < st.n ∧ match gOf st o.guard, rdl st x, evList st args with
    | some g, (gx, .lptr s 0), some (c, l) => match lkb st.bx s with
      | some cells => ∃ rv cells', (g = true → gx = true ∧ c ∧ Eff1 P f (cells.map RV.share) l rv cells') ∧ K { st with sl := (d, gdv o.guard g rv) :: st.sl, bx := (s, cond g (cells'.map .sv) cells) :: st.bx }
      | none => False
    | some g, (gx, .sv v), some (c, l) => ∃ rv, (g = true → gx = true ∧ c ∧ Pure P f (v :: l) rv) ∧ K (st.putS d (gdv o.guard g rv))
    | _, _, _ => False)
  | .callN f args => o.guard = none ∧ ∃ d, o.dst = some d ∧ (d < st.n ∧ d ≠ 0) ∧ noL d st.sl ∧ match evList st args with
    | some (c, l) => c ∧ ∃ cells, PureN P f l cells ∧ K { st with sl := (d, .lptr d 0) :: st.sl, bx := (d, cells.map .sv) :: st.bx }
    | none => False
  | .callV x args => (o.guard = none ∧ ∃ d, o.dst = some d ∧ d < st.n ∧ match rdl st x, baList st args with
    | (gx, .clo f nf caps), some (c, l) => gx = true ∧ c ∧ okFn P f ∧ ∃ bxs rv bxs', EffB P f bxs ((caps.take nf).map .c ++ l ++ (caps.drop nf).map .c) rv bxs' ∧ BxsAt st bxs ∧ capsIn bxs ((caps.take nf).map .c ++ l ++ (caps.drop nf).map .c) = true ∧ namesIn bxs bxs' = true ∧ rv.alone = true ∧ K { st with sl := (d, rv) :: st.sl, bx := bxs' ++ st.bx }
    | _, _ => False) ∨
    (∃ d, o.dst = some d ∧ d < st.n ∧ match gOf st o.guard, rd st x, evList st args with
    | some g, some (gx, .fn f fs cs), some (c, l) => ∃ rv, (g = true → gx = true ∧ c ∧ okFn P f ∧ Pure P f (fs ++ l ++ cs) rv) ∧ K (st.putS d (gdv o.guard g rv))
    | _, _, _ => False)
  | .mkfn f first caps => (o.guard = none ∧ ∃ d, o.dst = some d ∧ d < st.n ∧ match capList st (first ++ caps) with
    | some (c, l) => c ∧ K (st.putS d (.clo f first.length l))
    | none => False) ∨ ∃ d, o.dst = some d ∧ d < st.n ∧ match gOf st o.guard, ev st (.mkfn f first caps) with
    | some g, some (c, lv) => (g = true → c) ∧ K (st.putS d (gdv o.guard g lv))
    | some false, none => K (st.putS d (.gd false (.sv .undef)))
    | _, _ => False
  | .load n x => (n = none ∧ ∃ d, o.dst = some d ∧ d < st.n ∧ match gOf st o.guard, rdl st x with
    | some gg, (gx, .pp s off) => (gg = true → gx = true) ∧ K (st.putS d (gdv o.guard gg (.lptr s off)))
    | _, _ => False) ∨ ∃ d, o.dst = some d ∧ d < st.n ∧ match gOf st o.guard, ev st (.load n x) with
    | some g, some (c, lv) => (g = true → c) ∧ K (st.putS d (gdv o.guard g lv))
    | some false, none => K (st.putS d (.gd false (.sv .undef)))
    | _, _ => False
  | .rng x => o.guard = none ∧ ∃ d, o.dst = some d ∧ d < st.n ∧ match rd st x with
    | some (g, .str t) => g = true ∧ K (st.putS d (.siter t 0))
    | _ => False
  | .nxt s => o.guard = none ∧ ∃ d, o.dst = some d ∧ d < st.n ∧ match (lk st.sl s).gv with
    | (g, .siter t pos) => g = true ∧ K { st with sl := (d, nxtV t pos) :: (s, .siter t (nxtP t pos)) :: st.sl }
    | _ => False
  | .takeLoad x => (o.guard = none ∧ ∃ d, o.dst = some d ∧ d < st.n ∧ match rdl st x with
    | (g, .lptr s off) => match lkb st.bx s with
      | some cells => g = true ∧ off < cells.length ∧ K { st with sl := (d, (cells.getD off (.sv .undef)).lv) :: st.sl, bx := (s, cells.set off (.sv (cells.getD off (.sv .undef)).share)) :: st.bx }
      | none => False
    | _ => False) ∨ ∃ d, o.dst = some d ∧ d < st.n ∧ match gOf st o.guard, ev st (.load none x) with
    | some g, some (c, lv) => (g = true → c) ∧ K ((dgr st (.load none x)).putS d (gdv o.guard g lv))
    | some false, none => K (st.putS d (.gd false (.sv .undef)))
    | _, _ => False
  | .storeO x s => (o.guard = none ∧ o.dst = none ∧ match rdl st x, (lk st.sl s).gv with
    | (g, .lptr t off), (g2, .own sz xs) => match lkb st.bx t with
      | some cells => g = true ∧ g2 = true ∧ off < cells.length ∧ K { st with sl := (s, (lk st.sl s).dg) :: st.sl, bx := (t, cells.set off (.own sz xs)) :: st.bx }
      | none => False
    | _, _ => False) ∨ (o.guard = none ∧ o.dst = none ∧ match rdl st x, rd st (.t s) with
    | (g1, p), some (g2, u) => g1 = true ∧ g2 = true ∧ u.nc = 1 ∧ u.cells.all SV.isCell = true ∧ match storeV st p u.cells with
      | some (c, st') => c ∧ K st'
      | none => False
    | _, none => False)
  | .mks sz bytes zero l => (o.guard = none ∧ sz = 1 ∧ ∃ d, o.dst = some d ∧ (d < st.n ∧ d ≠ 0) ∧ noL d st.sl ∧ match rd st l, zero with
    | some (g, .int _ n), [z] => (g = true ∧ 0 ≤ n ∧ n * bytes ≤ 281474976710656 ∧ n ≤ 9223372036854775807) ∧ K { st with sl := (d, .lsl d 1 0 n.toNat n.toNat) :: st.sl, bx := (d, List.replicate n.toNat (.sv z)) :: st.bx }
    | _, _ => False) ∨ ∃ d, o.dst = some d ∧ d < st.n ∧ match gOf st o.guard, ev st (.mks sz bytes zero l) with
    | some g, some (c, lv) => (g = true → c) ∧ K (st.putS d (gdv o.guard g lv))
    | some false, none => K (st.putS d (.gd false (.sv .undef)))
    | _, _ => False
  | k => ∃ d, o.dst = some d ∧ d < st.n ∧ match gOf st o.guard, ev st k with
    | some g, some (c, lv) => (g = true → c) ∧ K ((dgr st k).putS d (gdv o.guard g lv))
    | some false, none => K (st.putS d (.gd false (.sv .undef)))
    | _, _ => False

/-! ### what an operation is, abstractly -/
def info2 (P : Program) (t : TypeId) : Option (Nat × Nat) := (P.info? t).map fun i => (i.size, i.bytes)

def compParts (P : Program) (fs : Array Field) : List (Nat × Operand) → Option (List (Nat × Nat × AO))
  | [] => some []
  | (i, x) :: r => match fs[i]?, compO x, compParts P fs r with
    | some f, some o, some l => some ((f.offset, P.cellsOf f.type, o) :: l)
    | _, _, _ => none
def compPartsA (sz : Nat) : List (Nat × Operand) → Option (List (Nat × Nat × AO))
  | [] => some []
  | (i, x) :: r => match compO x, compPartsA sz r with
    | some o, some l => some ((i * sz, sz, o) :: l)
    | _, _ => none
def compElems : List (Nat × Operand) → Option (List (Nat × AO))
  | [] => some []
  | (i, x) :: r => match compO x, compElems r with
    | some o, some l => some ((i, o) :: l)
    | _, _ => none
def compArgs : List Operand → Option (List AO)
  | [] => some []
  | x :: r => match compO x, compArgs r with
    | some o, some l => some (o :: l)
    | _, _ => none

def isCellType (P : Program) (t : TypeId) : Bool := ldk P t == some none

/-- Does it return one pointer, and stand unguarded? -/
def retPtr (P : Program) (fn : Func) : Bool := match fn.resultTypes.toList.map P.underlying with
  | [some (.pointer _)] => true
  | _ => false

def compK (P : Program) (tk : Bool) (o : Oper) : Option AK :=
  match o.op with
  | .move x => match tk, x with
    | true, .tmp s => some (.take s)
    | _, _ => (compO x).map .mv
  | .assign x => match x with
    | .tmp s => some (.take s)
    | _ => (compO x).map .mv
  | .pick x y z => match compO x, compO y, compO z with
    | some a, some b, some c => some (.pick a b c)
    | _, _, _ => none
  | .binOp op t x y _ => match P.underlying t, compO x, compO y with
    | some (.int _), some a, some b => some (.bin op a b)
    | some .string, some a, some b => some (.bin op a b)
    | some .bool, some a, some b => (match op with
      | .eql => some (.beq false a b)
      | .neq => some (.beq true a b)
      | _ => none)
    | some (.struct _), some a, some b => (match eqTy P 100 t, op with
      | some ks, .eql => if P.eqGuardType P.depth t = false then some (.eqs ks false a b) else none
      | some ks, .neq => if P.eqGuardType P.depth t = false then some (.eqs ks true a b) else none
      | _, _ => none)
    | some (.array _ _), some a, some b => (match eqTy P 100 t, op with
      | some ks, .eql => if P.eqGuardType P.depth t = false then some (.eqs ks false a b) else none
      | some ks, .neq => if P.eqGuardType P.depth t = false then some (.eqs ks true a b) else none
      | _, _ => none)
    | some (.pointer _), some a, some (.c .nilp) => (match op with
      | .eql => some (.eqn false false a)
      | .neq => some (.eqn false true a)
      | _ => none)
    | some (.slice _), some a, some (.c .nils) => (match op with
      | .eql => some (.eqn true false a)
      | .neq => some (.eqn true true a)
      | _ => none)
    | _, _, _ => none
  | .unOp op _ x => (compO x).map (.una op)
  | .convert s d x => match P.underlying s, P.underlying d, compO x with
    | some (.int _), some (.int k), some a => some (.conv k a)
    | some (.slice e), some .string, some a => match P.underlying e with
      | some (.int .u8) => some (.b2s a)
      | _ => none
    | some .string, some (.slice e), some a => match P.underlying e with
      | some (.int .u8) => some (.s2b a)
      | _ => none
    | some (.slice e), some (.slice _), some (.t z) => match P.underlying e with
      | some (.int .u8) => if s = d then some (.mark z) else none
      | _ => none
    | _, _, _ => none
  | .fieldAddr t x f => match P.underlying t, compO x with
    | some (.struct fs), some a => match fs[f]? with
      | some fd => match P.info? fd.type with
        | some i => if i.size = 0 then none else some (.faddr a fd.offset)
        | none => none
      | none => none
    | _, _ => none
  | .field t x f => match P.underlying t, compO x with
    | some (.struct fs), some a => match fs[f]? with
      | some fd => (ldk P fd.type).map (.fld a fd.offset)
      | none => none
    | _, _ => none
  | .indexAddr t x y => match P.underlying t, compO x, compO y with
    | some (.slice e), some a, some b => (P.info? e).map fun i => .iaddr i.size a b
    | some (.array n e), some a, some b => (P.info? e).map fun i => .iaddrA n i.size a b
    | _, _, _ => none
  | .index t x y => match P.underlying t, compO x, compO y with
    | some .string, some a, some b => some (.idx a b)
    | some (.array n e), some a, some b => match P.info? e, ldk P e with
      | some i, some m => some (.idxA n i.size m a b)
      | _, _ => none
    | _, _, _ => none
  | .load t x => match ldk P t, compO x with
    | some n, some a => some (if tk && n.isNone then .takeLoad a else .load n a)
    | _, _ => none
  | .store t x v => match P.info? t, compO x, compO v with
    | some i, some a, some b => some (match tk, v, i.size with
      | true, .tmp s, 1 => .storeO a s
      | _, _, n => .store n a b)
    | _, _, _ => none
  | .nilCheck x => (compO x).map .nilc
  | .box t x => match P.info? t, compO x with
    | some i, some a => some (.box i.size a)
    | _, _ => none
  | .alloc t => (zeroV P t).map .alloc
  | .build t ps => match P.underlying t, zeroV P t with
    | some (.struct fs), some z => if fs.toList.all (fun f => (P.info? f.type).isSome) then (compParts P fs ps.toList).map (.build z) else none
    | some (.array _ e), some z => match P.info? e with
      | some i => (compPartsA i.size ps.toList).map (.build z)
      | none => none
    | _, _ => none
  | .buildSlice t n ps => match P.underlying t with
    | some (.slice e) => match P.info? e, zeroV P e with
      | some i, some z => if i.size ≠ 0 ∧ n * i.size ≤ 2 ^ 24 ∧ z.length = i.size ∧ z.all SV.isCell = true then (compElems ps.toList).map (.bsl i.size n z) else none
      | _, _ => none
    | _ => none
  | .makeSlice t l c => match P.underlying t, l, c with
    | some (.slice e), .tmp s, .tmp s' => match P.info? e, zeroV P e with
      | some i, some z => if s = s' ∧ i.size ≠ 0 ∧ z.length = i.size ∧ z.all SV.isCell = true then some (.mks i.size i.bytes z (.t s)) else none
      | _, _ => none
    | _, _, _ => none
  | .makeFunc (.func f) first caps => match compArgs first.toList, compArgs caps.toList with
    | some a, some b => some (.mkfn f a b)
    | _, _ => none
  | .extract (.tmp s) i => some (if tk then .ext s i else .extS s i)
  | .slice t x lo hi none => match strT P t, compO x with
    | some b, some a =>
      match (match P.underlying t with | some (.slice e) => (P.info? e).map (·.size) | _ => some 0), (match lo with | none => some none | some y => (compO y).map some), (match hi with | none => some none | some y => (compO y).map some) with
      | some z, some l, some h => some (.slc b z a l h)
      | _, _, _ => none
    | _, _ => none
  | .call { callee := .builtin .len, args := xs, argTypes := ts } => match xs.toList, ts[0]? with
    | [x], some t => match strT P t, compO x with
      | some b, some a => some (.len b a)
      | _, _ => none
    | _, _ => none
  | .call { callee := .builtin .min, args := xs, .. } => match xs.toList with
    | [x, y] => match compO x, compO y with
      | some a, some b => some (.minmax false a b)
      | _, _ => none
    | [x, y, z] => match compO x, compO y, compO z with
      | some a, some b, some c => some (.minmax3 false a b c)
      | _, _, _ => none
    | _ => none
  | .call { callee := .builtin .max, args := xs, .. } => match xs.toList with
    | [x, y] => match compO x, compO y with
      | some a, some b => some (.minmax true a b)
      | _, _ => none
    | [x, y, z] => match compO x, compO y, compO z with
      | some a, some b, some c => some (.minmax3 true a b c)
      | _, _, _ => none
    | _ => none
  | .call { callee := .builtin .append, args := xs, argTypes := ts } => match xs.toList, ts.toList with
    | [.tmp s, y], [t, tx] => match P.underlying t, P.underlying tx, compO y with
      | some (.slice e), some dx, some b => match P.info? e with
        | some i => match i.zero with
          | some z => if z.cells.size = i.size ∧ i.bytes ≠ 0 then match dx with
            | .slice _ => some (.app i.size i.bytes s b)
            | .string => if i.size = 1 ∧ i.bytes = 1 then some (.appS s b) else none
            | _ => none
            else none
          | none => none
        | none => none
      | _, _, _ => none
    | _, _ => none
  | .call { callee := .value (.func f), args := xs, argTypes := ts } => match P.funcs[f]? with
    | some fn => if fn.body.isSome ∧ (fn.name == "runtime.NumGoroutine") = false then (match (compArgs xs.toList) with
      | some (x :: l) => (match ts[0]?.bind P.underlying with
        | some (.pointer _) => some (.callE f x l)
        | _ => if retPtr P fn then some (.callN f (x :: l)) else some (.call f (x :: l)))
      | some [] => if retPtr P fn then some (.callN f []) else some (.call f [])
      | none => none) else none
    | none => none
  | .call { callee := .value (.tmp s), args := xs, .. } => (compArgs xs.toList).map (.callV (.t s))
  | .range t x => match P.underlying t, compO x with
    | some .string, some a => some (.rng a)
    | _, _ => none
  | .next (.tmp s) true => some (.nxt s)
  | _ => none
end Go.Av

set_option linter.unusedSimpArgs false
namespace Go.Av
variable {P : Program} {w0 : World} {mu0 : Mem} {T : Tc} {g g' : Gh} {st st' : St} {a : Act} {w w' : World}

def AK.quiet : AK → Bool
  | .box _ _ | .alloc _ | .store _ _ _ | .storeO _ _ | .takeLoad _ | .call _ _ | .callE _ _ _ | .callN _ _ | .callV _ _ | .rng _ | .nxt _ => false
  | _ => true

theorem compParts_spec {fs : Array Field} : ∀ {ps : List (Nat × Operand)} {qs : List (Nat × Nat × AO)}, compParts P fs ps = some qs → ps.length = qs.length ∧
    ∀ (j : Nat) (p : Nat × Operand) (q : Nat × Nat × AO), ps[j]? = some p → qs[j]? = some q → (∃ f : Field, fs[p.1]? = some f ∧ q.1 = f.offset ∧ q.2.1 = P.cellsOf f.type) ∧ compO p.2 = some q.2.2
  | [], qs, h => by cases h; exact ⟨rfl, fun j p q h => by simp at h⟩
  | (i, x) :: r, qs, h => by
    simp only [compParts] at h
    split at h
    case h_2 => cases h
    rename_i f o l h1 h2 h3
    cases h
    obtain ⟨e1, e2⟩ := compParts_spec h3
    refine ⟨by simp [e1], fun j p q hp hq => ?_⟩
    cases j with
    | zero => simp at hp hq; subst hp hq; exact ⟨⟨f, h1, rfl, rfl⟩, h2⟩
    | succ j => exact e2 j p q (by simpa using hp) (by simpa using hq)

theorem compPartsA_spec {sz : Nat} : ∀ {ps : List (Nat × Operand)} {qs : List (Nat × Nat × AO)}, compPartsA sz ps = some qs → ps.length = qs.length ∧
    ∀ (j : Nat) (p : Nat × Operand) (q : Nat × Nat × AO), ps[j]? = some p → qs[j]? = some q → (q.1 = p.1 * sz ∧ q.2.1 = sz) ∧ compO p.2 = some q.2.2
  | [], qs, h => by cases h; exact ⟨rfl, fun j p q h => by simp at h⟩
  | (i, x) :: r, qs, h => by
    simp only [compPartsA] at h
    split at h
    case h_2 => cases h
    rename_i o l h2 h3
    cases h
    obtain ⟨e1, e2⟩ := compPartsA_spec h3
    refine ⟨by simp [e1], fun j p q hp hq => ?_⟩
    cases j with
    | zero => simp at hp hq; subst hp hq; exact ⟨⟨rfl, rfl⟩, h2⟩
    | succ j => exact e2 j p q (by simpa using hp) (by simpa using hq)

theorem compElems_spec : ∀ {ps : List (Nat × Operand)} {qs : List (Nat × AO)}, compElems ps = some qs → ps.length = qs.length ∧
    ∀ (j : Nat) (p : Nat × Operand) (q : Nat × AO), ps[j]? = some p → qs[j]? = some q → p.1 = q.1 ∧ compO p.2 = some q.2
  | [], qs, h => by cases h; exact ⟨rfl, fun j p q h => by simp at h⟩
  | (i, x) :: r, qs, h => by
    simp only [compElems] at h
    split at h
    case h_2 => cases h
    rename_i o l h2 h3
    cases h
    obtain ⟨e1, e2⟩ := compElems_spec h3
    refine ⟨by simp [e1], fun j p q hp hq => ?_⟩
    cases j with
    | zero => simp at hp hq; subst hp hq; exact ⟨rfl, h2⟩
    | succ j => exact e2 j p q (by simpa using hp) (by simpa using hq)

theorem compArgs_rep (h : Sim w0 mu0 T g st a w) : ∀ {xs : List Operand} {os : List AO} {c : Prop} {l : List SV}, compArgs xs = some os → evList st os = some (c, l) → c → RepArgs g.mu l (xs.map a.eval)
  | [], os, c, l, h1, h2, hc => by
    cases h1
    simp only [evList, Option.some.injEq, Prod.mk.injEq] at h2
    obtain ⟨rfl, rfl⟩ := h2
    exact ⟨rfl, fun j hj => by simp at hj⟩
  | x :: r, os, c, l, h1, h2, hc => by
    simp only [compArgs] at h1
    split at h1
    case h_2 => cases h1
    rename_i o l' ho hl'
    cases h1
    simp only [evList] at h2
    split at h2
    case h_2 => cases h2
    rename_i gg v c' l'' hv hl''
    simp only [Option.some.injEq, Prod.mk.injEq] at h2
    obtain ⟨rfl, rfl⟩ := h2
    obtain ⟨rfl, hc'⟩ := hc
    obtain ⟨e1, e2⟩ := compArgs_rep h hl' hl'' hc'
    refine ⟨by simp at e1 ⊢; exact e1, fun j hj => ?_⟩
    cases j with
    | zero => simpa using rd_rep h ho hv
    | succ j => simpa using e2 j (by simpa using hj)

theorem evList_cond : ∀ {os : List AO} {c : Prop} {l : List SV}, evList st os = some (c, l) → l.length = os.length
  | [], c, l, h => by simp only [evList, Option.some.injEq, Prod.mk.injEq] at h; obtain ⟨-, rfl⟩ := h; rfl
  | o :: r, c, l, h => by
    simp only [evList] at h
    split at h
    case h_2 => cases h
    rename_i g v c' l' h1 h2
    simp only [Option.some.injEq, Prod.mk.injEq] at h
    obtain ⟨-, rfl⟩ := h
    simp [evList_cond h2]

theorem y_mkfn (h : Sim w0 mu0 T g st a w) {f : FuncId} {first caps : Array Operand} {o1 o2 : List AO} {ox : Oper} (hop : ox.op = .makeFunc (.func f) first caps) (h1 : compArgs first.toList = some o1) (h2 : compArgs caps.toList = some o2)
    {c : Prop} {lv : LV} (he : ev st (.mkfn f o1 o2) = some (c, lv)) (hc : c) (d : Nat) : Yields P w0 mu0 T g st a w ox d lv := by
  simp only [ev] at he
  split at he
  case h_2 => cases he
  rename_i c1 l1 c2 l2 e1 e2
  simp only [Option.some.injEq, Prod.mk.injEq] at he
  obtain ⟨rfl, rfl⟩ := he
  obtain ⟨k1, k2⟩ := compArgs_rep h h1 e1 hc.1
  obtain ⟨k3, k4⟩ := compArgs_rep h h2 e2 hc.2
  refine .same h (val := .func (.func f) (first.toList.map a.eval).toArray (caps.toList.map a.eval).toArray) ?_ (.fn f l1 l2 _ _ k1 k3 k2 k4)
  have q1 : first.map a.eval = (first.toList.map a.eval).toArray := by apply Array.ext'; simp
  have q2 : caps.map a.eval = (caps.toList.map a.eval).toArray := by apply Array.ext'; simp
  simp [execOp, hop, Instr.makeFunc, q1, q2]

theorem opt_map_some {α β : Type} {f : α → β} {x : Option α} {y : β} (h : x.map f = some y) : ∃ z, x = some z ∧ f z = y := by simpa using h

theorem comp_yields (h : Sim w0 mu0 T g st a w) {o : Oper} {tk : Bool} {k : AK} (hk : compK P tk o = some k) (hq : k.quiet = true) {c : Prop} {lv : LV} (he : ev st k = some (c, lv)) (hc : c) (d : Nat) :
    Yields P w0 mu0 T g (dgr st k) a w o d lv := by
  unfold compK at hk
  split at hk
  -- move
  · rename_i x hop
    split at hk
    · cases hk; exact y_take h (.inl hop) he hc d
    · obtain ⟨z, hz, rfl⟩ := opt_map_some hk; exact y_mv h (.inl hop) hz he hc d
  -- assign
  · rename_i x hop
    split at hk
    · cases hk; exact y_take h (.inr hop) he hc d
    · obtain ⟨z, hz, rfl⟩ := opt_map_some hk; exact y_mv h (.inr hop) hz he hc d
  -- pick
  · rename_i x y z hop
    split at hk
    · rename_i o1 o2 o3 h1 h2 h3; cases hk; exact y_pick h hop h1 h2 h3 he hc d
    · cases hk
  -- binOp
  · rename_i op t x y t' hop
    split at hk
    · rename_i k' o1 o2 _ h1 h2; cases hk; exact y_bin h hop h1 h2 he hc d
    · rename_i o1 o2 _ h1 h2; cases hk; exact y_bin h hop h1 h2 he hc d
    · rename_i o1 o2 ht h1 h2
      split at hk
      · cases hk; exact y_beq h hop ht rfl h1 h2 he hc d
      · cases hk; exact y_beq h hop ht rfl h1 h2 he hc d
      · cases hk
    · rename_i fs o1 o2 ht h1 h2
      split at hk
      · rename_i ks _ hks
        split at hk
        · rename_i hgd; cases hk; exact y_eqs h hop (.inl ⟨_, ht⟩) hks hgd rfl h1 h2 he hc d
        · cases hk
      · rename_i ks _ hks
        split at hk
        · rename_i hgd; cases hk; exact y_eqs h hop (.inl ⟨_, ht⟩) hks hgd rfl h1 h2 he hc d
        · cases hk
      · cases hk
    · rename_i m e1 o1 o2 ht h1 h2
      split at hk
      · rename_i ks _ hks
        split at hk
        · rename_i hgd; cases hk; exact y_eqs h hop (.inr ⟨_, _, ht⟩) hks hgd rfl h1 h2 he hc d
        · cases hk
      · rename_i ks _ hks
        split at hk
        · rename_i hgd; cases hk; exact y_eqs h hop (.inr ⟨_, _, ht⟩) hks hgd rfl h1 h2 he hc d
        · cases hk
      · cases hk
    · rename_i e1 o1 ht h1 h2
      split at hk
      · cases hk; exact y_eqn h hop rfl (.inl ⟨rfl, _, ht, h2⟩) h1 he hc d
      · cases hk; exact y_eqn h hop rfl (.inl ⟨rfl, _, ht, h2⟩) h1 he hc d
      · cases hk
    · rename_i e1 o1 ht h1 h2
      split at hk
      · cases hk; exact y_eqn h hop rfl (.inr ⟨rfl, _, ht, h2⟩) h1 he hc d
      · cases hk; exact y_eqn h hop rfl (.inr ⟨rfl, _, ht, h2⟩) h1 he hc d
      · cases hk
    · cases hk
  -- unOp
  · rename_i op t x hop
    obtain ⟨z, hz, rfl⟩ := opt_map_some hk; exact y_una h hop hz he hc d
  -- convert
  · rename_i s t x hop
    split at hk
    · rename_i k1 k2 o1 h1 h2 h3; cases hk; exact y_conv h hop h1 h2 h3 he hc d
    · rename_i e o1 h1 h2 h3
      split at hk
      · rename_i hu; cases hk; exact y_b2s h hop h1 hu h2 h3 he hc d
      · cases hk
    · rename_i e o1 h1 h2 h3
      split at hk
      · rename_i hu; cases hk; exact y_s2b h hop h1 h2 hu h3 he hc d
      · cases hk
    · rename_i e e' z h1 h2 h3
      split at hk
      · rename_i hu
        split at hk
        · rename_i hst; subst hst; cases hk; exact y_mark h hop h1 hu h3 he hc d
        · cases hk
      · cases hk
    · cases hk
  -- fieldAddr
  · rename_i t x f hop
    split at hk
    · rename_i fs o1 h1 h2
      split at hk
      · rename_i fd hfd
        split at hk
        · rename_i i hi
          split at hk
          · cases hk
          · rename_i hs; cases hk; exact y_faddr h hop h1 hfd hi hs h2 he hc d
        · cases hk
      · cases hk
    · cases hk
  -- field
  · rename_i t x f hop
    split at hk
    · rename_i fs o1 h1 h2
      split at hk
      · rename_i fd hfd
        obtain ⟨n, hn, rfl⟩ := opt_map_some hk
        exact y_fld h hop h1 hfd hn h2 he hc d
      · cases hk
    · cases hk
  -- indexAddr
  · rename_i t x y hop
    split at hk
    · rename_i e o1 o2 h1 h2 h3; obtain ⟨i, hi, rfl⟩ := opt_map_some hk; exact y_iaddr h hop h1 hi h2 h3 he hc d
    · rename_i n e o1 o2 h1 h2 h3; obtain ⟨i, hi, rfl⟩ := opt_map_some hk; exact y_iaddrA h hop h1 hi h2 h3 he hc d
    · cases hk
  -- index
  · rename_i t x y hop
    split at hk
    · rename_i o1 o2 h1 h2 h3; cases hk; exact y_idx h hop h1 h2 h3 he hc d
    · rename_i m e o1 o2 h1 h2 h3
      split at hk
      · rename_i i n hi hn; cases hk; exact y_idxA h hop h1 hi hn h2 h3 he hc d
      · cases hk
    · cases hk
  -- load
  · rename_i t x hop
    split at hk
    · rename_i n o1 h1 h2
      simp only [Option.some.injEq] at hk
      split at hk
      · subst hk; cases hq
      · subst hk; exact y_load h hop h1 h2 he hc d
    · cases hk
  -- store
  · split at hk
    · simp only [Option.some.injEq] at hk
      split at hk <;> (subst hk; cases hq)
    · cases hk
  -- nilCheck
  · rename_i x hop
    obtain ⟨z, hz, rfl⟩ := opt_map_some hk; exact y_nilc h hop hz he hc d
  -- box
  · split at hk
    · cases hk; cases hq
    · cases hk
  -- alloc
  · obtain ⟨z, hz, rfl⟩ := opt_map_some hk; cases hq
  -- build
  · rename_i t ps hop
    split at hk
    · rename_i fs z h1 h2
      split at hk
      · rename_i hall
        obtain ⟨qs, hqs, rfl⟩ := opt_map_some hk
        obtain ⟨e1, e2⟩ := compParts_spec hqs
        exact y_build h hop h1 (fun f hf => List.all_eq_true.1 hall f hf) h2 e1 e2 he hc d
      · cases hk
    · rename_i m e z h1 h2
      split at hk
      · rename_i i hi
        obtain ⟨qs, hqs, rfl⟩ := opt_map_some hk
        obtain ⟨e1, e2⟩ := compPartsA_spec hqs
        exact y_buildA h hop h1 hi h2 e1 e2 he hc d
      · cases hk
    · cases hk
  -- buildSlice
  · rename_i t n ps hop
    split at hk
    · rename_i e h1
      split at hk
      · rename_i i z h2 h3
        split at hk
        · rename_i hcs
          obtain ⟨qs, hqs, rfl⟩ := opt_map_some hk
          obtain ⟨e1, e2⟩ := compElems_spec hqs
          exact y_bsl h hop h1 h2 hcs.1 hcs.2.1 h3 hcs.2.2.1 hcs.2.2.2 e1 e2 he hc d
        · cases hk
      · cases hk
    · cases hk
  -- makeSlice
  · rename_i t l cc hop
    split at hk
    · rename_i e s s' h1
      split at hk
      · rename_i i z h2 h3
        split at hk
        · rename_i hcs
          cases hk
          obtain ⟨rfl, h4, h5, h6⟩ := hcs
          exact y_mks h hop h1 h2 h4 h3 h5 h6 rfl he hc d
        · cases hk
      · cases hk
    · cases hk
  -- makeFunc
  · rename_i f first caps hop
    split at hk
    · rename_i o1 o2 h1 h2; cases hk; exact y_mkfn h hop h1 h2 he hc d
    · cases hk
  -- extract
  · rename_i s i hop
    cases hk
    cases tk with
    | true => exact y_ext h hop he hc d
    | false => exact y_extS h hop he hc d
  -- slice
  · rename_i t x lo hi hop
    split at hk
    · rename_i b o1 h1 h2
      split at hk
      · rename_i z l hh h3 h4 h5
        cases hk
        refine y_slc h hop h1 (fun e he' => ?_) h2 ?_ ?_ he hc d
        · rw [he'] at h3
          simpa using h3
        · cases lo with
          | none => simp at h4; subst h4; rfl
          | some y => simp at h4; obtain ⟨z', hz', rfl⟩ := h4; simp [hz']
        · cases hi with
          | none => simp at h5; subst h5; rfl
          | some y => simp at h5; obtain ⟨z', hz', rfl⟩ := h5; simp [hz']
      · cases hk
    · cases hk
  -- len
  · rename_i xs ts hop
    split at hk
    · rename_i x t hx ht
      split at hk
      · rename_i b o1 h1 h2
        cases hk
        have hxs : xs = #[x] := by apply Array.ext'; simpa using hx
        subst hxs
        exact y_len h hop ht h1 h2 he hc d
      · cases hk
    · cases hk
  -- min
  · rename_i xs ts hop
    split at hk
    · rename_i x y hx
      split at hk
      · rename_i o1 o2 h1 h2
        cases hk
        have hxs : xs = #[x, y] := by apply Array.ext'; simpa using hx
        subst hxs
        exact y_minmax (mx := false) h hop h1 h2 he hc d
      · cases hk
    · rename_i x y z hx
      split at hk
      · rename_i o1 o2 o3 h1 h2 h3
        cases hk
        have hxs : xs = #[x, y, z] := by apply Array.ext'; simpa using hx
        subst hxs
        exact y_minmax3 (mx := false) h hop h1 h2 h3 he hc d
      · cases hk
    · cases hk
  -- max
  · rename_i xs ts hop
    split at hk
    · rename_i x y hx
      split at hk
      · rename_i o1 o2 h1 h2
        cases hk
        have hxs : xs = #[x, y] := by apply Array.ext'; simpa using hx
        subst hxs
        exact y_minmax (mx := true) h hop h1 h2 he hc d
      · cases hk
    · rename_i x y z hx
      split at hk
      · rename_i o1 o2 o3 h1 h2 h3
        cases hk
        have hxs : xs = #[x, y, z] := by apply Array.ext'; simpa using hx
        subst hxs
        exact y_minmax3 (mx := true) h hop h1 h2 h3 he hc d
      · cases hk
    · cases hk
  -- append
  · rename_i xs ts hop
    split at hk
    · rename_i s y t tx hx hts
      split at hk
      · rename_i e dx o1 h1 h2 h3
        split at hk
        · rename_i i hi
          split at hk
          · rename_i z hz
            split at hk
            · rename_i hcs
              have hxs : xs = #[.tmp s, y] := by apply Array.ext'; simpa using hx
              have hts' : ts = #[t, tx] := by apply Array.ext'; simpa using hts
              subst hxs hts'
              split at hk
              · cases hk
                exact y_app h hop h1 hi ⟨z, hz, hcs.1⟩ hcs.2 ⟨_, h2, fun k => by simp⟩ h3 he hc d
              · split at hk
                · rename_i h11
                  cases hk
                  exact y_appS h hop h1 hi h11.1 h11.2 ⟨z, hz, hcs.1⟩ ⟨_, h2, fun k => by simp⟩ h3 he hc d
                · cases hk
              · cases hk
            · cases hk
          · cases hk
        · cases hk
      · cases hk
    · cases hk
  -- call
  · split at hk
    · split at hk
      · split at hk
        · split at hk
          · cases hk; cases hq
          · split at hk <;> (cases hk; cases hq)
        · split at hk <;> (cases hk; cases hq)
        · cases hk
      · cases hk
    · cases hk
  · obtain ⟨z, hz, rfl⟩ := opt_map_some hk; cases hq
  · split at hk
    · cases hk; cases hq
    · cases hk
  · cases hk; cases hq
  · cases hk
end Go.Av

set_option linter.unusedSimpArgs false
namespace Go.Av
variable {P : Program} {w0 : World} {mu0 : Mem} {T : Tc} {g g' : Gh} {st st' : St} {a : Act} {w w' : World}

theorem RepL.gv_false {s : Nat} {lv : LV} {val : Value} (h : RepL g w s lv val) (hg : lv.gv.1 = false) : val = Go.undef := by
  induction lv with
  | gd c v ih =>
    cases c with
    | false => exact h.2 rfl
    | true => exact ih (h.1 rfl) (by simpa [LV.gv] using hg)
  | _ => simp [LV.gv] at hg

def compG (ops : Array Oper) : Option (Nat × Bool) → Option (Option (Nat × Bool))
  | none => some none
  | some (j, b) => match ops[j]? with
    | some o => o.dst.map fun s => some (s, b)
    | none => none

theorem wanted_iff (h : Sim w0 mu0 T g st a w) {ops : Array Oper} {o : Oper} {gu : Option (Nat × Bool)} (hg : compG ops o.guard = some gu) {c : Bool} (hc : gOf st gu = some c)
    (hn : ∀ s b, gu = some (s, b) → s < st.n) : Region.wanted o (yielded ops a.tmps) = c := by
  unfold Region.wanted
  cases hgd : o.guard with
  | none => rw [hgd] at hg; cases hg; simp [gOf] at hc; simpa using hc.symm
  | some p =>
    obtain ⟨j, want⟩ := p
    rw [hgd] at hg
    simp only [compG] at hg
    split at hg
    case h_2 => cases hg
    rename_i oj hoj
    obtain ⟨s, hs, rfl⟩ := opt_map_some hg
    simp only [gOf] at hc
    have hsn := hn s want rfl
    have hslot := h.slots s
    have htm : a.tmps[s]? = some (a.tmps.getD s Go.undef) := by
      have : s < a.tmps.size := by rw [h.size]; exact hsn
      rw [Array.getD_eq_getD_getElem?, Array.getElem?_eq_getElem this]; rfl
    have hy : yielded ops a.tmps j = match a.tmps.getD s Go.undef with | .bool b => some b | _ => none := by
      unfold yielded
      rw [hoj, Option.bind_some, hs, Option.bind_some, htm]
      generalize a.tmps.getD s Go.undef = v
      cases v <;> rfl
    simp only []
    rw [hy]
    split at hc
    case h_3 => cases hc
    case h_2 =>
      rename_i hgv
      simp only [Option.some.injEq] at hc
      subst hc
      rw [hslot.gv_false (by rw [hgv])]
      rfl
    rename_i g0 b hgv
    simp only [Option.some.injEq] at hc
    subst hc
    cases g0 with
    | true =>
      have := hslot.gv (by rw [hgv])
      rw [hgv] at this
      rw [Rep.inv_bool this]
      cases b <;> cases want <;> rfl
    | false =>
      rw [hslot.gv_false (by rw [hgv])]
      rfl

theorem Sim.dgr (h : Sim w0 mu0 T g st a w) (k : AK) : Sim w0 mu0 T g (dgr st k) a w := by
  cases k <;> first | exact h | exact h.weaken LV.dg_rep | exact h.weaken RepL.dgi

theorem dgr_n (st : St) (k : AK) : (Av.dgr st k).n = st.n := by cases k <;> rfl

/-- After a pure call. -/
theorem Sim.calledX (h : Sim w0 mu0 T g st a w) {mu' : Mem} {rv : LV} {val : Value} (hext : Ext (fun _ => False) w w') (hle : g.mu.le mu') (hmem : MemOK mu' w') (hold : ∀ b j, b < w.heap.size → mu' b j = g.mu b j)
    (x : Nat → Option Place) (hx : RepL { mu := mu', x := x, bx := fun _ => none, okx := fun b => b < w.heap.size → False } w' 0 rv val) (hxl : ∀ b p, x b = some p → b < w'.heap.size) (d : Nat) :
    ∃ g', g'.mu = mu' ∧ g'.bx = g.bx ∧ (∀ b, w.heap.size ≤ b → x b = none → g'.x b = none) ∧ Sim w0 mu0 T g' st a w' ∧ RepL g' w' d rv val := by
  let mv : Place → Place := fun p => match p with | .slot _ i => .slot d i | q => q
  let g' : Gh := { mu := mu', x := fun b => if b < w.heap.size then g.x b else match x b with | some (.slot 0 i) => some (.slot d i) | _ => none, bx := g.bx, okx := g.okx, okb := g.okb }
  have hs0 := h.ext.size
  refine ⟨g', rfl, rfl, fun b hb hn => by simp [g', Nat.not_lt.2 hb, hn], h.grow (g' := g') hle ?_ ?_ ?_ hmem ?_ ?_ (fun _ => rfl) rfl hext.size, ?_⟩
  · intro b hb
    have hlt := h.used_lt hb
    exact ⟨hext.block b hlt (fun f => f), fun j q => by rw [show g'.mu b j = mu' b j from rfl, hold b j hlt]; exact q⟩
  · intro b hb
    have hlt := h.used_lt (.inl hb)
    simp [g', hlt]
  · intro b hb hn
    have hge : ¬ b < w.heap.size := fun q => by simp [g', q, hb] at hn
    refine ⟨fun s e => hge (h.blt s b e), ?_, ?_⟩
    · cases hq : st.hp b with
      | none => rfl
      | some cs => exact absurd (h.used_lt (b := b) (.inr (.inr (by rw [hq]; simp)))) hge
    · simp only [g', hge, if_false] at hn
      cases hxb : x b with
      | none => rw [hxb] at hn; exact absurd rfl hn
      | some p => exact hxl b p hxb
  · intro b j hb _
    exact hold b j (by omega)
  · exact ⟨hext.os.trans h.ext.os, hext.tape.trans h.ext.tape, hext.output.trans h.ext.output, Nat.le_trans h.ext.size hext.size, fun k hk ht => (hext.block k (by omega) (fun f => f)).trans (h.ext.block k hk ht)⟩
  · have hB : ∀ b, w.heap.size ≤ b → g.okx b := fun b hb => h.okNew hb
    have hown : ∀ i sz xs v, OwnAt { mu := mu', x := x, bx := fun _ => none, okx := fun b => b < w.heap.size → False } w' (.slot 0 i) sz xs v → OwnAt g' w' (.slot d i) sz xs v := by
      intro i sz xs v ho
      rcases ho with ho | ⟨b, off, cap, h1, h2, h3, h4, h5⟩
      · exact .inl ho
      · have hge : ¬ b < w.heap.size := h4
        refine .inr ⟨b, off, cap, h1, h2, ?_, hB _ (Nat.le_of_not_lt h4), h5⟩
        simp only at h3
        simp [g', hge, h3]
    induction rv generalizing val with
    | gd c v ih => exact ⟨fun hc => ih (hx.1 hc), hx.2⟩
    | sv v => exact hx
    | own sz xs => exact hown 0 sz xs val hx
    | lptr t off => obtain ⟨b, hb, _⟩ := hx; cases hb
    | lsl t z off n cap => obtain ⟨b, hb, _⟩ := hx; cases hb
    | tup vs =>
      obtain ⟨us, h1, h2, h3⟩ := hx
      refine ⟨us, h1, h2, fun j hj => ?_⟩
      have := h3 j hj
      cases hv : vs.getD j (.sv .undef) with
      | sv v => rw [hv] at this; exact this
      | own sz xs => rw [hv] at this; exact hown j sz xs _ this
    | arr sz xs =>
      rcases hx with hx | ⟨b, h2, h3, hb⟩
      · exact .inl hx
      · simp only at h2 h3
        have hge : ¬ b < w.heap.size := h3
        exact .inr ⟨b, by simp [g', hge, h2], hB _ (Nat.le_of_not_lt h3), hb⟩
    | siter t pos =>
      obtain ⟨b, h1, h2, h3, h4, h5⟩ := hx
      simp only at h2 h3
      have hge : ¬ b < w.heap.size := h3
      exact ⟨b, h1, by simp [g', hge, h2], hB _ (Nat.le_of_not_lt h3), h4, h5⟩
    | pn =>
      obtain ⟨b, h1, h2, h3, h4, h5⟩ := hx
      simp only at h2 h3
      have hge : ¬ b < w.heap.size := h3
      exact ⟨b, h1, by simp [g', hge, h2], hB _ (Nat.le_of_not_lt h3), h4, h5⟩
    | pp t off => obtain ⟨_, _, _, _, _, hb⟩ := hx; cases hb
    | clo f nf caps =>
      obtain ⟨us, h1, h2, h3⟩ := hx
      refine ⟨us, h1, h2, fun j hj => ?_⟩
      have h4 := h3 j hj
      cases hc : caps.getD j default with
      | bp t off => rw [hc] at h4; obtain ⟨_, hb, _⟩ := h4; cases hb
      | pp t off => rw [hc] at h4; obtain ⟨_, _, _, _, _, hb⟩ := h4; cases hb

theorem Sim.called (h : Sim w0 mu0 T g st a w) {mu' : Mem} {rv : LV} {val : Value} (hext : Ext (fun _ => False) w w') (hle : g.mu.le mu') (hmem : MemOK mu' w') (hold : ∀ b j, b < w.heap.size → mu' b j = g.mu b j)
    (hr : RetRep w.heap.size mu' w' rv val) (d : Nat) : ∃ g', g'.mu = mu' ∧ g'.bx = g.bx ∧ Sim w0 mu0 T g' st a w' ∧ RepL g' w' d rv val := by
  obtain ⟨x, hx, hxl⟩ := hr
  obtain ⟨g', e1, e2, _, e3, e4⟩ := h.calledX hext hle hmem hold x hx hxl d
  exact ⟨g', e1, e2, e3, e4⟩

theorem compK_box {o : Oper} {tk : Bool} {n : Nat} {x : AO} (hk : compK P tk o = some (.box n x)) : ∃ t y i, o.op = .box t y ∧ P.info? t = some i ∧ compO y = some x ∧ i.size = n := by
  unfold compK at hk
  split at hk
  all_goals try ((repeat' split at hk) <;> simp at hk; done)
  rename_i t y hop
  split at hk
  · rename_i i a h1 h2; cases hk; exact ⟨t, y, i, hop, h1, h2, rfl⟩
  · cases hk
theorem compK_alloc {o : Oper} {tk : Bool} {z : List SV} (hk : compK P tk o = some (.alloc z)) : ∃ t, o.op = .alloc t ∧ zeroV P t = some z := by
  unfold compK at hk
  split at hk
  all_goals try ((repeat' split at hk) <;> simp at hk; done)
  rename_i t hop
  obtain ⟨z', hz, he⟩ := opt_map_some hk
  cases he; exact ⟨t, hop, hz⟩
theorem compK_mks {o : Oper} {tk : Bool} {sz bytes : Nat} {zero : List SV} {l : AO} (hk : compK P tk o = some (.mks sz bytes zero l)) :
    ∃ t y e i, o.op = .makeSlice t y y ∧ P.underlying t = some (.slice e) ∧ P.info? e = some i ∧ i.size = sz ∧ i.bytes = bytes ∧ i.size ≠ 0 ∧ zeroV P e = some zero ∧ zero.length = i.size ∧ zero.all SV.isCell = true ∧ compO y = some l := by
  unfold compK at hk
  split at hk
  all_goals try ((repeat' split at hk) <;> simp at hk; done)
  rename_i t l cc hop
  split at hk
  · rename_i e s s' h1
    split at hk
    · rename_i i z h2 h3
      split at hk
      · rename_i hcs
        cases hk
        obtain ⟨rfl, h4, h5, h6⟩ := hcs
        exact ⟨_, _, e, i, hop, h1, h2, rfl, rfl, h4, h3, h5, h6, rfl⟩
      · cases hk
    · cases hk
  · cases hk
theorem compK_store {o : Oper} {tk : Bool} {n : Nat} {x v : AO} (hk : compK P tk o = some (.store n x v)) : ∃ t y u i, o.op = .store t y u ∧ P.info? t = some i ∧ compO y = some x ∧ compO u = some v ∧ i.size = n := by
  unfold compK at hk
  split at hk
  all_goals try ((repeat' split at hk) <;> simp at hk; done)
  rename_i t y uu hop
  split at hk
  · rename_i i a b h1 h2 h3
    simp only [Option.some.injEq] at hk
    split at hk
    · cases hk
    · cases hk; exact ⟨t, y, _, i, hop, h1, h2, h3, rfl⟩
  · cases hk
theorem compK_storeO {o : Oper} {tk : Bool} {x : AO} {s : Nat} (hk : compK P tk o = some (.storeO x s)) : (∃ t y i, o.op = .store t y (.tmp s) ∧ P.info? t = some i ∧ compO y = some x ∧ i.size = 1) ∧ compK P false o = some (.store 1 x (.t s)) := by
  unfold compK at hk
  split at hk
  all_goals try ((repeat' split at hk) <;> simp at hk; done)
  rename_i t y u hop
  split at hk
  · rename_i i a b h1 h2 h3
    simp only [Option.some.injEq] at hk
    split at hk
    · rename_i s' hsz
      cases hk
      cases h3
      refine ⟨⟨t, y, i, hop, h1, h2, hsz⟩, ?_⟩
      unfold compK
      rw [hop]
      simp only [h1, h2]
      show some (AK.store i.size x (.t s)) = _
      rw [hsz]
    · cases hk
  · cases hk
theorem compK_takeLoad {o : Oper} {tk : Bool} {x : AO} (hk : compK P tk o = some (.takeLoad x)) : (∃ t y, o.op = .load t y ∧ ldk P t = some none ∧ compO y = some x) ∧ compK P false o = some (.load none x) := by
  unfold compK at hk
  split at hk
  all_goals try ((repeat' split at hk) <;> simp at hk; done)
  rename_i t y hop
  split at hk
  · rename_i n a h1 h2
    simp only [Option.some.injEq] at hk
    split at hk
    · rename_i hc
      cases hk
      cases n with
      | some n => simp at hc
      | none =>
        refine ⟨⟨t, y, hop, h1, h2⟩, ?_⟩
        unfold compK
        rw [hop]
        simp [h1, h2]
    · cases hk
  · cases hk
theorem compK_call {o : Oper} {tk : Bool} {f : FuncId} {args : List AO} (hk : compK P tk o = some (.call f args)) :
    ∃ xs ts fn, o.op = .call { callee := .value (.func f), args := xs, argTypes := ts } ∧ P.funcs[f]? = some fn ∧ fn.body.isSome ∧ (fn.name == "runtime.NumGoroutine") = false ∧ compArgs xs.toList = some args := by
  unfold compK at hk
  split at hk
  all_goals try ((repeat' split at hk) <;> simp at hk; done)
  rename_i f' xs ts hop
  split at hk
  · rename_i fn hfn
    split at hk
    · rename_i hc
      split at hk
      · rename_i x l hz
        split at hk
        · cases hk
        · split at hk
          · cases hk
          · cases hk; exact ⟨xs, ts, fn, hop, hfn, hc.1, hc.2, hz⟩
      · rename_i hz
        split at hk
        · cases hk
        · cases hk; exact ⟨xs, ts, fn, hop, hfn, hc.1, hc.2, hz⟩
      · cases hk
    · cases hk
  · cases hk
theorem compK_callV {o : Oper} {tk : Bool} {x : AO} {args : List AO} (hk : compK P tk o = some (.callV x args)) :
    ∃ s cl xs, x = .t s ∧ o.op = .call cl ∧ cl.callee = .value (.tmp s) ∧ cl.args = xs ∧ compArgs xs.toList = some args := by
  unfold compK at hk
  split at hk
  all_goals try ((repeat' split at hk) <;> simp at hk; done)
  rename_i s xs ts hop
  obtain ⟨z, hz, he⟩ := opt_map_some hk
  cases he
  exact ⟨s, _, xs, rfl, hop, rfl, rfl, hz⟩
theorem compK_rng {o : Oper} {tk : Bool} {x : AO} (hk : compK P tk o = some (.rng x)) : ∃ t y, o.op = .range t y ∧ P.underlying t = some .string ∧ compO y = some x := by
  unfold compK at hk
  split at hk
  all_goals try ((repeat' split at hk) <;> simp at hk; done)
  rename_i t y hop
  split at hk
  · rename_i a h1 h2
    cases hk
    exact ⟨t, y, hop, h1, h2⟩
  · cases hk
theorem compK_nxt {o : Oper} {tk : Bool} {s : Nat} (hk : compK P tk o = some (.nxt s)) : o.op = .next (.tmp s) true := by
  unfold compK at hk
  split at hk
  all_goals try ((repeat' split at hk) <;> simp at hk; done)
  rename_i s' hop
  cases hk
  exact hop
theorem repArgs_app {mu : Mem} {l m : List SV} {vs us : List Value} (h : RepArgs mu l vs) (k : RepArgs mu m us) : RepArgs mu (l ++ m) (vs ++ us) := by
  refine ⟨by simp [h.1, k.1], fun j hj => ?_⟩
  by_cases q : j < l.length
  · have := h.2 j q
    simp only [List.getD_eq_getElem?_getD] at this ⊢
    rw [List.getElem?_append_left q, List.getElem?_append_left (by rw [h.1]; exact q)]
    exact this
  · have := k.2 (j - l.length) (by simp at hj; omega)
    simp only [List.getD_eq_getElem?_getD] at this ⊢
    rw [List.getElem?_append_right (by omega), List.getElem?_append_right (by rw [h.1]; omega), h.1]
    exact this
theorem compK_callN {o : Oper} {tk : Bool} {f : FuncId} {args : List AO} (hk : compK P tk o = some (.callN f args)) :
    ∃ xs ts fn, o.op = .call { callee := .value (.func f), args := xs, argTypes := ts } ∧ P.funcs[f]? = some fn ∧ fn.body.isSome ∧ (fn.name == "runtime.NumGoroutine") = false ∧ compArgs xs.toList = some args := by
  unfold compK at hk
  split at hk
  all_goals try ((repeat' split at hk) <;> simp at hk; done)
  rename_i f' xs ts hop
  split at hk
  · rename_i fn hfn
    split at hk
    · rename_i hc
      split at hk
      · rename_i x l hz
        split at hk
        · cases hk
        · split at hk
          · cases hk; exact ⟨xs, ts, fn, hop, hfn, hc.1, hc.2, hz⟩
          · cases hk
      · rename_i hz
        split at hk
        · cases hk; exact ⟨xs, ts, fn, hop, hfn, hc.1, hc.2, hz⟩
        · cases hk
      · cases hk
    · cases hk
  · cases hk
theorem compK_callE {o : Oper} {tk : Bool} {f : FuncId} {x : AO} {args : List AO} (hk : compK P tk o = some (.callE f x args)) :
    ∃ xs ts fn, o.op = .call { callee := .value (.func f), args := xs, argTypes := ts } ∧ P.funcs[f]? = some fn ∧ fn.body.isSome ∧ (fn.name == "runtime.NumGoroutine") = false ∧ compArgs xs.toList = some (x :: args) := by
  unfold compK at hk
  split at hk
  all_goals try ((repeat' split at hk) <;> simp at hk; done)
  rename_i f' xs ts hop
  split at hk
  · rename_i fn hfn
    split at hk
    · rename_i hc
      split at hk
      · rename_i x l hz
        split at hk
        · cases hk; exact ⟨xs, ts, fn, hop, hfn, hc.1, hc.2, hz⟩
        · split at hk <;> cases hk
      · split at hk <;> cases hk
      · cases hk
    · cases hk
  · cases hk

/-- A box is filled anew. -/
theorem Sim.rebox (h : Sim w0 mu0 T g st a w) {s b : Nat} {cells cells' : List RV} (hcl : lkb st.bx s = some cells) (hb : g.bx s = some b)
    (q1 : w'.os = w.os) (q2 : w'.tape = w.tape) (q3 : w'.output = w.output) (q4 : w'.heap.size = w.heap.size) (q5 : ∀ k, k ≠ b → w'.heap[k]? = w.heap[k]?)
    {c : Array Value} {e : TypeId} {fr : Nat × Nat} (hc : w'.heap[b]? = some (.cells c e fr)) (hfr : Unfrozen c fr) (hsz : c.size = cells'.length)
    (hr : ∀ j, j < cells'.length → RepR g w' (.cell s j) (cells'.getD j (.sv .undef)) (c.getD j Go.undef)) : Sim w0 mu0 T g (updBox st s cells') a w' := by
  obtain ⟨b', hb', k1, k2, k3, _⟩ := h.boxes s cells hcl
  rw [hb] at hb'; cases hb'
  have hxb : ∀ b' p, g.x b' = some p → b' ≠ b := fun b' p e1 e2 => by subst e2; rw [k3] at e1; cases e1
  have hk : ∀ p, Keeps g w g w' p := fun p => ⟨Mem.le_refl _, fun b' e => ⟨e, q5 b' (hxb b' p e), fun _ q => q⟩, rfl⟩
  constructor
  · exact h.size
  · exact h.defers
  · intro t
    exact RepL.keeps (fun i => hk _) (fun _ => rfl) (h.slots t)
  · intro t cells2 hcs
    by_cases q : s = t
    · subst q
      simp only [updBox, lkb, if_true, Option.some.injEq] at hcs
      subst hcs
      exact ⟨b, hb, k1, k2, k3, c, e, fr, hc, hfr, hsz, hr⟩
    · simp only [updBox, lkb, q, if_false] at hcs
      obtain ⟨b', hb'', m1, m2, m3, c2, e2, fr2, m4, m5, m6, m7⟩ := h.boxes t cells2 hcs
      have hne : b' ≠ b := fun e => q (h.bxinj s t b hb (e ▸ hb''))
      exact ⟨b', hb'', m1, m2, m3, c2, e2, fr2, (q5 b' hne).trans m4, m5, m6, fun j hj => RepR.keeps (hk _) (m7 j hj)⟩
  · exact h.bxinj
  · intro b' cells2 hcs
    obtain ⟨⟨m1, c2, e2, fr2, m2, m3, m4, m5⟩, m6, m7, m8⟩ := h.heap b' cells2 hcs
    have hne : b' ≠ b := fun e => m7 s (e ▸ hb)
    exact ⟨⟨m1, c2, e2, fr2, (q5 b' hne).trans m2, m3, m4, m5⟩, m6, m7, m8⟩
  · intro b' j v hm
    have hne : b' ≠ b := fun e => by subst e; rw [k2] at hm; cases hm
    have := h.mem b' j v hm
    refine ⟨?_, this.2⟩
    rw [← this.1]
    unfold World.cell?
    rw [q5 b' hne]
  · exact h.mem0
  · exact h.mule
  · have hbB : b < w0.heap.size → TP T b := by rw [h.okb] at k1; exact fun q => .inl (k1 q)
    exact ⟨q1.trans h.ext.os, q2.trans h.ext.tape, q3.trans h.ext.output, by rw [q4]; exact h.ext.size, fun k hk' ht' => (q5 k (fun e => by subst e; exact ht' (hbB hk'))).trans (h.ext.block k hk' ht')⟩
  · exact h.okx
  · intro b' p e
    rw [q4]; exact h.xlt b' p e
  · intro s b e
    rw [q4]; exact h.blt s b e
  · exact h.bxx
  · exact h.okb
  · exact h.pin

theorem OwnAt.world {g : Gh} {w1 : World} (hw : ∀ k, g.okx k → w1.heap[k]? = w.heap[k]?) {p : Place} {sz : Nat} {xs : List SV} {val : Value} (h : OwnAt g w p sz xs val) : OwnAt g w1 p sz xs val := by
  rcases h with h | ⟨b, off, cap, h1, h2, h3, h4, ⟨c, e, fr, h5, h6, h7⟩, h8⟩
  · exact .inl h
  · exact .inr ⟨b, off, cap, h1, h2, h3, h4, ⟨c, e, fr, (hw b h4).trans h5, h6, h7⟩, h8⟩
theorem RepL.world {g : Gh} {w1 : World} (hw : ∀ k, g.okx k → w1.heap[k]? = w.heap[k]?) {s : Nat} {lv : LV} {val : Value} (h : RepL g w s lv val) : RepL g w1 s lv val := by
  induction lv with
  | gd c v ih => exact ⟨fun hc => ih (h.1 hc), h.2⟩
  | sv v => exact h
  | own sz xs => exact OwnAt.world hw h
  | lptr t off => exact h
  | lsl t z off n cap => exact h
  | tup vs =>
    obtain ⟨us, h1, h2, h3⟩ := h
    refine ⟨us, h1, h2, fun j hj => ?_⟩
    have := h3 j hj
    cases hv : vs.getD j (.sv .undef) with
    | sv v => rw [hv] at this; exact this
    | own sz xs => rw [hv] at this; exact OwnAt.world hw this
  | siter t pos => obtain ⟨b, h1, h2, h3, h4, h5⟩ := h; exact ⟨b, h1, h2, h3, h4, (hw b h3).trans h5⟩
  | pn => obtain ⟨b, h1, h2, h3, h4, e, fr, h5, h6⟩ := h; exact ⟨b, h1, h2, h3, h4, e, fr, (hw b h3).trans h5, h6⟩
  | pp t off => exact h
  | clo f nf caps => exact h
  | arr sz xs =>
    rcases h with h | ⟨b, h2, h3, off, cap, c, e, fr, a1, a2, a3, a4, a5, a6, a7⟩
    · exact .inl h
    · exact .inr ⟨b, h2, h3, off, cap, c, e, fr, a1, a2, (hw b h3).trans a3, a4, a5, a6, a7⟩

theorem BoxAt.heapAt {s b : Nat} {cells : List RV} (h : BoxAt g w s b cells) : HeapAt g.mu w b (cells.map RV.share) := by
  obtain ⟨_, h2, _, c, e, fr, h4, h5, h6, h7⟩ := h
  refine ⟨h2, c, e, fr, h4, h5, by simpa using h6, fun j hj => ?_⟩
  have hj' : j < cells.length := by simpa using hj
  have := (h7 j hj').share
  simpa [List.getD_eq_getElem?_getD, hj'] using this

/-- After a call with a box's address. -/
theorem Sim.calledE (h : Sim w0 mu0 T g st a w) {s b : Nat} {cells : List RV} {cells' : List SV} (hcl : lkb st.bx s = some cells) (hb : g.bx s = some b) {mu' : Mem} {rv : LV} {val : Value}
    (hext : Ext (fun k => k = b) w w') (hle : g.mu.le mu') (hmem : MemOK mu' w') (hold : ∀ b j, b < w.heap.size → mu' b j = g.mu b j) (hh : HeapAt mu' w' b cells')
    (hr : RetRep w.heap.size mu' w' rv val) (d : Nat) : ∃ g', Sim w0 mu0 T g' (updBox st s (cells'.map .sv)) a w' ∧ RepL g' w' d rv val := by
  have hblt := h.blt s b hb
  obtain ⟨b', hb', k1, k2, k3, c0, e0, fr0, k4, k5, k6, k7⟩ := h.boxes s cells hcl
  rw [hb] at hb'; cases hb'
  have hs' : w.heap.size ≤ w'.heap.size := hext.size
  let w1 : World := { w' with heap := w'.heap.setIfInBounds b (.cells c0 e0 fr0) }
  have hget : ∀ k, w1.heap[k]? = if k = b then some (.cells c0 e0 fr0) else w'.heap[k]? := by
    intro k
    by_cases q : k = b
    · subst q
      have : k < w'.heap.size := by omega
      simp [w1, this]
    · have q' : ¬ b = k := fun e => q e.symm
      simp [w1, Array.getElem?_setIfInBounds, q, q']
  obtain ⟨hm0, c, e, fr, r1, r2, r3, r4⟩ := hh
  have hext1 : Ext (fun _ => False) w w1 := by
    refine ⟨hext.os, hext.tape, hext.output, by simpa [w1] using hext.size, fun k hk _ => ?_⟩
    rw [hget]
    by_cases q : k = b
    · subst q; rw [if_pos rfl, k4]
    · rw [if_neg q]; exact hext.block k hk q
  have hmem1 : MemOK mu' w1 := by
    intro b' j v hv
    have hne : b' ≠ b := fun q => by subst q; rw [hm0] at hv; cases hv
    obtain ⟨t1, t2⟩ := hmem b' j v hv
    refine ⟨?_, t2⟩
    rw [← t1]
    unfold World.cell?
    rw [hget, if_neg hne]
  obtain ⟨x, hx, hxl⟩ := hr
  have hr1 : RetRep w.heap.size mu' w1 rv val := ⟨x, RepL.world (fun k hk => by rw [hget, if_neg (by have : w.heap.size ≤ k := Nat.le_of_not_lt hk; omega)]) hx, fun b' p e => by simpa [w1] using hxl b' p e⟩
  obtain ⟨g', e1, e2, hsim, hrep⟩ := h.called hext1 hle hmem1 hold hr1 d
  have hb2 : g'.bx s = some b := by rw [e2]; exact hb
  have hbx3 : g'.x b = none := by
    cases hq : g'.x b with
    | none => rfl
    | some p => exact absurd hb2 (hsim.bxx s b p hq)
  refine ⟨g', hsim.rebox hcl hb2 rfl rfl rfl (by simp [w1]) (fun k hk => by rw [hget, if_neg hk]) r1 r2 (by simpa using r3) (fun j hj => ?_), ?_⟩
  · have hj' : j < cells'.length := by simpa using hj
    have := r4 j hj'
    rw [← e1] at this
    simpa [List.getD_eq_getElem?_getD, hj', RepR] using this
  · have hkeep : ∀ p, Keeps g' w1 g' w' p := fun p => ⟨Mem.le_refl _, fun b' e => ⟨e, by
      have hne : b' ≠ b := fun q => by subst q; rw [hbx3] at e; cases e
      rw [hget, if_neg hne], fun _ q => q⟩, rfl⟩
    exact RepL.keeps (fun i => hkeep _) (fun _ => rfl) hrep

theorem lk_newBox {d : Nat} {l : List (Nat × LV)} (hno : noL d l) (v : LV) {s : Nat} : lk ((d, v) :: unl d l) s = lk ((d, v) :: l) s := by
  have : ∀ l : List (Nat × LV), noL d l → unl d l = l := by
    intro l
    induction l with
    | nil => intro _; rfl
    | cons p l ih =>
      intro hno
      simp only [unl, List.map_cons]
      rw [hno p (List.mem_cons_self ..)]
      simp only [Bool.false_eq_true, if_false]
      congr 1
      exact ih (fun q hq => hno q (List.mem_cons_of_mem _ hq))
  rw [this l hno]

/-- A cell's own slice is no longer its own; its block is nobody's. -/
theorem Sim.disownCell (h : Sim w0 mu0 T g st a w) {s off sz : Nat} {xs : List SV} {cells : List RV} {blk : Nat} (hcl : lkb st.bx s = some cells) (hcell : cells.getD off (.sv .undef) = .own sz xs)
    (hx : g.x blk = some (.cell s off)) :
    Sim w0 mu0 T { g with x := fun b' => if b' = blk then none else g.x b' } (updBox st s (cells.set off (.sv (.sl sz xs)))) a w := by
  have hne : ∀ b' p, p ≠ Place.cell s off → g.x b' = some p → (if b' = blk then none else g.x b') = some p := fun b' p hp e => by
    have : b' ≠ blk := fun e' => hp (by subst e'; rw [hx] at e; cases e; rfl)
    simp [this, e]
  constructor
  · exact h.size
  · exact h.defers
  · intro t
    exact RepL.keeps' (g := g) (g' := { g with x := fun b' => if b' = blk then none else g.x b' }) (Mem.le_refl _) (fun b' i e' => ⟨hne b' _ (by intro q; cases q) e', rfl, fun _ q => q⟩) rfl (fun _ => rfl) (h.slots t)
  · intro t cells' hcs
    by_cases q : s = t
    · subst q
      simp only [updBox, lkb, if_true, Option.some.injEq] at hcs
      subst hcs
      obtain ⟨b', hb, h1, h2, h3, c, e, fr, h4, h5, h6, h7⟩ := h.boxes s cells hcl
      refine ⟨b', hb, h1, h2, by simp [h3], c, e, fr, h4, h5, by simpa using h6, fun j hj => ?_⟩
      have hj' : j < cells.length := by simpa using hj
      by_cases qj : j = off
      · subst qj
        have := h7 j hj'
        rw [hcell] at this
        have := OwnAt.share (g := g) this
        simpa [List.getD_eq_getElem?_getD, hj', RepR] using this
      · have e1 : (cells.set off (.sv (.sl sz xs))).getD j (.sv .undef) = cells.getD j (.sv .undef) := by
          simp only [List.getD_eq_getElem?_getD, List.getElem?_set_ne (Ne.symm qj)]
        rw [e1]
        exact RepR.keeps (g := g) ⟨Mem.le_refl _, fun b'' e' => ⟨hne b'' _ (by intro q; cases q; exact qj rfl) e', rfl, fun _ q => q⟩, rfl⟩ (h7 j hj')
    · simp only [updBox, lkb, q, if_false] at hcs
      obtain ⟨b', hb, h1, h2, h3, c, e, fr, h4, h5, h6, h7⟩ := h.boxes t cells' hcs
      exact ⟨b', hb, h1, h2, by simp [h3], c, e, fr, h4, h5, h6, fun j hj => RepR.keeps (g := g) ⟨Mem.le_refl _, fun b'' e' => ⟨hne b'' _ (by intro z; cases z; exact q rfl) e', rfl, fun _ q => q⟩, rfl⟩ (h7 j hj)⟩
  · exact h.bxinj
  · intro b' cells hc
    obtain ⟨h1, h2, h3⟩ := h.heap b' cells hc
    exact ⟨h1, by simp [h2], h3⟩
  · exact h.mem
  · exact h.mem0
  · exact h.mule
  · exact h.ext
  · exact h.okx
  · intro b' p e
    by_cases q : b' = blk
    · simp [q] at e
    · simp [q] at e; exact h.xlt b' p e
  · exact h.blt
  · intro s b' p e
    by_cases q : b' = blk
    · simp [q] at e
    · simp [q] at e; exact h.bxx s b' p e
  · exact h.okb
  · exact h.pin
/-- Taking what a cell has. -/
theorem take_cell (h : Sim w0 mu0 T g st a w) {s b off : Nat} {cells : List RV} (hcl : lkb st.bx s = some cells) (hb : g.bx s = some b) (hlt : off < cells.length) (d : Nat) :
    ∃ val g', w.cell? ⟨b, off, none⟩ = some val ∧ Sim w0 mu0 T g' (updBox st s (cells.set off (.sv (cells.getD off (.sv .undef)).share))) a w ∧ RepL g' w d (cells.getD off (.sv .undef)).lv val := by
  obtain ⟨b', hb', k1, k2, k3, c, e, fr, k4, k5, k6, k7⟩ := h.boxes s cells hcl
  rw [hb] at hb'; cases hb'
  have hjc : off < c.size := by omega
  have hr := k7 off hlt
  have hv : c.getD off Go.undef = c[off] := by simp [Array.getD_eq_getD_getElem?, hjc]
  rw [hv] at hr
  have hcell : w.cell? ⟨b, off, none⟩ = some c[off] := by rw [cell_of_block k4]; simp [hjc]
  have same : ∀ r : SV, (∀ j, j < cells.length → RepR g w (.cell s j) ((cells.set off (.sv r)).getD j (.sv .undef)) (c.getD j Go.undef)) → Sim w0 mu0 T g (updBox st s (cells.set off (.sv r))) a w := fun r hrr =>
    h.rebox hcl hb rfl rfl rfl rfl (fun _ _ => rfl) k4 k5 (by simpa using k6) (fun j hj => hrr j (by simpa using hj))
  have share : ∀ j, j < cells.length → RepR g w (.cell s j) ((cells.set off (.sv (cells.getD off (.sv .undef)).share)).getD j (.sv .undef)) (c.getD j Go.undef) := by
    intro j hj
    by_cases qj : j = off
    · subst qj
      have := (k7 j hj).share
      simpa [List.getD_eq_getElem?_getD, hj, RepR] using this
    · have e1 : (cells.set off (.sv (cells.getD off (.sv .undef)).share)).getD j (.sv .undef) = cells.getD j (.sv .undef) := by
        simp only [List.getD_eq_getElem?_getD, List.getElem?_set_ne (Ne.symm qj)]
      rw [e1]
      exact k7 j hj
  cases hq : cells.getD off (.sv .undef) with
  | sv v =>
    rw [hq] at hr share
    exact ⟨_, g, hcell, same _ share, hr⟩
  | own sz xs =>
    rw [hq] at hr share
    rcases hr with ⟨h1, h2⟩ | ⟨blk, o2, cap, e1, e2, e3, e4, e5⟩
    · exact ⟨_, g, hcell, same _ share, .inl ⟨h1, h2⟩⟩
    · have hltb := h.xlt blk _ e3
      obtain ⟨ob1, ob2⟩ := h.own_block e3
      have h1 := h.disownCell hcl hq e3
      have h2 := h1.setx (b := blk) (p := .slot d 0) (by simp) ob1 ob2 hltb
      exact ⟨_, _, hcell, h2, .inr ⟨blk, o2, cap, e1, e2, by simp, e4, e5⟩⟩

theorem run_load1 {t : TypeId} (ht : ldk P t = some none) {b k : Nat} {val : Value} (hc : w.cell? ⟨b, k, none⟩ = some val) : (loadVar t ⟨b, k, none⟩).run P w = .ok val w := by
  unfold ldk at ht
  split at ht
  · cases ht
  · cases ht
  · rename_i d i h1 h2 hu hi
    have hag : (isAgg t).run P w = .ok false w := by
      simp only [isAgg, Sem.run_bind, run_underlying hu, Result.andThen_ok]
      rfl
    simp [loadVar, hag, hc]
  · cases ht

theorem Sim.storeBox1 (h : Sim w0 mu0 T g st a w) {s b off : Nat} {cells : List RV} {r : RV} {val : Value} (hcl : lkb st.bx s = some cells) (hb : g.bx s = some b)
    (hlt : off < cells.length) (hr : RepR g w (.cell s off) r val) (hone : val.oneCell' = true) :
    ∃ w', (storeCells ⟨b, off, none⟩ [val]).run P w = .ok () w' ∧ Sim w0 mu0 T g (updBox st s (cells.set off r)) a w' := by
  obtain ⟨b', hb', k1, k2, k3, c, e, fr, k4, k5, k6, k7⟩ := h.boxes s cells hcl
  rw [hb] at hb'; cases hb'
  obtain ⟨hst, c', hb', hc', hf', hget⟩ := setCells_at (P := P) (o := off) (vs := [val]) k4 k5 (by simp; omega) (by simpa using hone)
  obtain ⟨q1, q2, q3, q4, q5, _⟩ := setCells_heap b [val] off w
  refine ⟨_, hst, ?_⟩
  have hxb : ∀ b' p, g.x b' = some p → b' ≠ b := fun b' p e1 e2 => by subst e2; rw [k3] at e1; cases e1
  have hk : ∀ p, Keeps g w g (w.setCells b off [val]) p := fun p => ⟨Mem.le_refl _, fun b' e => ⟨e, q5 b' (hxb b' p e), fun _ q => q⟩, rfl⟩
  refine h.rebox hcl hb q1 q2 q3 q4 q5 hb' hf' (by rw [hc']; simpa using k6) (fun j hj => ?_)
  have hj' : j < cells.length := by simpa using hj
  rw [hget]
  by_cases q : j = off
  · subst q
    rw [if_pos (by simp)]
    have := RepR.keeps (hk _) hr
    simpa [List.getD_eq_getElem?_getD, hj'] using this
  · rw [if_neg (by simp; omega)]
    have e1 : (cells.set off r).getD j (.sv .undef) = cells.getD j (.sv .undef) := by
      simp only [List.getD_eq_getElem?_getD, List.getElem?_set_ne (Ne.symm q)]
    rw [e1]
    exact RepR.keeps (hk _) (k7 j hj')
theorem call_step0 {ops : Array Oper} {o : Oper} {tk : Bool} {gu : Option (Nat × Bool)} {f : FuncId} {args : List AO} {d : Nat} {K : St → Prop} {K' : Act → World → Prop} {Q : Exit → Act → World → Prop} (hk : compK P tk o = some (.call f args)) (hg : compG ops o.guard = some gu)
    (hgn : ∀ s b, gu = some (s, b) → s < st.n) (h : Sim w0 mu0 T g st a w) (hdst : o.dst = some d) (hdn : d < st.n) (hm : match gOf st gu, evList st args with
    | some g, some (c, l) => ∃ rv, (g = true → c ∧ Pure P f l rv) ∧ K (st.putS d (gdv gu g rv))
    | _, _ => False) (hK : ∀ g' st' a' w', Sim w0 mu0 T g' st' a' w' → st'.n = st.n → K st' → K' a' w') :
    if Region.wanted o (yielded ops a.tmps) then o.wp P a w K' Q else K' (a.put o.dst undef) w := by
  split at hm
  case h_2 => exact hm.elim
  rename_i c0 cc l h1 h2
  obtain ⟨rv, hp, hKs⟩ := hm
  rw [wanted_iff h hg h1 hgn]
  obtain ⟨xs, ts, fn, hop, hfn, hbody, hname, hargs⟩ := compK_call hk
  cases c0 with
  | true =>
    rw [if_pos rfl]
    obtain ⟨hcc, hpure⟩ := hp rfl
    have hra := compArgs_rep h hargs h2 hcc
    have hrun : (execOp a.eval o).run P w = .ok (.enter f (xs.toList.map a.eval).toArray) w := by
      have hb' : fn.body.isNone = false := by cases hb : fn.body <;> simp [hb] at hbody ⊢
      simp only [execOp, hop, resolve, Act.eval, Deferred.ofValue, Sem.run_bind, Sem.run_pure, Result.andThen_ok, invoke, callFunc, run_program, hfn, hname, hb', Bool.false_eq_true, if_false]
      rw [show Array.map a.eval xs = (List.map a.eval xs.toList).toArray by apply Array.ext'; simp]
      simp
    simp only [Oper.wp, hrun, Oper.upon_enter]
    refine (hpure g.mu w _ h.mem hra).mono fun e w' hpost => ?_
    obtain ⟨val, mu', rfl, p1, p2, p3, p4, p5⟩ := hpost
    obtain ⟨g', _, _, q1, q2⟩ := h.called p1 p2 p3 p4 p5 d
    refine hK _ _ _ _ (show Sim w0 mu0 T g' (st.putS d (gdv gu true rv)) (a.put o.dst val) w' from ?_) rfl hKs
    rw [hdst]
    refine q1.put hdn ?_
    cases gu with
    | none => exact q2
    | some p => exact ⟨fun _ => q2, fun q => (by cases q)⟩
  | false =>
    rw [if_neg (by simp)]
    refine hK _ _ _ _ (show Sim w0 mu0 T g (st.putS d (gdv gu false rv)) (a.put o.dst undef) w from ?_) rfl hKs
    rw [hdst]
    refine h.put hdn ?_
    cases gu with
    | none => simp [gOf] at h1
    | some p => exact ⟨fun q => (by cases q), fun _ => rfl⟩

theorem flat_cell {v : SV} (h : v.flat = true) (j : Nat) : (v.cell j).flat = true := by
  unfold SV.cell SV.cells
  cases v with
  | agg cs =>
    simp only [SV.flat, List.all_eq_true] at h
    simp only [List.getD_eq_getElem?_getD]
    by_cases hj : j < cs.length
    · have := h cs[j] (List.getElem_mem hj)
      rw [List.getElem?_eq_getElem hj]
      simp only [Option.getD_some]
      generalize cs[j] = c at this
      cases c <;> first | rfl | cases this
    · rw [List.getElem?_eq_none (by omega)]; rfl
  | _ => first | (cases j <;> first | exact h | rfl) | cases h
theorem flat_rep1 {mu mu2 : Mem} {v : SV} {val : Value} (hc : v.isCell = true ∨ v = .undef) (h : v.flat = true) (hr : Rep mu v val) : Rep mu2 v val := by
  cases hr with
  | undef => exact .undef _
  | int => exact .int _ _
  | bool => exact .bool _
  | anyb => exact .anyb _
  | str => exact .str _
  | nils => exact .nils
  | nilp => exact .nilp
  | agg => rcases hc with q | q <;> cases q
  | _ => cases h
theorem flat_cell_rep {mu mu2 : Mem} {v : SV} {j : Nat} {val : Value} (h : v.flat = true) (hr : Rep mu (v.cell j) val) : Rep mu2 (v.cell j) val := by
  refine flat_rep1 ?_ (flat_cell h j) hr
  unfold SV.cell SV.cells
  cases v with
  | agg cs =>
    simp only [SV.flat, List.all_eq_true] at h
    simp only [List.getD_eq_getElem?_getD]
    by_cases hj : j < cs.length
    · have := h cs[j] (List.getElem_mem hj)
      rw [List.getElem?_eq_getElem hj]
      simp only [Option.getD_some]
      generalize cs[j] = c at this
      cases c <;> first | exact .inr rfl | exact .inl rfl | cases this
    · rw [List.getElem?_eq_none (by omega)]; exact .inr rfl
  | _ => first | (cases j <;> first | exact .inl rfl | exact .inr rfl) | cases h

/-- A slice of the call's own, with elements that refer to nothing, may be taken as an array that is not in the memory. -/
theorem Pure.arr {f : FuncId} {l : List SV} {sz : Nat} {xs : List SV} (hpure : Pure P f l (.own sz xs)) (hflat : xs.all SV.flat = true) : Pure P f l (.arr sz xs) := by
  intro mu w vs hmem hra
  refine (hpure mu w _ hmem hra).mono fun e w' hpost => ?_
  obtain ⟨val, mu', rfl, p1, p2, p3, p4, x, hx, hxl⟩ := hpost
  have hm' : MemOK mu w' := fun b j v e => p3 b j v (p2 b j v e)
  refine ⟨val, mu, rfl, p1, Mem.le_refl _, hm', fun _ _ _ => rfl, ?_⟩
  rcases hx with ⟨hr, hv⟩ | ⟨b, off, cap, hv, hr, hxb, hok, ⟨c, e, fr, q1, q2, q3⟩, q4⟩
  · refine ⟨fun _ => none, .inl ⟨?_, hv⟩, fun _ _ q => by cases q⟩
    subst hv
    cases hr; rfl
  · refine ⟨x, .inr ⟨b, hxb, hok, off, cap, c, e, fr, hv, ?_, q1, q3, ?_, q2, ?_⟩, hxl⟩
    · intro j
      show mu b j = none
      cases hq : mu b j with
      | none => rfl
      | some v => exact absurd (hmem.lt hq) (fun z => hok z)
    · subst hv
      cases hr with
      | sle => simp
      | sl _ _ _ _ _ vals r1 r2 r3 r4 => exact r1
    · intro i j hi hj
      subst hv
      generalize hln : xs.length = ln at hr hi
      cases hr with
      | sle => simp at hln; omega
      | sl _ _ _ _ _ vals r1 r2 r3 r4 =>
        have e1 := r3 i j (by omega) hj
        have e2 := r4 i j (by omega) hj
        have e3 := (p3 _ _ _ e1).1
        have e4 : c.getD (off + i * sz + j) Go.undef = vals i j := by
          rw [cell_of_block q1] at e3
          rw [Array.getD_eq_getD_getElem?, e3]; rfl
        rw [e4]
        have hfl : (xs.getD i .undef).flat = true := by
          rw [List.getD_eq_getElem?_getD, List.getElem?_eq_getElem (by omega)]
          exact List.all_eq_true.1 hflat _ (List.getElem_mem _)
        exact flat_cell_rep hfl e2

theorem call_stepA {o : Oper} {tk : Bool} {f : FuncId} {args : List AO} {d : Nat} {K : St → Prop} {K' : Act → World → Prop} {Q : Exit → Act → World → Prop} (hk : compK P tk o = some (.call f args))
    (h : Sim w0 mu0 T g st a w) (hdst : o.dst = some d) (hdn : d < st.n) (hm : match evList st args with
    | some (c, l) => ∃ sz xs, c ∧ Pure P f l (.own sz xs) ∧ xs.all SV.flat = true ∧ K (st.putS d (.arr sz xs))
    | none => False) (hK : ∀ g' st' a' w', Sim w0 mu0 T g' st' a' w' → st'.n = st.n → K st' → K' a' w') : o.wp P a w K' Q := by
  split at hm
  case h_2 => exact hm.elim
  rename_i cc l h2
  obtain ⟨sz, xs, hcc, hpure, hflat, hKs⟩ := hm
  obtain ⟨xa, ts, fn, hop, hfn, hbody, hname, hargs⟩ := compK_call hk
  have hra := compArgs_rep h hargs h2 hcc
  have hrun : (execOp a.eval o).run P w = .ok (.enter f (xa.toList.map a.eval).toArray) w := by
    have hb' : fn.body.isNone = false := by cases hb : fn.body <;> simp [hb] at hbody ⊢
    simp only [execOp, hop, resolve, Act.eval, Deferred.ofValue, Sem.run_bind, Sem.run_pure, Result.andThen_ok, invoke, callFunc, run_program, hfn, hname, hb', Bool.false_eq_true, if_false]
    rw [show Array.map a.eval xa = (List.map a.eval xa.toList).toArray by apply Array.ext'; simp]
    simp
  simp only [Oper.wp, hrun, Oper.upon_enter]
  refine (hpure g.mu w _ h.mem hra).mono fun e w' hpost => ?_
  obtain ⟨val, mu', rfl, p1, p2, p3, p4, x, hx, hxl⟩ := hpost
  have hm' : MemOK g.mu w' := fun b j v e => p3 b j v (p2 b j v e)
  have key : ∃ x2 : Nat → Option Place, RepL { mu := g.mu, x := x2, bx := fun _ => none, okx := fun b => b < w.heap.size → False } w' 0 (.arr sz xs) val ∧ ∀ b p, x2 b = some p → b < w'.heap.size := by
    rcases hx with ⟨hr, hv⟩ | ⟨b, off, cap, hv, hr, hxb, hok, ⟨c, e, fr, q1, q2, q3⟩, q4⟩
    · refine ⟨fun _ => none, .inl ⟨?_, hv⟩, fun _ _ q => by cases q⟩
      subst hv
      cases hr; rfl
    · refine ⟨x, .inr ⟨b, hxb, hok, off, cap, c, e, fr, hv, ?_, q1, q3, ?_, q2, ?_⟩, hxl⟩
      · intro j
        cases hq : g.mu b j with
        | none => rfl
        | some v => exact absurd (h.mem.lt hq) (fun z => hok z)
      · subst hv
        cases hr with
        | sle => simp
        | sl _ _ _ _ _ vals r1 r2 r3 r4 => exact r1
      · intro i j hi hj
        subst hv
        generalize hln : xs.length = ln at hr hi
        cases hr with
        | sle => simp at hln; omega
        | sl _ _ _ _ _ vals r1 r2 r3 r4 =>
          have e1 := r3 i j (by omega) hj
          have e2 := r4 i j (by omega) hj
          have e3 := (p3 _ _ _ e1).1
          have e4 : c.getD (off + i * sz + j) Go.undef = vals i j := by
            rw [cell_of_block q1] at e3
            rw [Array.getD_eq_getD_getElem?, e3]; rfl
          rw [e4]
          have hfl : (xs.getD i .undef).flat = true := by
            rw [List.getD_eq_getElem?_getD, List.getElem?_eq_getElem (by omega)]
            exact List.all_eq_true.1 hflat _ (List.getElem_mem _)
          exact flat_cell_rep hfl e2
  obtain ⟨x2, hx2, hxl2⟩ := key
  obtain ⟨g', _, _, _, q1, q2⟩ := h.calledX (rv := .arr sz xs) p1 (Mem.le_refl _) hm' (fun _ _ _ => rfl) x2 hx2 hxl2 d
  refine hK _ _ _ _ (show Sim w0 mu0 T g' (st.putS d (.arr sz xs)) (a.put o.dst val) w' from ?_) rfl hKs
  rw [hdst]
  exact q1.put hdn q2

/-- A slot's block is let go. -/
theorem Sim.letgo (h : Sim w0 mu0 T g st a w) {t b : Nat} (hx : g.x b = some (.slot t 0)) :
    Sim w0 mu0 T { g with x := fun b' => if b' = b then none else g.x b' } { st with sl := (t, .sv .undef) :: st.sl } a w := by
  have hne : ∀ b' p, p ≠ Place.slot t 0 → g.x b' = some p → (if b' = b then none else g.x b') = some p := fun b' p hp e => by
    have : b' ≠ b := fun e' => hp (by subst e'; rw [hx] at e; cases e; rfl)
    simp [this, e]
  constructor
  · exact h.size
  · exact h.defers
  · intro s
    by_cases e : t = s
    · subst e
      simp only [lk, if_true]
      exact .undef _
    · have hs := h.slots s
      simp only [lk, e, if_false]
      exact RepL.keeps' (g := g) (g' := { g with x := fun b' => if b' = b then none else g.x b' }) (Mem.le_refl _) (fun b' i e' => ⟨hne b' _ (by intro q; cases q; exact e rfl) e', rfl, fun _ q => q⟩) rfl (fun _ => rfl) hs
  · intro s cells hc
    obtain ⟨b', hb, h1, h2, h3, c, e, fr, h4, h5, h6, h7⟩ := h.boxes s cells hc
    refine ⟨b', hb, h1, h2, by simp [h3], c, e, fr, h4, h5, h6, fun j hj => RepR.keeps (g := g) ⟨Mem.le_refl _, fun b'' e' => ⟨hne b'' _ (by intro q; cases q) e', rfl, fun _ q => q⟩, rfl⟩ (h7 j hj)⟩
  · exact h.bxinj
  · intro b' cells hc
    obtain ⟨h1, h2, h3⟩ := h.heap b' cells hc
    exact ⟨h1, by simp [h2], h3⟩
  · exact h.mem
  · exact h.mem0
  · exact h.mule
  · exact h.ext
  · exact h.okx
  · intro b' p e
    by_cases q : b' = b
    · simp [q] at e
    · simp [q] at e; exact h.xlt b' p e
  · exact h.blt
  · intro s b' p e
    by_cases q : b' = b
    · simp [q] at e
    · simp [q] at e; exact h.bxx s b' p e
  · exact h.okb
  · exact h.pin

/-- After a call that took a block over. -/
theorem Sim.calledD (h : Sim w0 mu0 T g st a w) {ob : Option Nat} (hob : ∀ b, ob = some b → g.okx b ∧ g.x b = none ∧ (∀ s, g.bx s ≠ some b) ∧ st.hp b = none ∧ b < w.heap.size) {mu' : Mem} {rv : LV} {val : Value}
    (hext : Ext (fun b => ob = some b) w w') (hle : g.mu.le mu') (hmem : MemOK mu' w') (hold : ∀ b j, b < w.heap.size → ob ≠ some b → mu' b j = g.mu b j)
    (x : Nat → Option Place) (hx : RepL { mu := mu', x := x, bx := fun _ => none, okx := fun b => b < w.heap.size → ob = some b } w' 0 rv val) (hxl : ∀ b p, x b = some p → b < w'.heap.size) (d : Nat) :
    ∃ g', Sim w0 mu0 T g' st a w' ∧ RepL g' w' d rv val := by
  let g' : Gh := { mu := mu', x := fun b => if b < w.heap.size ∧ ob ≠ some b then g.x b else match x b with | some (.slot 0 i) => some (.slot d i) | _ => none, bx := g.bx, okx := g.okx, okb := g.okb }
  have hs0 := h.ext.size
  have hne : ∀ b, (g.x b ≠ none ∨ (∃ s, g.bx s = some b) ∨ st.hp b ≠ none) → ob ≠ some b := by
    intro b hu e
    obtain ⟨_, q2, q3, q4, _⟩ := hob b e
    rcases hu with hu | ⟨s, hu⟩ | hu
    · exact hu q2
    · exact q3 s hu
    · exact hu q4
  refine ⟨g', h.grow (g' := g') hle ?_ ?_ ?_ hmem ?_ ?_ (fun _ => rfl) rfl hext.size, ?_⟩
  · intro b hb
    have hlt := h.used_lt hb
    exact ⟨hext.block b hlt (hne b hb), fun j q => by rw [show g'.mu b j = mu' b j from rfl, hold b j hlt (hne b hb)]; exact q⟩
  · intro b hb
    have hlt := h.used_lt (.inl hb)
    simp only [g']
    rw [if_pos ⟨hlt, hne b (.inl hb)⟩]
  · intro b hb hn
    have hge : ¬ (b < w.heap.size ∧ ob ≠ some b) := fun q => by simp [g', q, hb] at hn
    have hxl' : b < w'.heap.size := by
      simp only [g'] at hn
      rw [if_neg hge] at hn
      cases hxb : x b with
      | none => rw [hxb] at hn; exact absurd rfl hn
      | some p => exact hxl b p hxb
    refine ⟨fun s e => hge ⟨h.blt s b e, hne b (.inr (.inl ⟨s, e⟩))⟩, ?_, hxl'⟩
    cases hq : st.hp b with
    | none => rfl
    | some cs =>
      have hu : g.x b ≠ none ∨ (∃ s, g.bx s = some b) ∨ st.hp b ≠ none := .inr (.inr (by rw [hq]; simp))
      exact absurd ⟨h.used_lt hu, hne b hu⟩ hge
  · intro b j hb ht
    refine hold b j (by omega) (fun e => ?_)
    have := (hob b e).1
    rw [h.okx] at this
    exact ht (this hb)
  · refine ⟨hext.os.trans h.ext.os, hext.tape.trans h.ext.tape, hext.output.trans h.ext.output, Nat.le_trans h.ext.size hext.size, fun k hk ht => (hext.block k (by omega) (fun e => ?_)).trans (h.ext.block k hk ht)⟩
    have := (hob k e).1
    rw [h.okx] at this
    exact ht (.inr (this hk))
  · have hB : ∀ b, (b < w.heap.size → ob = some b) → g.okx b := fun b hb => by
      by_cases q : b < w.heap.size
      · exact (hob b (hb q)).1
      · exact h.okNew (Nat.le_of_not_lt q)
    have hgx : ∀ b i, (b < w.heap.size → ob = some b) → x b = some (.slot 0 i) → g'.x b = some (.slot d i) := by
      intro b i h1 h2
      simp only [g']
      rw [if_neg (fun q => q.2 (h1 q.1)), h2]
      rfl
    have hown : ∀ i sz xs v, OwnAt { mu := mu', x := x, bx := fun _ => none, okx := fun b => b < w.heap.size → ob = some b } w' (.slot 0 i) sz xs v → OwnAt g' w' (.slot d i) sz xs v := by
      intro i sz xs v ho
      rcases ho with ho | ⟨b, off, cap, h1, h2, h3, h4, h5⟩
      · exact .inl ho
      · exact .inr ⟨b, off, cap, h1, h2, hgx b i h4 h3, hB _ h4, h5⟩
    induction rv generalizing val with
    | gd c v ih => exact ⟨fun hc => ih (hx.1 hc), hx.2⟩
    | sv v => exact hx
    | own sz xs => exact hown 0 sz xs val hx
    | lptr t off => obtain ⟨b, hb, _⟩ := hx; cases hb
    | lsl t z off n cap => obtain ⟨b, hb, _⟩ := hx; cases hb
    | tup vs =>
      obtain ⟨us, h1, h2, h3⟩ := hx
      refine ⟨us, h1, h2, fun j hj => ?_⟩
      have := h3 j hj
      cases hv : vs.getD j (.sv .undef) with
      | sv v => rw [hv] at this; exact this
      | own sz xs => rw [hv] at this; exact hown j sz xs _ this
    | arr sz xs =>
      rcases hx with hx | ⟨b, h2, h3, hb⟩
      · exact .inl hx
      · exact .inr ⟨b, hgx b 0 h3 h2, hB _ h3, hb⟩
    | siter t pos =>
      obtain ⟨b, h1, h2, h3, h4, h5⟩ := hx
      exact ⟨b, h1, hgx b 0 h3 h2, hB _ h3, h4, h5⟩
    | pn =>
      obtain ⟨b, h1, h2, h3, h4, h5⟩ := hx
      exact ⟨b, h1, hgx b 0 h3 h2, hB _ h3, h4, h5⟩
    | pp t off => obtain ⟨_, _, _, _, _, hb⟩ := hx; cases hb
    | clo f nf caps =>
      obtain ⟨us, h1, h2, h3⟩ := hx
      refine ⟨us, h1, h2, fun j hj => ?_⟩
      have h4 := h3 j hj
      cases hc : caps.getD j default with
      | bp t off => rw [hc] at h4; obtain ⟨_, hb, _⟩ := h4; cases hb
      | pp t off => rw [hc] at h4; obtain ⟨_, _, _, _, _, hb⟩ := h4; cases hb

theorem call_stepD {o : Oper} {tk : Bool} {f : FuncId} {rest : List AO} {d s sz : Nat} {xs : List SV} {K : St → Prop} {K' : Act → World → Prop} {Q : Exit → Act → World → Prop} (hk : compK P tk o = some (.call f (.t s :: rest)))
    (h : Sim w0 mu0 T g st a w) (hdst : o.dst = some d) (hdn : d < st.n) (hl : (lk st.sl s).gv = (true, .arr sz xs)) (hm : match evList st rest with
    | some (c, l) => ∃ rv, c ∧ PureD P f sz xs l rv ∧ K { st with sl := (d, rv) :: (s, .sv .undef) :: st.sl }
    | none => False) (hK : ∀ g' st' a' w', Sim w0 mu0 T g' st' a' w' → st'.n = st.n → K st' → K' a' w') : o.wp P a w K' Q := by
  split at hm
  case h_2 => exact hm.elim
  rename_i cc l h2
  obtain ⟨rv, hcc, hpure, hKs⟩ := hm
  obtain ⟨xa, ts, fn, hop, hfn, hbody, hname, hargs⟩ := compK_call hk
  obtain ⟨oper, xr, hxa, ho, hxr⟩ : ∃ oper xr, xa.toList = oper :: xr ∧ compO oper = some (.t s) ∧ compArgs xr = some rest := by
    cases hx : xa.toList with
    | nil => rw [hx] at hargs; cases hargs
    | cons y r =>
      rw [hx] at hargs
      simp only [compArgs] at hargs
      split at hargs
      · rename_i o1 l1 e1 e2; cases hargs; exact ⟨y, r, rfl, e1, e2⟩
      · cases hargs
  have hoper : a.eval oper = a.tmps.getD s Go.undef := by
    cases oper with
    | tmp t => cases ho; rfl
    | const v => simp only [compO] at ho; cases hsv : svOf v <;> rw [hsv] at ho <;> cases ho
    | func f => cases ho
    | global g => cases ho
  have hra := compArgs_rep h hxr h2 hcc
  have hrun : (execOp a.eval o).run P w = .ok (.enter f (a.tmps.getD s Go.undef :: xr.map a.eval).toArray) w := by
    have hb' : fn.body.isNone = false := by cases hb : fn.body <;> simp [hb] at hbody ⊢
    simp only [execOp, hop, resolve, Act.eval, Deferred.ofValue, Sem.run_bind, Sem.run_pure, Result.andThen_ok, invoke, callFunc, run_program, hfn, hname, hb', Bool.false_eq_true, if_false]
    rw [show Array.map a.eval xa = (List.map a.eval xa.toList).toArray by apply Array.ext'; simp, hxa, List.map_cons, hoper]
    simp
  have hs : RepL g w s (.arr sz xs) (a.tmps.getD s Go.undef) := by have := (h.slots s).gv (by rw [hl]); rwa [hl] at this
  simp only [Oper.wp, hrun, Oper.upon_enter]
  rcases hs with ⟨hxs, hv⟩ | ⟨b, hx, hok, hat⟩
  · have h1 : Sim w0 mu0 T g { st with sl := (s, .sv .undef) :: st.sl } a w := h.weaken (fun _ => .undef _)
    refine (hpure g.mu w none _ _ h.mem (.inl ⟨rfl, hxs, hv⟩) hra).mono fun e w' hpost => ?_
    obtain ⟨val, mu', rfl, p1, p2, p3, p4, x, hx, hxl⟩ := hpost
    obtain ⟨g', q1, q2⟩ := h1.calledD (ob := none) (fun _ q => by cases q) p1 p2 p3 p4 x hx hxl d
    refine hK _ _ _ _ (show Sim w0 mu0 T g' (St.putS { st with sl := (s, .sv .undef) :: st.sl } d rv) (a.put o.dst val) w' from ?_) rfl hKs
    rw [hdst]
    exact q1.put hdn q2
  · have h1 := h.letgo hx
    obtain ⟨ob1, ob2⟩ := h.own_block hx
    have hlt := h.xlt b _ hx
    refine (hpure g.mu w (some b) _ _ h.mem (.inr ⟨b, rfl, hat⟩) hra).mono fun e w' hpost => ?_
    obtain ⟨val, mu', rfl, p1, p2, p3, p4, x, hx2, hxl⟩ := hpost
    obtain ⟨g', q1, q2⟩ := h1.calledD (ob := some b) (fun b' q => by cases q; exact ⟨hok, by simp, ob1, ob2, hlt⟩) p1 p2 p3 p4 x hx2 hxl d
    refine hK _ _ _ _ (show Sim w0 mu0 T g' (St.putS { st with sl := (s, .sv .undef) :: st.sl } d rv) (a.put o.dst val) w' from ?_) rfl hKs
    rw [hdst]
    exact q1.put hdn q2

theorem compK_mkfn {o : Oper} {tk : Bool} {f : FuncId} {l m : List AO} (hk : compK P tk o = some (.mkfn f l m)) : ∃ xs ys, o.op = .makeFunc (.func f) xs ys ∧ compArgs xs.toList = some l ∧ compArgs ys.toList = some m := by
  unfold compK at hk
  split at hk
  all_goals try ((repeat' split at hk) <;> simp at hk; done)
  rename_i f' xs ys hop
  split at hk
  · rename_i h1 h2
    cases hk
    exact ⟨xs, ys, hop, h1, h2⟩
  · cases hk
theorem compK_load {o : Oper} {tk : Bool} {n : Option Nat} {x : AO} (hk : compK P tk o = some (.load n x)) : ∃ t y, o.op = .load t y ∧ ldk P t = some n ∧ compO y = some x := by
  unfold compK at hk
  split at hk
  all_goals try ((repeat' split at hk) <;> simp at hk; done)
  rename_i t y hop
  split at hk
  · rename_i n' a h1 h2
    simp only [Option.some.injEq] at hk
    split at hk
    · cases hk
    · cases hk; exact ⟨t, y, hop, h1, h2⟩
  · cases hk
theorem compO_t {y : Operand} {s : Nat} (h : compO y = some (.t s)) : y = .tmp s := by
  cases y <;> simp [compO] at h
  all_goals first | (subst h; rfl) | skip
theorem baList_rep (h : Sim w0 mu0 T g st a w) : ∀ {xs : List Operand} {os : List AO} {c : Prop} {l : List BA}, compArgs xs = some os → baList st os = some (c, l) → c → (xs.map a.eval).length = l.length ∧ ∀ j, j < l.length → RepB g (l.getD j (.v .undef)) ((xs.map a.eval).getD j Go.undef)
  | [], os, c, l, h1, h2, hc => by
    cases h1
    simp only [baList, Option.some.injEq, Prod.mk.injEq] at h2
    obtain ⟨rfl, rfl⟩ := h2
    exact ⟨rfl, fun j hj => by simp at hj⟩
  | x :: r, os, c, l, h1, h2, hc => by
    simp only [compArgs] at h1
    split at h1
    case h_2 => cases h1
    rename_i o l' ho hl'
    cases h1
    simp only [baList] at h2
    split at h2
    case h_2 => cases h2
    rename_i gg v c' l'' hv hl''
    simp only [Option.some.injEq, Prod.mk.injEq] at h2
    obtain ⟨rfl, rfl⟩ := h2
    obtain ⟨rfl, hc'⟩ := hc
    obtain ⟨e1, e2⟩ := baList_rep h hl' hl'' hc'
    refine ⟨by simp at e1 ⊢; exact e1, fun j hj => ?_⟩
    cases j with
    | zero => simpa using baOf_rep h ho hv
    | succ j => simpa using e2 j (by simpa using hj)
theorem capList_rep (h : Sim w0 mu0 T g st a w) : ∀ {xs : List Operand} {os : List AO} {c : Prop} {l : List Cap}, compArgs xs = some os → capList st os = some (c, l) → c → (xs.map a.eval).length = l.length ∧ ∀ j, j < l.length → RepC g (l.getD j default) ((xs.map a.eval).getD j Go.undef)
  | [], os, c, l, h1, h2, hc => by
    cases h1
    simp only [capList, Option.some.injEq, Prod.mk.injEq] at h2
    obtain ⟨rfl, rfl⟩ := h2
    exact ⟨rfl, fun j hj => by simp at hj⟩
  | x :: r, os, c, l, h1, h2, hc => by
    simp only [compArgs] at h1
    split at h1
    case h_2 => cases h1
    rename_i o l' ho hl'
    cases h1
    simp only [capList] at h2
    split at h2
    case h_2 => cases h2
    rename_i gg v c' l'' hv hl''
    simp only [Option.some.injEq, Prod.mk.injEq] at h2
    obtain ⟨rfl, rfl⟩ := h2
    obtain ⟨rfl, hc'⟩ := hc
    obtain ⟨e1, e2⟩ := capList_rep h hl' hl'' hc'
    refine ⟨by simp at e1 ⊢; exact e1, fun j hj => ?_⟩
    cases j with
    | zero =>
      have : RepC g v (a.eval x) := by
        unfold capOf at hv
        split at hv
        · rename_i e; cases hv; exact rdl_lptr h ho e
        · rename_i e; cases hv; exact rdl_pp h ho e
        · cases hv
      simpa using this
    | succ j => simpa using e2 j (by simpa using hj)
theorem repB_caps {caps : List Cap} {us : List Value} (hul : us.length = caps.length) (hus : ∀ j, j < caps.length → RepC g (caps.getD j default) (us.getD j Go.undef)) (nf : Nat) :
    (us.take nf).length = ((caps.take nf).map BA.c).length ∧ (∀ j, j < ((caps.take nf).map BA.c).length → RepB g (((caps.take nf).map BA.c).getD j (.v .undef)) ((us.take nf).getD j Go.undef)) ∧
    (us.drop nf).length = ((caps.drop nf).map BA.c).length ∧ (∀ j, j < ((caps.drop nf).map BA.c).length → RepB g (((caps.drop nf).map BA.c).getD j (.v .undef)) ((us.drop nf).getD j Go.undef)) := by
  refine ⟨by simp [hul], fun j hj => ?_, by simp [hul], fun j hj => ?_⟩
  · have hj' : j < nf ∧ j < caps.length := by simp at hj; omega
    have e : ((caps.take nf).map BA.c).getD j (.v .undef) = .c (caps.getD j default) := by simp [List.getD_eq_getElem?_getD, hj'.1, hj'.2]
    have e2 : (us.take nf).getD j Go.undef = us.getD j Go.undef := by simp [List.getD_eq_getElem?_getD, List.getElem?_take, hj'.1]
    rw [e, e2]
    exact hus j hj'.2
  · have hj' : nf + j < caps.length := by simp at hj; omega
    have e : ((caps.drop nf).map BA.c).getD j (.v .undef) = .c (caps.getD (nf + j) default) := by simp [List.getD_eq_getElem?_getD, hj']
    have e2 : (us.drop nf).getD j Go.undef = us.getD (nf + j) Go.undef := by simp [List.getD_eq_getElem?_getD]
    rw [e, e2]
    exact hus _ hj'
theorem compArgs_len : ∀ {xs : List Operand} {l : List AO}, compArgs xs = some l → l.length = xs.length
  | [], l, h => by cases h; rfl
  | x :: r, l, h => by
    simp only [compArgs] at h
    split at h
    case h_2 => cases h
    rename_i o l' ho hl'
    cases h
    simp [compArgs_len hl']
theorem compArgs_append {ys : List Operand} {m : List AO} (hm : compArgs ys = some m) : ∀ {xs : List Operand} {l : List AO}, compArgs xs = some l → compArgs (xs ++ ys) = some (l ++ m)
  | [], l, h => by cases h; exact hm
  | x :: r, l, h => by
    simp only [compArgs] at h
    split at h
    case h_2 => cases h
    rename_i o l' ho hl'
    cases h
    simp only [List.cons_append, compArgs, ho, compArgs_append hm hl']
theorem repB_app {l m : List BA} {vs us : List Value} (h1 : vs.length = l.length) (h2 : ∀ j, j < l.length → RepB g (l.getD j (.v .undef)) (vs.getD j Go.undef)) (h3 : us.length = m.length) (h4 : ∀ j, j < m.length → RepB g (m.getD j (.v .undef)) (us.getD j Go.undef)) :
    (vs ++ us).length = (l ++ m).length ∧ ∀ j, j < (l ++ m).length → RepB g ((l ++ m).getD j (.v .undef)) ((vs ++ us).getD j Go.undef) := by
  refine ⟨by simp [h1, h3], fun j hj => ?_⟩
  by_cases q : j < l.length
  · have := h2 j q
    simp only [List.getD_eq_getElem?_getD] at this ⊢
    rw [List.getElem?_append_left q, List.getElem?_append_left (by rw [h1]; exact q)]
    exact this
  · have := h4 (j - l.length) (by simp at hj; omega)
    simp only [List.getD_eq_getElem?_getD] at this ⊢
    rw [List.getElem?_append_right (by omega), List.getElem?_append_right (by rw [h1]; omega), h1]
    exact this
/-- A new variable for a pointer. -/
theorem Sim.newPn (h : Sim w0 mu0 T g st a w) {z : Array Value} (hz : RepCs g.mu [.nilp] z) (t : TypeId) (d : Nat) : ∃ g', Sim w0 mu0 T g' st a (w.alloc (.cells z t)) ∧ RepL g' (w.alloc (.cells z t)) d .pn (.pointer (some ⟨w.heap.size, 0, none⟩)) := by
  have hz0 : z = #[.pointer none] := by
    obtain ⟨q1, q2⟩ := hz
    have := q2 0 (by simp)
    simp only [List.getD_cons_zero] at this
    have h3 := Rep.inv_nilp this
    apply Array.ext
    · simpa using q1
    · intro i h1 h2
      have : i = 0 := by simp at h2; omega
      subst this
      simpa [Array.getD_eq_getD_getElem?, h1] using h3
  subst hz0
  have hsz : (w.alloc (.cells #[.pointer none] t)).heap.size = w.heap.size + 1 := by
    show (w.heap.push _).size = _
    simp
  have hold : ∀ k, k < w.heap.size → (w.alloc (.cells #[.pointer none] t)).heap[k]? = w.heap[k]? := fun k hk => by
    show (w.heap.push _)[k]? = _
    simp [Array.getElem?_push, Nat.ne_of_lt hk]
  have hmem : MemOK g.mu (w.alloc (.cells #[.pointer none] t)) := by
    intro b j v hv
    have hlt := h.mem.lt hv
    obtain ⟨q1, q2⟩ := h.mem b j v hv
    refine ⟨?_, q2⟩
    rw [← q1]
    simp only [World.cell?, hold b hlt]
  obtain ⟨g', _, _, _, q1, q2⟩ := h.calledX (rv := .pn) (val := .pointer (some ⟨w.heap.size, 0, none⟩)) (w' := w.alloc (.cells #[.pointer none] t)) ⟨rfl, rfl, rfl, by omega, fun k hk _ => hold k hk⟩ (Mem.le_refl _) hmem (fun _ _ _ => rfl)
    (fun b => if b = w.heap.size then some (.slot 0 0) else none)
    ⟨w.heap.size, rfl, by simp, fun q => absurd q (Nat.lt_irrefl _), fun j => by
      show g.mu w.heap.size j = none
      cases q : g.mu w.heap.size j with
      | none => rfl
      | some v => exact absurd (h.mem.lt q) (Nat.lt_irrefl _), t, _, by
      show (w.heap.push (Obj.cells #[.pointer none] t))[w.heap.size]? = _
      simp; rfl, .inl rfl⟩
    (fun b p e => by
      by_cases q : b = w.heap.size
      · omega
      · rw [if_neg q] at e; cases e) d
  exact ⟨g', q1, q2⟩
/-- The variable gets a pointer to a box, and keeps it. -/
theorem Sim.storePn (h : Sim w0 mu0 T g st a w) {s : Nat} (hl : (lk st.sl s).gv = (true, .pn)) {t bt : Nat} (hbt : g.bx t = some bt) (off : Nat) :
    ∃ b g' w', a.tmps.getD s Go.undef = .pointer (some ⟨b, 0, none⟩) ∧ (storeCells ⟨b, 0, none⟩ [.pointer (some ⟨bt, off, none⟩)]).run P w = .ok () w' ∧ Sim w0 mu0 T g' (st.putS s (.pp t off)) a w' := by
  have hs : RepL g w s .pn (a.tmps.getD s Go.undef) := by have := (h.slots s).gv (by rw [hl]); rwa [hl] at this
  obtain ⟨b, hval, hx, hok, hmu, e, fr, hb, hfr⟩ := hs
  have hlt := h.xlt b _ hx
  obtain ⟨ob1, ob2⟩ := h.own_block hx
  have h1 := h.letgo hx
  obtain ⟨hst, c', hb', hc', hf', hget⟩ := setCells_at (P := P) (o := 0) (vs := [.pointer (some ⟨bt, off, none⟩)]) hb hfr (by simp) (by simp [Value.oneCell'])
  obtain ⟨q1, q2, q3, q4, q5, _⟩ := setCells_heap b [.pointer (some ⟨bt, off, none⟩)] 0 w
  let mu' : Mem := fun b' j => if b' = b then (if j = 0 then some (.pointer (some ⟨bt, off, none⟩)) else none) else g.mu b' j
  have hle : g.mu.le mu' := fun b' j v hv => by
    have : b' ≠ b := fun q => by subst q; rw [hmu] at hv; cases hv
    simp [mu', this, hv]
  have hmem : MemOK mu' (w.setCells b 0 [.pointer (some ⟨bt, off, none⟩)]) := by
    intro b' j v hv'
    by_cases q : b' = b
    · subst q
      simp only [mu', if_true] at hv'
      split at hv'
      · rename_i q; subst q
        cases hv'
        refine ⟨?_, rfl⟩
        rw [cell_of_block hb']
        have hg := hget 0
        rw [if_pos (by simp)] at hg
        have hlt0 : 0 < c'.size := by rw [hc']; simp
        rw [Array.getD_eq_getD_getElem?, Array.getElem?_eq_getElem hlt0] at hg
        rw [Array.getElem?_eq_getElem hlt0]
        simpa using hg
      · cases hv'
    · simp only [mu', if_neg q] at hv'
      obtain ⟨z1, z2⟩ := h.mem b' j v hv'
      refine ⟨?_, z2⟩
      rw [← z1]
      simp only [World.cell?, q5 b' q]
  let g1 : Gh := { g with x := fun b' => if b' = b then none else g.x b' }
  have hsim := Sim.grow (g := g1) (g' := { g1 with mu := mu' }) h1 hle (fun b' hu => ?_) (fun _ _ => rfl) (fun b' z1 z2 => absurd z1 z2) hmem (fun b' j z1 z2 => ?_) ?_ (fun _ => rfl) rfl (by rw [q4]; exact Nat.le_refl _) rfl
  · refine ⟨b, _, _, hval, hst, (hsim.weaken (d := s) (lv := .pp t off) (fun _ => ?_)).congr rfl (fun z => ?_) (fun _ => rfl) rfl⟩
    · exact ⟨b, 0, bt, hval, by simp [mu'], hbt⟩
    · simp only [St.putS, lk]
      split <;> rfl
  · have hne : b' ≠ b := by
      intro q
      subst q
      rcases hu with hu | ⟨s', hu⟩ | hu
      · simp [g1] at hu
      · exact ob1 s' hu
      · exact hu ob2
    exact ⟨q5 b' hne, fun j z => by simp [mu', hne]; exact z⟩
  · have hne : b' ≠ b := by
      intro q
      subst q
      rw [h.okx] at hok
      exact z2 (hok z1)
    simp [mu', hne, g1]
  · refine ⟨q1.trans h.ext.os, q2.trans h.ext.tape, q3.trans h.ext.output, by rw [q4]; exact h.ext.size, fun k hk ht => (q5 k (fun z => ?_)).trans (h.ext.block k hk ht)⟩
    subst z
    rw [h.okx] at hok
    exact ht (.inr (hok hk))
/-- A range over a string begins. -/
theorem Sim.newIter (h : Sim w0 mu0 T g st a w) (t : ByteArray) (d : Nat) : ∃ g', Sim w0 mu0 T g' st a (w.alloc (.stringIter t 0)) ∧ RepL g' (w.alloc (.stringIter t 0)) d (.siter t 0) (.pointer (some ⟨w.heap.size, 0, none⟩)) := by
  have hsz : (w.alloc (.stringIter t 0)).heap.size = w.heap.size + 1 := by
    show (w.heap.push (Obj.stringIter t 0)).size = _
    simp
  have hold : ∀ k, k < w.heap.size → (w.alloc (.stringIter t 0)).heap[k]? = w.heap[k]? := fun k hk => by
    show (w.heap.push (Obj.stringIter t 0))[k]? = _
    simp [Array.getElem?_push, Nat.ne_of_lt hk]
  have hmem : MemOK g.mu (w.alloc (.stringIter t 0)) := by
    intro b j v hv
    have hlt := h.mem.lt hv
    obtain ⟨q1, q2⟩ := h.mem b j v hv
    refine ⟨?_, q2⟩
    rw [← q1]
    simp only [World.cell?, hold b hlt]
  obtain ⟨g', _, _, _, q1, q2⟩ := h.calledX (rv := .siter t 0) (val := .pointer (some ⟨w.heap.size, 0, none⟩)) (w' := w.alloc (.stringIter t 0)) ⟨rfl, rfl, rfl, by omega, fun k hk _ => hold k hk⟩ (Mem.le_refl _) hmem (fun _ _ _ => rfl)
    (fun b => if b = w.heap.size then some (.slot 0 0) else none)
    ⟨w.heap.size, rfl, by simp, fun q => absurd q (Nat.lt_irrefl _), fun j => by
      show g.mu w.heap.size j = none
      cases q : g.mu w.heap.size j with
      | none => rfl
      | some v => exact absurd (h.mem.lt q) (Nat.lt_irrefl _), by
      show (w.heap.push (Obj.stringIter t 0))[w.heap.size]? = _
      simp⟩
    (fun b p e => by
      by_cases q : b = w.heap.size
      · omega
      · rw [if_neg q] at e; cases e) d
  exact ⟨g', q1, q2⟩
theorem decode_pos (s : ByteArray) (i : Nat) : 1 ≤ (Utf8.decode s i).2 := by
  unfold Utf8.decode
  simp only
  repeat' split
  all_goals simp
/-- A range over a string goes on. -/
theorem Sim.stepIter (h : Sim w0 mu0 T g st a w) {s : Nat} {t : ByteArray} {pos : Nat} (hl : (lk st.sl s).gv = (true, .siter t pos)) (d : Nat) (ty : TypeId) :
    ∃ val g' w', (Instr.next (a.tmps.getD s Go.undef) true ty).run P w = .ok val w' ∧ Sim w0 mu0 T g' { st with sl := (s, .siter t (nxtP t pos)) :: st.sl } a w' ∧ RepL g' w' d (nxtV t pos) val := by
  have hs : RepL g w s (.siter t pos) (a.tmps.getD s Go.undef) := by have := (h.slots s).gv (by rw [hl]); rwa [hl] at this
  obtain ⟨b, hv, hx, hok, hmu, hb⟩ := hs
  by_cases q : pos < t.size
  · have hlt := h.xlt b _ hx
    obtain ⟨ob1, ob2⟩ := h.own_block hx
    have h1 := h.letgo hx
    let w' : World := { w with heap := w.heap.setIfInBounds b (.stringIter t (pos + (Utf8.decode t pos).2)) }
    have hne : ∀ k, k ≠ b → w'.heap[k]? = w.heap[k]? := fun k hk => by
      simp only [w', Array.getElem?_setIfInBounds]
      rw [if_neg (fun e => hk e.symm)]
    have hmem : MemOK g.mu w' := by
      intro b' j v hv'
      have hb' : b' ≠ b := fun e => by subst e; rw [hmu] at hv'; cases hv'
      obtain ⟨q1, q2⟩ := h.mem b' j v hv'
      refine ⟨?_, q2⟩
      rw [← q1]
      simp only [World.cell?, hne b' hb']
    obtain ⟨g', q1, q2⟩ := h1.calledD (w' := w') (ob := some b) (fun b' e => by cases e; exact ⟨hok, by simp, ob1, ob2, hlt⟩) (rv := .siter t (pos + (Utf8.decode t pos).2)) (val := a.tmps.getD s Go.undef) ⟨rfl, rfl, rfl, by simp [w'], fun k hk e => hne k (fun z => e (by rw [z]))⟩ (Mem.le_refl _) hmem (fun _ _ _ _ => rfl)
      (fun b' => if b' = b then some (.slot 0 0) else none) ⟨b, hv, by simp, fun _ => rfl, hmu, by simp [w', hlt]⟩
      (fun b' p e => by
        by_cases z : b' = b
        · subst z; simpa [w'] using hlt
        · rw [if_neg z] at e; cases e) s
    refine ⟨.tuple #[.bool true, .int .i64 pos, .int .i32 (Utf8.decode t pos).1], g', w', ?_, ?_, ?_⟩
    · rw [hv]
      simp only [Instr.next, getObj, setObj, Sem.run_bind, Sem.run, hb, Result.andThen, q, if_true]
      simp [goInt, Sem.run, hb, w']
    · have := q1.weaken (d := s) (lv := .siter t (nxtP t pos)) (fun _ => by rw [nxtP, if_pos q]; exact q2)
      exact this.congr rfl (fun z => by simp only [lk]; split <;> rfl) (fun _ => rfl) rfl
    · rw [nxtV, if_pos q]
      refine ⟨[.bool true, .int .i64 pos, .int .i32 (Utf8.decode t pos).1], rfl, rfl, fun j hj => ?_⟩
      match j, hj with
      | 0, _ => exact .bool _
      | 1, _ => exact .int _ _
      | 2, _ => exact .int _ _
  · refine ⟨.tuple #[.bool false], g, w, ?_, ?_, ?_⟩
    · rw [hv]
      simp [Instr.next, getObj, Sem.run, hb, q]
    · exact h.weaken (d := s) (lv := .siter t (nxtP t pos)) (fun _ => by rw [nxtP, if_neg q]; exact ⟨b, hv, hx, hok, hmu, hb⟩)
    · rw [nxtV, if_neg q]
      refine ⟨[.bool false], rfl, rfl, fun j hj => ?_⟩
      match j, hj with
      | 0, _ => exact .bool _

theorem step_ok0 {ops : Array Oper} {o : Oper} {tk : Bool} {ao : AOp} {K : St → Prop} {K' : Act → World → Prop} {Q : Exit → Act → World → Prop} (hT : ∀ x, ao.k ≠ .takeLoad x) (hS : ∀ x s, ao.k ≠ .storeO x s) (hk : compK P tk o = some ao.k) (hd : ao.dst = o.dst) (hg : compG ops o.guard = some ao.guard)
    (hgn : ∀ s b, ao.guard = some (s, b) → s < st.n) (h : Sim w0 mu0 T g st a w) (hs : AStep P st ao K) (hK : ∀ g' st' a' w', Sim w0 mu0 T g' st' a' w' → st'.n = st.n → K st' → K' a' w') :
    if Region.wanted o (yielded ops a.tmps) then o.wp P a w K' Q else K' (a.put o.dst undef) w := by
  obtain ⟨dst, gu, k⟩ := ao
  simp only at hk hd hg hgn hT hS
  subst hd
  have quiet : k.quiet = true → (∃ d, o.dst = some d ∧ d < st.n ∧ match gOf st gu, ev st k with
    | some g, some (c, lv) => (g = true → c) ∧ K ((dgr st k).putS d (gdv gu g lv))
    | some false, none => K (st.putS d (.gd false (.sv .undef)))
    | _, _ => False) → if Region.wanted o (yielded ops a.tmps) then o.wp P a w K' Q else K' (a.put o.dst undef) w := by
    intro hq hs
    obtain ⟨d, hdst, hdn, hm⟩ := hs
    split at hm
    case h_3 => exact hm.elim
    case h_2 h1 h2 =>
      rw [wanted_iff h hg h1 hgn, if_neg (by simp)]
      refine hK _ _ _ _ (show Sim w0 mu0 T g (st.putS d (.gd false (.sv .undef))) (a.put o.dst undef) w from ?_) rfl hm
      rw [hdst]
      exact h.put hdn ⟨fun q => (by cases q), fun _ => rfl⟩
    rename_i c0 cc lv h1 h2
    obtain ⟨hc, hKs⟩ := hm
    rw [wanted_iff h hg h1 hgn]
    cases c0 with
    | true =>
      rw [if_pos rfl]
      obtain ⟨val, g', w', r1, r2, r3⟩ := comp_yields h hk hq h2 (hc rfl) d
      simp only [Oper.wp, r1, Oper.upon_value]
      refine hK _ _ _ _ (show Sim w0 mu0 T g' ((dgr st k).putS d (gdv gu true lv)) (a.put o.dst val) w' from ?_) (by simp [St.putS, dgr_n]) hKs
      rw [hdst]
      refine r2.put (by rw [dgr_n]; exact hdn) ?_
      cases gu with
      | none => exact r3
      | some p => exact ⟨fun _ => r3, fun q => (by cases q)⟩
    | false =>
      rw [if_neg (by simp)]
      refine hK _ _ _ _ (show Sim w0 mu0 T g ((dgr st k).putS d (gdv gu false lv)) (a.put o.dst undef) w from ?_) (by simp [St.putS, dgr_n]) hKs
      rw [hdst]
      refine (h.dgr k).put (by rw [dgr_n]; exact hdn) ?_
      cases gu with
      | none => simp [gOf] at h1
      | some p => exact ⟨fun q => (by cases q), fun _ => rfl⟩
  have unguarded : gu = none → Region.wanted o (yielded ops a.tmps) = true := fun e => by subst e; exact wanted_iff h hg (by rfl) (fun _ _ q => by cases q)
  cases k
  case box n x =>
    simp only [AStep] at hs
    obtain ⟨rfl, d, hdst, hdn, hno, hm⟩ := hs
    split at hm
    case h_2 => exact hm.elim
    rename_i gg v hv
    obtain ⟨rfl, hnc, hkn, hKs⟩ := hm
    rw [if_pos (unguarded rfl)]
    obtain ⟨t, y, i, hop, hi, hy, hsz⟩ := compK_box hk
    obtain ⟨g', hsim⟩ := h.newBox hdn.1 hdn.2 ((rd_rep h hy hv).repCs hkn) t
    have hrun : (execOp a.eval o).run P w = .ok (.value (.pointer (some ⟨w.heap.size, 0, none⟩))) (w.alloc (.cells (a.eval y).cells t)) := by
      simp [execOp, hop, Instr.box, newVar, newRow]
    simp only [Oper.wp, hrun, Oper.upon_value, hdst]
    exact hK _ { st with sl := (d, .lptr d 0) :: st.sl, bx := (d, v.cells.map .sv) :: st.bx } _ _ (hsim.congr rfl (fun s => (lk_newBox hno _).symm) (fun _ => rfl) rfl) rfl hKs
  case alloc zero =>
    simp only [AStep] at hs
    rcases hs with ⟨rfl, rfl, d, hdst, hdn, hKs⟩ | hs
    · rw [if_pos (unguarded rfl)]
      obtain ⟨t, hop, hz⟩ := compK_alloc hk
      obtain ⟨z, hz1, hz2⟩ := zeroV_run hz g.mu w
      obtain ⟨g', hsim, hrep⟩ := h.newPn hz2 t d
      have hrun : (execOp a.eval o).run P w = .ok (.value (.pointer (some ⟨w.heap.size, 0, none⟩))) (w.alloc (.cells z.cells t)) := by
        simp [execOp, hop, Instr.alloc, hz1, newVar, newRow]
      simp only [Oper.wp, hrun, Oper.upon_value, hdst]
      exact hK g' _ _ _ (hsim.put hdn hrep) rfl hKs
    obtain ⟨rfl, d, hdst, hdn, hno, hKs⟩ := hs
    rw [if_pos (unguarded rfl)]
    obtain ⟨t, hop, hz⟩ := compK_alloc hk
    obtain ⟨z, hz1, hz2⟩ := zeroV_run hz g.mu w
    obtain ⟨g', hsim⟩ := h.newBox hdn.1 hdn.2 hz2 t
    have hrun : (execOp a.eval o).run P w = .ok (.value (.pointer (some ⟨w.heap.size, 0, none⟩))) (w.alloc (.cells z.cells t)) := by
      simp [execOp, hop, Instr.alloc, hz1, newVar, newRow]
    simp only [Oper.wp, hrun, Oper.upon_value, hdst]
    exact hK _ { st with sl := (d, .lptr d 0) :: st.sl, bx := (d, zero.map .sv) :: st.bx } _ _ (hsim.congr rfl (fun s => (lk_newBox hno _).symm) (fun _ => rfl) rfl) rfl hKs
  case mks sz bytes zero l =>
    simp only [AStep] at hs
    rcases hs with hs | hs
    · obtain ⟨rfl, rfl, d, hdst, hdn, hno, hm⟩ := hs
      split at hm
      case h_2 => exact hm.elim
      rename_i gg k n z hv
      obtain ⟨⟨rfl, hn0, hnb, hn63⟩, hKs⟩ := hm
      rw [if_pos (unguarded rfl)]
      obtain ⟨t, y, e, i, hop, ht, hi, hsz, rfl, h0, hz, hzl, hzc, hy⟩ := compK_mks hk
      have rv := rd_rep h hy hv
      obtain ⟨m, rfl⟩ := Int.eq_ofNat_of_zero_le hn0
      obtain ⟨zz, hz1, hz2⟩ := zeroV_run hz g.mu w
      have hz0 : i.zero = some zz := by
        simp only [zeroV, hi, Option.bind_some, Option.bind_eq_some_iff] at hz
        obtain ⟨z', q1, q2⟩ := hz
        have : (zeroValue e).run P w = .ok z' w := by simp [zeroValue, typeInfo, hi, q1]
        rw [this] at hz1
        cases hz1
        exact q1
      have hrow : RepCs g.mu (List.replicate m z) (madeCells zz.cells (m * i.size)) := by
        by_cases q : m = 0
        · subst q; exact ⟨by simp [madeCells], fun j hj => by simp at hj⟩
        · have hr := zero_row (n := m) hz2 (by rw [hzl]) h0 hzc
          have hel : elemOf i.size [z] = z := by rw [hsz]; rfl
          rw [hel] at hr
          refine ⟨by rw [show (madeCells zz.cells (m * i.size)).size = _ from hr.1, hsz, Nat.mul_one], fun j hj => ?_⟩
          have hj' : j < m := by simpa using hj
          have := hr.2.2 j 0 (by simpa using hj') (by omega)
          have hcell : z.isCell = true := by simpa using hzc
          have hc0 : ((List.replicate m z).getD j .undef).cell 0 = z := by
            simp only [List.getD_eq_getElem?_getD, List.getElem?_replicate, hj', if_true, Option.getD_some, SV.cell]
            cases z <;> first | rfl | simp [SV.isCell] at hcell
          rw [hc0, hsz] at this
          simp only [Nat.mul_one, Nat.add_zero] at this
          have e2 : (List.replicate m z).getD j .undef = z := by simp [List.getD_eq_getElem?_getD, List.getElem?_replicate, hj']
          rw [e2, hsz]
          simp only [Nat.mul_one]
          exact this
      have hmb : (i.bytes : Int) * (m : Int) ≤ 281474976710656 := by rw [Int.mul_comm]; exact hnb
      have hrun : (execOp a.eval o).run P w = .ok (.value (.slice (some ⟨w.heap.size, 0, none⟩) m m)) (w.alloc (.cells (madeCells zz.cells (m * i.size)) e)) := by
        have := run_make (P := P) w t e i zz ht hi hz0 k k m m (by omega) (Int.le_refl _) hmb hn63
        simp only [execOp, hop, Sem.run_bind, rv.inv_int, this, Result.andThen_ok, Sem.run_pure]
        rfl
      obtain ⟨g', hsim⟩ := h.newArr hdn.1 hdn.2 hrow e m
      simp only [Oper.wp, hrun, Oper.upon_value, hdst]
      refine hK _ { st with sl := (d, .lsl d 1 0 m m) :: st.sl, bx := (d, List.replicate m (.sv z)) :: st.bx } _ _ (hsim.congr rfl (fun s => (lk_newBox hno _).symm) (fun _ => by simp [List.map_replicate]) rfl) rfl ?_
      simpa using hKs
    · exact quiet rfl hs
  case mkfn f first caps =>
    simp only [AStep] at hs
    rcases hs with ⟨rfl, d, hdst, hdn, hm⟩ | hs
    · split at hm
      case h_2 => exact hm.elim
      rename_i c l hl
      obtain ⟨hc, hKs⟩ := hm
      rw [if_pos (unguarded rfl)]
      obtain ⟨xs, ys, hop, hxs, hys⟩ := compK_mkfn hk
      obtain ⟨r1, r2⟩ := capList_rep h (compArgs_append hys hxs) hl hc
      have hln : first.length = (xs.toList.map a.eval).length := by rw [List.length_map]; exact compArgs_len hxs
      have q1 : xs.map a.eval = (xs.toList.map a.eval).toArray := by apply Array.ext'; simp
      have q2 : ys.map a.eval = (ys.toList.map a.eval).toArray := by apply Array.ext'; simp
      have hrun : (execOp a.eval o).run P w = .ok (.value (.func (.func f) (xs.toList.map a.eval).toArray (ys.toList.map a.eval).toArray)) w := by
        simp [execOp, hop, Instr.makeFunc, q1, q2]
      simp only [Oper.wp, hrun, Oper.upon_value, hdst]
      exact hK g _ _ _ (h.put hdn (lv := .clo f first.length l) ⟨_, by rw [List.map_append, hln, List.take_left, List.drop_left], r1, r2⟩) rfl hKs
    · exact quiet rfl hs
  case load n x =>
    simp only [AStep] at hs
    rcases hs with ⟨rfl, d, hdst, hdn, hm⟩ | hs
    · split at hm
      case h_2 => exact hm.elim
      rename_i gg gx s off h1 h2
      obtain ⟨hgx, hKs⟩ := hm
      rw [wanted_iff h hg h1 hgn]
      cases gg with
      | true =>
        rw [if_pos rfl]
        have := hgx rfl
        subst this
        obtain ⟨t, y, hop, ht, hy⟩ := compK_load hk
        obtain ⟨b0, o0, b, hv, hmu, hb⟩ := rdl_pp h hy h2
        have hcell := (h.mem _ _ _ hmu).1
        have hr : (execOp a.eval o).run P w = .ok (.value (.pointer (some ⟨b, off, none⟩))) w := by
          simp [execOp, hop, hv, Instr.loadAt, Instr.sureAddr, run_load1 ht hcell]
        simp only [Oper.wp, hr, Oper.upon_value]
        refine hK g _ _ _ (show Sim w0 mu0 T g (st.putS d (gdv gu true (.lptr s off))) (a.put o.dst _) w from ?_) rfl hKs
        rw [hdst]
        refine h.put hdn ?_
        have hrep : RepL g w d (.lptr s off) (.pointer (some ⟨b, off, none⟩)) := ⟨b, hb, rfl⟩
        cases gu with
        | none => exact hrep
        | some p => exact ⟨fun _ => hrep, fun q => (by cases q)⟩
      | false =>
        rw [if_neg (by simp)]
        refine hK g _ _ _ (show Sim w0 mu0 T g (st.putS d (gdv gu false (.lptr s off))) (a.put o.dst undef) w from ?_) rfl hKs
        rw [hdst]
        refine h.put hdn ?_
        cases gu with
        | none => simp [gOf] at h1
        | some p => exact ⟨fun q => (by cases q), fun _ => rfl⟩
    · exact quiet rfl hs
  case store n x v =>
    simp only [AStep] at hs
    rcases hs with ⟨rfl, hdst, rfl, s, rfl, hsn, hm⟩ | hs
    · split at hm
      case h_2 => exact hm.elim
      rename_i g1 g2 t off h1 h2
      obtain ⟨rfl, rfl, hKs⟩ := hm
      rw [if_pos (unguarded rfl)]
      obtain ⟨ty, y, uu, i, hop, hi, hy, hu, hsz⟩ := compK_store hk
      obtain ⟨bt, hbt, hv⟩ := rdl_lptr h hu h2
      obtain ⟨b, g', w', hval, hrun, hsim⟩ := h.storePn (P := P) h1 hbt off
      have hye : a.eval y = .pointer (some ⟨b, 0, none⟩) := by
        have : y = .tmp s := compO_t hy
        rw [this]; exact hval
      have hr : (execOp a.eval o).run P w = .ok .skip w' := by
        simp only [execOp, hop, Sem.run_bind, Instr.storeAt, hye, Instr.sureAddr, Sem.run_pure, Result.andThen_ok, storeVar, run_sizeOf' hi, hv]
        rw [if_neg (by simp [hsz, Value.cells])]
        simp [Value.cells, hrun]
      simp only [Oper.wp, hr, Oper.upon_skip, hdst]
      exact hK g' _ _ _ hsim rfl hKs
    obtain ⟨rfl, hdst, hm⟩ := hs
    split at hm
    case h_2 => exact hm.elim
    rename_i g1 p g2 u h1 h2
    obtain ⟨rfl, rfl, hnc, hck, hm⟩ := hm
    rw [if_pos (unguarded rfl)]
    obtain ⟨t, y, uu, i, hop, hi, hy, hu, hsz⟩ := compK_store hk
    split at hm
    case h_2 => exact hm.elim
    rename_i c st1 hst
    obtain ⟨hc, hKs⟩ := hm
    unfold storeV at hst
    split at hst
    case h_2 => cases hst
    rename_i s off
    split at hst
    case h_2 => cases hst
    rename_i cells hcl
    simp only [Option.some.injEq, Prod.mk.injEq] at hst
    obtain ⟨rfl, rfl⟩ := hst
    obtain ⟨b, hb, hv⟩ := rdl_lptr h hy h1
    have rcs := (rd_rep h hu h2).repCs (known_of_cells hck)
    obtain ⟨w', hrun, hsim⟩ := h.storeBox (P := P) hcl hb hc rcs hck
    have hr : (execOp a.eval o).run P w = .ok .skip w' := by
      have hs2 : (a.eval uu).cells.size = i.size := by rw [rcs.1, hsz]; exact hnc
      simp only [execOp, hop, Sem.run_bind, Instr.storeAt, hv, Instr.sureAddr, Sem.run_pure, Result.andThen_ok, storeVar, run_sizeOf' hi]
      rw [if_neg (by simp [hs2])]
      simp [hrun]
    simp only [Oper.wp, hr, Oper.upon_skip, hdst]
    exact hK _ _ _ _ hsim rfl hKs
  case callV x args =>
    simp only [AStep] at hs
    rcases hs with ⟨rfl, d, hdst, hdn, hm⟩ | hs
    · split at hm
      case h_2 => exact hm.elim
      rename_i gx f nf caps c l h1 h2
      obtain ⟨rfl, hcc, ⟨fn, hfn, hbody, hname⟩, bxs, rv, bxs', he, hat, hci, hni, hal, hKs⟩ := hm
      rw [if_pos (unguarded rfl)]
      obtain ⟨sx, cl, xs, rfl, hop, hcl, hxs, hargs⟩ := compK_callV hk
      obtain ⟨us, hux, hul, hus⟩ := rdl_clo h (x := .tmp sx) rfl h1
      obtain ⟨r1, r2⟩ := baList_rep h hargs h2 hcc
      have hrun : (execOp a.eval o).run P w = .ok (.enter f (us.take nf ++ xs.toList.map a.eval ++ us.drop nf).toArray) w := by
        have hb' : fn.body.isNone = false := by cases hb : fn.body <;> simp [hb] at hbody ⊢
        simp only [execOp, hop, resolve, hcl, hux, Deferred.ofValue, Sem.run_bind, Sem.run_pure, Result.andThen_ok, invoke, callFunc, run_program, hfn, hname, hb', Bool.false_eq_true, if_false]
        rw [hxs, show Array.map a.eval xs = (List.map a.eval xs.toList).toArray by apply Array.ext'; simp]
        simp
      obtain ⟨m1, m2, m3, m4⟩ := repB_caps hul hus nf
      obtain ⟨n1, n2⟩ := repB_app (g := g) m1 m2 r1 r2
      obtain ⟨k1, k2⟩ := repB_app (g := g) n1 n2 m3 m4
      simp only [Oper.wp, hrun, Oper.upon_enter]
      refine (h.calledB he hat hci hni hal k1 k2 d).mono fun e w' hpost => ?_
      obtain ⟨val, g', rfl, q1, q2⟩ := hpost
      refine hK g' _ _ _ (show Sim w0 mu0 T g' { st with sl := (d, rv) :: st.sl, bx := bxs' ++ st.bx } (a.put o.dst val) w' from ?_) rfl hKs
      rw [hdst]
      exact q1.put hdn q2
    obtain ⟨d, hdst, hdn, hm⟩ := hs
    split at hm
    case h_2 => exact hm.elim
    rename_i c0 gx f fs cs cc l h1 h1x h2
    obtain ⟨rv, hp, hKs⟩ := hm
    rw [wanted_iff h hg h1 hgn]
    obtain ⟨sx, cl, xs, hxt, hop, hcl, hxs, hargs⟩ := compK_callV hk
    subst hxt
    cases c0 with
    | true =>
      rw [if_pos rfl]
      obtain ⟨rfl, hcc, ⟨fn, hfn, hbody, hname⟩, hpure⟩ := hp rfl
      have hra := compArgs_rep h hargs h2 hcc
      have hrx : Rep g.mu (.fn f fs cs) (a.eval (.tmp sx)) := rd_rep h (x := .tmp sx) rfl h1x
      obtain ⟨vf, vc, hvx, hvf, hvc, hvf', hvc'⟩ : ∃ vf vc : List Value, a.eval (.tmp sx) = .func (.func f) vf.toArray vc.toArray ∧ vf.length = fs.length ∧ vc.length = cs.length ∧
          (∀ j, j < fs.length → Rep g.mu (fs.getD j .undef) (vf.getD j Go.undef)) ∧ (∀ j, j < cs.length → Rep g.mu (cs.getD j .undef) (vc.getD j Go.undef)) := by
        generalize a.eval (.tmp sx) = val at hrx
        cases hrx with
        | fn _ _ _ vf vc q1 q2 q3 q4 => exact ⟨vf, vc, rfl, q1, q2, q3, q4⟩
      have hra : RepArgs g.mu (fs ++ l ++ cs) (vf ++ xs.toList.map a.eval ++ vc) := repArgs_app (repArgs_app ⟨hvf, hvf'⟩ hra) ⟨hvc, hvc'⟩
      have hrun : (execOp a.eval o).run P w = .ok (.enter f (vf ++ xs.toList.map a.eval ++ vc).toArray) w := by
        have hb' : fn.body.isNone = false := by cases hb : fn.body <;> simp [hb] at hbody ⊢
        simp only [execOp, hop, resolve, hcl, hvx, Deferred.ofValue, Sem.run_bind, Sem.run_pure, Result.andThen_ok, invoke, callFunc, run_program, hfn, hname, hb', Bool.false_eq_true, if_false]
        rw [hxs, show Array.map a.eval xs = (List.map a.eval xs.toList).toArray by apply Array.ext'; simp]
        simp
      simp only [Oper.wp, hrun, Oper.upon_enter]
      refine (hpure g.mu w _ h.mem hra).mono fun e w' hpost => ?_
      obtain ⟨val, mu', rfl, p1, p2, p3, p4, p5⟩ := hpost
      obtain ⟨g', _, _, q1, q2⟩ := h.called p1 p2 p3 p4 p5 d
      refine hK _ _ _ _ (show Sim w0 mu0 T g' (st.putS d (gdv gu true rv)) (a.put o.dst val) w' from ?_) rfl hKs
      rw [hdst]
      refine q1.put hdn ?_
      cases gu with
      | none => exact q2
      | some p => exact ⟨fun _ => q2, fun q => (by cases q)⟩
    | false =>
      rw [if_neg (by simp)]
      refine hK _ _ _ _ (show Sim w0 mu0 T g (st.putS d (gdv gu false rv)) (a.put o.dst undef) w from ?_) rfl hKs
      rw [hdst]
      refine h.put hdn ?_
      cases gu with
      | none => simp [gOf] at h1
      | some p => exact ⟨fun q => (by cases q), fun _ => rfl⟩
  case call f args =>
    simp only [AStep] at hs
    rcases hs with hs | hs | hs
    · obtain ⟨d, hdst, hdn, hm⟩ := hs
      exact call_step0 hk hg hgn h hdst hdn hm hK
    · obtain ⟨rfl, d, hdst, hdn, hm⟩ := hs
      rw [if_pos (unguarded rfl)]
      exact call_stepA hk h hdst hdn hm hK
    · obtain ⟨rfl, d, s, rest, sz, xs, hdst, hdn, rfl, hl, hm⟩ := hs
      rw [if_pos (unguarded rfl)]
      exact call_stepD hk h hdst hdn hl hm hK
  case callN f args =>
    simp only [AStep] at hs
    obtain ⟨rfl, d, hdst, hdn, hno, hm⟩ := hs
    rw [if_pos (unguarded rfl)]
    split at hm
    case h_2 => exact hm.elim
    rename_i cc l h2
    obtain ⟨hcc, cells, hpure, hKs⟩ := hm
    obtain ⟨xs, ts, fn, hop, hfn, hbody, hname, hargs⟩ := compK_callN hk
    have hra := compArgs_rep h hargs h2 hcc
    have hrun : (execOp a.eval o).run P w = .ok (.enter f (xs.toList.map a.eval).toArray) w := by
      have hb' : fn.body.isNone = false := by cases hb : fn.body <;> simp [hb] at hbody ⊢
      simp only [execOp, hop, resolve, Act.eval, Deferred.ofValue, Sem.run_bind, Sem.run_pure, Result.andThen_ok, invoke, callFunc, run_program, hfn, hname, hb', Bool.false_eq_true, if_false]
      rw [show Array.map a.eval xs = (List.map a.eval xs.toList).toArray by apply Array.ext'; simp]
      simp
    simp only [Oper.wp, hrun, Oper.upon_enter]
    refine (hpure g.mu w _ h.mem hra).mono fun e w' hpost => ?_
    obtain ⟨b, mu', rfl, p1, p2, p3, p4, p5, p6⟩ := hpost
    obtain ⟨g', e1, e2, e3, q1, q2⟩ := h.calledX (rv := .sv .undef) (val := undef) p1 p2 p3 p4 (fun _ => none) (.undef _) (fun _ _ e => by cases e) d
    have hsz := h.ext.size
    have hhp : st.hp b = none := by
      cases hq : st.hp b with
      | none => rfl
      | some cs => have := h.used_lt (b := b) (.inr (.inr (by rw [hq]; simp))); omega
    obtain ⟨g2, hsim⟩ := q1.adopt hdn.1 hdn.2 (b0 := b) (cells := cells) (by rw [e1]; exact p6) (by omega) (e3 b p5 rfl) (fun s q => by rw [e2] at q; have := h.blt s b q; omega) hhp
    rw [hdst]
    exact hK _ { st with sl := (d, .lptr d 0) :: st.sl, bx := (d, cells.map .sv) :: st.bx } _ _ (hsim.congr rfl (fun s => (lk_newBox hno _).symm) (fun _ => rfl) rfl) rfl hKs
  case callE f x args =>
    simp only [AStep] at hs
    obtain ⟨xs, ts, fn, hop, hfn, hbody, hname, hargs⟩ := compK_callE hk
    rcases hs with ⟨rfl, d, hdst, hdn, hm⟩ | hs
    · split at hm
      case h_2 => exact hm.elim
      rename_i c l h2
      obtain ⟨hcc, bxs, rv, bxs', he, hat, hci, hni, hal, hKs⟩ := hm
      rw [if_pos (unguarded rfl)]
      obtain ⟨r1, r2⟩ := baList_rep h hargs h2 hcc
      have hrun : (execOp a.eval o).run P w = .ok (.enter f (xs.toList.map a.eval).toArray) w := by
        have hb' : fn.body.isNone = false := by cases hb : fn.body <;> simp [hb] at hbody ⊢
        simp only [execOp, hop, resolve, Act.eval, Deferred.ofValue, Sem.run_bind, Sem.run_pure, Result.andThen_ok, invoke, callFunc, run_program, hfn, hname, hb', Bool.false_eq_true, if_false]
        rw [show Array.map a.eval xs = (List.map a.eval xs.toList).toArray by apply Array.ext'; simp]
        simp
      simp only [Oper.wp, hrun, Oper.upon_enter]
      refine (h.calledB he hat hci hni hal r1 r2 d).mono fun e w' hpost => ?_
      obtain ⟨val, g', rfl, q1, q2⟩ := hpost
      refine hK g' _ _ _ (show Sim w0 mu0 T g' { st with sl := (d, rv) :: st.sl, bx := bxs' ++ st.bx } (a.put o.dst val) w' from ?_) rfl hKs
      rw [hdst]
      exact q1.put hdn q2
    obtain ⟨d, hdst, hdn, hm⟩ := hs
    obtain ⟨y, ys, hxs, hy, hys⟩ : ∃ y ys, xs.toList = y :: ys ∧ compO y = some x ∧ compArgs ys = some args := by
      cases hl : xs.toList with
      | nil => rw [hl] at hargs; cases hargs
      | cons y ys =>
        rw [hl] at hargs
        simp only [compArgs] at hargs
        split at hargs
        case h_2 => cases hargs
        rename_i o' l' h1 h2
        cases hargs
        exact ⟨y, ys, rfl, h1, h2⟩
    have hrun : (execOp a.eval o).run P w = .ok (.enter f (a.eval y :: ys.map a.eval).toArray) w := by
      have hb' : fn.body.isNone = false := by cases hb : fn.body <;> simp [hb] at hbody ⊢
      simp only [execOp, hop, resolve, Act.eval, Deferred.ofValue, Sem.run_bind, Sem.run_pure, Result.andThen_ok, invoke, callFunc, run_program, hfn, hname, hb', Bool.false_eq_true, if_false]
      rw [show Array.map a.eval xs = (a.eval y :: List.map a.eval ys).toArray by apply Array.ext'; simp [hxs]]
      simp
      cases y <;> simp [Act.eval]
    split at hm
    case h_3 => exact hm.elim
    · rename_i g0 gx s c l h1 h2 h3
      split at hm
      case h_2 => exact hm.elim
      rename_i cells hcl
      obtain ⟨rv, cells', hp, hKs⟩ := hm
      rw [wanted_iff h hg h1 hgn]
      cases g0 with
      | true =>
        rw [if_pos rfl]
        obtain ⟨rfl, hcc, heff⟩ := hp rfl
        obtain ⟨b, hb, hv⟩ := rdl_lptr h hy h2
        obtain ⟨b2, hb2, hbox⟩ := h.boxes s cells hcl
        rw [hb] at hb2; cases hb2
        have hra := compArgs_rep h hys h3 hcc
        simp only [Oper.wp, hrun, Oper.upon_enter]
        rw [hv]
        refine (heff g.mu w b _ h.mem hbox.heapAt hra).mono fun e w' hpost => ?_
        obtain ⟨val, mu', rfl, p1, p2, p3, p4, p5, p6⟩ := hpost
        obtain ⟨g', q1, q2⟩ := h.calledE hcl hb p1 p2 p3 p4 p5 p6 d
        refine hK _ _ _ _ (show Sim w0 mu0 T g' { st with sl := (d, gdv gu true rv) :: st.sl, bx := (s, cond true (cells'.map .sv) cells) :: st.bx } (a.put o.dst val) w' from ?_) rfl hKs
        rw [hdst]
        refine q1.put hdn ?_
        cases gu with
        | none => exact q2
        | some p => exact ⟨fun _ => q2, fun q => (by cases q)⟩
      | false =>
        rw [if_neg (by simp)]
        refine hK _ _ _ _ (show Sim w0 mu0 T g { st with sl := (d, gdv gu false rv) :: st.sl, bx := (s, cond false (cells'.map .sv) cells) :: st.bx } (a.put o.dst undef) w from ?_) rfl hKs
        rw [hdst]
        have h4 := h.put (d := d) (lv := gdv gu false rv) (val := undef) hdn (by
          cases gu with
          | none => simp [gOf] at h1
          | some p => exact ⟨fun q => (by cases q), fun _ => rfl⟩)
        exact h4.congr rfl (fun t => rfl) (fun t => by
          simp only [cond_false, lkb]
          split
          · rename_i q; subst q; exact hcl.symm
          · rfl) rfl
    · rename_i g0 gx v c l h1 h2 h3
      obtain ⟨rv, hp, hKs⟩ := hm
      rw [wanted_iff h hg h1 hgn]
      cases g0 with
      | true =>
        rw [if_pos rfl]
        obtain ⟨rfl, hcc, hpure⟩ := hp rfl
        have hra := compArgs_rep h hys h3 hcc
        have hv : Rep g.mu v (a.eval y) := rd_rep h hy (by simp [rd, h2, LV.sh?])
        have hra2 : RepArgs g.mu (v :: l) (a.eval y :: ys.map a.eval) := ⟨by simp [hra.1], fun j hj => by
          cases j with
          | zero => exact hv
          | succ j => simpa using hra.2 j (by simpa using hj)⟩
        simp only [Oper.wp, hrun, Oper.upon_enter]
        refine (hpure g.mu w _ h.mem hra2).mono fun e w' hpost => ?_
        obtain ⟨val, mu', rfl, p1, p2, p3, p4, p5⟩ := hpost
        obtain ⟨g', _, _, q1, q2⟩ := h.called p1 p2 p3 p4 p5 d
        refine hK _ _ _ _ (show Sim w0 mu0 T g' (st.putS d (gdv gu true rv)) (a.put o.dst val) w' from ?_) rfl hKs
        rw [hdst]
        refine q1.put hdn ?_
        cases gu with
        | none => exact q2
        | some p => exact ⟨fun _ => q2, fun q => (by cases q)⟩
      | false =>
        rw [if_neg (by simp)]
        refine hK _ _ _ _ (show Sim w0 mu0 T g (st.putS d (gdv gu false rv)) (a.put o.dst undef) w from ?_) rfl hKs
        rw [hdst]
        refine h.put hdn ?_
        cases gu with
        | none => simp [gOf] at h1
        | some p => exact ⟨fun q => (by cases q), fun _ => rfl⟩
  case rng x =>
    simp only [AStep] at hs
    obtain ⟨rfl, d, hdst, hdn, hm⟩ := hs
    split at hm
    case h_2 => exact hm.elim
    rename_i gg t hv
    obtain ⟨rfl, hKs⟩ := hm
    rw [if_pos (unguarded rfl)]
    obtain ⟨ty, y, hop, hty, hy⟩ := compK_rng hk
    have hr := rd_rep h hy hv
    obtain ⟨g', hsim, hrep⟩ := h.newIter t d
    have hrun : (execOp a.eval o).run P w = .ok (.value (.pointer (some ⟨w.heap.size, 0, none⟩))) (w.alloc (.stringIter t 0)) := by
      simp [execOp, hop, hr.inv_str, run_range_string w ty t hty, World.iter]
    simp only [Oper.wp, hrun, Oper.upon_value, hdst]
    exact hK g' _ _ _ (hsim.put hdn hrep) rfl hKs
  case nxt s =>
    simp only [AStep] at hs
    obtain ⟨rfl, d, hdst, hdn, hm⟩ := hs
    split at hm
    case h_2 => exact hm.elim
    rename_i gg t pos hv
    obtain ⟨rfl, hKs⟩ := hm
    rw [if_pos (unguarded rfl)]
    have hop := compK_nxt hk
    obtain ⟨val, g', w', hrun, hsim, hrep⟩ := h.stepIter (P := P) hv d o.type
    have hrun2 : (execOp a.eval o).run P w = .ok (.value val) w' := by
      simp only [execOp, hop, Sem.run_bind]
      rw [show a.eval (.tmp s) = a.tmps.getD s Go.undef from rfl, hrun]
      rfl
    simp only [Oper.wp, hrun2, Oper.upon_value, hdst]
    exact hK g' _ _ _ (hsim.put hdn hrep) rfl hKs
  case takeLoad x => exact absurd rfl (hT x)
  case storeO x s => exact absurd rfl (hS x s)
  all_goals exact quiet rfl hs

theorem step_ok {ops : Array Oper} {o : Oper} {tk : Bool} {ao : AOp} {K : St → Prop} {K' : Act → World → Prop} {Q : Exit → Act → World → Prop} (hk : compK P tk o = some ao.k) (hd : ao.dst = o.dst) (hg : compG ops o.guard = some ao.guard)
    (hgn : ∀ s b, ao.guard = some (s, b) → s < st.n) (h : Sim w0 mu0 T g st a w) (hs : AStep P st ao K) (hK : ∀ g' st' a' w', Sim w0 mu0 T g' st' a' w' → st'.n = st.n → K st' → K' a' w') :
    if Region.wanted o (yielded ops a.tmps) then o.wp P a w K' Q else K' (a.put o.dst undef) w := by
  obtain ⟨dst, gu, k⟩ := ao
  by_cases hT : ∃ x, k = .takeLoad x
  · obtain ⟨x, rfl⟩ := hT
    obtain ⟨⟨t, y, hop, ht, hy⟩, hk0⟩ := compK_takeLoad hk
    simp only [AStep] at hs
    rcases hs with hs | hs
    · obtain ⟨rfl, d, hdst, hdn, hm⟩ := hs
      simp only at hd hg hgn
      have hwant : Region.wanted o (yielded ops a.tmps) = true := wanted_iff h hg (by rfl) (fun _ _ q => by cases q)
      rw [if_pos hwant]
      split at hm
      case h_2 => exact hm.elim
      rename_i g1 s off h1
      split at hm
      case h_2 => exact hm.elim
      rename_i cells hcl
      obtain ⟨rfl, hlt, hKs⟩ := hm
      obtain ⟨b, hb, hv⟩ := rdl_lptr h hy h1
      obtain ⟨val, g', hcell, hsim, hrep⟩ := take_cell h hcl hb hlt d
      have hr : (execOp a.eval o).run P w = .ok (.value val) w := by
        simp [execOp, hop, hv, Instr.loadAt, Instr.sureAddr, run_load1 ht hcell]
      simp only [Oper.wp, hr, Oper.upon_value]
      rw [← hd, hdst]
      exact hK g' _ _ _ (hsim.put hdn hrep) rfl hKs
    · exact step_ok0 (tk := false) (ao := ⟨dst, gu, .load none x⟩) (fun _ q => by cases q) (fun _ _ q => by cases q) hk0 hd hg hgn h (by simp only [AStep]; exact .inr hs) hK
  by_cases hS : ∃ x s, k = .storeO x s
  · obtain ⟨x, s, rfl⟩ := hS
    obtain ⟨⟨t, y, i, hop, hi, hy, hsz⟩, hk0⟩ := compK_storeO hk
    simp only [AStep] at hs
    rcases hs with hs | hs
    · obtain ⟨rfl, hdst, hm⟩ := hs
      simp only at hd hg hgn
      have hwant : Region.wanted o (yielded ops a.tmps) = true := wanted_iff h hg (by rfl) (fun _ _ q => by cases q)
      rw [if_pos hwant]
      split at hm
      case h_2 => exact hm.elim
      rename_i g1 s1 off g2 sz xs h1 h2
      split at hm
      case h_2 => exact hm.elim
      rename_i cells hcl
      obtain ⟨rfl, rfl, hlt, hKs⟩ := hm
      obtain ⟨b, hb, hv⟩ := rdl_lptr h hy h1
      have hone : (a.tmps.getD s Go.undef).oneCell' = true ∧ ∃ g', g'.bx = g.bx ∧ Sim w0 mu0 T g' { st with sl := (s, (lk st.sl s).dg) :: st.sl } a w ∧ RepR g' w (.cell s1 off) (.own sz xs) (a.tmps.getD s Go.undef) := by
        have hs : RepL g w s (.own sz xs) (a.tmps.getD s Go.undef) := by have := (h.slots s).gv (by rw [h2]); rwa [h2] at this
        rcases hs with ⟨h1, h2'⟩ | ⟨blk, o2, cap, hv2, hr, hx, hB, hsp⟩
        · exact ⟨by rw [h2']; rfl, g, rfl, h.dg s, .inl ⟨h1, h2'⟩⟩
        · have hltb := h.xlt blk _ hx
          obtain ⟨ob1, ob2⟩ := h.own_block hx
          have e1 := h.disown' h2 hv2 hx
          have e2 := e1.setx (b := blk) (p := .cell s1 off) (by simp) ob1 ob2 hltb
          exact ⟨by rw [hv2]; rfl, _, by rfl, e2, .inr ⟨blk, o2, cap, hv2, hr, by simp, hB, hsp⟩⟩
      obtain ⟨hone, g', hbx, hsim, hrep⟩ := hone
      obtain ⟨w', hrun, hsim2⟩ := hsim.storeBox1 (P := P) (b := b) hcl (by rw [hbx]; exact hb) hlt hrep hone
      have hev : a.eval (.tmp s) = a.tmps.getD s Go.undef := rfl
      have hcs : (a.tmps.getD s Go.undef).cells = #[a.tmps.getD s Go.undef] := by
        generalize a.tmps.getD s Go.undef = v at hone
        cases v <;> first | rfl | simp [Value.oneCell'] at hone
      have hr : (execOp a.eval o).run P w = .ok .skip w' := by
        simp only [execOp, hop, Sem.run_bind, Instr.storeAt, hv, Instr.sureAddr, Sem.run_pure, Result.andThen_ok, storeVar, run_sizeOf' hi, hev, hcs]
        rw [if_neg (by simp [hsz])]
        simp only [Sem.run_bind, hrun, Result.andThen_ok, Sem.run_pure]
      simp only [Oper.wp, hr, Oper.upon_skip]
      rw [← hd, hdst]
      exact hK g' _ _ _ hsim2 rfl hKs
    · exact step_ok0 (tk := false) (ao := ⟨dst, gu, .store 1 x (.t s)⟩) (fun _ q => by cases q) (fun _ _ q => by cases q) hk0 hd hg hgn h (by simp only [AStep]; exact .inr hs) hK
  exact step_ok0 (fun x q => hT ⟨x, q⟩) (fun x s q => hS ⟨x, s, q⟩) hk hd hg hgn h hs hK
end Go.Av
