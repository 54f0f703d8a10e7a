import Derived.Test.YtabidcdfmkkegaaAvO
import Derived.Laws.StructEq
import Derived.ChangeKeysEq
set_option linter.unusedSimpArgs false
namespace Go.Av
variable {P : Program} {w0 : World} {mu0 : Mem} {T : Nat → Prop} {g g' : Gh} {st st' : St} {a : Act} {w w' : World}

def eqFs (P : Program) (rec : TypeId → Option (List Nat)) : Nat → List Field → Option (List Nat)
  | _, [] => some []
  | off, f :: r => match rec f.type, eqFs P rec (off + P.cellsOf f.type) r with
    | some n, some l => if f.name ≠ "_" ∧ f.offset = off ∧ P.cellsOf f.type = n.length ∧ n ≠ [] then some (n ++ l) else none
    | _, _ => none
/-- Of which kinds a value's cells are, whose type is compared cell by cell. -/
def eqTy (P : Program) : Nat → TypeId → Option (List Nat)
  | 0, _ => none
  | d + 1, t => match P.underlying t with
    | some .bool => some [0]
    | some (.int _) => some [1]
    | some .string => some [2]
    | some (.struct fs) => if P.stoodInHeld t = false then eqFs P (eqTy P d) 0 fs.toList else none
    | some (.array n e) => match eqTy P d e with
      | some m => if P.cellsOf e = m.length ∧ (P.info? e).isSome ∧ m ≠ [] then some (List.replicate n m).flatten else none
      | none => none
    | _ => none

theorem eqC_len : ∀ {cs ds : List SV} {b : Bool}, eqC cs ds = some b → cs.length = ds.length
  | [], [], _, _ => rfl
  | .int k a :: r, .int k' b :: s, q, h => by
    simp only [eqC] at h
    split at h
    · obtain ⟨z, hz, _⟩ := Option.map_eq_some_iff.1 h; simp [eqC_len hz]
    · cases h
  | .bool a :: r, .bool b :: s, q, h => by
    simp only [eqC] at h
    obtain ⟨z, hz, _⟩ := Option.map_eq_some_iff.1 h; simp [eqC_len hz]
  | .str a :: r, .str b :: s, q, h => by
    simp only [eqC] at h
    obtain ⟨z, hz, _⟩ := Option.map_eq_some_iff.1 h; simp [eqC_len hz]

theorem eqC_cons {c d : SV} {cs ds : List SV} {b : Bool} (h : eqC (c :: cs) (d :: ds) = some b) : ∃ x y, eqC [c] [d] = some x ∧ eqC cs ds = some y ∧ b = (x && y) := by
  unfold eqC at h
  split at h
  · rename_i e1 e2; cases e1
  · rename_i k a r k' b' s e1 e2
    cases e1; cases e2
    split at h
    · rename_i hk
      obtain ⟨z, hz, rfl⟩ := Option.map_eq_some_iff.1 h
      exact ⟨a == b', z, by simp [eqC, hk], hz, rfl⟩
    · cases h
  · rename_i a r b' s e1 e2
    cases e1; cases e2
    obtain ⟨z, hz, rfl⟩ := Option.map_eq_some_iff.1 h
    exact ⟨a == b', z, by simp [eqC], hz, rfl⟩
  · rename_i a r b' s e1 e2
    cases e1; cases e2
    obtain ⟨z, hz, rfl⟩ := Option.map_eq_some_iff.1 h
    exact ⟨a.toList == b'.toList, z, by simp [eqC], hz, rfl⟩
  · cases h

theorem eqC_split : ∀ (n : Nat) {cs ds : List SV} {b : Bool}, n ≤ cs.length → eqC cs ds = some b → ∃ x y, eqC (cs.take n) (ds.take n) = some x ∧ eqC (cs.drop n) (ds.drop n) = some y ∧ b = (x && y)
  | 0, cs, ds, b, _, h => ⟨true, b, by simp [eqC], by simpa using h, by simp⟩
  | n + 1, [], ds, b, hn, h => by simp at hn
  | n + 1, c :: cs, [], b, hn, h => by have := eqC_len h; simp at this
  | n + 1, c :: cs, d :: ds, b, hn, h => by
    obtain ⟨x, y, h1, h2, rfl⟩ := eqC_cons h
    obtain ⟨x', y', h3, h4, rfl⟩ := eqC_split n (by simpa using hn) h2
    refine ⟨x && x', y', ?_, by simpa using h4, by cases x <;> simp⟩
    simp only [List.take_succ_cons]
    clear h
    unfold eqC at h1
    split at h1
    · rename_i e1 e2; cases e1
    · rename_i k a r k' b' s e1 e2
      cases e1; cases e2
      split at h1
      · rename_i hk
        simp [eqC] at h1; subst h1
        simp [eqC, hk, h3]
      · cases h1
    · rename_i a r b' s e1 e2
      cases e1; cases e2
      simp [eqC] at h1; subst h1
      simp [eqC, h3]
    · rename_i a r b' s e1 e2
      cases e1; cases e2
      simp [eqC] at h1; subst h1
      simp [eqC, h3]
    · cases h1

/-- A value that is made of these cells. -/
def MadeOf (P : Program) (t : TypeId) (x : Value) (vs : List Value) : Prop := match P.underlying t with
  | some (.struct _) => x = .agg vs.toArray
  | some (.array _ _) => x = .agg vs.toArray
  | _ => vs = [x]

def RepLs (mu : Mem) (cs : List SV) (vs : List Value) : Prop := vs.length = cs.length ∧ ∀ j, j < cs.length → Rep mu (cs.getD j .undef) (vs.getD j Go.undef)
theorem RepLs.chunk {mu : Mem} {cs : List SV} {vs : List Value} (h : RepLs mu cs vs) (off n : Nat) : RepLs mu ((cs.drop off).take n) ((vs.drop off).take n) := by
  refine ⟨by simp [h.1], fun j hj => ?_⟩
  simp at hj
  have hjn : j < n := by omega
  have := h.2 (off + j) (by omega)
  simpa [List.getD_eq_getElem?_getD, List.getElem?_take, hjn] using this

theorem part_made {e : TypeId} {n off : Nat} {ks : List Nat} {d : Nat} (he : eqTy P d e = some ks) (hn : ks.length = n) (hc : P.cellsOf e = n) {xs : List Value} (hx : off + n ≤ xs.length) (w : World) :
    ∃ v, (part e xs.toArray off).run P w = .ok v w ∧ MadeOf P e v ((xs.drop off).take n) := by
  cases d with
  | zero => simp [eqTy] at he
  | succ d =>
    unfold eqTy at he
    have one : n = 1 → P.plainKey e = true → (∀ fs, P.underlying e ≠ some (.struct fs)) → (∀ m e', P.underlying e ≠ some (.array m e')) → ∃ v, (part e xs.toArray off).run P w = .ok v w ∧ MadeOf P e v ((xs.drop off).take n) := by
      intro hn hp h1 h2
      subst hn
      have hlt : off < xs.length := by omega
      refine ⟨xs[off], run_part_plain w hp (by simp [hlt]), ?_⟩
      unfold MadeOf
      split
      · rename_i q; exact absurd q (h1 _)
      · rename_i q; exact absurd q (h2 _ _)
      · rw [List.drop_eq_getElem_cons hlt, List.take_succ_cons, List.take_zero]
    have agg : (∃ fs, P.underlying e = some (.struct fs)) ∨ (∃ m e', P.underlying e = some (.array m e')) → ∃ v, (part e xs.toArray off).run P w = .ok v w ∧ MadeOf P e v ((xs.drop off).take n) := by
      intro hk
      have hi : ∃ i, P.info? e = some i := by
        rcases hk with ⟨fs, h⟩ | ⟨m, e', h⟩ <;> exact info_of_underlying h
      obtain ⟨i, hi⟩ := hi
      refine ⟨.agg (xs.toArray.extract off (off + P.cellsOf e)), ?_, ?_⟩
      · rcases hk with ⟨fs, h⟩ | ⟨m, e', h⟩ <;> simp [part, isAgg, run_underlying h, run_sizeOf w hi]
      · have hl : xs.toArray.extract off (off + P.cellsOf e) = ((xs.drop off).take n).toArray := by
          apply Array.ext'
          rw [Array.toList_extract, hc]
          simp [List.extract]
        rw [hl]
        unfold MadeOf
        rcases hk with ⟨fs, h⟩ | ⟨m, e', h⟩ <;> simp [h]
    split at he
    · rename_i h; cases he; exact one hn.symm (by simp [Program.plainKey, h]) (by simp [h]) (by simp [h])
    · rename_i h; cases he; exact one hn.symm (by simp [Program.plainKey, h]) (by simp [h]) (by simp [h])
    · rename_i h; cases he; exact one hn.symm (by simp [Program.plainKey, h]) (by simp [h]) (by simp [h])
    · rename_i fs h; exact agg (.inl ⟨fs, h⟩)
    · rename_i m e' h; exact agg (.inr ⟨m, e', h⟩)
    · cases he

def EqOk (P : Program) (k : Nat) (t : TypeId) (ks : List Nat) : Prop := ∀ (w : World) (mu : Mem) (x y : Value) (vs us : List Value) (cs ds : List SV) (b : Bool), MadeOf P t x vs → MadeOf P t y us → RepLs mu cs vs → RepLs mu ds us →
  cs.map kdOf = ks → ds.map kdOf = ks → eqC cs ds = some b → (Op.equalIn k t x y).run P w = .ok b w

theorem map_split {f : SV → Nat} {cs : List SV} {a b : List Nat} {off n : Nat} (h : (cs.drop off).map f = a ++ b) (hn : a.length = n) : ((cs.drop off).take n).map f = a ∧ (cs.drop (off + n)).map f = b ∧ n ≤ (cs.drop off).length := by
  subst hn
  have hl := congrArg List.length h
  simp at hl
  refine ⟨by rw [List.map_take, h]; simp, ?_, by simp; omega⟩
  rw [← List.drop_drop, List.map_drop, h]; simp

theorem eqFields_ok {d k : Nat} (ih : ∀ t n, eqTy P d t = some n → EqOk P k t n) {vs us : List Value} {mu : Mem} {cs ds : List SV} (h1 : RepLs mu cs vs) (h2 : RepLs mu ds us) (w : World) :
    ∀ (fs : List Field) (off : Nat) (ks : List Nat) (b : Bool), eqFs P (eqTy P d) off fs = some ks → (cs.drop off).map kdOf = ks → (ds.drop off).map kdOf = ks → eqC (cs.drop off) (ds.drop off) = some b → (Op.eqFields k vs.toArray us.toArray fs).run P w = .ok b w
  | [], off, ks, b, hf, hc, hd, hb => by
    simp only [eqFs, Option.some.injEq] at hf
    subst hf
    simp only [List.map_eq_nil_iff] at hc hd
    rw [hc, hd] at hb
    cases hb
    simp [Op.eqFields]
  | f :: fs, off, ks, b, hf, hc, hd, hb => by
    simp only [eqFs] at hf
    split at hf
    case h_2 => cases hf
    rename_i n l hn hl
    split at hf
    case isFalse => cases hf
    rename_i hq
    obtain ⟨hname, hoff, hcell, hne⟩ := hq
    cases hf
    rw [hcell] at hl
    obtain ⟨c1, c2, c3⟩ := map_split hc rfl
    obtain ⟨d1, d2, d3⟩ := map_split hd rfl
    obtain ⟨x, y, e1, e2, rfl⟩ := eqC_split n.length c3 hb
    rw [List.drop_drop, List.drop_drop] at e2
    simp at c3 d3
    have hz : n.length ≠ 0 := fun q => hne (List.length_eq_zero_iff.1 q)
    obtain ⟨v, p1, m1⟩ := part_made hn rfl hcell (xs := vs) (off := off) (by rw [h1.1]; omega) w
    obtain ⟨u, p2, m2⟩ := part_made hn rfl hcell (xs := us) (off := off) (by rw [h2.1]; omega) w
    have hr := ih _ _ hn w mu v u _ _ _ _ x m1 m2 (h1.chunk off n.length) (h2.chunk off n.length) c1 d1 e1
    have hrest := eqFields_ok ih h1 h2 w fs (off + n.length) l y hl c2 d2 e2
    simp only [Op.eqFields, hname, ne_eq, not_false_eq_true, if_true, Sem.run_bind, hoff, p1, p2, hr, Result.andThen_ok]
    cases x
    · simp
    · simpa using hrest

theorem eqItems_ok {d k m : Nat} {e : TypeId} {ks : List Nat} (ih : EqOk P k e ks) (hn : eqTy P d e = some ks) (hm : ks.length = m) (hz : m ≠ 0) (hcell : P.cellsOf e = m) {vs us : List Value} {mu : Mem} {cs ds : List SV} (h1 : RepLs mu cs vs) (h2 : RepLs mu ds us) (w : World) :
    ∀ (r i : Nat) (b : Bool), (cs.drop (i * m)).map kdOf = (List.replicate r ks).flatten → (ds.drop (i * m)).map kdOf = (List.replicate r ks).flatten → eqC (cs.drop (i * m)) (ds.drop (i * m)) = some b → (Op.eqItems k e m vs.toArray us.toArray ((List.range' i r))).run P w = .ok b w
  | 0, i, b, hc, hd, hb => by
    simp only [List.replicate_zero, List.flatten_nil, List.map_eq_nil_iff] at hc hd
    rw [hc, hd] at hb
    cases hb
    simp [Op.eqItems]
  | r + 1, i, b, hc, hd, hb => by
    rw [List.replicate_succ, List.flatten_cons] at hc hd
    obtain ⟨c1, c2, c3⟩ := map_split hc hm
    obtain ⟨d1, d2, d3⟩ := map_split hd hm
    obtain ⟨x, y, e1, e2, rfl⟩ := eqC_split m c3 hb
    rw [List.drop_drop, List.drop_drop] at e2
    simp at c3 d3
    obtain ⟨v, p1, m1⟩ := part_made hn hm hcell (xs := vs) (off := i * m) (by rw [h1.1]; omega) w
    obtain ⟨u, p2, m2⟩ := part_made hn hm hcell (xs := us) (off := i * m) (by rw [h2.1]; omega) w
    have hr := ih w mu v u _ _ _ _ x m1 m2 (h1.chunk (i * m) m) (h2.chunk (i * m) m) c1 d1 e1
    have hs : i * m + m = (i + 1) * m := by rw [Nat.add_mul, Nat.one_mul]
    rw [hs] at c2 d2 e2
    have hrest := eqItems_ok ih hn hm hz hcell h1 h2 w r (i + 1) y c2 d2 e2
    simp only [List.range'_succ, Op.eqItems, Sem.run_bind, p1, p2, hr, Result.andThen_ok]
    cases x
    · simp
    · simpa using hrest

theorem eqTy_ok : ∀ (d k : Nat) (t : TypeId) (ks : List Nat), d ≤ k → eqTy P d t = some ks → EqOk P k t ks
  | 0, k, t, n, _, h => by simp [eqTy] at h
  | d + 1, 0, t, n, hk, _ => by omega
  | d + 1, k + 1, t, ks, hk, h => by
    intro w mu x y vs us cs ds b m1 m2 h1 h2 hc hd hb
    have ih := fun t n => eqTy_ok d k t n (by omega)
    unfold eqTy at h
    have one : ∀ q, ks = [q] → vs = [x] → us = [y] → ∃ c d, cs = [c] ∧ ds = [d] ∧ kdOf c = q ∧ kdOf d = q ∧ Rep mu c x ∧ Rep mu d y := by
      intro q hq e1 e2
      subst hq e1 e2
      obtain ⟨c, rfl, hc'⟩ := List.map_eq_singleton_iff.1 hc
      obtain ⟨d, rfl, hd'⟩ := List.map_eq_singleton_iff.1 hd
      exact ⟨c, d, rfl, rfl, hc', hd', by simpa using h1.2 0 (by simp), by simpa using h2.2 0 (by simp)⟩
    split at h
    · rename_i hu
      cases h
      simp only [MadeOf, hu] at m1 m2
      obtain ⟨c, d', rfl, rfl, q1, q2, r1, r2⟩ := one _ rfl m1 m2
      cases c <;> simp [kdOf] at q1
      cases d' <;> simp [kdOf] at q2
      simp [eqC] at hb; subst hb
      rw [r1.inv_bool, r2.inv_bool]
      exact run_equalIn_bool' w k t _ _ hu
    · rename_i q0 hu
      cases h
      simp only [MadeOf, hu] at m1 m2
      obtain ⟨c, d', rfl, rfl, q1, q2, r1, r2⟩ := one _ rfl m1 m2
      cases c <;> simp [kdOf] at q1
      cases d' <;> simp [kdOf] at q2
      simp [eqC] at hb
      obtain ⟨rfl, rfl⟩ := hb
      rw [r1.inv_int, r2.inv_int]
      exact run_equalIn_int w k t _ q0 _ _ hu
    · rename_i hu
      cases h
      simp only [MadeOf, hu] at m1 m2
      obtain ⟨c, d', rfl, rfl, q1, q2, r1, r2⟩ := one _ rfl m1 m2
      cases c <;> simp [kdOf] at q1
      cases d' <;> simp [kdOf] at q2
      simp [eqC] at hb; subst hb
      rw [r1.inv_str, r2.inv_str]
      exact run_equalIn_string w k t _ _ hu
    · rename_i fs hu
      split at h
      case isFalse => cases h
      rename_i hst
      simp only [MadeOf, hu] at m1 m2
      subst m1 m2
      have hfs : P.fieldsOf t = fs := by simp [Program.fieldsOf, hu]
      rw [run_equalIn_agg w k t _ _ (by rw [hfs]; exact hu) hst, hfs]
      exact eqFields_ok ih h1 h2 w fs.toList 0 ks b h (by simpa using hc) (by simpa using hd) (by simpa using hb)
    · rename_i m e hu
      split at h
      case h_2 => cases h
      rename_i z hz
      split at h
      case isFalse => cases h
      rename_i hq
      cases h
      simp only [MadeOf, hu] at m1 m2
      subst m1 m2
      obtain ⟨i, hi⟩ := Option.isSome_iff_exists.1 hq.2.1
      rw [run_equalIn_array w k _ _ hu hi, hq.1, List.range_eq_range']
      exact eqItems_ok (ih _ _ hz) hz rfl (fun q => hq.2.2 (List.length_eq_zero_iff.1 q)) hq.1 h1 h2 w m 0 b (by simpa using hc) (by simpa using hd) (by simpa using hb)
    · cases h

theorem y_eqs (h : Sim w0 mu0 T g st a w) {x y : Operand} {o p : AO} {op : BinOp} {t t' : TypeId} {ks : List Nat} {neg : Bool} {ox : Oper} (hop : ox.op = .binOp op t x y t') (ht : (∃ fs, P.underlying t = some (.struct fs)) ∨ ∃ m e, P.underlying t = some (.array m e))
    (hk : eqTy P 100 t = some ks) (hgd : P.eqGuardType P.depth t = false) (hn : op = if neg then .neq else .eql) (hx : compO x = some o) (hy : compO y = some p)
    {c : Prop} {lv : LV} (he : ev2 st o p (eqsV ks neg) = some (c, lv)) (hc : c) (d : Nat) : Yields P w0 mu0 T g st a w ox d lv := by
  obtain ⟨v, u, c', hv, hu, hf, hc'⟩ := ev2_inv he hc
  have rv := rd_rep h hx hv
  have ru := rd_rep h hy hu
  unfold eqsV at hf
  split at hf
  case h_2 => cases hf
  rename_i cs ds
  split at hf
  case h_2 => cases hf
  rename_i b hb
  simp only [Option.some.injEq, Prod.mk.injEq] at hf
  obtain ⟨rfl, rfl⟩ := hf
  obtain ⟨vs, e1, l1, r1⟩ := Rep.inv_agg rv
  obtain ⟨us, e2, l2, r2⟩ := Rep.inv_agg ru
  have made : ∀ zs : List Value, MadeOf P t (.agg zs.toArray) zs := fun zs => by
    unfold MadeOf
    rcases ht with ⟨fs, q⟩ | ⟨m, e, q⟩ <;> simp [q]
  have key := eqTy_ok 100 10000 t ks (by decide) hk w g.mu _ _ vs us cs ds b (made vs) (made us) ⟨l1, r1⟩ ⟨l2, r2⟩ hc'.1 hc'.2 hb
  refine .same h (val := .bool (b != neg)) ?_ (.bool _)
  subst hn
  cases neg
  · simp only [execOp, hop, e1, e2, Bool.false_eq_true, if_false, Sem.run_bind, run_eqGuard_agg w _ t x y _ _ hgd, Result.andThen_ok, run_eql_struct, key]
    simp
  · simp only [execOp, hop, e1, e2, if_true, Sem.run_bind, run_eqGuard_agg w _ t x y _ _ hgd, Result.andThen_ok, run_neq_struct, key]
    simp
end Go.Av
