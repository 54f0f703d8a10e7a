import Derived.Test.YtabidcdfmkkegaaAvF
set_option linter.unusedSimpArgs false
namespace Go.Av
variable {P : Program} {w0 : World} {mu0 : Mem} {T : Nat → Prop} {g g' : Gh} {st : St} {a : Act} {w w' : World}

theorem y_una (h : Sim w0 mu0 T g st a w) {x : Operand} {o : AO} {op : UnOp} {t : TypeId} {ox : Oper} (hop : ox.op = .unOp op t x) (hx : compO x = some o)
    {c : Prop} {lv : LV} (he : ev st (.una op o) = some (c, lv)) (hc : c) (d : Nat) : Yields P w0 mu0 T g st a w ox d lv := by
  obtain ⟨v, c', hv, hf, hc'⟩ := ev1_inv he hc
  have rv := rd_rep h hx hv
  cases v <;> try (cases hf; done)
  · rename_i k n
    have e := rv.inv_int
    cases op <;> simp only [unaV, reduceCtorEq] at hf <;> simp only [Option.some.injEq, Prod.mk.injEq] at hf <;> obtain ⟨rfl, rfl⟩ := hf
    · exact .same h (val := .int k (k.wrap (0 - n))) (by simp [execOp, hop, e, Op.unary, Op.intArith]) (.int _ _)
    · exact .same h (val := .int k (k.wrap (BitVec.ofInt k.bits (if k.signed then -1 else k.max) ^^^ BitVec.ofInt k.bits n).toNat)) (by simp [execOp, hop, e, Op.unary, Op.intBits]) (.int _ _)
  · rename_i b
    have e := rv.inv_bool
    cases op <;> simp only [unaV, reduceCtorEq] at hf <;> simp only [Option.some.injEq, Prod.mk.injEq] at hf <;> obtain ⟨rfl, rfl⟩ := hf
    exact .same h (val := .bool (!b)) (by simp [execOp, hop, e, Op.unary]) (.bool _)

theorem y_conv (h : Sim w0 mu0 T g st a w) {x : Operand} {o : AO} {k : IntKind} {t t' : TypeId} {ty : TypeDesc} {ox : Oper} (hop : ox.op = .convert t t' x) (ht : P.underlying t = some ty) (ht' : P.underlying t' = some (.int k))
    (hx : compO x = some o) {c : Prop} {lv : LV} (he : ev st (.conv k o) = some (c, lv)) (hc : c) (d : Nat) : Yields P w0 mu0 T g st a w ox d lv := by
  obtain ⟨v, c', hv, hf, hc'⟩ := ev1_inv he hc
  have rv := rd_rep h hx hv
  cases v <;> try (cases hf; done)
  rename_i k' n
  have e := rv.inv_int
  simp only [Option.some.injEq, Prod.mk.injEq] at hf
  obtain ⟨rfl, rfl⟩ := hf
  exact .same h (val := .int k (k.wrap n)) (by simp [execOp, hop, e, convert, run_underlying ht, run_underlying ht', Conv.intToInt]) (.int _ _)


def strT (P : Program) (t : TypeId) : Option Bool :=
  match P.underlying t with
  | some .string => some true
  | some (.slice _) => some false
  | _ => none
theorem strT_inv {t : TypeId} {b : Bool} (h : strT P t = some b) : (b = true ∧ P.underlying t = some .string) ∨ (b = false ∧ ∃ e, P.underlying t = some (.slice e)) := by
  unfold strT at h
  split at h
  · rename_i hu; cases h; exact .inl ⟨rfl, hu⟩
  · rename_i e hu; cases h; exact .inr ⟨rfl, e, hu⟩
  · cases h

theorem y_len (h : Sim w0 mu0 T g st a w) {x : Operand} {o : AO} {t : TypeId} {ts : Array TypeId} {b : Bool} {ox : Oper} (hop : ox.op = .call { callee := .builtin .len, args := #[x], argTypes := ts })
    (hts : ts[0]? = some t) (hty : strT P t = some b) (hx : compO x = some o) {c : Prop} {lv : LV} (he : ev st (.len b o) = some (c, lv)) (hc : c) (d : Nat) : Yields P w0 mu0 T g st a w ox d lv := by
  have hrun : ∀ n : Int, (Builtin.len_ ts ox.type #[a.eval x]).run P w = .ok (.int .i64 n) w → (execOp a.eval ox).run P w = .ok (.value (.int .i64 n)) w := by
    intro n hn
    simp [execOp, hop, resolve, invoke, builtin, hn]
  simp only [ev] at he
  split at he
  · rename_i gg s z off n cap hv
    split at he
    case isTrue => cases he
    rename_i hb
    simp only [Option.some.injEq, Prod.mk.injEq] at he
    obtain ⟨rfl, rfl⟩ := he
    subst hc
    obtain ⟨blk, _, e1⟩ := rdl_lsl h hx hv
    refine .same h (hrun n ?_) (.int _ _)
    rcases strT_inv hty with ⟨rfl, hu⟩ | ⟨rfl, e, hu⟩
    · simp at hb
    · simp [Builtin.len_, hts, run_underlying hu, e1, goInt]
  obtain ⟨v, c', hv, hf, hc'⟩ := ev1_inv he hc
  have rv := rd_rep h hx hv
  rcases strT_inv hty with ⟨rfl, hu⟩ | ⟨rfl, e, hu⟩
  · cases v <;> try (cases hf; done)
    rename_i s
    simp only [lenV, Option.some.injEq, Prod.mk.injEq] at hf
    obtain ⟨rfl, rfl⟩ := hf
    exact .same h (hrun s.size (by simp [Builtin.len_, hts, run_underlying hu, rv.inv_str, goInt])) (.int _ _)
  · cases v <;> try (cases hf; done)
    · simp only [lenV, Option.some.injEq, Prod.mk.injEq] at hf
      obtain ⟨rfl, rfl⟩ := hf
      exact .same h (hrun 0 (by simp [Builtin.len_, hts, run_underlying hu, rv.inv_nils, goInt])) (.int _ _)
    · rename_i sz xs
      simp only [lenV, Option.some.injEq, Prod.mk.injEq] at hf
      obtain ⟨rfl, rfl⟩ := hf
      refine .same h (hrun xs.length ?_) (.int _ _)
      rcases rv.inv_sl with ⟨⟨_, _, e1, _⟩, e2⟩ | ⟨b, off, cap, _, e1, _⟩
      · simp [Builtin.len_, hts, run_underlying hu, e1, e2, goInt]
      · simp [Builtin.len_, hts, run_underlying hu, e1, goInt]

theorem y_minmax (h : Sim w0 mu0 T g st a w) {x y : Operand} {o p : AO} {ts : Array TypeId} {mx : Bool} {ox : Oper} (hop : ox.op = .call { callee := .builtin (if mx then .max else .min), args := #[x, y], argTypes := ts })
    (hx : compO x = some o) (hy : compO y = some p) {c : Prop} {lv : LV} (he : ev st (.minmax mx o p) = some (c, lv)) (hc : c) (d : Nat) : Yields P w0 mu0 T g st a w ox d lv := by
  obtain ⟨v, u, c', hv, hu, hf, hc'⟩ := ev2_inv he hc
  have rv := rd_rep h hx hv
  have ru := rd_rep h hy hu
  cases v <;> try (cases hf; done)
  rename_i k m
  cases u <;> try (cases hf; done)
  rename_i k' n
  simp only [minmaxV] at hf
  split at hf
  · rename_i hk; subst hk
    simp only [Option.some.injEq, Prod.mk.injEq] at hf
    obtain ⟨rfl, rfl⟩ := hf
    cases mx
    · exact .same h (val := .int k (if n < m then n else m)) (by simp [execOp, hop, resolve, invoke, builtin, Builtin.min_, Builtin.min2, rv.inv_int, ru.inv_int]) (.int _ _)
    · exact .same h (val := .int k (if n > m then n else m)) (by simp [execOp, hop, resolve, invoke, builtin, Builtin.max_, Builtin.max2, rv.inv_int, ru.inv_int]) (.int _ _)
  · cases hf

theorem rdl_eq {o : AO} {c : Bool} {p : LV} (h : rdl st o = (c, p)) (hc : c = true) : rdl st o = (true, p) := hc ▸ h

theorem y_pick (h : Sim w0 mu0 T g st a w) {x y z : Operand} {o p q : AO} {ox : Oper} (hop : ox.op = .pick x y z) (hx : compO x = some o) (hy : compO y = some p) (hz : compO z = some q)
    {c : Prop} {lv : LV} (he : ev st (.pick o p q) = some (c, lv)) (hc : c) (d : Nat) : Yields P w0 mu0 T g st a w ox d lv := by
  simp only [ev] at he
  split at he
  · rename_i gc b ga u gb v h1 h2 h3
    simp only [Option.some.injEq, Prod.mk.injEq] at he
    obtain ⟨rfl, rfl⟩ := he
    obtain ⟨rfl, hga, hgb⟩ := hc
    have rx := (rd_rep h hx h1).inv_bool
    cases b with
    | true =>
      obtain rfl := hga rfl
      exact .same h (val := .bool u) (by simp [execOp, hop, rx, asBool, (rd_rep h hy h2).inv_bool]) (.bool _)
    | false =>
      obtain rfl := hgb rfl
      exact .same h (val := .bool v) (by simp [execOp, hop, rx, asBool, (rd_rep h hz h3).inv_bool]) (.bool _)
  · rename_i gc b ga gb v h1 h2 h3
    simp only [Option.some.injEq, Prod.mk.injEq] at he
    obtain ⟨rfl, rfl⟩ := he
    obtain ⟨rfl, rfl, rfl⟩ := hc
    have rx := (rd_rep h hx h1).inv_bool
    exact .same h (val := .bool v) (by simp [execOp, hop, rx, asBool, (rd_rep h hz h3).inv_bool]) (.bool _)
  · rename_i gc b ga v gb h1 h2 h3
    simp only [Option.some.injEq, Prod.mk.injEq] at he
    obtain ⟨rfl, rfl⟩ := he
    obtain ⟨rfl, rfl, rfl⟩ := hc
    have rx := (rd_rep h hx h1).inv_bool
    exact .same h (val := .bool v) (by simp [execOp, hop, rx, asBool, (rd_rep h hy h2).inv_bool]) (.bool _)
  · cases he

theorem rdl_nilc {o : AO} {c : Prop} {lv : LV} (he : ev st (.nilc o) = some (c, lv)) : ∃ gg, c = (gg = true) ∧ rdl st o = (gg, lv) ∧ ((∃ s k, lv = .lptr s k) ∨ (∃ b k, lv = .sv (.ptr b k)) ∨ ∃ e k, lv = .sv (.eptr e k)) := by
  simp only [ev] at he
  split at he
  · rename_i gg s k hv; simp only [Option.some.injEq, Prod.mk.injEq] at he; obtain ⟨rfl, rfl⟩ := he; exact ⟨gg, rfl, hv, .inl ⟨_, _, rfl⟩⟩
  · rename_i gg s k hv; simp only [Option.some.injEq, Prod.mk.injEq] at he; obtain ⟨rfl, rfl⟩ := he; exact ⟨gg, rfl, hv, .inr (.inl ⟨_, _, rfl⟩)⟩
  · rename_i gg s k hv; simp only [Option.some.injEq, Prod.mk.injEq] at he; obtain ⟨rfl, rfl⟩ := he; exact ⟨gg, rfl, hv, .inr (.inr ⟨_, _, rfl⟩)⟩
  · cases he

/-- An operand that is a known address. -/
theorem addr_of (h : Sim w0 mu0 T g st a w) {x : Operand} {o : AO} (hx : compO x = some o) {lv : LV} (hr : rdl st o = (true, lv)) (d : Nat) : RepL g w d lv (a.eval x) ∨ (∀ s k, lv ≠ .lptr s k) ∧ (∀ v, lv ≠ .sv v) := by
  rcases compO_rep h hx (by rw [hr]) with ⟨s, _, hs⟩ | ⟨v, hv, hs⟩
  · rw [hr] at hs
    cases lv with
    | lptr s k => exact .inl hs
    | sv v => exact .inl hs
    | _ => exact .inr ⟨fun _ _ e => (by cases e), fun _ e => (by cases e)⟩
  · rw [hr] at hv; simp at hv; subst hv; exact .inl hs

theorem y_nilc (h : Sim w0 mu0 T g st a w) {x : Operand} {o : AO} {ox : Oper} (hop : ox.op = .nilCheck x) (hx : compO x = some o)
    {c : Prop} {lv : LV} (he : ev st (.nilc o) = some (c, lv)) (hc : c) (d : Nat) : Yields P w0 mu0 T g st a w ox d lv := by
  obtain ⟨gg, rfl, hr, hk⟩ := rdl_nilc he
  subst hc
  have ha : ∃ q, a.eval x = .pointer (some q) ∧ RepL g w d lv (a.eval x) := by
    rcases addr_of h hx hr d with ha | ⟨h1, h2⟩
    · rcases hk with ⟨s, k, rfl⟩ | ⟨b, k, rfl⟩ | ⟨e, k, rfl⟩
      · obtain ⟨b, hb, hv⟩ := ha; exact ⟨_, hv, ⟨b, hb, hv⟩⟩
      · exact ⟨_, Rep.inv_ptr ha, ha⟩
      · obtain ⟨b, off, vals, hv, _⟩ := Rep.inv_eptr ha; exact ⟨_, hv, ha⟩
    · rcases hk with ⟨s, k, rfl⟩ | ⟨b, k, rfl⟩ | ⟨e, k, rfl⟩
      · exact absurd rfl (h1 _ _)
      · exact absurd rfl (h2 _)
      · exact absurd rfl (h2 _)
  obtain ⟨q, hq, hl⟩ := ha
  exact .same h (val := .pointer (some q)) (by simp [execOp, hop, hq]) (hq ▸ hl)

/-! ### addresses -/
theorem faddrV_inv {off : Nat} {p lv : LV} {c : Prop} (h : faddrV off p = some (c, lv)) : (∃ s k, p = .lptr s k ∧ lv = .lptr s (k + off)) ∨ (∃ b k, p = .sv (.ptr b k) ∧ lv = .sv (.ptr b (k + off))) ∨ ∃ e k, p = .sv (.eptr e k) ∧ lv = .sv (.eptr e (k + off)) := by
  unfold faddrV at h
  split at h <;> first | (cases h; done) | skip
  · simp only [Option.some.injEq, Prod.mk.injEq] at h; exact .inl ⟨_, _, rfl, h.2.symm⟩
  · simp only [Option.some.injEq, Prod.mk.injEq] at h; exact .inr (.inl ⟨_, _, rfl, h.2.symm⟩)
  · simp only [Option.some.injEq, Prod.mk.injEq] at h; exact .inr (.inr ⟨_, _, rfl, h.2.symm⟩)

theorem addr_move (h : Sim w0 mu0 T g st a w) {x : Operand} {o : AO} (hx : compO x = some o) {off : Nat} {p lv : LV} {c : Prop} (hr : rdl st o = (true, p)) (hf : faddrV off p = some (c, lv)) (d : Nat) :
    ∃ b k, a.eval x = .pointer (some ⟨b, k, none⟩) ∧ RepL g w d lv (.pointer (some ⟨b, k + off, none⟩)) := by
  have ha := addr_of h hx hr d
  rcases faddrV_inv hf with ⟨s, k, rfl, rfl⟩ | ⟨b, k, rfl, rfl⟩ | ⟨e, k, rfl, rfl⟩
  · rcases ha with ⟨b, hb, hv⟩ | ⟨h1, _⟩
    · exact ⟨b, k, hv, b, hb, rfl⟩
    · exact absurd rfl (h1 _ _)
  · rcases ha with ha | ⟨_, h2⟩
    · exact ⟨b, k, Rep.inv_ptr ha, .ptr _ _⟩
    · exact absurd rfl (h2 _)
  · rcases ha with ha | ⟨_, h2⟩
    · obtain ⟨b, off', vals, hv, h1, h2⟩ := Rep.inv_eptr ha
      exact ⟨b, off' + k, hv, by have := Rep.eptr (mu := g.mu) e (k + off) b off' vals h1 h2; rwa [← Nat.add_assoc] at this⟩
    · exact absurd rfl (h2 _)

theorem y_faddr (h : Sim w0 mu0 T g st a w) {x : Operand} {o : AO} {t : TypeId} {f : Nat} {fs : Array Field} {fd : Field} {i : TypeInfo} {ox : Oper} (hop : ox.op = .fieldAddr t x f)
    (ht : P.underlying t = some (.struct fs)) (hf : fs[f]? = some fd) (hi : P.info? fd.type = some i) (hs : i.size ≠ 0) (hx : compO x = some o)
    {c : Prop} {lv : LV} (he : ev st (.faddr o fd.offset) = some (c, lv)) (hc : c) (d : Nat) : Yields P w0 mu0 T g st a w ox d lv := by
  simp only [ev] at he
  split at he
  · rename_i c' r hfv
    simp only [Option.some.injEq, Prod.mk.injEq] at he
    obtain ⟨rfl, rfl⟩ := he
    obtain ⟨hg, _⟩ := hc
    obtain ⟨b, k, h1, h2⟩ := addr_move h hx (p := (rdl st o).2) (by rw [← hg]) hfv d
    refine .same h (val := .pointer (some ⟨b, k + fd.offset, none⟩)) ?_ h2
    simp [execOp, hop, h1, Instr.fieldAt, run_underlying ht, hf, Instr.sureAddr, fieldPlace, run_sizeOf' hi, hs, Addr.add_lit]
  · cases he
end Go.Av
