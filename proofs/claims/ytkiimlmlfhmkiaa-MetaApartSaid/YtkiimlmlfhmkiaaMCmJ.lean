import Derived.Test.YtkiimlmlfhmkiaaMCrC
import Derived.Test.YtkiimlmlfhmkiaaMCbE

set_option linter.unusedVariables false
set_option linter.unusedSimpArgs false

/- Meta: Get. -/


set_option linter.unusedSimpArgs false
set_option linter.unusedVariables false
set_option maxHeartbeats 4000000
namespace Go.Proofs.Ytkiimlmlfhmkiaa
open Go.Av

theorem bs_inj' {a b : List Nat} (h : bs a = bs b) : a = b := by
  have := congrArg nsOf h
  simpa using this
theorem ok61 : okFn Try.prog 61 := ⟨_, Try.func61, rfl, rfl⟩
theorem tkN_facts {has : Bool} {l : List Nat} {e : Int} {n : Int} {l' : List Nat} {e' : Int} (h : tkN has l e = (n, l', e')) (hb : Bytes l) : Bytes l' ∧ l'.length ≤ l.length ∧ I64 n := by
  unfold tkN at h
  cases has with
  | true =>
    simp only [if_true] at h
    have h1 := rNum_bytes hb e
    have h2 := rNum_le l e
    have h3 := rNum_in l e
    rw [h] at h1 h2 h3
    exact ⟨h1, h2, h3⟩
  | false =>
    simp only [Bool.false_eq_true, if_false] at h
    cases h
    exact ⟨hb, Nat.le_refl _, ⟨by omega, by omega⟩⟩
def flg (k : Int) : Bool × Bool × Bool × Bool × Bool := (decide (k = 0), decide (k = 2 ∨ k = 3 ∨ k = 4 ∨ k = 5), decide (k = 4), decide (k = 2 ∨ k = 3 ∨ k = 4), decide (k = 2 ∨ k = 4 ∨ k = 5))
def txN (has : Bool) (l : List Nat) (e : Int) : List Nat × List Nat × Int := if has = true then rText l e 32 else ([], l, e)
/-- What is read of bytes, by flags: a meta, what is left, and whether it went well. -/
def mgetF (f : Bool × Bool × Bool × Bool × Bool) (k : Int) (l0 : List Nat) (e0 : Int) : Met × List Nat × Int :=
  let t1 := tkN true l0 e0
  let t2 := tkN f.1 t1.2.1 t1.2.2
  let t3 := tkN f.1 t2.2.1 t2.2.2
  let t4 := tkN f.2.1 t3.2.1 t3.2.2
  let t5 := tkN f.2.2.1 t4.2.1 t4.2.2
  let t6 := tkN f.2.2.2.1 t5.2.1 t5.2.2
  let t7 := tkN f.2.2.2.2 t6.2.1 t6.2.2
  let t8 := txN f.1 t7.2.1 t7.2.2
  (⟨k, t1.1, t4.1, sOf t8.1, t2.1, t3.1 == 1, t6.1, t7.1, t5.1⟩, t8.2.1, t8.2.2)
def mget (l : List Nat) : Met × List Nat × Int := mgetF (flg ((rFixed l 0 1).1 : Nat)) ((rFixed l 0 1).1 : Nat) (rFixed l 0 1).2.1 (rFixed l 0 1).2.2
def met0 : Met := ⟨0, 0, 0, ByteArray.mk #[], 0, false, 0, 0, 0⟩
def metG (l : List Nat) : Met × Int := if metE (mget l).1 = 0 ∧ rDone (mget l).2.1 (mget l).2.2 = 0 ∧ putM (mget l).1 = l then ((mget l).1, 0) else (met0, 4)
noncomputable def R22p (f : FuncId) (l : List SV) : Option (Prop × LV) :=
  match f with
  | 16 => row eM (fun m => (m.ok, .tup [.sv (.sl 1 (bs (putM m))), .sv (.int .i64 (metE m))])) l
  | 51 => RmA.p 51 l
  | 65 => row (fun p : List Nat × List Nat => [.sl 1 (bs p.1), .sl 1 (bs p.2)]) (fun p => (Bytes p.1 ∧ Bytes p.2, .sv (.bool (decide (p.1 = p.2))))) l
  | _ => none
noncomputable def R22e (f : FuncId) (cells l : List SV) : Option (Prop × LV × List SV) :=
  match f, cells, l with
  | 60, [.sl 1 xs, .int .i64 e], [.int .i64 w] => some (IsBs xs ∧ xs.length < 4611686018427387904, .sv (.int .u64 (rFixed (nsOf xs) e w).1), [.sl 1 (bs (rFixed (nsOf xs) e w).2.1), .int .i64 (rFixed (nsOf xs) e w).2.2])
  | 63, [.sl 1 xs, .int .i64 e], [.int .i64 m] => some (IsBs xs ∧ xs.length < 4611686018427387904, .sv (.str (sOf (rText (nsOf xs) e m).1)), [.sl 1 (bs (rText (nsOf xs) e m).2.1), .int .i64 (rText (nsOf xs) e m).2.2])
  | 64, [.sl 1 xs, .int .i64 e], [] => some (xs = bs (nsOf xs), .sv (.int .i64 (rDone (nsOf xs) e)), [.sl 1 xs, .int .i64 e])
  | _, _, _ => none
def R22n (f : FuncId) (l : List SV) : Option (Prop × List SV) :=
  match f, l with
  | 59, [.sl 1 xs] => some (xs.length ≤ 140737488355328, [.sl 1 xs, .int .i64 0])
  | _, _ => none
def R22b (f : FuncId) (l : List BA) (look : Nat → Option (List RV)) : Option (Prop × List (Nat × List RV) × LV × List (Nat × List RV)) :=
  match f, l with
  | 61, [.v (.bool has), .c (.bp t off), .c (.pp s 0)] => match look s, look t with
    | some [.sv (.sl 1 xs), .sv (.int .i64 e)], some cells => some (IsBs xs ∧ xs.length < 4611686018427387904 ∧ s ≠ t ∧ off < cells.length ∧ cells.getD off (.sv .undef) = .sv (.int .i64 0), [(s, [.sv (.sl 1 xs), .sv (.int .i64 e)]), (t, cells)], .tup [],
        [(s, [.sv (.sl 1 (bs (tkN has (nsOf xs) e).2.1)), .sv (.int .i64 (tkN has (nsOf xs) e).2.2)]), (t, cells.set off (.sv (.int .i64 (tkN has (nsOf xs) e).1)))])
    | _, _ => none
  | _, _ => none
noncomputable def R22 : Orc := { p := R22p, e := R22e, n := R22n, fv := fun f => f == 61, nofz := true, b := R22b }
theorem R22_ok : R22.ok Try.prog := by
  refine ⟨fun f l c rv h hc => ?_, fun f cells l c rv cells' h hc => ?_, fun f l c cells h hc => ?_, fun f h => ?_, fun _ _ _ _ _ _ h => (by cases h), fun f l look c bxs rv bxs' h hc => ?_⟩
  · change R22p f l = _ at h
    unfold R22p at h
    split at h
    · exact row_ok h hc (fun m hm => put_met m hm)
    · exact RmA_ok.p _ _ _ _ h hc
    · exact row_ok h hc (fun p hp => equal_pure p.1 p.2 hp.1 hp.2)
    · cases h
  · change R22e f cells l = _ at h
    unfold R22e at h
    split at h <;> cases h
    · rename_i xs e w
      obtain ⟨⟨e1, h1⟩, h2⟩ := hc
      have := rfix_eff (nsOf xs) e w h1 (by rw [e1] at h2; simpa using h2)
      rwa [← e1] at this
    · rename_i xs e m
      obtain ⟨⟨e1, h1⟩, h2⟩ := hc
      have := rtext_eff (nsOf xs) e m h1 (by rw [e1] at h2; simpa using h2)
      rwa [← e1] at this
    · rename_i xs e
      have := done_eff (nsOf xs) e
      rwa [← hc] at this
  · change R22n f l = _ at h
    unfold R22n at h
    split at h <;> cases h
    exact new_new _ hc
  · have : f = 61 := by simpa [R22] using h
    subst this; exact ok61
  · change R22b f l look = _ at h
    unfold R22b at h
    split at h
    · split at h
      · rename_i has t off s _ _ xs e cells _ _
        simp only [Option.some.injEq, Prod.mk.injEq] at h
        obtain ⟨rfl, rfl, rfl, rfl⟩ := h
        obtain ⟨⟨e1, h1⟩, h2, h3, h4, h5⟩ := hc
        have := mtake_eff s t off cells (nsOf xs) e has h3 h4 h5 h1 (by rw [e1] at h2; simpa using h2)
        rw [← e1] at this
        exact this
      · cases h
    · cases h
theorem R22_16 (m : Met) : R22.p 16 [msv m] = some (m.ok, .tup [.sv (.sl 1 (bs (putM m))), .sv (.int .i64 (metE m))]) := row_eq eM_inj _ m
theorem R22_51 (k : Int) : R22.p 51 [.int .u8 k] = some (True, .sv (.agg (ofK k))) := rfl
theorem R22_65 (a b : List Nat) : R22.p 65 [.sl 1 (bs a), .sl 1 (bs b)] = some (Bytes a ∧ Bytes b, .sv (.bool (decide (a = b)))) :=
  row_eq (enc := fun p : List Nat × List Nat => [.sl 1 (bs p.1), .sl 1 (bs p.2)]) (fun p q h => by simp at h; exact Prod.ext (bs_inj' h.1) (bs_inj' h.2)) _ (a, b)
end Go.Proofs.Ytkiimlmlfhmkiaa

/- Meta: the answer's Put. -/

set_option linter.unusedSimpArgs false
set_option linter.unusedVariables false
set_option maxHeartbeats 4000000
namespace Go.Proofs.Ytkiimlmlfhmkiaa
open Go.Av

def numL (m : Met) : List Int :=
  if m.kd = 0 then [m.tp, m.pa, if m.co = true then 1 else 0] else if m.kd = 1 ∨ m.kd = 6 then [m.tp] else if m.kd = 2 then [m.tp, m.ix, m.zo, m.ba]
  else if m.kd = 3 then [m.tp, m.ix, m.zo] else if m.kd = 4 then [m.tp, m.ix, m.cn, m.zo, m.ba] else [m.tp, m.ix, m.ba]
def ilv (l : List Int) : List SV := l.map (SV.int .i64)
def nums (l : List Int) : List Nat := (l.map fun n => layN (zig n)).flatten
theorem numbers_met (m : Met) : Pure Try.prog 54 [m.sv] (.own 1 (ilv (numL m))) := by
  refine pure_go R0_ok Try.func54 Try.ntmps54 comp54 cres54 (by decide) (by simp) ?_
  obtain ⟨k, tp, ix, nm, pa, co, zo, ba, cn⟩ := m
  by_cases h0 : k = 0
  · subst h0
    cases co <;> simp [ac54, ar54, R0, Met.sv, Met.cells, numL, ilv]
  by_cases h1 : k = 1
  · subst h1; cases co <;> simp [ac54, ar54, R0, Met.sv, Met.cells, numL, ilv]
  by_cases h2 : k = 2
  · subst h2; cases co <;> simp [ac54, ar54, R0, Met.sv, Met.cells, numL, ilv]
  by_cases h3 : k = 3
  · subst h3; cases co <;> simp [ac54, ar54, R0, Met.sv, Met.cells, numL, ilv]
  by_cases h4 : k = 4
  · subst h4; cases co <;> simp [ac54, ar54, R0, Met.sv, Met.cells, numL, ilv]
  by_cases h6 : k = 6
  · subst h6; cases co <;> simp [ac54, ar54, R0, Met.sv, Met.cells, numL, ilv]
  cases co <;> simp [ac54, ar54, R0, Met.sv, Met.cells, numL, ilv, h0, h1, h2, h3, h4, h6]
theorem metE_kd {m : Met} (h : metE m = 0) : m.kd ≤ 6 := by
  unfold metE at h
  by_cases h1 : 6 < m.kd
  · rw [if_pos h1] at h; cases h
  · omega
theorem metL_nums {m : Met} (h : metE m = 0) (h0 : 0 ≤ m.kd) : metL m = [m.kd.toNat] ++ nums (numL m) ++ (if m.kd = 0 then textN m.nm else []) := by
  have h6 := metE_kd h
  obtain ⟨k, tp, ix, nm, pa, co, zo, ba, cn⟩ := m
  simp only at h6 h0
  have : k = 0 ∨ k = 1 ∨ k = 2 ∨ k = 3 ∨ k = 4 ∨ k = 5 ∨ k = 6 := by omega
  rcases this with rfl | rfl | rfl | rfl | rfl | rfl | rfl <;> simp [metL, lz, numL, nums]
theorem numL_I {m : Met} (ho : m.ok) : ∀ n ∈ numL m, I64 n := by
  obtain ⟨o1, o2, o3, o4, o5, o6, o7, o8⟩ := ho
  have hcI : I64 (if m.co = true then 1 else 0) := by split <;> exact ⟨by omega, by omega⟩
  intro n hn
  unfold numL at hn
  repeat' split at hn
  all_goals
    simp only [List.mem_cons, List.not_mem_nil, or_false] at hn
    rcases hn with rfl | rfl | rfl | rfl | rfl <;> first | assumption | exact ⟨by omega, by omega⟩
theorem numL_len (m : Met) : (numL m).length ≤ 5 := by
  unfold numL
  repeat' split
  all_goals simp
noncomputable def R17p (f : FuncId) (l : List SV) : Option (Prop × LV) :=
  match f with
  | 53 => row eM (fun m => (0 ≤ m.kd, .sv (.int .i64 (metE m)))) l
  | 54 => row eM (fun m => (True, .own 1 (ilv (numL m)))) l
  | 55 => row (fun n : Int => [.int .i64 n]) (fun n => (I64 n, .own 1 (bs (layN (zig n))))) l
  | 56 => row (fun s : ByteArray => [.str s]) (fun s => (s.size ≤ 140737488355000, .own 1 (bs (textN s)))) l
  | _ => none
noncomputable def R17 : Orc := { p := R17p }
theorem R17_ok : R17.ok Try.prog := by
  refine ⟨fun f l c rv h hc => ?_, fun _ _ _ _ _ _ h => (by cases h), fun _ _ _ _ h => (by cases h), fun _ h => (by cases h), fun _ _ _ _ _ _ h => (by cases h), fun _ _ _ _ _ _ _ h => (by cases h)⟩
  change R17p f l = _ at h
  unfold R17p at h
  split at h
  · exact row_ok h hc (fun m h => rcheck_met m h)
  · exact row_ok h hc (fun m _ => numbers_met m)
  · exact row_ok h hc (fun n hn => rput_pure n hn)
  · exact row_ok h hc (fun s hs => rtext_pure s hs)
  · cases h
theorem R17_53 (m : Met) : R17.p 53 [msv m] = some (0 ≤ m.kd, .sv (.int .i64 (metE m))) := row_eq eM_inj _ m
theorem R17_54 (m : Met) : R17.p 54 [msv m] = some (True, .own 1 (ilv (numL m))) := row_eq eM_inj _ m
theorem R17_55 (n : Int) : R17.p 55 [.int .i64 n] = some (I64 n, .own 1 (bs (layN (zig n)))) := row_eq (enc := fun n : Int => [.int .i64 n]) (fun a b h => by simpa using h) _ n
theorem R17_56 (s : ByteArray) : R17.p 56 [.str s] = some (s.size ≤ 140737488355000, .own 1 (bs (textN s))) := row_eq (enc := fun s : ByteArray => [.str s]) (fun a b h => by simpa using h) _ s
theorem nums_snoc (l : List Int) (n : Int) : nums (l ++ [n]) = nums l ++ layN (zig n) := by simp [nums]
theorem nums_le : ∀ {l : List Int}, (∀ n ∈ l, I64 n) → (nums l).length ≤ 10 * l.length
  | [], _ => by simp [nums]
  | n :: l, h => by
    have h1 := layN_le10 (zig_lt (h n (by simp)).1 (h n (by simp)).2)
    have h2 := nums_le (l := l) (fun m hm => h m (by simp [hm]))
    simp only [nums, List.map_cons, List.flatten_cons, List.length_append, List.length_cons] at h2 ⊢
    omega
theorem textN_le {s : ByteArray} (q : s.size ≤ 32) : (textN s).length ≤ 42 := by
  have h1 := layN_le10 (u := zig s.size) (zig_lt (by omega) (by omega))
  have h2 : (bytesNat s).length = s.size := by simp [bytesNat]
  simp only [textN, List.length_append, h2]
  omega
theorem rput_met (m : Met) (ho : m.ok) : Pure Try.prog 17 [m.sv] (.tup [.own 1 (bs (putM m)), .sv (.int .i64 (metE m))]) := by
  have e53 := R17_53 m
  have e54 := R17_54 m
  have e55 := R17_55
  have e56 := R17_56 m.nm
  have hR := R17_ok
  have hnf : R17.nofz = false := rfl
  generalize R17 = R at hR e53 e54 e55 e56 hnf
  have h0 := ho.1
  refine pure_go hR Try.func17 Try.ntmps17 comp17 cres17 (by decide) (by simp) ?_
  simp only [Met.sv, Met.cells]
  by_cases hE : metE m = 0
  case neg =>
    have hb : bs (putM m) = [] := by rw [putM, if_neg hE]; rfl
    generalize metE m = E at e53 hE
    simp [ac17, ar17, e53, e54, h0, hE, hb]
  have hm : putM m = [m.kd.toNat] ++ nums (numL m) ++ (if m.kd = 0 then textN m.nm else []) := by rw [putM, if_pos hE, metL_nums hE h0]
  have hnI := numL_I ho
  have hnl := numL_len m
  rw [hE] at e53
  have hsz : m.kd = 0 → m.nm.size ≤ 32 := fun q => metE_name hE q
  generalize putM m = B at hm
  generalize numL m = L at e54 hm hnI hnl
  have hk : [SV.int .u8 m.kd] = bs [m.kd.toNat] := by simp [bs]; omega
  simp [ac17, ar17, e53, e54, h0, hk]
  have hcell : ∀ x ∈ bs [m.kd.toNat], x.isCell = true := fun x hx => by
    simp [bs] at hx
    subst hx; rfl
  refine ⟨fun x hx => by have := hcell x hx; cases x <;> simp [SV.isCell] at this ⊢, ?_⟩
  refine awpR_loop (α := Nat) (fun i => i ≤ L.length) (fun i => { n := 40, sl := [(1, .lptr 1 0), (5, .own 1 (bs ([m.kd.toNat] ++ nums (L.take i)))), (6, .own 1 (ilv L)), (7, .sv (.int .i64 i))], bx := [(1, m.cells.map .sv)], hp := fun _ => none })
    (fun i => L.length - i) 0 (by omega) (by simp [Met.cells, nums]) ?_
  intro i hi
  have hil : (ilv L).length = L.length := by simp [ilv]
  by_cases h : i < L.length
  · have hlt : (i : Int) < L.length := by omega
    have hw : IntKind.i64.wrap ((i : Int) + 1) = ((i + 1 : Nat) : Int) := by rw [IntKind.wrap_i64]; omega
    have hiA : i < (ilv L).length := by omega
    have hg : (ilv L)[i]?.getD .undef = .int .i64 L[i] := by simp [ilv, h]
    have hg2 : (ilv L)[i] = .int .i64 L[i] := by simp [ilv]
    have hI := hnI _ (List.getElem_mem h)
    have h5 := e55 L[i]
    have hn : nums (L.take (i + 1)) = nums (L.take i) ++ layN (zig L[i]) := by rw [List.take_succ_eq_append_getElem h, nums_snoc]
    have hle := nums_le (l := L.take i) (fun n hn => hnI n (List.mem_of_mem_take hn))
    have hle2 := layN_le10 (zig_lt hI.1 hI.2)
    simp at hle
    generalize L[i] = n at hg hg2 hI h5 hn hle2
    simp [Met.cells, hlt, hil, h, hiA, hg, hg2, hI, h5, hw, WkRs_refl]
    exact ⟨by omega, i + 1, by omega, by omega, by rw [hn]; simp [bs], by omega⟩
  · have hlt : ¬ (i : Int) < L.length := by omega
    obtain rfl : i = L.length := by omega
    have hle := nums_le hnI
    by_cases hk0 : m.kd = 0
    · have h32 := hsz hk0
      have ht := textN_le h32
      rw [if_pos hk0, hk0] at hm
      simp [Met.cells, hlt, hil, hk0, e56]
      exact ⟨⟨by omega, by omega⟩, by rw [hm]; simp [bs], hE.symm⟩
    · rw [if_neg hk0] at hm
      simp [Met.cells, hlt, hil, hk0]
      exact ⟨by rw [hm]; simp [bs], hE.symm⟩
end Go.Proofs.Ytkiimlmlfhmkiaa
