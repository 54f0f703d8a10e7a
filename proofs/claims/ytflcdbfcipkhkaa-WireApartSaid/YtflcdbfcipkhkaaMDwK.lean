import Derived.Test.YtflcdbfcipkhkaaMDwS
import Derived.Test.YtflcdbfcipkhkaaMDwO
import Derived.Test.YtflcdbfcipkhkaaMDvF

set_option linter.unusedVariables false
set_option linter.unusedSimpArgs false

/- Wire: GetRequest, walked. -/

set_option linter.unusedSimpArgs false
set_option linter.unusedVariables false
set_option maxHeartbeats 8000000
namespace Go.Proofs.Ytflcdbfcipkhkaa
open Go.Av

def eLL (p : List Nat × List Nat) : List SV := [.sl 1 (bs p.1), .sl 1 (bs p.2)]
theorem eLL_inj (a b : List Nat × List Nat) (h : eLL a = eLL b) : a = b := by simp [eLL] at h; exact Prod.ext (bs_inj h.1) (bs_inj h.2)
noncomputable def R42p (f : FuncId) (l : List SV) : Option (Prop × LV) :=
  match f with
  | 35 => row eInt (fun k => (0 ≤ k ∧ k < 256, .sv (.str (usesS k)))) l
  | 31 => row eQ (fun q => (q.ok ∧ q.bt.rs.length < 4611686018427387904, .tup [.own 1 (bs (putQ q)), .sv (.int .i64 (reqE q))])) l
  | 98 => row eLL (fun p => (Bytes p.1 ∧ Bytes p.2, .sv (.bool (decide (p.1 = p.2))))) l
  | _ => none
noncomputable def R42b (f : FuncId) (l : List BA) (look : Nat → Option (List RV)) : Option (Prop × List (Nat × List RV) × LV × List (Nat × List RV)) :=
  match f, l with
  | 97, [.c (.bp s 0), .c (.bp t 0), .v (.int .i32 c)] => match look s, look t with
    | some [.sv (.sl 1 xs), .sv (.int .i64 e)], some cells => match inv Req.cells (cells.map RV.share) with
      | some q => some (cells = qrv q ∧ IsBs xs ∧ xs.length < 100000000 ∧ s ≠ t ∧ 0 ≤ c ∧ isLet c.toNat, [(s, [.sv (.sl 1 xs), .sv (.int .i64 e)]), (t, cells)], .tup [],
          [(s, rcv (takeQ 8192 q (nsOf xs) e c.toNat).2.1 (takeQ 8192 q (nsOf xs) e c.toNat).2.2), (t, qrv (takeQ 8192 q (nsOf xs) e c.toNat).1)])
      | none => none
    | _, _ => none
  | _, _ => none
def R42e (f : FuncId) (cells l : List SV) : Option (Prop × LV × List SV) :=
  match f, cells, l with
  | 20, [.sl 1 xs, .int .i64 e], [.int .i64 w] => some (IsBs xs ∧ xs.length < 4611686018427387904, .sv (.int .u64 (rFixed (nsOf xs) e w).1), [.sl 1 (bs (rFixed (nsOf xs) e w).2.1), .int .i64 (rFixed (nsOf xs) e w).2.2])
  | _, _, _ => none
def R42n (f : FuncId) (l : List SV) : Option (Prop × List SV) :=
  match f, l with
  | 16, [.sl 1 xs] => some (xs.length ≤ 140737488355328, [.sl 1 xs, .int .i64 0])
  | _, _ => none
noncomputable def R42 : Orc := { p := R42p, e := R42e, n := R42n, b := R42b }
theorem R42_ok : R42.ok Try.prog := by
  refine ⟨fun f l c rv h hc => ?_, fun f cells l c rv cells' h hc => ?_, fun f l c cells h hc => ?_, fun _ h => (by cases h), fun _ _ _ _ _ _ h => (by cases h), fun f l look c bxs rv bxs' h hc => ?_⟩
  · change R42p f l = _ at h
    unfold R42p at h
    split at h
    · exact row_ok h hc (fun k hk => uses_pure k hk.1 hk.2)
    · exact row_ok h hc (fun q hq => put_req q hq.1 hq.2)
    · exact row_ok h hc (fun p hp => equal_pure p.1 p.2 hp.1 hp.2)
    · cases h
  · change R42e f cells l = _ at h
    unfold R42e at h
    split at h <;> cases h
    rename_i xs e w
    obtain ⟨⟨e1, h1⟩, h2⟩ := hc
    have := rfix_eff (nsOf xs) e w h1 (by rw [e1] at h2; simpa using h2)
    rwa [← e1] at this
  · change R42n f l = _ at h
    unfold R42n at h
    split at h <;> cases h
    exact new_new _ hc
  · change R42b f l look = _ at h
    unfold R42b at h
    split at h
    · split at h
      · split at h
        · rename_i s t cc _ _ xs e cells _ _ _ q _
          simp only [Option.some.injEq, Prod.mk.injEq] at h
          obtain ⟨rfl, rfl, rfl, rfl⟩ := h
          obtain ⟨h1, ⟨h2, h2b⟩, h3, h4, h5, h6⟩ := hc
          have := take_req s t h4 q (nsOf xs) e cc.toNat h6 h2b (by rw [h2] at h3; simpa using h3)
          rw [← h1, show ((cc.toNat : Nat) : Int) = cc by omega] at this
          simp only [rcv] at this ⊢
          rw [← h2] at this
          exact this
        · cases h
      · cases h
    · cases h
theorem R42_35 (k : Int) : R42.p 35 [.int .u8 k] = some (0 ≤ k ∧ k < 256, .sv (.str (usesS k))) := row_eq eInt_inj _ k
theorem R42_31 (q : Req) : R42.p 31 [qsv q] = some (q.ok ∧ q.bt.rs.length < 4611686018427387904, .tup [.own 1 (bs (putQ q)), .sv (.int .i64 (reqE q))]) := row_eq eQ_inj _ q
theorem R42_98 (a b : List Nat) : R42.p 98 [.sl 1 (bs a), .sl 1 (bs b)] = some (Bytes a ∧ Bytes b, .sv (.bool (decide (a = b)))) := row_eq eLL_inj _ (a, b)
theorem R42_97 (q : Req) (l : List Nat) (e : Int) (s t c : Nat) (look : Nat → Option (List RV)) (h1 : look s = some (rcv l e)) (h2 : look t = some (qrv q)) :
    R42.b 97 [.c (.bp s 0), .c (.bp t 0), .v (.int .i32 (c : Int))] look = some (IsBs (bs l) ∧ (bs l).length < 100000000 ∧ s ≠ t ∧ isLet c, [(s, rcv l e), (t, qrv q)], .tup [],
      [(s, rcv (takeQ 8192 q l e c).2.1 (takeQ 8192 q l e c).2.2), (t, qrv (takeQ 8192 q l e c).1)]) := by
  show R42b 97 [.c (.bp s 0), .c (.bp t 0), .v (.int .i32 (c : Int))] look = _
  unfold R42b
  simp only [h1, h2]
  have e : (qrv q).map RV.share = q.cells := rfl
  rw [e, inv_cells]
  simp only [Int.toNat_natCast, true_and, nsOf_bs]
  simp
theorem putQ_bytes {q : Req} (h : rdOk q) : Bytes (putQ q) := by
  obtain ⟨⟨o1, o2, o3, o4, o5, o6, o7, o8, o9⟩, _⟩ := h
  unfold putQ
  split
  · have hf : ∀ c, Bytes (fieldL q (bodyQ q) c) := by
      intro c
      have m : ∀ {p : Prop} [Decidable p] {x y : List Nat}, Bytes x → Bytes y → Bytes (if p then x else y) := by
        intro p _ x y h1 h2
        by_cases z : p
        · rw [if_pos z]; exact h1
        · rw [if_neg z]; exact h2
      have t : ∀ s, Bytes (textN s) := fun s => Bytes.append lay_bytes (bytesNat_bytes s)
      have f : ∀ b, Bytes (flagL b) := fun b x hx => by cases b <;> simp [flagL] at hx <;> omega
      unfold fieldL
      exact m (t _) (m lay_bytes (m lay_bytes (m (f _) (m (f _) (m lay_bytes (m lay_bytes (m lay_bytes (m (t _) (m (t _) (m lay_bytes (Bytes.append lay_bytes (bodyQ_bytes q))))))))))))
    unfold reqL
    refine Bytes.append (fun x hx => by simp at hx; omega) ?_
    intro x hx
    simp only [catF, List.mem_flatten, List.mem_map] at hx
    obtain ⟨y, ⟨c, _, rfl⟩, hy⟩ := hx
    exact hf c x hy
  · exact fun c h => by cases h
theorem get_req (l : List Nat) (hb : Bytes l) (hl : l.length < 100000000) : Pure Try.prog 42 [.sl 1 (bs l)] (.tup [.sv (getR 8192 l).1.sv, .sv (.int .i64 (getR 8192 l).2)]) := by
  have e35 := R42_35 (kdOfL l)
  have e31 := R42_31 (readQ 8192 l)
  have e98 := R42_98 (putQ (readQ 8192 l)) l
  have e97 := R42_97
  have ee : R42.e = R42e := rfl
  have en : R42.n = R42n := rfl
  have hnf : R42.nofz = false := rfl
  have hR := R42_ok
  generalize R42 = R at hR e35 e31 e98 e97 ee en hnf
  have hro := readQ_ok 8192 hb
  have hpb := putQ_bytes hro
  obtain ⟨k0, k1⟩ := kdOfL_in hb
  have hb0 := rFixed_bytes hb 0 1
  have hl0 := rFixed_le l 0 1
  have hlt := uses_lt (kdOfL l)
  have hll : ∀ c ∈ usesN (kdOfL l), isLet c := fun c h => uses_let h
  have hq0 := (kReq_ok k0 k1)
  have hfo := fun r => @foldT_ok 8192 r (kReq (kdOfL l)) (rFixed l 0 1).2.1 (rFixed l 0 1).2.2 hq0 hb0
  have hread : readQ 8192 l = (foldT 8192 (usesN (kdOfL l)) (kReq (kdOfL l)) (rFixed l 0 1).2.1 (rFixed l 0 1).2.2).1 := rfl
  have hku : IntKind.u8.wrap (((rFixed l 0 1).1 : Nat) : Int) = kdOfL l := by rw [IntKind.wrap_u8]; unfold kdOfL at *; omega
  unfold usesS at e35
  unfold getR finQ
  obtain ⟨⟨ro, rl⟩, _⟩ : rdOk (readQ 8192 l) ∧ True := ⟨hro, trivial⟩
  have rl2 : (readQ 8192 l).bt.rs.length < 4611686018427387904 := by omega
  generalize hQ : readQ 8192 l = Q at *
  generalize kdOfL l = k at *
  generalize usesN k = u at *
  have zl : l.length ≤ 140737488355328 := by omega
  have zl2 : l.length < 4611686018427387904 := by omega
  have hib : IsBs (bs l) := isBs_bs.2 hb
  generalize hF : rFixed l 0 1 = F at *
  obtain ⟨kn, l0, e0⟩ := F
  simp only at hb0 hl0 hfo hread hku
  refine pure_go hR Try.func42 Try.ntmps42 comp42 cres42 (by decide) (by simp) ?_
  simp [ac42, ar42, ee, en, R42e, R42n, zl, zl2, hib, hF, hku, e35, k0, k1, hnf]
  refine awpR_loop (α := Nat) (fun i => i ≤ u.length) (fun i => { n := 41, sl := [(0, .sv (.sl 1 (bs l))), (2, .lptr 2 0), (4, .lptr 11 0), (5, .lptr 5 0), (19, .siter (sOf u) i)], bx := [(5, qrv (foldT 8192 (u.take i) (kReq k) l0 e0).1), (11, rcv (foldT 8192 (u.take i) (kReq k) l0 e0).2.1 (foldT 8192 (u.take i) (kReq k) l0 e0).2.2), (2, qrv (kReq 0))], hp := fun _ => none })
    (fun i => u.length - i) 0 (by omega) (by simp [foldT, kReq, bat0, RL_nil]) ?_
  intro i hi
  obtain ⟨f1, f2, f3⟩ := hfo (u.take i)
  by_cases h : i < u.length
  · obtain ⟨hv, hp⟩ := nxt_in hlt h
    have hc := hll (u.getD i 0) (by rw [List.getD_eq_getElem?_getD, List.getElem?_eq_getElem h]; exact List.getElem_mem h)
    have hs1 : foldT 8192 (u.take (i + 1)) (kReq k) l0 e0 = takeQ 8192 (foldT 8192 (u.take i) (kReq k) l0 e0).1 (foldT 8192 (u.take i) (kReq k) l0 e0).2.1 (foldT 8192 (u.take i) (kReq k) l0 e0).2.2 (u.getD i 0) := by
      rw [List.take_succ_eq_append_getElem h, foldT_snoc, List.getD_eq_getElem?_getD, List.getElem?_eq_getElem h]; rfl
    generalize u.getD i 0 = c at hv hc hs1
    generalize foldT 8192 (u.take i) (kReq k) l0 e0 = X at *
    obtain ⟨q1, l1, e1⟩ := X
    simp only at f1 f2 f3 hs1
    have e := e97 q1 l1 e1 11 5 c
    have hib1 : IsBs (bs l1) := isBs_bs.2 f2
    have hl1 : l1.length < 100000000 := by omega
    simp [hv, hp, ee, R42e, e, hc, hib1, hl1]
    refine ⟨i + 1, by omega, by omega, ?_⟩
    rw [hs1]
    simp
  · obtain rfl : i = u.length := by omega
    obtain ⟨hv, hp⟩ := nxt_end u
    rw [List.take_length] at *
    generalize (foldT 8192 u (kReq k) l0 e0).2.1 = la at *
    generalize (foldT 8192 u (kReq k) l0 e0).2.2 = ea at *
    rw [← hread] at *
    clear hfo e97
    by_cases hE : reqE Q = 0
    · rw [hE] at e31
      by_cases hP : putQ Q = l
      · have hd : decide (putQ Q = l) = true := by simp [hP]
        rw [hd] at e98
        rw [if_pos ⟨hE, hP⟩]
        generalize putQ Q = B at e31 e98 hpb
        simp [hv, hp, e31, e98, ro, rl2, hpb, hb, Req.sv, Req.cells]
      · have hd : decide (putQ Q = l) = false := by simp [hP]
        rw [hd] at e98
        rw [if_neg (fun z => hP z.2)]
        generalize putQ Q = B at e31 e98 hpb
        simp [hv, hp, e31, e98, ro, rl2, hpb, hb, Req.sv, Req.cells, kReq, bat0, RL_nil]
    · rw [if_neg (fun z => hE z.1)]
      generalize reqE Q = E at e31 hE
      generalize putQ Q = B at e31 e98 hpb
      simp [hv, hp, e31, e98, ro, rl2, hE, Req.sv, Req.cells, kReq, bat0, RL_nil]
end Go.Proofs.Ytflcdbfcipkhkaa

/- Wire: GetResponse. -/


set_option linter.unusedSimpArgs false
set_option linter.unusedVariables false
set_option maxHeartbeats 8000000
namespace Go.Proofs.Ytflcdbfcipkhkaa
open Go.Av

/-- A response off bytes. -/
def rdP (m : Int) (l : List Nat) : Rsp :=
  let f1 := rFixed l 0 1
  let n1 := rNum f1.2.1 f1.2.2
  let n2 := rNum n1.2.1 n1.2.2
  let n3 := rNum n2.2.1 n2.2.2
  let n4 := rNum n3.2.1 n3.2.2
  let f2 := rFixed n4.2.1 n4.2.2 1
  let b := eachT (stB m) f2.2.1 f2.2.2
  let i := eachT rNum b.2.1 b.2.2
  let t := eachT stT i.2.1 i.2.2
  ⟨(f1.1 : Nat), n1.1, n2.1, n3.1, (f2.1 : Int) == 1, n4.1, b.1, i.1, t.1⟩
def rsp0 : Rsp := ⟨0, 0, 0, 0, false, 0, [], [], []⟩
def finP (l : List Nat) (a : Rsp) : Rsp × Int := if rspE a = 0 ∧ putP a = l then (a, 0) else (rsp0, 4)
def eP (a : Rsp) : List SV := [a.sv]
theorem eP_inj (a b : Rsp) (h : eP a = eP b) : a = b := by simp [eP] at h; exact Rsp.sv_inj _ _ h
/-- What a response that is read may be. -/
def rdOkP (a : Rsp) : Prop := a.ok ∧ a.bts.length ≤ 65 ∧ (∀ b ∈ a.bts, b.rs.length ≤ 32) ∧ a.pas.length ≤ 65 ∧ a.nms.length ≤ 65
theorem itr_all {α : Type} {stp : List Nat → Int → α × List Nat × Int} {p : α → Prop} (h : ∀ l e, p (stp l e).1) (l : List Nat) (e : Int) : ∀ i, ∀ x ∈ (itr stp l e i).1, p x
  | 0, x, hx => by simp [itr] at hx
  | i + 1, x, hx => by
    simp only [itr, List.mem_append, List.mem_singleton] at hx
    rcases hx with hx | rfl
    · exact itr_all h l e i x hx
    · exact h _ _
theorem rdP_ok (m : Int) {l : List Nat} (hb : Bytes l) : rdOkP (rdP m l) := by
  have hk := kdOfL_in hb
  have q1 : ∀ x ∈ (rdP m l).bts, x.ok ∧ x.rs.length ≤ 32 := itr_all (p := fun x : Bat => x.ok ∧ x.rs.length ≤ 32) (fun l e => batG_ok _) _ _ _
  have q2 : ∀ n ∈ (rdP m l).pas, I64 n := itr_all (p := fun n : Int => I64 n) (fun l e => rNum_in l e) _ _ _
  have c1 : (rdP m l).bts.length ≤ 65 := by unfold rdP eachT; simp only; rw [itr_len]; exact cntN_le _
  have c2 : (rdP m l).pas.length ≤ 65 := by unfold rdP eachT; simp only; rw [itr_len]; exact cntN_le _
  have c3 : (rdP m l).nms.length ≤ 65 := by unfold rdP eachT; simp only; rw [itr_len]; exact cntN_le _
  exact ⟨⟨hk.1, hk.2, rNum_in _ _, rNum_in _ _, rNum_in _ _, rNum_in _ _, fun b hb => (q1 b hb).1, q2⟩, c1, fun b hb => (q1 b hb).2, c2, c3⟩
theorem numsB_bytes (l : List Int) : Bytes (numsB l) := by
  intro c hc
  simp only [numsB, List.mem_flatten, List.mem_map] at hc
  obtain ⟨x, ⟨n, _, rfl⟩, hx⟩ := hc
  exact layN_bytes _ c hx
theorem textB_bytes {l : List Nat} (h : Bytes l) : Bytes (textB l) := Bytes.append lay_bytes h
theorem textN_bytes (s : ByteArray) : Bytes (textN s) := Bytes.append lay_bytes (bytesNat_bytes s)
theorem rspL_bytes {a : Rsp} (h : a.ok) : Bytes (rspL a) := by
  have h1 : Bytes (batsB a.bts) := by
    intro c hc
    simp only [batsB, List.mem_flatten, List.mem_map] at hc
    obtain ⟨x, ⟨n, _, rfl⟩, hx⟩ := hc
    exact textB_bytes (putB_bytes n) c hx
  have h2 : Bytes (txtsB a.nms) := by
    intro c hc
    simp only [txtsB, List.mem_flatten, List.mem_map] at hc
    obtain ⟨x, ⟨n, _, rfl⟩, hx⟩ := hc
    exact textN_bytes n c hx
  have h3 : Bytes (flagL a.db) := fun x hx => by cases hd : a.db <;> rw [hd] at hx <;> simp [flagL] at hx <;> omega
  have h4 : Bytes [a.kd.toNat] := fun x hx => by simp at hx; have := h.1; have := h.2.1; omega
  exact Bytes.append (Bytes.append (Bytes.append (Bytes.append (Bytes.append (Bytes.append (Bytes.append (Bytes.append h4 (numsB_bytes _)) h3) lay_bytes) h1) lay_bytes) (numsB_bytes _)) lay_bytes) h2
theorem putP_bytes {a : Rsp} (h : a.ok) : Bytes (putP a) := by
  unfold putP
  split
  · exact rspL_bytes h
  · intro c hc; cases hc
noncomputable def R44p (f : FuncId) (l : List SV) : Option (Prop × LV) :=
  match f with
  | 38 => row eP (fun a => (a.ok ∧ a.nms.length < 4611686018427387904, .tup [.own 1 (bs (putP a)), .sv (.int .i64 (rspE a))])) l
  | 98 => row eLL (fun p => (Bytes p.1 ∧ Bytes p.2, .sv (.bool (decide (p.1 = p.2))))) l
  | _ => none
noncomputable def R44b (f : FuncId) (l : List BA) (look : Nat → Option (List RV)) : Option (Prop × List (Nat × List RV) × LV × List (Nat × List RV)) :=
  match f, l with
  | 100, [.c (.bp s 0), .f 101 0 [.pp t 0]] => match look s with
    | some [.sv (.sl 1 xs), .sv (.int .i64 e)] => some (s = t ∧ IsBs xs ∧ xs.length < 100000000, [(s, [.sv (.sl 1 xs), .sv (.int .i64 e)])], .own 6 (BL (eachT (stB 8192) (nsOf xs) e).1), [(s, rcv (eachT (stB 8192) (nsOf xs) e).2.1 (eachT (stB 8192) (nsOf xs) e).2.2)])
    | _ => none
  | 103, [.c (.bp s 0), .f 18 1 [.bp t 0]] => match look s with
    | some [.sv (.sl 1 xs), .sv (.int .i64 e)] => some (s = t ∧ IsBs xs ∧ xs.length < 100000000, [(s, [.sv (.sl 1 xs), .sv (.int .i64 e)])], .own 1 (IL (eachT rNum (nsOf xs) e).1), [(s, rcv (eachT rNum (nsOf xs) e).2.1 (eachT rNum (nsOf xs) e).2.2)])
    | _ => none
  | 104, [.c (.bp s 0), .f 105 0 [.pp t 0]] => match look s with
    | some [.sv (.sl 1 xs), .sv (.int .i64 e)] => some (s = t ∧ IsBs xs ∧ xs.length < 100000000, [(s, [.sv (.sl 1 xs), .sv (.int .i64 e)])], .own 1 (TL (eachT stT (nsOf xs) e).1), [(s, rcv (eachT stT (nsOf xs) e).2.1 (eachT stT (nsOf xs) e).2.2)])
    | _ => none
  | _, _ => none
noncomputable def R44 : Orc := { p := R44p, e := R97.e, n := R42n, fv := fun _ => false, nofz := true, b := R44b }
theorem R44_ok : R44.ok Try.prog := by
  refine ⟨fun f l c rv h hc => ?_, R97_ok.e, R42_ok.n, fun f h => (by cases h), fun _ _ _ _ _ _ h => (by cases h), fun f l look c bxs rv bxs' h hc => ?_⟩
  · change R44p f l = _ at h
    unfold R44p at h
    split at h
    · exact row_ok h hc (fun a ha => put_rsp a ha.1 ha.2)
    · exact row_ok h hc (fun p hp => equal_pure p.1 p.2 hp.1 hp.2)
    · cases h
  · change R44b f l look = _ at h
    unfold R44b at h
    split at h
    · split at h
      · rename_i s t _ xs e _
        simp only [Option.some.injEq, Prod.mk.injEq] at h
        obtain ⟨rfl, rfl, rfl, rfl⟩ := h
        obtain ⟨rfl, ⟨h1, h1b⟩, h2⟩ := hc
        have := each_bat s (nsOf xs) e h1b (by rw [h1] at h2; simpa using h2)
        simp only [rcv] at this ⊢
        rw [← h1] at this
        exact this
      · cases h
    · split at h
      · rename_i s t _ xs e _
        simp only [Option.some.injEq, Prod.mk.injEq] at h
        obtain ⟨rfl, rfl, rfl, rfl⟩ := h
        obtain ⟨rfl, ⟨h1, h1b⟩, h2⟩ := hc
        have := each_num s (nsOf xs) e h1b (by rw [h1] at h2; simpa using h2)
        simp only [rcv] at this ⊢
        rw [← h1] at this
        exact this
      · cases h
    · split at h
      · rename_i s t _ xs e _
        simp only [Option.some.injEq, Prod.mk.injEq] at h
        obtain ⟨rfl, rfl, rfl, rfl⟩ := h
        obtain ⟨rfl, ⟨h1, h1b⟩, h2⟩ := hc
        have := each_txt s (nsOf xs) e h1b (by rw [h1] at h2; simpa using h2)
        simp only [rcv] at this ⊢
        rw [← h1] at this
        exact this
      · cases h
    · cases h
theorem R44_38 (a : Rsp) : R44.p 38 [psv a] = some (a.ok ∧ a.nms.length < 4611686018427387904, .tup [.own 1 (bs (putP a)), .sv (.int .i64 (rspE a))]) := row_eq eP_inj _ a
theorem R44_98 (a b : List Nat) : R44.p 98 [.sl 1 (bs a), .sl 1 (bs b)] = some (Bytes a ∧ Bytes b, .sv (.bool (decide (a = b)))) := row_eq eLL_inj _ (a, b)
theorem R44_100 (s : Nat) (l : List Nat) (e : Int) (look : Nat → Option (List RV)) (h : look s = some (rcv l e)) : R44.b 100 [.c (.bp s 0), .f 101 0 [.pp s 0]] look =
    some (s = s ∧ IsBs (bs l) ∧ (bs l).length < 100000000, [(s, rcv l e)], .own 6 (BL (eachT (stB 8192) l e).1), [(s, rcv (eachT (stB 8192) l e).2.1 (eachT (stB 8192) l e).2.2)]) := by
  show R44b 100 [.c (.bp s 0), .f 101 0 [.pp s 0]] look = _
  unfold R44b
  simp only [h, nsOf_bs]
theorem R44_103 (s : Nat) (l : List Nat) (e : Int) (look : Nat → Option (List RV)) (h : look s = some (rcv l e)) : R44.b 103 [.c (.bp s 0), .f 18 1 [.bp s 0]] look =
    some (s = s ∧ IsBs (bs l) ∧ (bs l).length < 100000000, [(s, rcv l e)], .own 1 (IL (eachT rNum l e).1), [(s, rcv (eachT rNum l e).2.1 (eachT rNum l e).2.2)]) := by
  show R44b 103 [.c (.bp s 0), .f 18 1 [.bp s 0]] look = _
  unfold R44b
  simp only [h, nsOf_bs]
theorem R44_104 (s : Nat) (l : List Nat) (e : Int) (look : Nat → Option (List RV)) (h : look s = some (rcv l e)) : R44.b 104 [.c (.bp s 0), .f 105 0 [.pp s 0]] look =
    some (s = s ∧ IsBs (bs l) ∧ (bs l).length < 100000000, [(s, rcv l e)], .own 1 (TL (eachT stT l e).1), [(s, rcv (eachT stT l e).2.1 (eachT stT l e).2.2)]) := by
  show R44b 104 [.c (.bp s 0), .f 105 0 [.pp s 0]] look = _
  unfold R44b
  simp only [h, nsOf_bs]
theorem BL_nil : BL [] = [] := rfl
theorem IL_nil : IL [] = [] := rfl
theorem TL_nil : TL [] = [] := rfl
theorem get_rsp (l : List Nat) (hb : Bytes l) (hl : l.length < 100000000) : Pure Try.prog 44 [.sl 1 (bs l)] (.tup [.sv (finP l (rdP 8192 l)).1.sv, .sv (.int .i64 (finP l (rdP 8192 l)).2)]) := by
  have hro := rdP_ok 8192 hb
  have hpb := putP_bytes hro.1
  have ro := hro.1
  have rl : (rdP 8192 l).nms.length < 4611686018427387904 := by have := hro.2.2.2.2; omega
  have e38 := R44_38 (rdP 8192 l)
  have e98 := R44_98 (putP (rdP 8192 l)) l
  have e20a := R97_20 l 0 1
  have e18 := R97_18
  have e20 := R97_20
  have e100 := R44_100
  have e103 := R44_103
  have e104 := R44_104
  have hre : R44.e = R97.e := rfl
  have en : R44.n = R42n := rfl
  have hnf : R44.nofz = true := rfl
  have hR := R44_ok
  rw [← hre] at e18 e20 e20a
  generalize R44 = R at hR e38 e98 e18 e20 e20a e100 e103 e104 en hnf
  have hrd : rdP 8192 l = rdP 8192 l := rfl
  conv at hrd => rhs; unfold rdP
  simp only at hrd
  have zl : l.length ≤ 140737488355328 := by omega
  have zl2 : l.length < 4611686018427387904 := by omega
  have hib : IsBs (bs l) := isBs_bs.2 hb
  have hb0 := rFixed_bytes hb 0 1
  have hl0 := rFixed_le l 0 1
  have hku : IntKind.u8.wrap (((rFixed l 0 1).1 : Nat) : Int) = ((rFixed l 0 1).1 : Nat) := by
    have := kdOfL_in hb
    rw [IntKind.wrap_u8]; unfold kdOfL at this; omega
  generalize rFixed l 0 1 = F at *
  obtain ⟨k, l0, e0⟩ := F
  simp only at *
  have a1 := e18 l0 e0
  have b1 := rNum_bytes hb0 e0
  have c1 := rNum_le l0 e0
  generalize rNum l0 e0 = N1 at *
  obtain ⟨n1, l1, e1⟩ := N1
  simp only at *
  have a2 := e18 l1 e1
  have b2 := rNum_bytes b1 e1
  have c2 := rNum_le l1 e1
  generalize rNum l1 e1 = N2 at *
  obtain ⟨n2, l2, e2⟩ := N2
  simp only at *
  have a3 := e18 l2 e2
  have b3 := rNum_bytes b2 e2
  have c3 := rNum_le l2 e2
  generalize rNum l2 e2 = N3 at *
  obtain ⟨n3, l3, e3⟩ := N3
  simp only at *
  have a4 := e18 l3 e3
  have b4 := rNum_bytes b3 e3
  have c4 := rNum_le l3 e3
  generalize rNum l3 e3 = N4 at *
  obtain ⟨n4, l4, e4⟩ := N4
  simp only at *
  have a5 := e20 l4 e4 1
  have b5 := rFixed_bytes b4 e4 1
  have c5 := rFixed_le l4 e4 1
  generalize rFixed l4 e4 1 = F2 at *
  obtain ⟨fl, l5, e5⟩ := F2
  simp only at *
  have a6 := e100 9 l5 e5
  obtain ⟨b6, c6, d6⟩ := eachT_kp (kpB 8192) e5 b5
  generalize eachT (stB 8192) l5 e5 = X1 at *
  obtain ⟨x1, l6, e6⟩ := X1
  simp only at *
  have a7 := e103 9 l6 e6
  obtain ⟨b7, c7, d7⟩ := eachT_kp kpN e6 b6
  generalize eachT rNum l6 e6 = X2 at *
  obtain ⟨x2, l7, e7⟩ := X2
  simp only at *
  have a8 := e104 9 l7 e7
  obtain ⟨b8, c8, d8⟩ := eachT_kp kpT e7 b7
  generalize eachT stT l7 e7 = X3 at *
  obtain ⟨x3, l8, e8⟩ := X3
  simp only at *
  clear e18 e20 e100 e103 e104
  have hib0 : IsBs (bs l0) := isBs_bs.2 hb0
  have hib1 : IsBs (bs l1) := isBs_bs.2 b1
  have hib2 : IsBs (bs l2) := isBs_bs.2 b2
  have hib3 : IsBs (bs l3) := isBs_bs.2 b3
  have hib4 : IsBs (bs l4) := isBs_bs.2 b4
  have hib5 : IsBs (bs l5) := isBs_bs.2 b5
  have hib6 : IsBs (bs l6) := isBs_bs.2 b6
  have hib7 : IsBs (bs l7) := isBs_bs.2 b7
  have z0 : l0.length < 4611686018427387904 := by omega
  have z1 : l1.length < 4611686018427387904 := by omega
  have z2 : l2.length < 4611686018427387904 := by omega
  have z3 : l3.length < 4611686018427387904 := by omega
  have z4 : l4.length < 4611686018427387904 := by omega
  have z5 : l5.length < 100000000 := by omega
  have z6 : l6.length < 100000000 := by omega
  have z7 : l7.length < 100000000 := by omega
  unfold finP
  generalize rdP 8192 l = A at *
  subst hrd
  simp only [psv] at e38
  generalize hEE : rspE _ = E at *
  generalize hBB : putP _ = B at *
  refine pure_go hR Try.func44 Try.ntmps44 comp44 cres44 (by decide) (by simp) ?_
  by_cases hE : E = 0
  · rw [hE] at e38
    by_cases hP : B = l
    · have hd : decide (B = l) = true := by simp [hP]
      rw [hd] at e98
      rw [if_pos ⟨hE, hP⟩]
      simp (maxSteps := 600000) [ac44, ar44, en, R42n, hnf, zl, hib, zl2, e20a, hku, a1, a2, a3, a4, a5, a6, a7, a8, hib0, hib1, hib2, hib3, hib4, hib5, hib6, hib7, z0, z1, z2, z3, z4, z5, z6, z7, e38, e98, ro, rl, hpb, hb, Rsp.sv, Rsp.cells]
    · have hd : decide (B = l) = false := by simp [hP]
      rw [hd] at e98
      rw [if_neg (fun z => hP z.2)]
      simp (maxSteps := 600000) [ac44, ar44, en, R42n, hnf, zl, hib, zl2, e20a, hku, a1, a2, a3, a4, a5, a6, a7, a8, hib0, hib1, hib2, hib3, hib4, hib5, hib6, hib7, z0, z1, z2, z3, z4, z5, z6, z7, e38, e98, ro, rl, hpb, hb, Rsp.sv, Rsp.cells, rsp0, BL_nil, IL_nil, TL_nil]
  · rw [if_neg (fun z => hE z.1)]
    simp (maxSteps := 600000) [ac44, ar44, en, R42n, hnf, zl, hib, zl2, e20a, hku, a1, a2, a3, a4, a5, a6, a7, a8, hib0, hib1, hib2, hib3, hib4, hib5, hib6, hib7, z0, z1, z2, z3, z4, z5, z6, z7, e38, e98, hE, ro, rl, hpb, hb, Rsp.sv, Rsp.cells, rsp0, BL_nil, IL_nil, TL_nil]
end Go.Proofs.Ytflcdbfcipkhkaa

/- Wire: the answer's bytes of a response. -/

set_option linter.unusedSimpArgs false
set_option linter.unusedVariables false
set_option maxHeartbeats 8000000
namespace Go.Proofs.Ytflcdbfcipkhkaa
open Go.Av

theorem rput_rsp (a : Rsp) (ho : a.ok) (hn : a.nms.length < 4611686018427387904) : Pure Try.prog 39 [a.sv] (.tup [.own 1 (bs (putP a)), .sv (.int .i64 (rspE a))]) := by
  have e91 := R38_91 a.nms
  have e84 := R38_87
  have e27 := R38_28
  have e71 := R38_82
  have e93 := R38_88 a.db
  have hR := R38_ok
  have hnf : R38.nofz = false := rfl
  have hm := mm3c a.bts.length a.pas.length a.nms.length 64
  generalize R38 = R at hR e91 e84 e27 e71 e93 hnf
  obtain ⟨o1, o2, o3, o4, o5, o6, o7, o8⟩ := ho
  refine pure_go hR Try.func39 Try.ntmps39 comp39 cres39 (by decide) (by simp) ?_
  simp only [Rsp.sv, Rsp.cells]
  cases h1 : kindP a with
  | true =>
    have hE : rspE a = 22 := if_pos h1
    have hP : putP a = [] := by rw [putP, if_neg (by rw [hE]; decide)]
    rw [hE, hP]
    simp only [kindP, Bool.and_eq_true, decide_eq_true_eq, Bool.not_eq_true', beq_eq_false_iff_ne] at h1
    simp [ac39, ar39, h1.1, h1.2]
  | false =>
  have hkb : (decide (11 < a.kd) && !(a.kd == 255)) = false := h1
  have hkc : 11 < a.kd → a.kd = 255 := fun z => by simpa [kindP, z] using h1
  by_cases h2 : bigP a
  · have hE : rspE a = 5 := by rw [rspE, if_neg (by rw [h1]; decide), if_pos h2]
    have hP : putP a = [] := by rw [putP, if_neg (by rw [hE]; decide)]
    rw [hE, hP]
    unfold bigP at h2
    by_cases m1 : 64 < (a.bts.length : Int)
    · simp [ac39, ar39, hkb, m1]
      exact hkc
    by_cases m2 : 64 < (a.pas.length : Int)
    · simp [ac39, ar39, hkb, m1, m2]
      exact hkc
    have m3 : 64 < (a.nms.length : Int) := by omega
    simp [ac39, ar39, hkb, m1, m2, m3]
    exact hkc
  have h2p := h2
  unfold bigP at h2p
  have m1 : ¬ 64 < (a.bts.length : Int) := by omega
  have m2 : ¬ 64 < (a.pas.length : Int) := by omega
  have m3 : ¬ 64 < (a.nms.length : Int) := by omega
  simp [ac39, ar39, hkb, m1, m2, m3, hnf]
  refine ⟨fun z1 z2 => absurd (hkc z1) z2, fun _ => ?_⟩
  refine awpR_loop (α := Nat) (fun i => i ≤ a.nms.length ∧ a.nms.any isLong = (a.nms.drop i).any isLong) (fun i => { n := 156, sl := [(1, .lptr 1 0), (4, .sv (.int .i64 i))], bx := [(1, prv a)], hp := fun _ => none })
    (fun i => a.nms.length - i) 0 ⟨by omega, by simp⟩ (by simp) ?_
  rintro i ⟨hi, ha⟩
  by_cases h : i < a.nms.length
  · have hlt : (i : Int) < a.nms.length := by omega
    have hw := wrap_succ h hn
    have hg1 := TL_get a.nms h
    have e1 : (TL a.nms)[i]'(by simpa using h) = .str (a.nms.getD i ⟨#[]⟩) := by rw [← hg1, List.getElem?_eq_getElem]; rfl
    have hd : (a.nms.drop i).any isLong = (isLong (a.nms.getD i ⟨#[]⟩) || (a.nms.drop (i + 1)).any isLong) := by
      rw [List.drop_eq_getElem_cons h, List.any_cons, List.getD_eq_getElem?_getD, List.getElem?_eq_getElem h]; rfl
    rw [hd] at ha
    generalize a.nms.getD i ⟨#[]⟩ = x at *
    by_cases q : (255 : Int) < x.size
    · have q2 : isLong x = true := by simp [isLong, q]
      rw [q2, Bool.true_or] at ha
      have hE : rspE a = 5 := by rw [rspE, if_neg (by rw [h1]; decide), if_neg h2, if_pos ha]
      have hP : putP a = [] := by rw [putP, if_neg (by rw [hE]; decide)]
      rw [hE, hP]
      simp [hlt, h, hg1, e1, q]
    · have q2 : isLong x = false := by simp [isLong]; omega
      rw [q2, Bool.false_or] at ha
      simp [hlt, h, hg1, e1, q, hw]
      refine ⟨i + 1, ⟨by omega, ha⟩, by omega, by omega⟩
  obtain rfl : i = a.nms.length := by omega
  rw [List.drop_length] at ha
  have h3 : a.nms.any isLong = false := ha
  have hlt0 : ¬ ((a.nms.length : Nat) : Int) < a.nms.length := by omega
  have hE : rspE a = batsE a.bts := by rw [rspE, if_neg (by rw [h1]; decide), if_neg h2, if_neg (by rw [h3]; decide)]
  have hpp : putP a = if batsE a.bts = 0 then rspL a else [] := by rw [putP, hE]
  rw [hE, hpp]
  clear hE hpp
  have n1 : a.bts.length ≤ 64 := by omega
  have n2 : a.pas.length ≤ 64 := by omega
  have n3 : a.nms.length ≤ 64 := by omega
  have hk : [SV.int .u8 a.kd] = bs [a.kd.toNat] := by simp [bs]; omega
  have l4 := numsB_le (l := hd4 a) (fun n hn => by simp [hd4] at hn; rcases hn with rfl | rfl | rfl | rfl <;> assumption)
  have lf := flagL_le a.db
  have lb := layN_le10 (u := zig a.bts.length) (zig_lt (by omega) (by omega))
  have lp := layN_le10 (u := zig a.pas.length) (zig_lt (by omega) (by omega))
  have ln := layN_le10 (u := zig a.nms.length) (zig_lt (by omega) (by omega))
  have i1 : I64 (a.bts.length : Int) := ⟨by omega, by omega⟩
  have i2 : I64 (a.pas.length : Int) := ⟨by omega, by omega⟩
  have i3 : I64 (a.nms.length : Int) := ⟨by omega, by omega⟩
  have lh1 : (rspH1 a).length ≤ 60 := by
    have : (hd4 a).length = 4 := rfl
    simp only [rspH1, List.length_append, List.length_singleton]; omega
  have lbb := batsB_le a.bts
  have lpp := numsB_le (l := a.pas) o8
  have lh2 : (rspH2 a).length ≤ 600000 := by
    simp only [rspH2, List.length_append]; omega
  have lh3 : (rspH3 a).length ≤ 700000 := by
    simp only [rspH3, List.length_append]; omega
  simp [hlt0]
  have hh : ∀ n ∈ hd4 a, I64 n := fun n hn => by simp [hd4] at hn; rcases hn with rfl | rfl | rfl | rfl <;> assumption
  refine awpR_loop (α := Nat) (fun i => i ≤ 4) (fun i => { n := 156, sl := [(1, .lptr 1 0), (5, .own 1 (bs ([a.kd.toNat] ++ numsB ((hd4 a).take i)))), (6, .own 1 [.int .i64 a.er, .int .i64 a.off, .int .i64 a.nx, .int .i64 a.ge]), (7, .sv (.int .i64 i))], bx := [(1, prv a)], hp := fun _ => none })
    (fun i => 4 - i) 0 (by omega) (by simp [numsB, hk]) ?_
  intro i hi
  have key : ∀ n L, numsB L ++ layN (zig n) = numsB (L ++ [n]) := fun n L => (numsB_snoc L n).symm
  have q1 := layN_le10 (zig_lt o3.1 o3.2)
  have q2 := layN_le10 (zig_lt o4.1 o4.2)
  have q3 := layN_le10 (zig_lt o5.1 o5.2)
  have q4 := layN_le10 (zig_lt o6.1 o6.2)
  have hi' : i = 0 ∨ i = 1 ∨ i = 2 ∨ i = 3 ∨ i = 4 := by omega
  rcases hi' with rfl | rfl | rfl | rfl | rfl
  · simp [hd4, e71, o3, numsB]
    exact ⟨by omega, 1, by omega, by omega, by simp [bs, numsB], by first | omega | decide⟩
  · simp [hd4, e71, o4, numsB]
    exact ⟨by omega, 2, by omega, by omega, by simp [bs, numsB], by first | omega | decide⟩
  · simp [hd4, e71, o5, numsB]
    exact ⟨by omega, 3, by omega, by omega, by simp [bs, numsB], by first | omega | decide⟩
  · simp [hd4, e71, o6, numsB]
    exact ⟨by omega, 4, by omega, by omega, by simp [bs, numsB], by first | omega | decide⟩
  have ht4 : (hd4 a).take 4 = hd4 a := rfl
  simp [ht4, e93, e71, i1]
  have h44 : (hd4 a).length = 4 := rfl
  rw [h44] at l4
  refine ⟨by omega, by omega, ?_⟩
  refine awpR_loop (α := Nat) (fun i => i ≤ a.bts.length ∧ batsE a.bts = batsE (a.bts.drop i)) (fun i => { n := 156, sl := [(1, .lptr 1 0), (5, .own 1 (bs (rspH1 a ++ batsB (a.bts.take i)))), (8, .sv (.int .i64 i))], bx := [(1, prv a)], hp := fun _ => none })
    (fun i => a.bts.length - i) 0 ⟨by omega, by simp⟩ (by simp [rspH1, batsB, bs]) ?_
  rintro i ⟨hi, ha⟩
  by_cases h : i < a.bts.length
  · have hlt : (i : Int) < a.bts.length := by omega
    have hw := @wrap_succ i a.bts.length h (by omega)
    have hg1 := BL_get a.bts h
    have e1 : (BL a.bts)[i]'(by simpa using h) = (a.bts.getD i bat0).sv := by rw [← hg1, List.getElem?_eq_getElem]; rfl
    have hbo : (a.bts.getD i bat0).ok := by rw [List.getD_eq_getElem?_getD, List.getElem?_eq_getElem h]; exact o7 _ (List.getElem_mem h)
    have hs : batsB (a.bts.take (i + 1)) = batsB (a.bts.take i) ++ textB (putB (a.bts.getD i bat0)) := by
      rw [List.take_succ_eq_append_getElem h, batsB_snoc, List.getD_eq_getElem?_getD, List.getElem?_eq_getElem h]; rfl
    have hle := batsB_le (a.bts.take i)
    rw [List.length_take] at hle
    rw [batsE_drop a.bts h] at ha
    generalize a.bts.getD i bat0 = x at *
    have e := e84 x
    have hbx := putB_le8 x
    have ht := textN_sOf (putB_bytes x)
    have e2 := e27 (sOf (putB x))
    rw [ht] at e2
    have z4 : (sOf (putB x)).size ≤ 140737488355000 := by rw [sOf_size]; omega
    have z5 := textB_le hbx
    have b1 := bs_byte (putB x)
    have b2 := bs_str (putB x)
    by_cases q : batE x = 0
    · rw [if_neg (by simp [q])] at ha
      rw [q] at e
      generalize putB x = B at *
      simp [hlt, h, hg1, e1, Bat.sv, Bat.cells, e, hbo, b2, e2, z4, hw]
      refine ⟨⟨b1, by omega⟩, i + 1, ⟨by omega, ha⟩, by omega, ?_, by omega⟩
      rw [hs]
      simp [bs]
    · rw [if_pos q] at ha
      rw [ha, if_neg q]
      generalize batE x = E at *
      generalize putB x = B at *
      simp [hlt, h, hg1, e1, Bat.sv, Bat.cells, e, hbo, q]
  · obtain rfl : i = a.bts.length := by omega
    have hlt : ¬ ((a.bts.length : Nat) : Int) < a.bts.length := by omega
    rw [List.drop_length] at ha
    rw [ha, List.take_length]
    have hb0 : batsE [] = 0 := rfl
    rw [hb0, if_pos rfl]
    have h44 : (hd4 a).length = 4 := rfl
    have hbl := batsB_le a.bts
    simp [hlt, e71, i2]
    refine ⟨by omega, ?_⟩
    refine awpR_loop (α := Nat) (fun i => i ≤ a.pas.length) (fun i => { n := 156, sl := [(1, .lptr 1 0), (5, .own 1 (bs (rspH2 a ++ numsB (a.pas.take i)))), (11, .sv (.int .i64 i))], bx := [(1, prv a)], hp := fun _ => none })
      (fun i => a.pas.length - i) 0 (by omega) (by simp [rspH2, numsB, bs]) ?_
    intro i hi
    by_cases h : i < a.pas.length
    · have hlt : (i : Int) < a.pas.length := by omega
      have hw := @wrap_succ i a.pas.length h (by omega)
      have hg1 := IL_get a.pas h
      have e1 : (IL a.pas)[i]'(by simpa using h) = .int .i64 (a.pas.getD i 0) := by rw [← hg1, List.getElem?_eq_getElem]; rfl
      have hbo : I64 (a.pas.getD i 0) := by rw [List.getD_eq_getElem?_getD, List.getElem?_eq_getElem h]; exact o8 _ (List.getElem_mem h)
      have hs : numsB (a.pas.take (i + 1)) = numsB (a.pas.take i) ++ layN (zig (a.pas.getD i 0)) := by
        rw [List.take_succ_eq_append_getElem h, numsB_snoc, List.getD_eq_getElem?_getD, List.getElem?_eq_getElem h]; rfl
      have hle := numsB_le (l := a.pas.take i) (fun n hn => o8 n (List.mem_of_mem_take hn))
      rw [List.length_take] at hle
      generalize a.pas.getD i 0 = x at *
      have hx := layN_le10 (zig_lt hbo.1 hbo.2)
      have e := e71 x
      simp [hlt, h, hg1, e1, e, hbo, hw]
      refine ⟨by omega, i + 1, by omega, by omega, ?_, by omega⟩
      rw [hs]
      simp [bs]
    · obtain rfl : i = a.pas.length := by omega
      have hlt : ¬ ((a.pas.length : Nat) : Int) < a.pas.length := by omega
      rw [List.take_length]
      simp [hlt, e71, i3]
      refine ⟨by omega, ?_⟩
      refine awpR_loop (α := Nat) (fun i => i ≤ a.nms.length) (fun i => { n := 156, sl := [(1, .lptr 1 0), (5, .own 1 (bs (rspH3 a ++ txtsB (a.nms.take i)))), (12, .sv (.int .i64 i))], bx := [(1, prv a)], hp := fun _ => none })
        (fun i => a.nms.length - i) 0 (by omega) (by simp [rspH3, txtsB, bs]) ?_
      intro i hi
      by_cases h : i < a.nms.length
      · have hlt : (i : Int) < a.nms.length := by omega
        have hw := @wrap_succ i a.nms.length h (by omega)
        have hg1 := TL_get a.nms h
        have e1 : (TL a.nms)[i]'(by simpa using h) = .str (a.nms.getD i ⟨#[]⟩) := by rw [← hg1, List.getElem?_eq_getElem]; rfl
        have hbo : (a.nms.getD i ⟨#[]⟩).size ≤ 255 := by
          rw [List.getD_eq_getElem?_getD, List.getElem?_eq_getElem h]
          have := List.any_eq_false.1 h3 _ (List.getElem_mem h)
          simp only [isLong, decide_eq_true_eq] at this
          simp only [Option.getD_some]
          omega
        have hs : txtsB (a.nms.take (i + 1)) = txtsB (a.nms.take i) ++ textN (a.nms.getD i ⟨#[]⟩) := by
          rw [List.take_succ_eq_append_getElem h, txtsB_snoc, List.getD_eq_getElem?_getD, List.getElem?_eq_getElem h]; rfl
        have hle := txtsB_le (any_take h3 i)
        rw [List.length_take] at hle
        generalize a.nms.getD i ⟨#[]⟩ = x at *
        have hx := textN_le hbo
        have e := e27 x
        have hbo2 : x.size ≤ 140737488355000 := by omega
        simp [hlt, h, hg1, e1, e, hbo2, hw]
        refine ⟨by omega, i + 1, by omega, by omega, ?_, by omega⟩
        rw [hs]
        simp [bs]
      · obtain rfl : i = a.nms.length := by omega
        have hlt : ¬ ((a.nms.length : Nat) : Int) < a.nms.length := by omega
        rw [List.take_length]
        simp [hlt, rspL]
end Go.Proofs.Ytflcdbfcipkhkaa

/- Wire: the answer's GetRequest. -/



set_option linter.unusedSimpArgs false
set_option linter.unusedVariables false
set_option maxHeartbeats 8000000
namespace Go.Proofs.Ytflcdbfcipkhkaa
open Go.Av

abbrev rdv (l : List Nat) (e : Int) : SV := .agg [.sl 1 (bs l), .int .i64 e]
def eRd (p : List Nat × Int) : List SV := [rdv p.1 p.2]
theorem eRd_inj (a b : List Nat × Int) (h : eRd a = eRd b) : a = b := by
  simp [eRd] at h
  exact Prod.ext (bs_inj h.1) h.2
def eRdI (p : (List Nat × Int) × Int) : List SV := [rdv p.1.1 p.1.2, .int .i64 p.2]
theorem eRdI_inj (a b : (List Nat × Int) × Int) (h : eRdI a = eRdI b) : a = b := by
  simp [eRdI] at h
  exact Prod.ext (Prod.ext (bs_inj h.1.1) h.1.2) h.2
noncomputable def R99p (f : FuncId) (l : List SV) : Option (Prop × LV) :=
  match f with
  | 19 => row eRdI (fun p => (Bytes p.1.1 ∧ p.1.1.length < 4611686018427387904, .tup [.sv (rdv (rFixed p.1.1 p.1.2 p.2).2.1 (rFixed p.1.1 p.1.2 p.2).2.2), .sv (.int .u64 (rFixed p.1.1 p.1.2 p.2).1)])) l
  | 17 => row eRd (fun p => (Bytes p.1 ∧ p.1.length < 4611686018427387904, .tup [.sv (rdv (rNum p.1 p.2).2.1 (rNum p.1 p.2).2.2), .sv (.int .i64 (rNum p.1 p.2).1)])) l
  | 21 => row eRdI (fun p => (Bytes p.1.1 ∧ p.1.1.length < 4611686018427387904, .tup [.sv (rdv (rText p.1.1 p.1.2 p.2).2.1 (rText p.1.1 p.1.2 p.2).2.2), .sv (.str (sOf (rText p.1.1 p.1.2 p.2).1))])) l
  | 106 => row (fun l : List Nat => [.sl 1 (bs l)]) (fun l => (Bytes l ∧ l.length < 140737488355328, .tup [.sv (batG l).1.sv, .sv (.int .i64 (batG l).2)])) l
  | _ => none
noncomputable def R99 : Orc := { p := R99p }
theorem R99_ok : R99.ok Try.prog := by
  refine ⟨fun f l c rv h hc => ?_, fun _ _ _ _ _ _ h => (by cases h), fun _ _ _ _ h => (by cases h), fun _ h => (by cases h), fun _ _ _ _ _ _ h => (by cases h), fun _ _ _ _ _ _ _ h => (by cases h)⟩
  change R99p f l = _ at h
  unfold R99p at h
  split at h
  · exact row_ok h hc (fun p hp => reffix p.1.1 p.1.2 p.2 hp.1 hp.2)
  · exact row_ok h hc (fun p hp => refnum p.1 p.2 hp.1 hp.2)
  · exact row_ok h hc (fun p hp => reftext p.1.1 p.1.2 p.2 hp.1 hp.2)
  · exact row_ok h hc (fun l hl => by have := rget_bat l hl.1 hl.2; rw [← batG_batQ] at this; exact this)
  · cases h
theorem R99_19 (l : List Nat) (e w : Int) : R99.p 19 [rdv l e, .int .i64 w] = some (Bytes l ∧ l.length < 4611686018427387904, .tup [.sv (rdv (rFixed l e w).2.1 (rFixed l e w).2.2), .sv (.int .u64 (rFixed l e w).1)]) := row_eq eRdI_inj _ ((l, e), w)
theorem R99_17 (l : List Nat) (e : Int) : R99.p 17 [rdv l e] = some (Bytes l ∧ l.length < 4611686018427387904, .tup [.sv (rdv (rNum l e).2.1 (rNum l e).2.2), .sv (.int .i64 (rNum l e).1)]) := row_eq eRd_inj _ (l, e)
theorem R99_21 (l : List Nat) (e w : Int) : R99.p 21 [rdv l e, .int .i64 w] = some (Bytes l ∧ l.length < 4611686018427387904, .tup [.sv (rdv (rText l e w).2.1 (rText l e w).2.2), .sv (.str (sOf (rText l e w).1))]) := row_eq eRdI_inj _ ((l, e), w)
theorem R99_106 (l : List Nat) : R99.p 106 [.sl 1 (bs l)] = some (Bytes l ∧ l.length < 140737488355328, .tup [.sv (bsv (batG l).1), .sv (.int .i64 (batG l).2)]) := row_eq (enc := fun l : List Nat => [.sl 1 (bs l)]) (fun a b h => by simp at h; exact bs_inj h) _ l
theorem rfield_pure (q : Req) (l : List Nat) (e : Int) (c : Nat) (hc : isLet c) (hb : Bytes l) (hl : l.length < 100000000) :
    Pure Try.prog 99 [rdv l e, q.sv, .int .u8 (c : Int)] (.tup [.sv (rdv (takeQ 1073741824 q l e c).2.1 (takeQ 1073741824 q l e c).2.2), .sv (takeQ 1073741824 q l e c).1.sv]) := by
  have e19 := R99_19 l e
  have e17 := R99_17 l e
  have e21 := R99_21 l e
  have e106 := R99_106
  have hR := R99_ok
  have hl2 : l.length < 4611686018427387904 := by omega
  generalize R99 = R at hR e19 e17 e21 e106
  refine pure_go hR Try.func99 Try.ntmps99 comp99 cres99 (by decide) (by simp) ?_
  rcases hc with rfl | rfl | rfl | rfl | rfl | rfl | rfl | rfl | rfl | rfl | rfl | rfl
  case inr.inr.inr.inr.inr.inr.inr.inr.inr.inr.inr =>
    obtain ⟨t1, t2, t3, t4⟩ := rText_spec hb e 1073741824
    have e1 := e21 1073741824
    have e2 := e106 (rText l e 1073741824).1
    have e3 := bytesV_sOf t1
    have e4 := sOf_size (rText l e 1073741824).1
    have e5 : (rText l e 1073741824).1.length < 140737488355328 := by omega
    have e6 : ((rText l e 1073741824).1.length : Int) ≤ 140737488355328 := by omega
    have e7 : (rText l e 1073741824).1.length ≤ 140737488355328 := by omega
    simp [ac99, ar99, Req.sv, Req.cells, takeQ, wQ, e1, e2, e3, e4, e5, e6, e7, hb, hl2, t1]
  all_goals
    simp [ac99, ar99, Req.sv, Req.cells, takeQ, wQ, e17, e19, e21, hb, hl2]
end Go.Proofs.Ytflcdbfcipkhkaa

/- Wire: the answer's GetResponse. -/



set_option linter.unusedSimpArgs false
set_option linter.unusedVariables false
set_option maxHeartbeats 8000000
namespace Go.Proofs.Ytflcdbfcipkhkaa
open Go.Av

/-- Steps while there are any to be done, and nothing was wrong. -/
def whl {α : Type} (stp : List Nat → Int → α × List Nat × Int) (n : Int) : Nat → Nat → List α → List Nat → Int → List α × List Nat × Int
  | 0, _, acc, l, e => (acc, l, e)
  | f + 1, i, acc, l, e => if (i : Int) < n ∧ i ≤ 64 ∧ e = 0 then whl stp n f (i + 1) (acc ++ [(stp l e).1]) (stp l e).2.1 (stp l e).2.2 else (acc, l, e)
def eachW {α : Type} (stp : List Nat → Int → α × List Nat × Int) (l : List Nat) (e : Int) : List α × List Nat × Int := whl stp (rNum l e).1 66 0 [] (rNum l e).2.1 (rNum l e).2.2
theorem whl_kp {α : Type} {stp : List Nat → Int → α × List Nat × Int} (k : Kp stp) (n : Int) {p : α → Prop} (hp : ∀ l e, p (stp l e).1) : ∀ (f i : Nat) (acc : List α) (l : List Nat) (e : Int), Bytes l → (∀ x ∈ acc, p x) →
    Bytes (whl stp n f i acc l e).2.1 ∧ (whl stp n f i acc l e).2.1.length ≤ l.length ∧ (whl stp n f i acc l e).1.length ≤ acc.length + f ∧ ∀ x ∈ (whl stp n f i acc l e).1, p x
  | 0, i, acc, l, e, h, ha => ⟨h, Nat.le_refl _, by simp [whl], ha⟩
  | f + 1, i, acc, l, e, h, ha => by
    rw [whl]
    split
    · obtain ⟨k1, k2⟩ := k l e h
      obtain ⟨j1, j2, j3, j4⟩ := whl_kp k n hp f (i + 1) (acc ++ [(stp l e).1]) (stp l e).2.1 (stp l e).2.2 k1 (fun x hx => by
        rcases List.mem_append.1 hx with hx | hx
        · exact ha x hx
        · simp at hx; subst hx; exact hp _ _)
      refine ⟨j1, Nat.le_trans j2 k2, ?_, j4⟩
      simp at j3
      omega
    · exact ⟨h, Nat.le_refl _, by simp, ha⟩
theorem whl_go {α : Type} (stp : List Nat → Int → α × List Nat × Int) (n : Int) (i : Nat) (acc : List α) (l : List Nat) (e : Int) (h : ((decide ((i : Int) < n) && decide ((i : Int) ≤ 64)) && (e == 0)) = true) :
    whl stp n (66 - i) i acc l e = whl stp n (66 - (i + 1)) (i + 1) (acc ++ [(stp l e).1]) (stp l e).2.1 (stp l e).2.2 ∧ i ≤ 64 := by
  simp only [Bool.and_eq_true, decide_eq_true_eq, beq_iff_eq] at h
  obtain ⟨⟨h1, h2⟩, h3⟩ := h
  have : 66 - i = (66 - (i + 1)) + 1 := by omega
  refine ⟨?_, by omega⟩
  rw [this, whl, if_pos ⟨h1, by omega, h3⟩]
theorem whl_stop {α : Type} (stp : List Nat → Int → α × List Nat × Int) (n : Int) (i : Nat) (acc : List α) (l : List Nat) (e : Int) (h : ((decide ((i : Int) < n) && decide ((i : Int) ≤ 64)) && (e == 0)) = false) :
    whl stp n (66 - i) i acc l e = (acc, l, e) := by
  cases q : 66 - i with
  | zero => rfl
  | succ f =>
    rw [whl, if_neg]
    rintro ⟨h1, h2, h3⟩
    have h2' : (i : Int) ≤ 64 := by omega
    simp [h1, h2', h3] at h
theorem eachW_kp {α : Type} {stp : List Nat → Int → α × List Nat × Int} (k : Kp stp) {p : α → Prop} (hp : ∀ l e, p (stp l e).1) {l : List Nat} (e : Int) (h : Bytes l) :
    Bytes (eachW stp l e).2.1 ∧ (eachW stp l e).2.1.length ≤ l.length ∧ (eachW stp l e).1.length ≤ 66 ∧ ∀ x ∈ (eachW stp l e).1, p x := by
  obtain ⟨j1, j2, j3, j4⟩ := whl_kp k (rNum l e).1 hp 66 0 [] (rNum l e).2.1 (rNum l e).2.2 (rNum_bytes h e) (fun x hx => by cases hx)
  exact ⟨j1, Nat.le_trans j2 (rNum_le l e), by simpa [eachW] using j3, j4⟩
/-- A response off bytes, by the answer. -/
def rdW (l : List Nat) : Rsp :=
  let f1 := rFixed l 0 1
  let n1 := rNum f1.2.1 f1.2.2
  let n2 := rNum n1.2.1 n1.2.2
  let n3 := rNum n2.2.1 n2.2.2
  let n4 := rNum n3.2.1 n3.2.2
  let f2 := rFixed n4.2.1 n4.2.2 1
  let b := eachW (stB 1073741824) f2.2.1 f2.2.2
  let i := eachW rNum b.2.1 b.2.2
  let t := eachW stT i.2.1 i.2.2
  ⟨(f1.1 : Nat), n1.1, n2.1, n3.1, (f2.1 : Int) == 1, n4.1, b.1, i.1, t.1⟩
def rdOkW (a : Rsp) : Prop := a.ok ∧ (∀ b ∈ a.bts, b.rs.length ≤ 32) ∧ a.bts.length ≤ 66 ∧ a.pas.length ≤ 66 ∧ a.nms.length ≤ 66
noncomputable def R45p (f : FuncId) (l : List SV) : Option (Prop × LV) :=
  match f with
  | 39 => row eP (fun a => (a.ok ∧ a.nms.length < 4611686018427387904, .tup [.own 1 (bs (putP a)), .sv (.int .i64 (rspE a))])) l
  | _ => R99p f l
noncomputable def R45 : Orc := { p := R45p }
theorem R45_ok : R45.ok Try.prog := by
  refine ⟨fun f l c rv h hc => ?_, fun _ _ _ _ _ _ h => (by cases h), fun _ _ _ _ h => (by cases h), fun _ h => (by cases h), fun _ _ _ _ _ _ h => (by cases h), fun _ _ _ _ _ _ _ h => (by cases h)⟩
  change R45p f l = _ at h
  unfold R45p at h
  split at h
  · exact row_ok h hc (fun a ha => rput_rsp a ha.1 ha.2)
  · exact R99_ok.p _ _ _ _ h hc
theorem R45_39 (a : Rsp) : R45.p 39 [psv a] = some (a.ok ∧ a.nms.length < 4611686018427387904, .tup [.own 1 (bs (putP a)), .sv (.int .i64 (rspE a))]) := row_eq eP_inj _ a
theorem R45_19 (l : List Nat) (e w : Int) : R45.p 19 [rdv l e, .int .i64 w] = some (Bytes l ∧ l.length < 4611686018427387904, .tup [.sv (rdv (rFixed l e w).2.1 (rFixed l e w).2.2), .sv (.int .u64 (rFixed l e w).1)]) := row_eq eRdI_inj _ ((l, e), w)
theorem R45_17 (l : List Nat) (e : Int) : R45.p 17 [rdv l e] = some (Bytes l ∧ l.length < 4611686018427387904, .tup [.sv (rdv (rNum l e).2.1 (rNum l e).2.2), .sv (.int .i64 (rNum l e).1)]) := row_eq eRd_inj _ (l, e)
theorem R45_21 (l : List Nat) (e w : Int) : R45.p 21 [rdv l e, .int .i64 w] = some (Bytes l ∧ l.length < 4611686018427387904, .tup [.sv (rdv (rText l e w).2.1 (rText l e w).2.2), .sv (.str (sOf (rText l e w).1))]) := row_eq eRdI_inj _ ((l, e), w)
theorem R45_106 (l : List Nat) : R45.p 106 [.sl 1 (bs l)] = some (Bytes l ∧ l.length < 140737488355328, .tup [.sv (bsv (batG l).1), .sv (.int .i64 (batG l).2)]) := row_eq (enc := fun l : List Nat => [.sl 1 (bs l)]) (fun a b h => by simp at h; exact bs_inj h) _ l
theorem rget_rsp (l : List Nat) (hb : Bytes l) (hl : l.length < 100000000) : Pure Try.prog 45 [.sl 1 (bs l)] (.tup [.sv (finP l (rdW l)).1.sv, .sv (.int .i64 (finP l (rdW l)).2)]) := by
  have e39 := R45_39 (rdW l)
  have e19a := R45_19 l 0 1
  have e17 := R45_17
  have e19 := R45_19
  have e21 := R45_21
  have e106 := R45_106
  have hnf : R45.nofz = false := rfl
  have hR := R45_ok
  generalize R45 = R at hR e39 e19a e17 e19 e21 e106 hnf
  have hrd : rdW l = rdW l := rfl
  conv at hrd => rhs; unfold rdW
  simp only at hrd
  have zl2 : l.length < 4611686018427387904 := by omega
  have hb0 := rFixed_bytes hb 0 1
  have hl0 := rFixed_le l 0 1
  have hku : IntKind.u8.wrap (((rFixed l 0 1).1 : Nat) : Int) = ((rFixed l 0 1).1 : Nat) := by
    have := kdOfL_in hb
    rw [IntKind.wrap_u8]; unfold kdOfL at this; omega
  have hk1 : 0 ≤ (((rFixed l 0 1).1 : Nat) : Int) ∧ (((rFixed l 0 1).1 : Nat) : Int) < 256 := kdOfL_in hb
  generalize rFixed l 0 1 = F at *
  obtain ⟨k, l0, e0⟩ := F
  simp only at *
  have a1 := e17 l0 e0
  have b1 := rNum_bytes hb0 e0
  have c1 := rNum_le l0 e0
  have i1 := rNum_in l0 e0
  generalize rNum l0 e0 = N1 at *
  obtain ⟨n1, l1, e1⟩ := N1
  simp only at *
  have a2 := e17 l1 e1
  have b2 := rNum_bytes b1 e1
  have c2 := rNum_le l1 e1
  have i2 := rNum_in l1 e1
  generalize rNum l1 e1 = N2 at *
  obtain ⟨n2, l2, e2⟩ := N2
  simp only at *
  have a3 := e17 l2 e2
  have b3 := rNum_bytes b2 e2
  have c3 := rNum_le l2 e2
  have i3 := rNum_in l2 e2
  generalize rNum l2 e2 = N3 at *
  obtain ⟨n3, l3, e3⟩ := N3
  simp only at *
  have a4 := e17 l3 e3
  have b4 := rNum_bytes b3 e3
  have c4 := rNum_le l3 e3
  have i4 := rNum_in l3 e3
  generalize rNum l3 e3 = N4 at *
  obtain ⟨n4, l4, e4⟩ := N4
  simp only at *
  have a5 := e19 l4 e4 1
  have b5 := rFixed_bytes b4 e4 1
  have c5 := rFixed_le l4 e4 1
  generalize rFixed l4 e4 1 = F2 at *
  obtain ⟨fl, l5, e5⟩ := F2
  simp only at *
  obtain ⟨B1, B2, B3, B4⟩ := eachW_kp (kpB 1073741824) (p := fun x : Bat => x.ok ∧ x.rs.length ≤ 32) (fun l e => batG_ok _) e5 b5
  have a6 := e17 l5 e5
  have b6 := rNum_bytes b5 e5
  have c6 := rNum_le l5 e5
  have hX1 : eachW (stB 1073741824) l5 e5 = whl (stB 1073741824) (rNum l5 e5).1 66 0 [] (rNum l5 e5).2.1 (rNum l5 e5).2.2 := rfl
  generalize eachW (stB 1073741824) l5 e5 = X1 at *
  generalize rNum l5 e5 = M1 at *
  obtain ⟨m1, k1, f1⟩ := M1
  obtain ⟨x1, l6, e6⟩ := X1
  simp only at *
  obtain ⟨I1, I2, I3, I4⟩ := eachW_kp kpN (p := fun n : Int => I64 n) (fun l e => rNum_in l e) e6 B1
  have a7 := e17 l6 e6
  have b7 := rNum_bytes B1 e6
  have c7 := rNum_le l6 e6
  have hX2 : eachW rNum l6 e6 = whl rNum (rNum l6 e6).1 66 0 [] (rNum l6 e6).2.1 (rNum l6 e6).2.2 := rfl
  generalize eachW rNum l6 e6 = X2 at *
  generalize rNum l6 e6 = M2 at *
  obtain ⟨m2, k2, f2⟩ := M2
  obtain ⟨x2, l7, e7⟩ := X2
  simp only at *
  obtain ⟨T1, T2, T3, T4⟩ := eachW_kp kpT (p := fun _ => True) (fun l e => trivial) e7 I1
  have a8 := e17 l7 e7
  have b8 := rNum_bytes I1 e7
  have c8 := rNum_le l7 e7
  have hX3 : eachW stT l7 e7 = whl stT (rNum l7 e7).1 66 0 [] (rNum l7 e7).2.1 (rNum l7 e7).2.2 := rfl
  generalize eachW stT l7 e7 = X3 at *
  generalize rNum l7 e7 = M3 at *
  obtain ⟨m3, k3, f3⟩ := M3
  obtain ⟨x3, l8, e8⟩ := X3
  simp only at *
  have z0 : l0.length < 4611686018427387904 := by omega
  have z1 : l1.length < 4611686018427387904 := by omega
  have z2 : l2.length < 4611686018427387904 := by omega
  have z3 : l3.length < 4611686018427387904 := by omega
  have z4 : l4.length < 4611686018427387904 := by omega
  have z5 : l5.length < 4611686018427387904 := by omega
  have z6 : l6.length < 4611686018427387904 := by omega
  have z7 : l7.length < 4611686018427387904 := by omega
  have ro : (rdW l).ok := by
    rw [hrd]
    exact ⟨hk1.1, hk1.2, i1, i2, i3, i4, fun b hb => (B4 b hb).1, I4⟩
  have rl : (rdW l).nms.length < 4611686018427387904 := by rw [hrd]; simp only; omega
  have hpb := putP_bytes ro
  have hsb := bs_str (putP (rdW l))
  have hsl := bs_str l
  have hbb1 := bs_byte (putP (rdW l))
  have hbb2 := bs_byte l
  have hse := sOf_eq hpb hb
  unfold finP
  generalize rdW l = A at *
  subst hrd
  simp only [psv] at e39
  generalize hEE : rspE _ = E at *
  generalize hBB : putP _ = BB at *
  refine pure_go hR Try.func45 Try.ntmps45 comp45 cres45 (by decide) (by simp) ?_
  simp (maxSteps := 600000) [ac45, ar45, hnf, hb, zl2, e19a, hku, a1, a2, a3, a4, a5, a6, hb0, b1, b2, b3, b4, b5, z0, z1, z2, z3, z4, z5]
  refine awpR_loop (α := Nat × List Bat × List Nat × Int) (fun X => X.1 ≤ 65 ∧ whl (stB 1073741824) m1 (66 - X.1) X.1 X.2.1 X.2.2.1 X.2.2.2 = (x1, l6, e6) ∧ Bytes X.2.2.1 ∧ X.2.2.1.length ≤ l.length ∧ X.2.1.length = X.1)
    (fun X => { n := 172, sl := [(0, .sv (.sl 1 (bs l))), (2, .lptr 2 0), (4, .lptr 4 0), (6, .lptr 6 0), (8, .sv (.int .i64 m1)), (11, .sv (.int .i64 X.1))], bx := [(4, rcv X.2.2.1 X.2.2.2), (6, [.sv (.int .u8 k), .sv (.int .i64 n1), .sv (.int .i64 n2), .sv (.int .i64 n3), .sv (.bool ((fl : Int) == 1)), .sv (.int .i64 n4), .own 6 (BL X.2.1), .sv .nils, .sv .nils]), (2, prv rsp0)], hp := fun _ => none })
    (fun X => 66 - X.1) (0, [], k1, f1) ⟨by simp, hX1.symm, b6, by simp only; omega, rfl⟩ (by simp [rsp0, BL_nil, IL_nil, TL_nil]) ?_
  rintro ⟨i, acc, la, ea⟩ ⟨hi, hw1, hby, hlen, hal⟩
  simp only at hi hw1 hby hlen hal
  cases hc : ((decide ((i : Int) < m1) && decide ((i : Int) ≤ 64)) && (ea == 0)) with
  | true =>
    have hc2 := hc
    rw [Bool.and_assoc] at hc2
    obtain ⟨hg, hi64⟩ := whl_go (stB 1073741824) m1 i acc la ea hc
    rw [hg] at hw1
    have hw := @wrap_succ i 100 (by omega) (by omega)
    obtain ⟨t1, t2, t3, t4⟩ := rText_spec hby ea 1073741824
    have s1 := e21 la ea 1073741824
    have s2 := e106 (rText la ea 1073741824).1
    have s3 := bytesV_sOf t1
    have s4 := sOf_size (rText la ea 1073741824).1
    have s5 : (rText la ea 1073741824).1.length < 140737488355328 := by omega
    have s6 : ((rText la ea 1073741824).1.length : Int) ≤ 140737488355328 := by omega
    have s7 : (rText la ea 1073741824).1.length ≤ 140737488355328 := by omega
    have zla : la.length < 4611686018427387904 := by omega
    have hst : stB 1073741824 la ea = ((batG (rText la ea 1073741824).1).1, (rText la ea 1073741824).2) := rfl
    rw [hst] at hw1
    simp only at hw1
    have h64 : acc.length * 64 + 64 ≤ 140737488355328 := by omega
    simp [hc, hc2, s1, s2, s3, s4, s5, s6, s7, hby, zla, t1, hw]
    refine ⟨by omega, i + 1, acc ++ [(batG (rText la ea 1073741824).1).1], _, _, ⟨by omega, hw1, t2, by omega, by simp [hal]⟩, by omega, by omega, ⟨rfl, rfl⟩, ?_⟩
    simp [BL, Bat.sv, Bat.cells]
  | false =>
    have hc2 := hc
    rw [Bool.and_assoc] at hc2
    have hg := whl_stop (stB 1073741824) m1 i acc la ea hc
    rw [hg] at hw1
    obtain ⟨rfl, rfl, rfl⟩ : x1 = acc ∧ l6 = la ∧ e6 = ea := by
      simp only [Prod.mk.injEq] at hw1
      exact ⟨hw1.1.symm, hw1.2.1.symm, hw1.2.2.symm⟩
    simp [hc, hc2, a7, B1, z6]
    clear hc hc2 hg hw1 hi
    refine awpR_loop (α := Nat × List Int × List Nat × Int) (fun X => X.1 ≤ 65 ∧ whl rNum m2 (66 - X.1) X.1 X.2.1 X.2.2.1 X.2.2.2 = (x2, l7, e7) ∧ Bytes X.2.2.1 ∧ X.2.2.1.length ≤ l.length ∧ X.2.1.length = X.1)
      (fun X => { n := 172, sl := [(0, .sv (.sl 1 (bs l))), (2, .lptr 2 0), (4, .lptr 4 0), (6, .lptr 6 0), (8, .sv (.int .i64 m2)), (14, .sv (.int .i64 X.1))], bx := [(4, rcv X.2.2.1 X.2.2.2), (6, [.sv (.int .u8 k), .sv (.int .i64 n1), .sv (.int .i64 n2), .sv (.int .i64 n3), .sv (.bool ((fl : Int) == 1)), .sv (.int .i64 n4), .sv (.sl 6 (BL x1)), .own 1 (IL X.2.1), .sv .nils]), (2, prv rsp0)], hp := fun _ => none })
      (fun X => 66 - X.1) (0, [], k2, f2) ⟨by simp, hX2.symm, b7, by simp only; omega, rfl⟩ (by simp [rsp0, BL_nil, IL_nil, TL_nil]) ?_
    rintro ⟨i, acc, la, ea⟩ ⟨hi, hw1, hby, hlen, hal⟩
    simp only at hi hw1 hby hlen hal
    cases hc : ((decide ((i : Int) < m2) && decide ((i : Int) ≤ 64)) && (ea == 0)) with
    | true =>
      have hc2 := hc
      rw [Bool.and_assoc] at hc2
      obtain ⟨hg, hi64⟩ := whl_go rNum m2 i acc la ea hc
      rw [hg] at hw1
      have hw := @wrap_succ i 100 (by omega) (by omega)
      have t2 := rNum_bytes hby ea
      have t4 := rNum_le la ea
      have s1 := e17 la ea
      have zla : la.length < 4611686018427387904 := by omega
      simp [hc, hc2, s1, hby, zla, hw]
      refine ⟨by omega, i + 1, acc ++ [(rNum la ea).1], _, _, ⟨by omega, hw1, t2, by omega, by simp [hal]⟩, by omega, by omega, ⟨rfl, rfl⟩, ?_⟩
      simp [IL]
    | false =>
      have hc2 := hc
      rw [Bool.and_assoc] at hc2
      have hg := whl_stop rNum m2 i acc la ea hc
      rw [hg] at hw1
      obtain ⟨rfl, rfl, rfl⟩ : x2 = acc ∧ l7 = la ∧ e7 = ea := by
        simp only [Prod.mk.injEq] at hw1
        exact ⟨hw1.1.symm, hw1.2.1.symm, hw1.2.2.symm⟩
      simp [hc, hc2, a8, I1, z7]
      clear hc hc2 hg hw1 hi
      refine awpR_loop (α := Nat × List ByteArray × List Nat × Int) (fun X => X.1 ≤ 65 ∧ whl stT m3 (66 - X.1) X.1 X.2.1 X.2.2.1 X.2.2.2 = (x3, l8, e8) ∧ Bytes X.2.2.1 ∧ X.2.2.1.length ≤ l.length ∧ X.2.1.length = X.1)
        (fun X => { n := 172, sl := [(0, .sv (.sl 1 (bs l))), (2, .lptr 2 0), (4, .lptr 4 0), (6, .lptr 6 0), (8, .sv (.int .i64 m3)), (15, .sv (.int .i64 X.1))], bx := [(4, rcv X.2.2.1 X.2.2.2), (6, [.sv (.int .u8 k), .sv (.int .i64 n1), .sv (.int .i64 n2), .sv (.int .i64 n3), .sv (.bool ((fl : Int) == 1)), .sv (.int .i64 n4), .sv (.sl 6 (BL x1)), .sv (.sl 1 (IL x2)), .own 1 (TL X.2.1)]), (2, prv rsp0)], hp := fun _ => none })
        (fun X => 66 - X.1) (0, [], k3, f3) ⟨by simp, hX3.symm, b8, by simp only; omega, rfl⟩ (by simp [rsp0, BL_nil, IL_nil, TL_nil]) ?_
      rintro ⟨i, acc, la, ea⟩ ⟨hi, hw1, hby, hlen, hal⟩
      simp only at hi hw1 hby hlen hal
      cases hc : ((decide ((i : Int) < m3) && decide ((i : Int) ≤ 64)) && (ea == 0)) with
      | true =>
        have hc2 := hc
        rw [Bool.and_assoc] at hc2
        obtain ⟨hg, hi64⟩ := whl_go stT m3 i acc la ea hc
        rw [hg] at hw1
        have hw := @wrap_succ i 100 (by omega) (by omega)
        obtain ⟨t1, t2, t3, t4⟩ := rText_spec hby ea 255
        have s1 := e21 la ea 255
        have zla : la.length < 4611686018427387904 := by omega
        have hst : stT la ea = (sOf (rText la ea 255).1, (rText la ea 255).2) := rfl
        rw [hst] at hw1
        simp only at hw1
        simp [hc, hc2, s1, hby, zla, hw]
        refine ⟨by omega, i + 1, acc ++ [sOf (rText la ea 255).1], _, _, ⟨by omega, hw1, t2, by omega, by simp [hal]⟩, by omega, by omega, ⟨rfl, rfl⟩, ?_⟩
        simp [TL]
      | false =>
        have hc2 := hc
        rw [Bool.and_assoc] at hc2
        have hg := whl_stop stT m3 i acc la ea hc
        rw [hg] at hw1
        obtain ⟨rfl, rfl, rfl⟩ : x3 = acc ∧ l8 = la ∧ e8 = ea := by
          simp only [Prod.mk.injEq] at hw1
          exact ⟨hw1.1.symm, hw1.2.1.symm, hw1.2.2.symm⟩
        by_cases hE : E = 0
        · rw [hE] at e39
          by_cases hP : BB = l
          · rw [if_pos ⟨hE, hP⟩]
            subst hP
            simp [hc, hc2, e39, ro, rl, hsb, hsl, Rsp.sv, Rsp.cells]
            try exact hbb1
            try exact ⟨hbb1, hbb2⟩
          · rw [if_neg (fun z => hP z.2)]
            have hne : ((sOf BB).toList == (sOf l).toList) = false := by rw [hse]; simp [hP]
            simp [hc, hc2, e39, ro, rl, hsb, hsl, hne, Rsp.sv, Rsp.cells, rsp0, BL_nil, IL_nil, TL_nil]
            try exact ⟨hbb1, hbb2⟩
        · rw [if_neg (fun z => hE z.1)]
          simp [hc, hc2, e39, hE, ro, rl, hsb, hsl, Rsp.sv, Rsp.cells, rsp0, BL_nil, IL_nil, TL_nil]
end Go.Proofs.Ytflcdbfcipkhkaa
