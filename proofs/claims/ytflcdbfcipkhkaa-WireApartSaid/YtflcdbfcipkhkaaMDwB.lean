import Derived.Test.YtflcdbfcipkhkaaDwA
import Derived.Test.YtflcdbfcipkhkaaMDbG
import Derived.Laws.RangeString

set_option linter.unusedVariables false
set_option linter.unusedSimpArgs false

/- Wire: requests; what a kind uses. -/


set_option linter.unusedSimpArgs false
set_option linter.unusedVariables false
set_option maxHeartbeats 4000000
namespace Go.Proofs.Ytflcdbfcipkhkaa
open Go.Av

/-- A request. -/
structure Req where
  kd : Int
  tp : ByteArray
  ix : Int
  pa : Int
  co : Bool
  fl : Bool
  off : Int
  mo : Int
  ti : Int
  gr : ByteArray
  me : ByteArray
  ge : Int
  bt : Bat
def Req.cells (q : Req) : List SV := [.int .u8 q.kd, .str q.tp, .int .i64 q.ix, .int .i64 q.pa, .bool q.co, .bool q.fl, .int .i64 q.off, .int .i64 q.mo, .int .i64 q.ti, .str q.gr, .str q.me, .int .i64 q.ge,
  .int .i64 q.bt.ba, .int .i64 q.bt.ct, .int .i64 q.bt.pr, .int .i64 q.bt.ep, .int .i64 q.bt.sq, .sl 6 (RL q.bt.rs)]
def Req.sv (q : Req) : SV := .agg q.cells
abbrev qsv (q : Req) : SV := .agg [.int .u8 q.kd, .str q.tp, .int .i64 q.ix, .int .i64 q.pa, .bool q.co, .bool q.fl, .int .i64 q.off, .int .i64 q.mo, .int .i64 q.ti, .str q.gr, .str q.me, .int .i64 q.ge,
  .int .i64 q.bt.ba, .int .i64 q.bt.ct, .int .i64 q.bt.pr, .int .i64 q.bt.ep, .int .i64 q.bt.sq, .sl 6 (RL q.bt.rs)]
theorem Bat.ext' {a b : Bat} (h1 : a.ba = b.ba) (h2 : a.ct = b.ct) (h3 : a.pr = b.pr) (h4 : a.ep = b.ep) (h5 : a.sq = b.sq) (h6 : a.rs = b.rs) : a = b := by
  cases a; cases b; simp_all
theorem Req.sv_inj (a b : Req) (h : a.sv = b.sv) : a = b := by
  obtain ⟨a1, a2, a3, a4, a5, a6, a7, a8, a9, a10, a11, a12, ⟨c1, c2, c3, c4, c5, c6⟩⟩ := a
  obtain ⟨b1, b2, b3, b4, b5, b6, b7, b8, b9, b10, b11, b12, ⟨d1, d2, d3, d4, d5, d6⟩⟩ := b
  simp only [Req.sv, Req.cells, SV.agg.injEq, List.cons.injEq, SV.int.injEq, SV.str.injEq, SV.bool.injEq, SV.sl.injEq, true_and, and_true] at h
  obtain ⟨rfl, rfl, rfl, rfl, rfl, rfl, rfl, rfl, rfl, rfl, rfl, rfl, rfl, rfl, rfl, rfl, rfl, h⟩ := h
  have : c6 = d6 := map_inj (fun x y e => by
    obtain ⟨x1, x2, x3, x4, x5, x6⟩ := x
    obtain ⟨y1, y2, y3, y4, y5, y6⟩ := y
    simpa [Rec.sv, Rec.cells] using e) _ _ h
  rw [this]

/-- A nil slice within a struct as an empty one. -/
def nrc : SV → SV
  | .nils => .sl 6 []
  | c => c
def nrm : SV → SV
  | .agg l => .agg (l.map nrc)
  | v => v
theorem nrc_rep {mu : Mem} {x : SV} {v : Value} (h : Rep mu x v) : Rep mu (nrc x) v := by
  cases x <;> try exact h
  rw [h.inv_nils]
  exact .slnil 6
theorem nrm_rep {mu : Mem} {x : SV} {v : Value} (h : Rep mu x v) : Rep mu (nrm x) v := by
  cases x <;> try exact h
  rename_i l
  cases h with
  | agg cs vs h1 h2 =>
    refine .agg _ vs (by simpa using h1) (fun j hj => ?_)
    have hj' : j < l.length := by simpa using hj
    have e : (l.map nrc).getD j .undef = nrc (l.getD j .undef) := by simp [List.getD_eq_getElem?_getD, hj']
    rw [e]
    exact nrc_rep (h2 j hj')
theorem pure_nrm {P : Program} {f : FuncId} {rv : LV} {l : List SV} (p : Pure P f (l.map nrm) rv) : Pure P f l rv := fun mu w vs hm hr =>
  p mu w vs hm ⟨by simpa using hr.1, fun j hj => by
    have hj' : j < l.length := by simpa using hj
    have e : (l.map nrm).getD j .undef = nrm (l.getD j .undef) := by simp [List.getD_eq_getElem?_getD, hj']
    rw [e]
    exact nrm_rep (hr.2 j hj')⟩
noncomputable def rowN {α : Type} (enc : α → List SV) (F : α → Prop × LV) (l : List SV) : Option (Prop × LV) := row enc F (l.map nrm)
theorem rowN_ok {P : Program} {α : Type} {enc : α → List SV} {F : α → Prop × LV} {f : FuncId} {l : List SV} {c : Prop} {rv : LV} (h : rowN enc F l = some (c, rv)) (hc : c) (hp : ∀ a, (F a).1 → Pure P f (enc a) (F a).2) : Pure P f l rv :=
  pure_nrm (row_ok h hc hp)
theorem rowN_eq {α : Type} {enc : α → List SV} (hinj : ∀ a b, enc a = enc b → a = b) (F : α → Prop × LV) (a : α) {l : List SV} (h : l.map nrm = enc a) : rowN enc F l = some (F a) := by
  unfold rowN
  rw [h]
  exact row_eq hinj F a

/-- The letters that a kind uses. -/
def usesN (k : Int) : List Nat :=
  if k = 0 then [116, 112, 99] else if k = 1 then [116] else if k = 2 then [116] else if k = 3 then [116, 105, 102, 98] else if k = 4 then [116, 105, 111, 109] else if k = 5 then [116, 105, 119]
  else if k = 6 then [103, 107] else if k = 7 then [116, 103, 107, 110] else if k = 8 then [103, 107, 110] else if k = 9 then [103, 107] else if k = 10 then [116, 105, 111, 103, 107, 110] else if k = 11 then [116, 105, 103] else []
def usesS (k : Int) : ByteArray := sOf (usesN k)
theorem kind_cases (k : Int) (h : 0 ≤ k) : k = 0 ∨ k = 1 ∨ k = 2 ∨ k = 3 ∨ k = 4 ∨ k = 5 ∨ k = 6 ∨ k = 7 ∨ k = 8 ∨ k = 9 ∨ k = 10 ∨ k = 11 ∨ 12 ≤ k := by omega
theorem uses_big {k : Int} (h : 12 ≤ k) : usesS k = ByteArray.mk #[] := by
  unfold usesS usesN
  repeat' (rw [if_neg (by omega)])
  rfl
theorem uses_pure (k : Int) (h0 : 0 ≤ k) (h8 : k < 256) : Pure Try.prog 35 [.int .u8 k] (.sv (.str (usesS k))) := by
  refine pure_go R0_ok Try.func35 Try.ntmps35 comp35 cres35 (by decide) (by simp) ?_
  have hw : IntKind.i64.wrap k = k := by rw [IntKind.wrap_i64]; omega
  rcases kind_cases k h0 with rfl | rfl | rfl | rfl | rfl | rfl | rfl | rfl | rfl | rfl | rfl | rfl | h
  case inr.inr.inr.inr.inr.inr.inr.inr.inr.inr.inr.inr =>
    simp [ac35, ar35, R0, hw, h, uses_big h]
  all_goals (simp [ac35, ar35, R0, hw]; rfl)
theorem ruses_pure (k : Int) (h0 : 0 ≤ k) : Pure Try.prog 36 [.int .u8 k] (.sv (.str (usesS k))) := by
  refine pure_go R0_ok Try.func36 Try.ntmps36 comp36 cres36 (by decide) (by simp) ?_
  rcases kind_cases k h0 with rfl | rfl | rfl | rfl | rfl | rfl | rfl | rfl | rfl | rfl | rfl | rfl | h
  case inr.inr.inr.inr.inr.inr.inr.inr.inr.inr.inr.inr =>
    have n0 : k ≠ 0 := by omega
    have n1 : k ≠ 1 := by omega
    have n2 : k ≠ 2 := by omega
    have n3 : k ≠ 3 := by omega
    have n4 : k ≠ 4 := by omega
    have n5 : k ≠ 5 := by omega
    have n6 : k ≠ 6 := by omega
    have n7 : k ≠ 7 := by omega
    have n8 : k ≠ 8 := by omega
    have n9 : k ≠ 9 := by omega
    have n10 : k ≠ 10 := by omega
    have n11 : k ≠ 11 := by omega
    simp [ac36, ar36, R0, n0, n1, n2, n3, n4, n5, n6, n7, n8, n9, n10, n11, uses_big h]
  all_goals (simp [ac36, ar36, R0]; rfl)
def flagL (b : Bool) : List Nat := if b = true then [1] else [0]
theorem flag_pure (b : Bool) : Pure Try.prog 93 [.bool b] (.own 1 (bs (flagL b))) := by
  refine pure_go R0_ok Try.func93 Try.ntmps93 comp93 cres93 (by decide) (by simp) ?_
  cases b <;> simp [ac93, ar93, R0, flagL, bs]
theorem rflag_pure (b : Bool) : Pure Try.prog 88 [.bool b] (.own 1 (bs (flagL b))) := by
  refine pure_go R0_ok Try.func88 Try.ntmps88 comp88 cres88 (by decide) (by simp) ?_
  cases b <;> simp [ac88, ar88, R0, flagL, bs]
end Go.Proofs.Ytflcdbfcipkhkaa

/- Wire: whether two requests are one. -/

set_option linter.unusedSimpArgs false
set_option linter.unusedVariables false
set_option maxHeartbeats 8000000
namespace Go.Proofs.Ytflcdbfcipkhkaa
open Go.Av

theorem Bat.sv_inj (a b : Bat) (h : a.sv = b.sv) : a = b := by
  have := Req.sv_inj ⟨0, ⟨#[]⟩, 0, 0, false, false, 0, 0, 0, ⟨#[]⟩, ⟨#[]⟩, 0, a⟩ ⟨0, ⟨#[]⟩, 0, 0, false, false, 0, 0, 0, ⟨#[]⟩, ⟨#[]⟩, 0, b⟩ (by
    simp only [Bat.sv, Bat.cells, SV.agg.injEq, List.cons.injEq] at h
    simp [Req.sv, Req.cells, h])
  exact congrArg Req.bt this
def eBB (p : Bat × Bat) : List SV := [p.1.sv, p.2.sv]
theorem eBB_inj (a b : Bat × Bat) (h : eBB a = eBB b) : a = b := by simp [eBB] at h; exact Prod.ext (Bat.sv_inj _ _ h.1) (Bat.sv_inj _ _ h.2)
abbrev bsv (b : Bat) : SV := .agg [.int .i64 b.ba, .int .i64 b.ct, .int .i64 b.pr, .int .i64 b.ep, .int .i64 b.sq, .sl 6 (RL b.rs)]
noncomputable def RwAp (f : FuncId) (l : List SV) : Option (Prop × LV) :=
  match f with
  | 69 => rowN eBB (fun p => (p.1.rs.length < 4611686018427387904, .sv (.bool (batS p.1 p.2)))) l
  | 89 => rowN eBB (fun p => (p.1.rs.length < 4611686018427387904, .sv (.bool (batS p.1 p.2)))) l
  | _ => none
noncomputable def RwA : Orc := { p := RwAp }
theorem RwA_ok : RwA.ok Try.prog := by
  refine ⟨fun f l c rv h hc => ?_, fun _ _ _ _ _ _ h => (by cases h), fun _ _ _ _ h => (by cases h), fun _ h => (by cases h), fun _ _ _ _ _ _ h => (by cases h), fun _ _ _ _ _ _ _ h => (by cases h)⟩
  change RwAp f l = _ at h
  unfold RwAp at h
  split at h
  · exact rowN_ok h hc (fun p hp => same_pure p.1 p.2 hp)
  · exact rowN_ok h hc (fun p hp => rsame_bat p.1 p.2 hp)
  · cases h
theorem RwA_69 (a b : Bat) : RwA.p 69 [bsv a, bsv b] = some (a.rs.length < 4611686018427387904, .sv (.bool (batS a b))) := rowN_eq eBB_inj _ (a, b) rfl
theorem RwA_89 (a b : Bat) : RwA.p 89 [bsv a, bsv b] = some (a.rs.length < 4611686018427387904, .sv (.bool (batS a b))) := rowN_eq eBB_inj _ (a, b) rfl
def hdS (a b : Req) : Bool := (a.kd == b.kd) && ((a.tp.toList == b.tp.toList) && ((a.ix == b.ix) && ((a.pa == b.pa) && ((a.co == b.co) && ((a.fl == b.fl) && ((a.off == b.off) && ((a.mo == b.mo) && ((a.ti == b.ti) && ((a.gr.toList == b.gr.toList) && ((a.me.toList == b.me.toList) && (a.ge == b.ge)))))))))))
def reqS (a b : Req) : Bool := hdS a b && batS a.bt b.bt
theorem same_req (a b : Req) (hl : a.bt.rs.length < 4611686018427387904) : Pure Try.prog 33 [a.sv, b.sv] (.sv (.bool (reqS a b))) := by
  have e := RwA_69 a.bt b.bt
  have hR := RwA_ok
  generalize RwA = R at hR e
  refine pure_go hR Try.func33 Try.ntmps33 comp33 cres33 (by decide) (by simp [Req.sv, Req.cells]) ?_
  unfold reqS
  cases hh : hdS a b with
  | true =>
    unfold hdS at hh
    simp (maxSteps := 600000) [ac33, ar33, Req.sv, Req.cells, e, hh, hl]
    simp only [Bool.and_eq_true, beq_iff_eq] at hh
    simp [hh]
  | false =>
    unfold hdS at hh
    simp (maxSteps := 600000) [ac33, ar33, Req.sv, Req.cells, e, hh, hl]
    intros
    simp_all
theorem rsame_req (a b : Req) (hl : a.bt.rs.length < 4611686018427387904) : Pure Try.prog 34 [a.sv, b.sv] (.sv (.bool (reqS a b))) := by
  have e := RwA_89 a.bt b.bt
  have hR := RwA_ok
  generalize RwA = R at hR e
  refine pure_go hR Try.func34 Try.ntmps34 comp34 cres34 (by decide) (by simp [Req.sv, Req.cells]) ?_
  unfold reqS
  cases hh : hdS a b with
  | true =>
    unfold hdS at hh
    simp (maxSteps := 600000) [ac34, ar34, Req.sv, Req.cells, e, hh, hl]
    simp only [Bool.and_eq_true, beq_iff_eq] at hh
    simp [hh]
  | false =>
    unfold hdS at hh
    simp (maxSteps := 600000) [ac34, ar34, Req.sv, Req.cells, e, hh, hl]
    intros
    simp_all
theorem reqS_iff (a b : Req) : reqS a b = true ↔ a = b := by
  have tl : ∀ x y : ByteArray, x.toList = y.toList → x = y := fun x y h => by
    rw [ByteArray.toList_eq, ByteArray.toList_eq] at h
    cases x; cases y; simp at h; rw [h]
  obtain ⟨a1, a2, a3, a4, a5, a6, a7, a8, a9, a10, a11, a12, a13⟩ := a
  obtain ⟨b1, b2, b3, b4, b5, b6, b7, b8, b9, b10, b11, b12, b13⟩ := b
  simp only [reqS, hdS, Bool.and_eq_true, beq_iff_eq, batS_iff, Req.mk.injEq]
  constructor
  · rintro ⟨⟨h1, h2, h3, h4, h5, h6, h7, h8, h9, h10, h11, h12⟩, h13⟩
    exact ⟨h1, tl _ _ h2, h3, h4, h5, h6, h7, h8, h9, tl _ _ h10, tl _ _ h11, h12, h13⟩
  · rintro ⟨rfl, rfl, rfl, rfl, rfl, rfl, rfl, rfl, rfl, rfl, rfl, rfl, rfl⟩
    simp
/-! ### a field made zero -/
def zeroQ (q : Req) (c : Nat) : Req :=
  if c = 116 then { q with tp := ⟨#[]⟩ } else if c = 105 then { q with ix := 0 } else if c = 112 then { q with pa := 0 } else if c = 99 then { q with co := false } else if c = 102 then { q with fl := false }
  else if c = 111 then { q with off := 0 } else if c = 109 then { q with mo := 0 } else if c = 119 then { q with ti := 0 } else if c = 103 then { q with gr := ⟨#[]⟩ } else if c = 107 then { q with me := ⟨#[]⟩ }
  else if c = 110 then { q with ge := 0 } else if c = 98 then { q with bt := bat0 } else q
/-- The letters that there are. -/
def isLet (c : Nat) : Prop := c = 116 ∨ c = 105 ∨ c = 112 ∨ c = 99 ∨ c = 102 ∨ c = 111 ∨ c = 109 ∨ c = 119 ∨ c = 103 ∨ c = 107 ∨ c = 110 ∨ c = 98
theorem mem_ite {α : Type} {p : Prop} [Decidable p] {c : α} {a b : List α} (h : c ∈ (if p then a else b)) : c ∈ a ∨ c ∈ b := by
  by_cases q : p
  · rw [if_pos q] at h; exact .inl h
  · rw [if_neg q] at h; exact .inr h
theorem uses_let {k : Int} {c : Nat} (h : c ∈ usesN k) : isLet c := by
  unfold usesN at h
  unfold isLet
  rcases mem_ite h with h | h
  · simp at h; omega
  rcases mem_ite h with h | h
  · simp at h; omega
  rcases mem_ite h with h | h
  · simp at h; omega
  rcases mem_ite h with h | h
  · simp at h; omega
  rcases mem_ite h with h | h
  · simp at h; omega
  rcases mem_ite h with h | h
  · simp at h; omega
  rcases mem_ite h with h | h
  · simp at h; omega
  rcases mem_ite h with h | h
  · simp at h; omega
  rcases mem_ite h with h | h
  · simp at h; omega
  rcases mem_ite h with h | h
  · simp at h; omega
  rcases mem_ite h with h | h
  · simp at h; omega
  rcases mem_ite h with h | h
  · simp at h; omega
  cases h
theorem zero_eff (q : Req) (c : Nat) (h : isLet c) (s : Nat) : EffB Try.prog 132 [(s, q.cells.map .sv)] [.c (.bp s 0), .v (.int .i32 (c : Int))] (.tup []) [(s, (zeroQ q c).cells.map .sv)] := by
  refine effB_go R0_ok Try.func132 Try.ntmps132 comp132 cres132 (by decide) (by simp) rfl (by simp) ?_
  rcases h with rfl | rfl | rfl | rfl | rfl | rfl | rfl | rfl | rfl | rfl | rfl | rfl <;> simp [ac132, ar132, R0, Req.cells, zeroQ, bat0, RL, WkRs_refl]
end Go.Proofs.Ytflcdbfcipkhkaa

/- Wire: which fields are not used. -/


set_option linter.unusedSimpArgs false
set_option linter.unusedVariables false
set_option maxHeartbeats 8000000
namespace Go.Proofs.Ytflcdbfcipkhkaa
open Go.Av

theorem sOf_size (l : List Nat) : (sOf l).size = l.length := by simp [sOf, ByteArray.size]
theorem get_get {s : ByteArray} {i : Nat} (h : i < s.size) : s.get! i = s[i] := by
  simp [ByteArray.get!, getElem!_pos, h]
  rfl
theorem decode_lo {s : ByteArray} {i : Nat} (h : i < s.size) (ha : (s.get! i).toNat < 128) : Utf8.decode s i = ((s.get! i).toNat, 1) := by
  rw [get_get h] at ha ⊢
  exact decode_ascii s i h ha
theorem sOf_get {l : List Nat} {i : Nat} (h : i < l.length) : (sOf l).get! i = UInt8.ofNat (l.getD i 0) := by
  have : i < (sOf l).size := by rw [sOf_size]; exact h
  rw [get_get this]
  show (sOf l).data[i] = _
  simp [sOf, List.getD_eq_getElem?_getD, h]
theorem nxt_in {l : List Nat} (hl : ∀ c ∈ l, c < 128) {i : Nat} (h : i < l.length) : nxtV (sOf l) i = .tup [.sv (.bool true), .sv (.int .i64 i), .sv (.int .i32 ((l.getD i 0 : Nat) : Int))] ∧ nxtP (sOf l) i = i + 1 := by
  have h1 : i < (sOf l).size := by rw [sOf_size]; exact h
  have hc : l.getD i 0 < 128 := hl _ (by rw [List.getD_eq_getElem?_getD, List.getElem?_eq_getElem h]; exact List.getElem_mem h)
  have ht : ((sOf l).get! i).toNat = l.getD i 0 := by
    rw [sOf_get h]
    generalize l.getD i 0 = x at hc
    simp; omega
  have hd := decode_lo h1 (by rw [ht]; exact hc)
  rw [ht] at hd
  constructor
  · simp only [nxtV, if_pos h1, hd]
  · simp only [nxtP, if_pos h1, hd]
theorem nxt_end (l : List Nat) : nxtV (sOf l) l.length = .tup [.sv (.bool false)] ∧ nxtP (sOf l) l.length = l.length := by
  have h1 : ¬ l.length < (sOf l).size := by rw [sOf_size]; omega
  constructor
  · simp only [nxtV, if_neg h1]
  · simp only [nxtP, if_neg h1]
theorem let_lt {c : Nat} (h : isLet c) : c < 128 := by unfold isLet at h; omega
theorem uses_lt (k : Int) : ∀ c ∈ usesN k, c < 128 := fun c h => let_lt (uses_let h)
theorem uses_len (k : Int) : (usesN k).length ≤ 6 := by
  unfold usesN
  have m : ∀ {p : Prop} [Decidable p] {a b : List Nat}, a.length ≤ 6 → b.length ≤ 6 → (if p then a else b).length ≤ 6 := by
    intro p _ a b h1 h2
    by_cases q : p
    · rw [if_pos q]; exact h1
    · rw [if_neg q]; exact h2
  repeat' (first | exact m (by decide) ?_ | refine m (by decide) ?_)
  all_goals decide

def kReq (k : Int) : Req := ⟨k, ⟨#[]⟩, 0, 0, false, false, 0, 0, 0, ⟨#[]⟩, ⟨#[]⟩, 0, bat0⟩
def alienB (q : Req) : Bool := !(reqS ((usesN q.kd).foldl zeroQ q) (kReq q.kd))
abbrev qrv (q : Req) : List RV := [.sv (.int .u8 q.kd), .sv (.str q.tp), .sv (.int .i64 q.ix), .sv (.int .i64 q.pa), .sv (.bool q.co), .sv (.bool q.fl), .sv (.int .i64 q.off), .sv (.int .i64 q.mo), .sv (.int .i64 q.ti), .sv (.str q.gr), .sv (.str q.me), .sv (.int .i64 q.ge),
  .sv (.int .i64 q.bt.ba), .sv (.int .i64 q.bt.ct), .sv (.int .i64 q.bt.pr), .sv (.int .i64 q.bt.ep), .sv (.int .i64 q.bt.sq), .sv (.sl 6 (RL q.bt.rs))]
def eQQ (p : Req × Req) : List SV := [p.1.sv, p.2.sv]
theorem eQQ_inj (a b : Req × Req) (h : eQQ a = eQQ b) : a = b := by simp [eQQ] at h; exact Prod.ext (Req.sv_inj _ _ h.1) (Req.sv_inj _ _ h.2)
def eInt (k : Int) : List SV := [.int .u8 k]
theorem eInt_inj (a b : Int) (h : eInt a = eInt b) : a = b := by simpa [eInt] using h
noncomputable def RwBp (f : FuncId) (l : List SV) : Option (Prop × LV) :=
  match f with
  | 33 => rowN eQQ (fun p => (p.1.bt.rs.length < 4611686018427387904, .sv (.bool (reqS p.1 p.2)))) l
  | 34 => rowN eQQ (fun p => (p.1.bt.rs.length < 4611686018427387904, .sv (.bool (reqS p.1 p.2)))) l
  | 35 => row eInt (fun k => (0 ≤ k ∧ k < 256, .sv (.str (usesS k)))) l
  | 36 => row eInt (fun k => (0 ≤ k, .sv (.str (usesS k)))) l
  | _ => none
noncomputable def RwBb (f : FuncId) (l : List BA) (look : Nat → Option (List RV)) : Option (Prop × List (Nat × List RV) × LV × List (Nat × List RV)) :=
  match f, l with
  | 132, [.c (.bp s 0), .v (.int .i32 c)] => match look s with
    | some cells => match inv Req.cells (cells.map RV.share) with
      | some q => some (cells = q.cells.map .sv ∧ 0 ≤ c ∧ isLet c.toNat, [(s, cells)], .tup [], [(s, (zeroQ q c.toNat).cells.map .sv)])
      | none => none
    | none => none
  | _, _ => none
noncomputable def RwB : Orc := { p := RwBp, b := RwBb }
theorem RwB_ok : RwB.ok Try.prog := by
  refine ⟨fun f l c rv h hc => ?_, fun _ _ _ _ _ _ h => (by cases h), fun _ _ _ _ h => (by cases h), fun _ h => (by cases h), fun _ _ _ _ _ _ h => (by cases h), fun f l look c bxs rv bxs' h hc => ?_⟩
  · change RwBp f l = _ at h
    unfold RwBp at h
    split at h
    · exact rowN_ok h hc (fun p hp => same_req p.1 p.2 hp)
    · exact rowN_ok h hc (fun p hp => rsame_req p.1 p.2 hp)
    · exact row_ok h hc (fun k hk => uses_pure k hk.1 hk.2)
    · exact row_ok h hc (fun k hk => ruses_pure k hk)
    · cases h
  · change RwBb f l look = _ at h
    unfold RwBb at h
    split at h
    · split at h
      · split at h
        · rename_i s cc _ cells _ _ q _
          simp only [Option.some.injEq, Prod.mk.injEq] at h
          obtain ⟨rfl, rfl, rfl, rfl⟩ := h
          obtain ⟨h1, h2, h3⟩ := hc
          have := zero_eff q cc.toNat h3 s
          rw [← h1] at this
          rw [show ((cc.toNat : Nat) : Int) = cc by omega] at this
          exact this
        · cases h
      · cases h
    · cases h
theorem RwB_33 (a b : Req) : RwB.p 33 [qsv a, qsv b] = some (a.bt.rs.length < 4611686018427387904, .sv (.bool (reqS a b))) := rowN_eq eQQ_inj _ (a, b) rfl
theorem RwB_33k (a : Req) (k : Int) : RwB.p 33 [qsv a, .agg [.int .u8 k, .str (ByteArray.mk #[]), .int .i64 0, .int .i64 0, .bool false, .bool false, .int .i64 0, .int .i64 0, .int .i64 0, .str (ByteArray.mk #[]), .str (ByteArray.mk #[]), .int .i64 0, .int .i64 0, .int .i64 0, .int .i64 0, .int .i64 0, .int .i64 0, .nils]] =
  some (a.bt.rs.length < 4611686018427387904, .sv (.bool (reqS a (kReq k)))) := rowN_eq eQQ_inj _ (a, kReq k) rfl
theorem RwB_35 (k : Int) : RwB.p 35 [.int .u8 k] = some (0 ≤ k ∧ k < 256, .sv (.str (usesS k))) := row_eq eInt_inj _ k
theorem RwB_36 (k : Int) : RwB.p 36 [.int .u8 k] = some (0 ≤ k, .sv (.str (usesS k))) := row_eq eInt_inj _ k
theorem inv_cells (q : Req) : inv Req.cells q.cells = some q := inv_eq (fun a b h => Req.sv_inj a b (by rw [Req.sv, Req.sv, h])) q
theorem RwB_132 (q : Req) (s c : Nat) (look : Nat → Option (List RV)) (h : look s = some (qrv q)) : RwB.b 132 [.c (.bp s 0), .v (.int .i32 (c : Int))] look = some (isLet c, [(s, qrv q)], .tup [], [(s, qrv (zeroQ q c))]) := by
  show RwBb 132 [.c (.bp s 0), .v (.int .i32 (c : Int))] look = _
  unfold RwBb
  simp only [h]
  have e : (qrv q).map RV.share = q.cells := rfl
  have e1 : (List.map RV.sv q.cells) = qrv q := rfl
  have e2 : (List.map RV.sv (zeroQ q c).cells) = qrv (zeroQ q c) := rfl
  rw [e, inv_cells]
  simp only [Int.toNat_natCast, e1, e2, true_and]
  simp
theorem zeroQ_kd (q : Req) (c : Nat) : (zeroQ q c).kd = q.kd := by
  have m : ∀ {p : Prop} [Decidable p] {a b : Req}, a.kd = q.kd → b.kd = q.kd → (if p then a else b).kd = q.kd := by
    intro p _ a b h1 h2
    by_cases z : p
    · rw [if_pos z]; exact h1
    · rw [if_neg z]; exact h2
  unfold zeroQ
  exact m rfl (m rfl (m rfl (m rfl (m rfl (m rfl (m rfl (m rfl (m rfl (m rfl (m rfl (m rfl rfl)))))))))))
theorem zeroQ_rs (q : Req) (c : Nat) (n : Nat) (h : q.bt.rs.length < n) : (zeroQ q c).bt.rs.length < n := by
  have m : ∀ {p : Prop} [Decidable p] {a b : Req}, a.bt.rs.length < n → b.bt.rs.length < n → (if p then a else b).bt.rs.length < n := by
    intro p _ a b h1 h2
    by_cases z : p
    · rw [if_pos z]; exact h1
    · rw [if_neg z]; exact h2
  unfold zeroQ
  exact m h (m h (m h (m h (m h (m h (m h (m h (m h (m h (m h (m (Nat.lt_of_le_of_lt (Nat.zero_le _) h) h)))))))))))
theorem foldQ_kd : ∀ (l : List Nat) (q : Req), (l.foldl zeroQ q).kd = q.kd
  | [], q => rfl
  | c :: l, q => by rw [List.foldl_cons, foldQ_kd l, zeroQ_kd]
theorem foldQ_rs (n : Nat) : ∀ (l : List Nat) (q : Req), q.bt.rs.length < n → (l.foldl zeroQ q).bt.rs.length < n
  | [], q, h => h
  | c :: l, q, h => by rw [List.foldl_cons]; exact foldQ_rs n l _ (zeroQ_rs q c n h)
theorem alien_pure (q : Req) (h0 : 0 ≤ q.kd) (h8 : q.kd < 256) (hl : q.bt.rs.length < 4611686018427387904) : Pure Try.prog 83 [q.sv] (.sv (.bool (alienB q))) := by
  have e35 := RwB_35 q.kd
  have e33 := RwB_33k
  have e132 := RwB_132
  have hR := RwB_ok
  have hnf : RwB.e = fun _ _ _ => none := rfl
  generalize RwB = R at hR e33 e35 e132 hnf
  refine pure_go hR Try.func83 Try.ntmps83 comp83 cres83 (by decide) (by simp) ?_
  unfold alienB
  have hlt := uses_lt q.kd
  have hll : ∀ c ∈ usesN q.kd, isLet c := fun c h => uses_let h
  unfold usesS at e35
  generalize usesN q.kd = u at *
  simp [ac83, ar83, Req.sv, Req.cells, e35, h0, h8]
  refine awpR_loop (α := Nat) (fun i => i ≤ u.length) (fun i => { n := 20, sl := [(8, .siter (sOf u) i), (1, .lptr 1 0)], bx := [(1, qrv ((u.take i).foldl zeroQ q))], hp := fun _ => none })
    (fun i => u.length - i) 0 (by omega) (by simp) ?_
  intro i hi
  have hk := foldQ_kd (u.take i) q
  have hr := foldQ_rs _ (u.take i) q hl
  by_cases h : i < u.length
  · obtain ⟨hv, hp⟩ := nxt_in hlt h
    have hc := hll (u.getD i 0) (by rw [List.getD_eq_getElem?_getD, List.getElem?_eq_getElem h]; exact List.getElem_mem h)
    have hs : (u.take (i + 1)).foldl zeroQ q = zeroQ ((u.take i).foldl zeroQ q) (u.getD i 0) := by
      rw [List.take_succ_eq_append_getElem h, List.foldl_append, List.getD_eq_getElem?_getD, List.getElem?_eq_getElem h]; rfl
    generalize u.getD i 0 = c at hv hc hs
    generalize (u.take i).foldl zeroQ q = Q at *
    have e := e132 Q 1 c
    simp [hv, hp, hnf, e, hc]
    refine ⟨i + 1, by omega, by omega, ?_⟩
    rw [hs]
    simp
  · obtain rfl : i = u.length := by omega
    obtain ⟨hv, hp⟩ := nxt_end u
    rw [List.take_length] at *
    generalize u.foldl zeroQ q = Q at *
    have e := e33 Q Q.kd
    rw [← hk]
    simp [hv, hp, e, hr]

/-! ### the answer's -/
theorem contains_take (l : List Nat) (c : Nat) {i : Nat} (h : i < l.length) : (l.take (i + 1)).contains c = ((l.take i).contains c || (l.getD i 0 == c)) := by
  rw [Bool.eq_iff_iff, List.take_succ_eq_append_getElem h, List.getD_eq_getElem?_getD, List.getElem?_eq_getElem h]
  simp only [List.contains_iff_mem, List.mem_append, List.mem_singleton, Bool.or_eq_true, beq_iff_eq, Option.getD_some]
  constructor
  · rintro (q | q)
    · exact .inl q
    · exact .inr q.symm
  · rintro (q | q)
    · exact .inl q
    · exact .inr q.symm
theorem contains_of {l : List Nat} {c i : Nat} (h : i < l.length) (e : l.getD i 0 = c) : l.contains c = true := by
  rw [List.getD_eq_getElem?_getD, List.getElem?_eq_getElem h] at e
  simp only [Option.getD_some] at e
  simp only [List.contains_iff_mem]
  rw [← e]
  exact List.getElem_mem h
theorem has_pure (l : List Nat) (c : Nat) (hb : ∀ x ∈ l, x < 128) (hc : c < 128) (hl : l.length ≤ 1000) : Pure Try.prog 133 [.str (sOf l), .int .u8 (c : Int)] (.sv (.bool (l.contains c))) := by
  refine pure_go R0_ok Try.func133 Try.ntmps133 comp133 cres133 (by decide) (by simp) ?_
  have hsz := sOf_size l
  have hd : ∀ i, i < l.length → (sOf l).data.toList.getD i 0 = UInt8.ofNat (l.getD i 0) := fun i hi => by
    simp [sOf, List.getD_eq_getElem?_getD, hi]
  simp [ac133, ar133, R0]
  refine awpR_loop (α := Nat) (fun i => i ≤ l.length ∧ (l.take i).contains c = false) (fun i => { n := 17, sl := [(0, .sv (.str (sOf l))), (1, .sv (.int .u8 c)), (5, .sv (.int .i64 i))], bx := [], hp := fun _ => none })
    (fun i => l.length - i) 0 ⟨by omega, by simp⟩ (by simp) ?_
  rintro i ⟨hi, ha⟩
  by_cases h : i < l.length
  · have hlt : (i : Int) < (sOf l).size := by omega
    have hw : IntKind.i64.wrap ((i : Int) + 1) = ((i + 1 : Nat) : Int) := by rw [IntKind.wrap_i64]; omega
    have hx : l.getD i 0 < 128 := hb _ (by rw [List.getD_eq_getElem?_getD, List.getElem?_eq_getElem h]; exact List.getElem_mem h)
    have hs := contains_take l c h
    rw [ha, Bool.false_or] at hs
    have hq := @contains_of l c i h
    have hB := hd i h
    generalize hX : l.getD i 0 = x at hx hs hq hB
    have hxt : (x : Int) % 256 = x := by omega
    have hct : (c : Int) % 256 = c := by omega
    have hsz2 : i < (sOf l).data.size := by have := hsz; simp only [ByteArray.size] at this; omega
    have hg : (sOf l).data[i]?.getD 0 = UInt8.ofNat x := by
      rw [← hB, List.getD_eq_getElem?_getD, Array.getElem?_toList]
    have hg2 : (sOf l)[i] = UInt8.ofNat x := by
      rw [← hg, Array.getElem?_eq_getElem hsz2]; rfl
    by_cases z : x = c
    · have z' : (x : Int) = c := by omega
      have hm : c ∈ l := by simpa using hq z
      simp [hlt, hg, hg2, hxt, hct, z', hm]
    · have z' : ¬ (x : Int) = c := by omega
      have hs0 : (l.take (i + 1)).contains c = false := by rw [hs]; simpa using z
      simp [hlt, hg, hg2, hxt, z', hw]
      first
        | exact ⟨i + 1, ⟨by omega, by simpa using hs0⟩, by omega, by omega⟩
        | exact ⟨by omega, i + 1, ⟨by omega, by simpa using hs0⟩, by omega, by omega⟩
  · obtain rfl : i = l.length := by omega
    rw [List.take_length] at ha
    have hlt : ¬ ((l.length : Nat) : Int) < (sOf l).size := by omega
    have ha' : c ∉ l := by simpa using ha
    simp [hlt, ha']
end Go.Proofs.Ytflcdbfcipkhkaa

/- Wire: a request with just the fields of its kind. -/

set_option linter.unusedSimpArgs false
set_option linter.unusedVariables false
set_option maxHeartbeats 8000000
namespace Go.Proofs.Ytflcdbfcipkhkaa
open Go.Av

def inU (q : Req) (c : Nat) : Bool := (usesN q.kd).contains c
def onlyQ (q : Req) : Req := ⟨q.kd, if inU q 116 then q.tp else ⟨#[]⟩, if inU q 105 then q.ix else 0, if inU q 112 then q.pa else 0, inU q 112 && q.co, inU q 102 && q.fl, if inU q 111 then q.off else 0,
  if inU q 109 then q.mo else 0, if inU q 119 then q.ti else 0, if inU q 103 then q.gr else ⟨#[]⟩, if inU q 107 then q.me else ⟨#[]⟩, if inU q 110 then q.ge else 0, if inU q 102 then q.bt else bat0⟩
theorem bytesNat_sOf {l : List Nat} (h : ∀ c ∈ l, c < 128) : bytesNat (sOf l) = l := by
  unfold bytesNat sOf
  simp only [List.map_map]
  conv => rhs; rw [← List.map_id l]
  apply List.map_congr_left
  intro c hc
  have := h c hc
  simp; omega
def RwCp (f : FuncId) (l : List SV) : Option (Prop × LV) :=
  match f, l with
  | 36, [.int .u8 k] => some (0 ≤ k, .sv (.str (usesS k)))
  | 133, [.str s, .int .u8 c] => some (0 ≤ c ∧ c < 128 ∧ (∀ x ∈ bytesNat s, x < 128) ∧ (bytesNat s).length ≤ 1000, .sv (.bool ((bytesNat s).contains c.toNat)))
  | _, _ => none
def RwC : Orc := { p := RwCp }
theorem RwC_ok : RwC.ok Try.prog := by
  refine ⟨fun f l c rv h hc => ?_, fun _ _ _ _ _ _ h => (by cases h), fun _ _ _ _ h => (by cases h), fun _ h => (by cases h), fun _ _ _ _ _ _ h => (by cases h), fun _ _ _ _ _ _ _ h => (by cases h)⟩
  change RwCp f l = _ at h
  unfold RwCp at h
  split at h <;> cases h
  · exact ruses_pure _ hc
  · rename_i s c
    obtain ⟨h1, h2, h3, h4⟩ := hc
    have := has_pure (bytesNat s) c.toNat h3 (by omega) h4
    rw [sOf_bytesNat, show ((c.toNat : Nat) : Int) = c by omega] at this
    exact this
theorem RwC_36 (k : Int) : RwC.p 36 [.int .u8 k] = some (0 ≤ k, .sv (.str (usesS k))) := rfl
theorem RwC_133 (k c : Int) (h0 : 0 ≤ c) (h1 : c < 128) : RwC.p 133 [.str (usesS k), .int .u8 c] = some (True, .sv (.bool ((usesN k).contains c.toNat))) := by
  show some (0 ≤ c ∧ c < 128 ∧ (∀ x ∈ bytesNat (usesS k), x < 128) ∧ (bytesNat (usesS k)).length ≤ 1000, LV.sv (.bool ((bytesNat (usesS k)).contains c.toNat))) = _
  unfold usesS
  rw [bytesNat_sOf (uses_lt k)]
  have h2 := uses_lt k
  have h3 := uses_len k
  have : (0 ≤ c ∧ c < 128 ∧ (∀ x ∈ usesN k, x < 128) ∧ (usesN k).length ≤ 1000) = True := by
    simp only [eq_iff_iff, iff_true]
    exact ⟨h0, h1, h2, by omega⟩
  rw [this]
theorem only_req (q : Req) (h0 : 0 ≤ q.kd) : Pure Try.prog 86 [q.sv] (.sv (onlyQ q).sv) := by
  have e36 := RwC_36 q.kd
  have e133 := RwC_133 q.kd
  have hR := RwC_ok
  generalize RwC = R at hR e36 e133
  have a1 := e133 116 (by decide) (by decide)
  have a2 := e133 105 (by decide) (by decide)
  have a3 := e133 112 (by decide) (by decide)
  have a4 := e133 102 (by decide) (by decide)
  have a5 := e133 111 (by decide) (by decide)
  have a6 := e133 109 (by decide) (by decide)
  have a7 := e133 119 (by decide) (by decide)
  have a8 := e133 103 (by decide) (by decide)
  have a9 := e133 107 (by decide) (by decide)
  have a10 := e133 110 (by decide) (by decide)
  clear e133
  obtain ⟨k, tp, ix, pa, co, fl, off, mo, ti, gr, me, ge, bt⟩ := q
  simp only at *
  refine pure_go hR Try.func86 Try.ntmps86 comp86 cres86 (by decide) (by simp) ?_
  have hu : ∀ c, inU ⟨k, tp, ix, pa, co, fl, off, mo, ti, gr, me, ge, bt⟩ c = (usesN k).contains c := fun c => rfl
  simp only [Req.sv, Req.cells, onlyQ, hu]
  generalize usesS k = S at *
  rcases kind_cases k h0 with rfl | rfl | rfl | rfl | rfl | rfl | rfl | rfl | rfl | rfl | rfl | rfl | h
  case inr.inr.inr.inr.inr.inr.inr.inr.inr.inr.inr.inr =>
    have hn : usesN k = [] := by unfold usesN; repeat' (rw [if_neg (by omega)])
    simp [hn] at *
    simp (maxSteps := 600000) [ac86, ar86, e36, h0, a1, a2, a3, a4, a5, a6, a7, a8, a9, a10, bat0, RL]
  all_goals
    simp [usesN] at *
    simp (maxSteps := 600000) [ac86, ar86, e36, a1, a2, a3, a4, a5, a6, a7, a8, a9, a10, bat0, RL]
end Go.Proofs.Ytflcdbfcipkhkaa

/- Wire: a field's bytes. -/

set_option linter.unusedSimpArgs false
set_option linter.unusedVariables false
set_option maxHeartbeats 8000000
namespace Go.Proofs.Ytflcdbfcipkhkaa
open Go.Av

theorem alien_only (q : Req) (h0 : 0 ≤ q.kd) (h1 : q.kd ≤ 11) : alienB q = !(reqS q (onlyQ q)) := by
  have key : (usesN q.kd).foldl zeroQ q = kReq q.kd ↔ q = onlyQ q := by
    obtain ⟨k, tp, ix, pa, co, fl, off, mo, ti, gr, me, ge, bt⟩ := q
    simp only at h0 h1
    rcases kind_cases k h0 with rfl | rfl | rfl | rfl | rfl | rfl | rfl | rfl | rfl | rfl | rfl | rfl | h
    case inr.inr.inr.inr.inr.inr.inr.inr.inr.inr.inr.inr => omega
    all_goals
      simp [usesN, zeroQ, kReq, onlyQ, inU, Req.mk.injEq]
      try grind
  unfold alienB
  congr 1
  rw [Bool.eq_iff_iff, reqS_iff, reqS_iff]
  exact key

def textN (s : ByteArray) : List Nat := layN (zig s.size) ++ bytesNat s
def textB (l : List Nat) : List Nat := layN (zig l.length) ++ l
/-- A field's bytes. -/
def fieldL (q : Req) (body : List Nat) (c : Nat) : List Nat :=
  if c = 116 then textN q.tp else if c = 105 then layN (zig q.ix) else if c = 112 then layN (zig q.pa) else if c = 99 then flagL q.co else if c = 102 then flagL q.fl else if c = 111 then layN (zig q.off)
  else if c = 109 then layN (zig q.mo) else if c = 119 then layN (zig q.ti) else if c = 103 then textN q.gr else if c = 107 then textN q.me else if c = 110 then layN (zig q.ge) else textB body
def Req.ok (q : Req) : Prop := 0 ≤ q.kd ∧ q.kd < 256 ∧ I64 q.ix ∧ I64 q.pa ∧ I64 q.off ∧ I64 q.mo ∧ I64 q.ti ∧ I64 q.ge ∧ q.bt.ok
def eSt (s : ByteArray) : List SV := [.str s]
theorem eSt_inj (a b : ByteArray) (h : eSt a = eSt b) : a = b := by simpa [eSt] using h
def eN (n : Int) : List SV := [.int .i64 n]
theorem eN_inj (a b : Int) (h : eN a = eN b) : a = b := by simpa [eN] using h
def eBo (b : Bool) : List SV := [.bool b]
theorem eBo_inj (a b : Bool) (h : eBo a = eBo b) : a = b := by simpa [eBo] using h
noncomputable def RwDp (f : FuncId) (l : List SV) : Option (Prop × LV) :=
  match f with
  | 27 => row eSt (fun s => (s.size ≤ 140737488355000, .own 1 (bs (textN s)))) l
  | 28 => row eSt (fun s => (s.size ≤ 140737488355000, .own 1 (bs (textN s)))) l
  | 71 => row eN (fun n => (I64 n, .own 1 (bs (layN (zig n))))) l
  | 82 => row eN (fun n => (I64 n, .own 1 (bs (layN (zig n))))) l
  | 93 => row eBo (fun b => (True, .own 1 (bs (flagL b)))) l
  | 88 => row eBo (fun b => (True, .own 1 (bs (flagL b)))) l
  | _ => none
noncomputable def RwD : Orc := { p := RwDp }
theorem RwD_ok : RwD.ok Try.prog := by
  refine ⟨fun f l c rv h hc => ?_, fun _ _ _ _ _ _ h => (by cases h), fun _ _ _ _ h => (by cases h), fun _ h => (by cases h), fun _ _ _ _ _ _ h => (by cases h), fun _ _ _ _ _ _ _ h => (by cases h)⟩
  change RwDp f l = _ at h
  unfold RwDp at h
  split at h
  · exact row_ok h hc (fun s hs => text_pure s hs)
  · exact row_ok h hc (fun s hs => rtext_pure s hs)
  · exact row_ok h hc (fun n hn => put_pure n hn)
  · exact row_ok h hc (fun n hn => rput_pure n hn)
  · exact row_ok h hc (fun b _ => flag_pure b)
  · exact row_ok h hc (fun b _ => rflag_pure b)
  · cases h
theorem RwD_27 (s : ByteArray) : RwD.p 27 [.str s] = some (s.size ≤ 140737488355000, .own 1 (bs (textN s))) := row_eq eSt_inj _ s
theorem RwD_28 (s : ByteArray) : RwD.p 28 [.str s] = some (s.size ≤ 140737488355000, .own 1 (bs (textN s))) := row_eq eSt_inj _ s
theorem RwD_71 (n : Int) : RwD.p 71 [.int .i64 n] = some (I64 n, .own 1 (bs (layN (zig n)))) := row_eq eN_inj _ n
theorem RwD_82 (n : Int) : RwD.p 82 [.int .i64 n] = some (I64 n, .own 1 (bs (layN (zig n)))) := row_eq eN_inj _ n
theorem RwD_93 (b : Bool) : RwD.p 93 [.bool b] = some (True, .own 1 (bs (flagL b))) := row_eq eBo_inj _ b
theorem RwD_88 (b : Bool) : RwD.p 88 [.bool b] = some (True, .own 1 (bs (flagL b))) := row_eq eBo_inj _ b
theorem textN_sOf {l : List Nat} (h : Bytes l) : textN (sOf l) = textB l := by
  unfold textN textB
  rw [sOf_size]
  congr 1
  unfold bytesNat sOf
  simp only [List.map_map]
  conv => rhs; rw [← List.map_id l]
  apply List.map_congr_left
  intro c hc
  have := h c hc
  simp; omega
theorem field_pure (q : Req) (ho : q.ok) (body : List Nat) (c : Nat) (hc : isLet c) (hb : Bytes body) (hs : q.tp.size ≤ 255 ∧ q.gr.size ≤ 255 ∧ q.me.size ≤ 255 ∧ body.length ≤ 100000) :
    Pure Try.prog 85 [q.sv, .int .i32 (c : Int), .sl 1 (bs body)] (.own 1 (bs (fieldL q body c))) := by
  have e27 := RwD_27
  have e71 := RwD_71
  have e93 := RwD_93
  have hR := RwD_ok
  generalize RwD = R at hR e27 e71 e93
  obtain ⟨o1, o2, o3, o4, o5, o6, o7, o8, o9⟩ := ho
  obtain ⟨s1, s2, s3, s4⟩ := hs
  have z1 : q.tp.size ≤ 140737488355000 := by omega
  have z2 : q.gr.size ≤ 140737488355000 := by omega
  have z3 : q.me.size ≤ 140737488355000 := by omega
  have z4 : (sOf body).size ≤ 140737488355000 := by rw [sOf_size]; omega
  have ht := textN_sOf hb
  have hbb := bs_byte body
  refine pure_go hR Try.func85 Try.ntmps85 comp85 cres85 (by decide) (by simp) ?_
  rcases hc with rfl | rfl | rfl | rfl | rfl | rfl | rfl | rfl | rfl | rfl | rfl | rfl
  case inr.inr.inr.inr.inr.inr.inr.inr.inr.inr.inr =>
    have e := e27 (sOf body)
    rw [ht] at e
    simp [ac85, ar85, Req.sv, Req.cells, fieldL, e, bs_str, z4]
    try exact hbb
  all_goals (simp [ac85, ar85, Req.sv, Req.cells, fieldL, e27, e71, e93, o3, o4, o5, o6, o7, o8, z1, z2, z3])
end Go.Proofs.Ytflcdbfcipkhkaa

/- Wire: a request's bytes. -/

set_option linter.unusedSimpArgs false
set_option linter.unusedVariables false
set_option maxHeartbeats 8000000
namespace Go.Proofs.Ytflcdbfcipkhkaa
open Go.Av

def bt0 (q : Req) : Bat := ⟨0, q.bt.ct, q.bt.pr, q.bt.ep, q.bt.sq, q.bt.rs⟩
def longQ (q : Req) : Prop := 255 < q.tp.size ∨ 255 < q.gr.size ∨ 255 < q.me.size
instance (q : Req) : Decidable (longQ q) := by unfold longQ; infer_instance
/-- What is wrong with a request. -/
def reqE (q : Req) : Int :=
  if 11 < q.kd then 22 else if alienB q = true then 4 else if longQ q then 5 else if q.kd = 3 then (if batE (bt0 q) ≠ 0 then batE (bt0 q) else if q.bt.ba ≠ 0 then 4 else 0) else 0
def bodyQ (q : Req) : List Nat := if q.kd = 3 then putB (bt0 q) else []
def catF (q : Req) (b : List Nat) (l : List Nat) : List Nat := (l.map (fieldL q b)).flatten
def reqL (q : Req) : List Nat := [q.kd.toNat] ++ catF q (bodyQ q) (usesN q.kd)
def putQ (q : Req) : List Nat := if reqE q = 0 then reqL q else []
theorem catF_snoc (q : Req) (b : List Nat) (l : List Nat) (c : Nat) : catF q b (l ++ [c]) = catF q b l ++ fieldL q b c := by simp [catF]
theorem putB_le8 (b : Bat) : (putB b).length ≤ 8192 := by
  unfold putB
  split
  · rename_i h; exact batE_lay h
  · simp
theorem bodyQ_le (q : Req) : (bodyQ q).length ≤ 8192 := by
  unfold bodyQ
  split
  · exact putB_le8 _
  · simp
theorem textN_le {s : ByteArray} (h : s.size ≤ 255) : (textN s).length ≤ 265 := by
  have h1 := layN_le10 (u := zig s.size) (zig_lt (by omega) (by omega))
  have h2 : (bytesNat s).length = s.size := by simp [bytesNat]
  simp only [textN, List.length_append, h2]
  omega
theorem flagL_le (b : Bool) : (flagL b).length ≤ 1 := by cases b <;> simp [flagL]
theorem fieldL_le {q : Req} (ho : q.ok) (hl : ¬ longQ q) {b : List Nat} (hb : b.length ≤ 8192) (c : Nat) : (fieldL q b c).length ≤ 8210 := by
  obtain ⟨o1, o2, o3, o4, o5, o6, o7, o8, o9⟩ := ho
  have m : ∀ {p : Prop} [Decidable p] {x y : List Nat}, x.length ≤ 8210 → y.length ≤ 8210 → (if p then x else y).length ≤ 8210 := by
    intro p _ x y h1 h2
    by_cases z : p
    · rw [if_pos z]; exact h1
    · rw [if_neg z]; exact h2
  have n : ∀ {x : Int}, I64 x → (layN (zig x)).length ≤ 8210 := fun h => by have := layN_le10 (zig_lt h.1 h.2); omega
  unfold longQ at hl
  have t : ∀ {s : ByteArray}, s.size ≤ 255 → (textN s).length ≤ 8210 := fun h => by have := textN_le h; omega
  have f : ∀ x, (flagL x).length ≤ 8210 := fun x => by have := flagL_le x; omega
  unfold fieldL
  refine m (t (by omega)) (m (n o3) (m (n o4) (m (f _) (m (f _) (m (n o5) (m (n o6) (m (n o7) (m (t (by omega)) (m (t (by omega)) (m (n o8) ?_))))))))))
  have h1 := layN_le10 (u := zig b.length) (zig_lt (by omega) (by omega))
  simp only [textB, List.length_append]
  omega
theorem catF_le {q : Req} (ho : q.ok) (hl : ¬ longQ q) {b : List Nat} (hb : b.length ≤ 8192) : ∀ l : List Nat, (catF q b l).length ≤ 8210 * l.length
  | [] => by simp [catF]
  | c :: l => by
    have h1 := fieldL_le ho hl hb c
    have h2 := catF_le ho hl hb l
    simp only [catF, List.map_cons, List.flatten_cons, List.length_append, List.length_cons] at h2 ⊢
    omega
theorem lay_bytes {n : Int} : Bytes (layN (zig n)) := fun c hc => layN_bytes _ c hc
theorem bodyQ_bytes (q : Req) : Bytes (bodyQ q) := by
  unfold bodyQ
  split
  · exact putB_bytes _
  · intro c hc; cases hc
theorem bt0_ok {q : Req} (h : q.bt.ok) : (bt0 q).ok := by
  obtain ⟨h1, h2, h3, h4, h5⟩ := h
  exact ⟨⟨by show (-9223372036854775808 : Int) ≤ 0; omega, by show (0 : Int) < 9223372036854775808; omega⟩, h2, h3, h4, h5⟩

def eQ (q : Req) : List SV := [q.sv]
theorem eQ_inj (a b : Req) (h : eQ a = eQ b) : a = b := by simp [eQ] at h; exact Req.sv_inj _ _ h
def eB (b : Bat) : List SV := [b.sv]
theorem eB_inj (a b : Bat) (h : eB a = eB b) : a = b := by simp [eB] at h; exact Bat.sv_inj _ _ h
theorem bs_inj {a b : List Nat} (h : bs a = bs b) : a = b := by
  have := congrArg nsOf h
  simpa using this
def eF (p : Req × Nat × List Nat) : List SV := [p.1.sv, .int .i32 (p.2.1 : Int), .sl 1 (bs p.2.2)]
theorem eF_inj (a b : Req × Nat × List Nat) (h : eF a = eF b) : a = b := by
  simp only [eF, List.cons.injEq, SV.int.injEq, SV.sl.injEq, true_and, and_true] at h
  obtain ⟨h1, h2, h3⟩ := h
  exact Prod.ext (Req.sv_inj _ _ h1) (Prod.ext (by omega) (bs_inj h3))
noncomputable def R31p (f : FuncId) (l : List SV) : Option (Prop × LV) :=
  match f with
  | 35 => row eInt (fun k => (0 ≤ k ∧ k < 256, .sv (.str (usesS k)))) l
  | 83 => row eQ (fun q => (0 ≤ q.kd ∧ q.kd < 256 ∧ q.bt.rs.length < 4611686018427387904, .sv (.bool (alienB q)))) l
  | 84 => row eB (fun b => (b.ok, .tup [.own 1 (bs (putB b)), .sv (.int .i64 (batE b))])) l
  | 85 => row eF (fun p => (p.1.ok ∧ isLet p.2.1 ∧ Bytes p.2.2 ∧ (p.1.tp.size ≤ 255 ∧ p.1.gr.size ≤ 255 ∧ p.1.me.size ≤ 255 ∧ p.2.2.length ≤ 100000), .own 1 (bs (fieldL p.1 p.2.2 p.2.1)))) l
  | _ => none
noncomputable def R31 : Orc := { p := R31p }
theorem R31_ok : R31.ok Try.prog := by
  refine ⟨fun f l c rv h hc => ?_, fun _ _ _ _ _ _ h => (by cases h), fun _ _ _ _ h => (by cases h), fun _ h => (by cases h), fun _ _ _ _ _ _ h => (by cases h), fun _ _ _ _ _ _ _ h => (by cases h)⟩
  change R31p f l = _ at h
  unfold R31p at h
  split at h
  · exact row_ok h hc (fun k hk => uses_pure k hk.1 hk.2)
  · exact row_ok h hc (fun q hq => alien_pure q hq.1 hq.2.1 hq.2.2)
  · exact row_ok h hc (fun b hb => put_bat b hb)
  · exact row_ok h hc (fun p hp => field_pure p.1 hp.1 p.2.2 p.2.1 hp.2.1 hp.2.2.1 hp.2.2.2)
  · cases h
theorem R31_35 (k : Int) : R31.p 35 [.int .u8 k] = some (0 ≤ k ∧ k < 256, .sv (.str (usesS k))) := row_eq eInt_inj _ k
theorem R31_83 (q : Req) : R31.p 83 [qsv q] = some (0 ≤ q.kd ∧ q.kd < 256 ∧ q.bt.rs.length < 4611686018427387904, .sv (.bool (alienB q))) := row_eq eQ_inj _ q
theorem R31_84 (q : Req) : R31.p 84 [.agg [.int .i64 0, .int .i64 q.bt.ct, .int .i64 q.bt.pr, .int .i64 q.bt.ep, .int .i64 q.bt.sq, .sl 6 (RL q.bt.rs)]] = some ((bt0 q).ok, .tup [.own 1 (bs (putB (bt0 q))), .sv (.int .i64 (batE (bt0 q)))]) := row_eq eB_inj _ (bt0 q)
theorem R31_85 (q : Req) (c : Nat) (b : List Nat) : R31.p 85 [qsv q, .int .i32 (c : Int), .sl 1 (bs b)] = some (q.ok ∧ isLet c ∧ Bytes b ∧ (q.tp.size ≤ 255 ∧ q.gr.size ≤ 255 ∧ q.me.size ≤ 255 ∧ b.length ≤ 100000), .own 1 (bs (fieldL q b c))) := row_eq eF_inj _ (q, c, b)
theorem mm3 (a b c : Nat) : (255 < mmI true (mmI true (a : Int) b) c) ↔ (255 < a ∨ 255 < b ∨ 255 < c) := by
  simp only [mmI, if_true]
  split <;> split <;> omega
theorem put_req (q : Req) (ho : q.ok) (hl : q.bt.rs.length < 4611686018427387904) : Pure Try.prog 31 [q.sv] (.tup [.own 1 (bs (putQ q)), .sv (.int .i64 (reqE q))]) := by
  have e35 := R31_35 q.kd
  have e83 := R31_83 q
  have e84 := R31_84 q
  have e85 := R31_85 q
  have hR := R31_ok
  have hnf : R31.nofz = false := rfl
  have hbo := bt0_ok ho.2.2.2.2.2.2.2.2
  have hm := mm3 q.tp.size q.gr.size q.me.size
  generalize R31 = R at hR e35 e83 e84 e85 hnf
  have o1 := ho.1
  have o2 := ho.2.1
  refine pure_go hR Try.func31 Try.ntmps31 comp31 cres31 (by decide) (by simp) ?_
  simp only [Req.sv, Req.cells]
  by_cases h1 : 11 < q.kd
  · have hE : reqE q = 22 := if_pos h1
    have hP : putQ q = [] := by rw [putQ, if_neg (by rw [hE]; decide)]
    simp [ac31, ar31, h1, hE, hP]
  cases h2 : alienB q with
  | true =>
    have hE : reqE q = 4 := by rw [reqE, if_neg h1, if_pos h2]
    have hP : putQ q = [] := by rw [putQ, if_neg (by rw [hE]; decide)]
    rw [h2] at e83
    simp [ac31, ar31, h1, hE, hP, e83, o1, o2, hl]
  | false =>
  rw [h2] at e83
  by_cases h3 : longQ q
  · have hE : reqE q = 5 := by rw [reqE, if_neg h1, if_neg (by rw [h2]; decide), if_pos h3]
    have hP : putQ q = [] := by rw [putQ, if_neg (by rw [hE]; decide)]
    have h3' := hm.2 h3
    simp [ac31, ar31, h1, hE, hP, e83, o1, o2, hl, -mmI, h3']
  have h3' : ¬ (255 < mmI true (mmI true (q.tp.size : Int) q.gr.size) q.me.size) := fun z => h3 (hm.1 z)
  have hs : q.tp.size ≤ 255 ∧ q.gr.size ≤ 255 ∧ q.me.size ≤ 255 := by unfold longQ at h3; omega
  have hE : reqE q = if q.kd = 3 then (if batE (bt0 q) ≠ 0 then batE (bt0 q) else if q.bt.ba ≠ 0 then 4 else 0) else 0 := by rw [reqE, if_neg h1, if_neg (by rw [h2]; decide), if_neg h3]
  have hll : ∀ c ∈ usesN q.kd, isLet c := fun c h => uses_let h
  have hlt := uses_lt q.kd
  have hlen := uses_len q.kd
  have hbl := bodyQ_le q
  have hbb := bodyQ_bytes q
  have hbE := hbb
  have hk : [SV.int .u8 q.kd] = bs [q.kd.toNat] := by simp [bs]; omega
  have hcell : ∀ x ∈ bs [q.kd.toNat], x.isCell = true := fun x hx => by
    simp [bs] at hx
    subst hx; rfl
  have hcat : ∀ l : List Nat, (catF q (bodyQ q) l).length ≤ 8210 * l.length := catF_le ho h3 hbl
  unfold usesS at e35
  have hreq : reqL q = [q.kd.toNat] ++ catF q (bodyQ q) (usesN q.kd) := rfl
  have hfl := fun c => @fieldL_le q ho h3 (bodyQ q) hbl c
  have h3q := h3
  clear h3
  by_cases k3 : q.kd = 3
  · rw [if_pos k3] at hE
    have hbd : bodyQ q = putB (bt0 q) := if_pos k3
    have hk3 : (q.kd == 3) = true := by simp [k3]
    by_cases h4 : batE (bt0 q) = 0
    case neg =>
      have hP : putQ q = [] := by rw [putQ, if_neg (by rw [hE, if_pos h4]; exact h4)]
      rw [if_pos h4] at hE
      generalize batE (bt0 q) = E at h4 e84 hE
      rw [hE, hP]
      clear hE hP k3
      simp [ac31, ar31, hk3, e83, e84, o1, o2, hl, h1, h3', hbo, h4, -mmI]
    rw [if_neg (by rw [h4]; decide)] at hE
    rw [h4] at e84
    by_cases h5 : q.bt.ba = 0
    case neg =>
      rw [if_pos h5] at hE
      have hP : putQ q = [] := by rw [putQ, if_neg (by rw [hE]; decide)]
      rw [hE, hP]
      clear hE hP k3
      simp [ac31, ar31, hk3, e83, e84, o1, o2, hl, h1, h3', hbo, h5, -mmI]
    rw [if_neg (by rw [h5]; decide)] at hE
    have hP : putQ q = reqL q := by rw [putQ, if_pos hE]
    rw [hE]
    have h5' : (q.bt.ba != 0) = false := by simp [h5]
    clear hE k3 h5
    generalize usesN q.kd = u at *
    simp [ac31, ar31, hk3, e83, e84, e35, o1, o2, hl, h1, h3', hbo, h5', hnf, -mmI]
    refine awpR_loop (α := Nat) (fun i => i ≤ u.length) (fun i => { n := 66, sl := [(1, .lptr 1 0), (4, .sv (.sl 1 (bs (bodyQ q)))), (8, .own 1 (bs ([q.kd.toNat] ++ catF q (bodyQ q) (u.take i)))), (55, .siter (sOf u) i)], bx := [(1, qrv q)], hp := fun _ => none })
      (fun i => u.length - i) 0 (by omega) (by simp [catF, hbd, hk]) ?_
    intro i hi
    have hci := hcat (u.take i)
    rw [List.length_take] at hci
    by_cases h : i < u.length
    · obtain ⟨hv, hp⟩ := nxt_in hlt h
      have hc := hll (u.getD i 0) (by rw [List.getD_eq_getElem?_getD, List.getElem?_eq_getElem h]; exact List.getElem_mem h)
      have hs1 : catF q (bodyQ q) (u.take (i + 1)) = catF q (bodyQ q) (u.take i) ++ fieldL q (bodyQ q) (u.getD i 0) := by
        rw [List.take_succ_eq_append_getElem h, catF_snoc, List.getD_eq_getElem?_getD, List.getElem?_eq_getElem h]; rfl
      have hf := hfl (u.getD i 0)
      generalize u.getD i 0 = c at hv hc hs1 hf
      have e := e85 c (bodyQ q)
      generalize bodyQ q = B at *
      have hB : B.length ≤ 100000 := by omega
      simp [hv, hp, e, ho, hc, hbb, hs, hB]
      refine ⟨by omega, i + 1, by omega, by omega, ?_⟩
      rw [hs1]
      simp [bs]
    · obtain rfl : i = u.length := by omega
      obtain ⟨hv, hp⟩ := nxt_end u
      rw [List.take_length] at *
      simp [hv, hp, hP, hreq, bs]
  · rw [if_neg k3] at hE
    have hbd : bodyQ q = [] := if_neg k3
    have hk3 : (q.kd == 3) = false := by simp [k3]
    have hP : putQ q = reqL q := by rw [putQ, if_pos hE]
    rw [hE]
    clear hE k3
    generalize usesN q.kd = u at *
    simp [ac31, ar31, hk3, e83, e84, e35, o1, o2, hl, h1, h3', hbo, hnf, -mmI]
    refine awpR_loop (α := Nat) (fun i => i ≤ u.length) (fun i => { n := 66, sl := [(1, .lptr 1 0), (4, .sv (.sl 1 (bs (bodyQ q)))), (8, .own 1 (bs ([q.kd.toNat] ++ catF q (bodyQ q) (u.take i)))), (55, .siter (sOf u) i)], bx := [(1, qrv q)], hp := fun _ => none })
      (fun i => u.length - i) 0 (by omega) (by simp [catF, hbd, hk]) ?_
    intro i hi
    have hci := hcat (u.take i)
    rw [List.length_take] at hci
    by_cases h : i < u.length
    · obtain ⟨hv, hp⟩ := nxt_in hlt h
      have hc := hll (u.getD i 0) (by rw [List.getD_eq_getElem?_getD, List.getElem?_eq_getElem h]; exact List.getElem_mem h)
      have hs1 : catF q (bodyQ q) (u.take (i + 1)) = catF q (bodyQ q) (u.take i) ++ fieldL q (bodyQ q) (u.getD i 0) := by
        rw [List.take_succ_eq_append_getElem h, catF_snoc, List.getD_eq_getElem?_getD, List.getElem?_eq_getElem h]; rfl
      have hf := hfl (u.getD i 0)
      generalize u.getD i 0 = c at hv hc hs1 hf
      have e := e85 c (bodyQ q)
      generalize bodyQ q = B at *
      have hB : B.length ≤ 100000 := by omega
      simp [hv, hp, e, ho, hc, hbb, hs, hB]
      refine ⟨by omega, i + 1, by omega, by omega, ?_⟩
      rw [hs1]
      simp [bs]
    · obtain rfl : i = u.length := by omega
      obtain ⟨hv, hp⟩ := nxt_end u
      rw [List.take_length] at *
      simp [hv, hp, hP, hreq, bs]
end Go.Proofs.Ytflcdbfcipkhkaa
