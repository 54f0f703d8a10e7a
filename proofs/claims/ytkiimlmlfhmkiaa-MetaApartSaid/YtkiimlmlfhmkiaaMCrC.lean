import Derived.Test.YtkiimlmlfhmkiaaMCvG
import Derived.Test.YtkiimlmlfhmkiaaCrA
import Derived.Test.YtkiimlmlfhmkiaaCmE
import Derived.Test.YtkiimlmlfhmkiaaCmX

set_option linter.unusedVariables false
set_option linter.unusedSimpArgs false

set_option linter.unusedSimpArgs false
set_option linter.unusedVariables false
set_option maxHeartbeats 2000000
namespace Go.Proofs.Ytkiimlmlfhmkiaa
open Go.Av

def recP (r : Rec) : List Nat := ((if r.kd then 1 else 0) + (if r.dd then 2 else 0)) :: (layN (zig r.dl) ++ layN (zig r.tm)) ++ (if r.kd then layN (zig r.key.size) ++ bytesNat r.key else []) ++ (if r.dd then [] else layN (zig r.val.size) ++ bytesNat r.val)

def RP : Orc := { p := fun f l => match f, l with
    | 50, [.int .i64 n] => some (I64 n, .own 1 (bs (layN (zig n))))
    | 55, [.int .i64 n] => some (I64 n, .own 1 (bs (layN (zig n))))
    | 52, [.str s] => some (s.size ≤ 140737488355000, .own 1 (bs (layN (zig s.size) ++ bytesNat s)))
    | 74, [.agg [.int .i64 dl, .int .i64 tm, .bool kd, .str key, .bool dd, .str val]] => some (True, .sv (.int .i64 (recE ⟨dl, tm, kd, key, dd, val⟩)))
    | 80, [.agg [.int .i64 dl, .int .i64 tm, .bool kd, .str key, .bool dd, .str val]] => some (True, .sv (.int .i64 (recE ⟨dl, tm, kd, key, dd, val⟩)))
    | _, _ => none }
theorem RP_ok : RP.ok Try.prog := by
  refine ⟨fun f l c rv h hc => ?_, fun _ _ _ _ _ _ h => (by cases h), fun _ _ _ _ h => (by cases h), fun _ h => (by cases h), fun _ _ _ _ _ _ h => (by cases h), fun _ _ _ _ _ _ _ h => (by cases h)⟩
  simp only [RP] at h
  split at h <;> cases h
  · exact put_pure _ hc
  · exact rput_pure _ hc
  · exact text_pure _ hc
  · exact check_pure ⟨_, _, _, _, _, _⟩
  · exact rcheck_pure ⟨_, _, _, _, _, _⟩
@[simp] theorem RP_50 (n : Int) : RP.p 50 [.int .i64 n] = some (I64 n, .own 1 (bs (layN (zig n)))) := rfl
@[simp] theorem RP_52 (s : ByteArray) : RP.p 52 [.str s] = some (s.size ≤ 140737488355000, .own 1 (bs (layN (zig s.size) ++ bytesNat s))) := rfl
@[simp] theorem RP_74 (dl tm kd key dd val) : RP.p 74 [.agg [.int .i64 dl, .int .i64 tm, .bool kd, .str key, .bool dd, .str val]] = some (True, .sv (.int .i64 (recE ⟨dl, tm, kd, key, dd, val⟩))) := rfl
theorem recE_small {r : Rec} (h : recE r = 0) : 0 ≤ r.dl ∧ r.dl < 32 ∧ 0 ≤ r.tm ∧ r.tm ≤ 1099511627776 ∧ r.key.size ≤ 64 ∧ r.val.size ≤ 512 := by
  unfold recE at h
  split at h
  · cases h
  · split at h
    · cases h
    · omega

theorem bytesNat_length (s : ByteArray) : (bytesNat s).length = s.size := by simp [bytesNat]

def putR (r : Rec) : List Nat := if recE r = 0 then recP r else []
theorem put_rec (r : Rec) : Pure Try.prog 98 [r.sv] (.tup [.own 1 (bs (putR r)), .sv (.int .i64 (recE r))]) := by
  refine pure_go RP_ok Try.func98 Try.ntmps98 comp98 cres98 (by decide) (by simp) ?_
  by_cases h : recE r = 0
  · obtain ⟨a1, a2, a3, a4, a5, a6⟩ := recE_small h
    rw [putR, if_pos h, h]
    obtain ⟨dl, tm, kd, key, dd, val⟩ := r
    simp only at a1 a2 a3 a4 a5 a6
    have i1 : I64 dl := ⟨by omega, by omega⟩
    have i2 : I64 tm := ⟨by omega, by omega⟩
    have l1 := layN_le10 (zig_lt i1.1 i1.2)
    have l2 := layN_le10 (zig_lt i2.1 i2.2)
    have l3 := layN_le10 (u := zig key.size) (zig_lt (by omega) (by omega))
    have l4 := layN_le10 (u := zig val.size) (zig_lt (by omega) (by omega))
    have k1 : key.size ≤ 140737488355000 := by omega
    have k2 : val.size ≤ 140737488355000 := by omega
    simp only [Rec.sv, Rec.cells]
    cases kd <;> cases dd <;> simp [ac98, ar98, h, i1, i2, k1, k2, bytesNat_length]
    all_goals (repeat' apply And.intro) <;> first | omega | (simp [recP, bs_append, bs_cons]; done) | (simp [recP, bs_append, bs_cons]; rfl)
  · rw [putR, if_neg h]
    obtain ⟨dl, tm, kd, key, dd, val⟩ := r
    simp only [Rec.sv, Rec.cells]
    simp [ac98, ar98, h]

theorem rtext_pure (s : ByteArray) (h : s.size ≤ 140737488355000) : Pure Try.prog 56 [.str s] (.own 1 (bs (layN (zig s.size) ++ bytesNat s))) := by
  refine pure_go RP_ok Try.func56 Try.ntmps56 comp56 cres56 (by decide) (by simp) ?_
  have hI : I64 (s.size : Int) := ⟨by omega, by omega⟩
  simp [ac56, ar56, RP, hI]
  have h1 := layN_le10 (u := zig s.size) (zig_lt (by omega) (by omega))
  refine ⟨by omega, ?_⟩
  rw [bytesV_eq, bs_append]; rfl
def RP2 : Orc := { RP with p := fun f l => match f, l with
    | 56, [.str s] => some (s.size ≤ 140737488355000, .own 1 (bs (layN (zig s.size) ++ bytesNat s)))
    | f, l => RP.p f l }
theorem RP2_ok : RP2.ok Try.prog := by
  refine ⟨fun f l c rv h hc => ?_, RP_ok.e, RP_ok.n, fun _ h => (by cases h), fun _ _ _ _ _ _ h => (by cases h), fun _ _ _ _ _ _ _ h => (by cases h)⟩
  simp only [RP2] at h
  split at h
  · cases h; exact rtext_pure _ hc
  · exact RP_ok.p _ _ _ _ h hc
@[simp] theorem RP2_55 (n : Int) : RP2.p 55 [.int .i64 n] = some (I64 n, .own 1 (bs (layN (zig n)))) := rfl
@[simp] theorem RP2_56 (s : ByteArray) : RP2.p 56 [.str s] = some (s.size ≤ 140737488355000, .own 1 (bs (layN (zig s.size) ++ bytesNat s))) := rfl
@[simp] theorem RP2_80 (dl tm kd key dd val) : RP2.p 80 [.agg [.int .i64 dl, .int .i64 tm, .bool kd, .str key, .bool dd, .str val]] = some (True, .sv (.int .i64 (recE ⟨dl, tm, kd, key, dd, val⟩))) := rfl

theorem rput_rec (r : Rec) : Pure Try.prog 99 [r.sv] (.tup [.own 1 (bs (putR r)), .sv (.int .i64 (recE r))]) := by
  refine pure_go RP2_ok Try.func99 Try.ntmps99 comp99 cres99 (by decide) (by simp) ?_
  by_cases h : recE r = 0
  · obtain ⟨a1, a2, a3, a4, a5, a6⟩ := recE_small h
    rw [putR, if_pos h, h]
    obtain ⟨dl, tm, kd, key, dd, val⟩ := r
    simp only at a1 a2 a3 a4 a5 a6
    have i1 : I64 dl := ⟨by omega, by omega⟩
    have i2 : I64 tm := ⟨by omega, by omega⟩
    have l1 := layN_le10 (zig_lt i1.1 i1.2)
    have l2 := layN_le10 (zig_lt i2.1 i2.2)
    have l3 := layN_le10 (u := zig key.size) (zig_lt (by omega) (by omega))
    have l4 := layN_le10 (u := zig val.size) (zig_lt (by omega) (by omega))
    have k1 : key.size ≤ 140737488355000 := by omega
    have k2 : val.size ≤ 140737488355000 := by omega
    simp only [Rec.sv, Rec.cells]
    cases kd <;> cases dd <;> simp [ac99, ar99, h, i1, i2, k1, k2, bytesNat_length]
    all_goals (repeat' apply And.intro) <;> first | omega | (simp [recP, bs_append, bs_cons]; done) | (simp [recP, bs_append, bs_cons]; rfl)
  · rw [putR, if_neg h]
    obtain ⟨dl, tm, kd, key, dd, val⟩ := r
    simp only [Rec.sv, Rec.cells]
    simp [ac99, ar99, h]
end Go.Proofs.Ytkiimlmlfhmkiaa

/- Meta: Put. -/



set_option linter.unusedSimpArgs false
set_option linter.unusedVariables false
set_option maxHeartbeats 4000000
namespace Go.Proofs.Ytkiimlmlfhmkiaa
open Go.Av

def R49 : Orc := { p := fun f l => match f, l with
  | 50, [.int .i64 n] => some (I64 n, .own 1 (bs (layN (zig n))))
  | _, _ => none }
theorem R49_ok : R49.ok Try.prog := by
  refine ⟨fun f l c rv h hc => ?_, fun _ _ _ _ _ _ h => (by cases h), fun _ _ _ _ h => (by cases h), fun _ h => (by cases h), fun _ _ _ _ _ _ h => (by cases h), fun _ _ _ _ _ _ _ h => (by cases h)⟩
  simp only [R49] at h
  split at h <;> cases h
  exact put_pure _ hc
theorem lay_eff (s : Nat) (X : List Nat) (has : Bool) (n : Int) (hn : I64 n) (hX : X.length ≤ 1000) :
    EffB Try.prog 49 [(s, [.own 1 (bs X)])] [.v (.bool has), .v (.int .i64 n), .c (.bp s 0)] (.tup []) [(s, [.own 1 (bs (X ++ if has = true then layN (zig n) else []))])] := by
  have hl := layN_le10 (zig_lt hn.1 hn.2)
  refine effB_go R49_ok Try.func49 Try.ntmps49 comp49 cres49 (by decide) (by simp) rfl (by simp) ?_
  cases has with
  | true =>
    simp [ac49, ar49, R49, hn]
    exact ⟨by omega, by simp [bs]⟩
  | false => simp [ac49, ar49, R49]
end Go.Proofs.Ytkiimlmlfhmkiaa

/- Meta: Put, by a closure. -/

set_option linter.unusedSimpArgs false
set_option linter.unusedVariables false
set_option maxHeartbeats 4000000
namespace Go.Proofs.Ytkiimlmlfhmkiaa
open Go.Av

theorem ok49 : okFn Try.prog 49 := ⟨_, Try.func49, rfl, rfl⟩
def textN (s : ByteArray) : List Nat := layN (zig s.size) ++ bytesNat s
def Met.ok (m : Met) : Prop := 0 ≤ m.kd ∧ m.kd < 256 ∧ I64 m.tp ∧ I64 m.ix ∧ I64 m.pa ∧ I64 m.zo ∧ I64 m.ba ∧ I64 m.cn
def lz (b : Bool) (n : Int) : List Nat := if b = true then layN (zig n) else []
/-- A meta's bytes. -/
def metL (m : Met) : List Nat :=
  [m.kd.toNat] ++ lz true m.tp ++ lz (decide (m.kd = 0)) m.pa ++ lz (decide (m.kd = 0)) (if m.co = true then 1 else 0) ++ lz (decide (m.kd = 2 ∨ m.kd = 3 ∨ m.kd = 4 ∨ m.kd = 5)) m.ix ++
    lz (decide (m.kd = 4)) m.cn ++ lz (decide (m.kd = 2 ∨ m.kd = 3 ∨ m.kd = 4)) m.zo ++ lz (decide (m.kd = 2 ∨ m.kd = 4 ∨ m.kd = 5)) m.ba ++ (if decide (m.kd = 0) = true then textN m.nm else [])
def putM (m : Met) : List Nat := if metE m = 0 then metL m else []
theorem lz_le {b : Bool} {n : Int} (h : I64 n) : (lz b n).length ≤ 10 := by
  unfold lz
  split
  · exact layN_le10 (zig_lt h.1 h.2)
  · simp
noncomputable def R16p (f : FuncId) (l : List SV) : Option (Prop × LV) :=
  match f with
  | 18 => row eM (fun m => (True, .sv (.int .i64 (metE m)))) l
  | 51 => RmA.p 51 l
  | 52 => row (fun s : ByteArray => [.str s]) (fun s => (s.size ≤ 140737488355000, .own 1 (bs (textN s)))) l
  | _ => none
def R16b (f : FuncId) (l : List BA) (look : Nat → Option (List RV)) : Option (Prop × List (Nat × List RV) × LV × List (Nat × List RV)) :=
  match f, l with
  | 49, [.v (.bool has), .v (.int .i64 n), .c (.bp s 0)] => match look s with
    | some [.own 1 xs] => some (xs = bs (nsOf xs) ∧ I64 n ∧ xs.length ≤ 1000, [(s, [.own 1 xs])], .tup [], [(s, [.own 1 (bs (nsOf xs ++ lz has n))])])
    | _ => none
  | _, _ => none
noncomputable def R16 : Orc := { p := R16p, fv := fun f => f == 49, nofz := true, b := R16b }
theorem R16_ok : R16.ok Try.prog := by
  refine ⟨fun f l c rv h hc => ?_, fun _ _ _ _ _ _ h => (by cases h), fun _ _ _ _ h => (by cases h), fun f h => ?_, fun _ _ _ _ _ _ h => (by cases h), fun f l look c bxs rv bxs' h hc => ?_⟩
  · change R16p f l = _ at h
    unfold R16p at h
    split at h
    · exact row_ok h hc (fun m _ => check_met m)
    · exact RmA_ok.p _ _ _ _ h hc
    · exact row_ok h hc (fun s hs => text_pure s hs)
    · cases h
  · have : f = 49 := by simpa [R16] using h
    subst this; exact ok49
  · change R16b f l look = _ at h
    unfold R16b at h
    split at h
    · split at h
      · rename_i has n s _ xs _
        simp only [Option.some.injEq, Prod.mk.injEq] at h
        obtain ⟨rfl, rfl, rfl, rfl⟩ := h
        obtain ⟨h1, h2, h3⟩ := hc
        have := lay_eff s (nsOf xs) has n h2 (by simpa [nsOf] using h3)
        rw [← h1] at this
        exact this
      · cases h
    · cases h
theorem R16_18 (m : Met) : R16.p 18 [msv m] = some (True, .sv (.int .i64 (metE m))) := row_eq eM_inj _ m
theorem R16_51 (k : Int) : R16.p 51 [.int .u8 k] = some (True, .sv (.agg (ofK k))) := rfl
theorem R16_52 (s : ByteArray) : R16.p 52 [.str s] = some (s.size ≤ 140737488355000, .own 1 (bs (textN s))) := row_eq (enc := fun s : ByteArray => [.str s]) (fun a b h => by simpa using h) _ s
theorem metE_name {m : Met} (h : metE m = 0) (hk : m.kd = 0) : m.nm.size ≤ 32 := by
  unfold metE at h
  by_cases h1 : 6 < m.kd
  · rw [if_pos h1] at h; cases h
  rw [if_neg h1] at h
  by_cases h2 : strg m = true
  · rw [if_pos h2] at h; cases h
  rw [if_neg h2] at h
  by_cases h3 : rngM m
  · rw [if_pos h3] at h; cases h
  rw [if_neg h3, if_neg (fun q => q hk)] at h
  by_cases h4 : m.pa < 1 ∨ 8 < m.pa
  · rw [if_pos h4] at h; cases h
  rw [if_neg h4] at h
  by_cases h5 : nameB m.nm = false
  · rw [if_pos h5] at h; cases h
  have : nameB m.nm = true := by simpa using h5
  simp only [nameB, Bool.and_eq_true, decide_eq_true_eq] at this
  exact this.2.1
theorem put_met (m : Met) (ho : m.ok) : Pure Try.prog 16 [m.sv] (.tup [.sv (.sl 1 (bs (putM m))), .sv (.int .i64 (metE m))]) := by
  have e18 := R16_18 m
  have e51 := R16_51 m.kd
  have e52 := R16_52 m.nm
  have e49 : R16.b = R16b := rfl
  have hR := R16_ok
  have hfv : R16.fv 49 = true := rfl
  have hnf : R16.nofz = true := rfl
  generalize R16 = R at hR e18 e51 e52 e49 hfv hnf
  refine pure_go hR Try.func16 Try.ntmps16 comp16 cres16 (by decide) (by simp) ?_
  simp only [Met.sv, Met.cells]
  by_cases hE : metE m = 0
  case neg =>
    have hp : putM m = [] := if_neg hE
    have hb : bs (putM m) = [] := by rw [hp]; rfl
    generalize metE m = E at e18 hE
    have e51' := e51
    unfold ofK at e51'
    simp (maxSteps := 400000) [ac16, ar16, e18, hE, hb, hnf, hfv, e49, R16b, e51', e52]
  have hp : putM m = metL m := if_pos hE
  rw [hE] at e18
  obtain ⟨o1, o2, o3, o4, o5, o6, o7, o8⟩ := ho
  have hk : [SV.int .u8 m.kd] = bs [m.kd.toNat] := by simp [bs]; omega
  rw [hk] at e51
  have hcI : I64 (if m.co = true then 1 else 0) := by split <;> exact ⟨by omega, by omega⟩
  unfold ofK at e51
  have l1 := @lz_le true m.tp o3
  have hsz : decide (m.kd = 0) = true → m.nm.size ≤ 32 := fun q => metE_name hE (by simpa using q)
  have hm : putM m = _ := hp
  unfold metL at hm
  generalize decide (m.kd = 0) = f1 at e51 hm hsz
  generalize decide (m.kd = 2 ∨ m.kd = 3 ∨ m.kd = 4 ∨ m.kd = 5) = f2 at e51 hm
  generalize decide (m.kd = 4) = f3 at e51 hm
  generalize decide (m.kd = 2 ∨ m.kd = 3 ∨ m.kd = 4) = f4 at e51 hm
  generalize decide (m.kd = 2 ∨ m.kd = 4 ∨ m.kd = 5) = f5 at e51 hm
  have l2 := @lz_le f1 m.pa o5
  have l3 := @lz_le f1 _ hcI
  have l4 := @lz_le f2 m.ix o4
  have l5 := @lz_le f3 m.cn o8
  have l6 := @lz_le f4 m.zo o6
  have l7 := @lz_le f5 m.ba o7
  have hcell : ∀ x ∈ bs [m.kd.toNat], x.isCell = true := fun x hx => by
    simp [bs] at hx
    subst hx; rfl
  have htx : m.nm.size ≤ 32 → (textN m.nm).length ≤ 42 := fun q => by
    have h1 := layN_le10 (u := zig m.nm.size) (zig_lt (by omega) (by omega))
    have h2 : (bytesNat m.nm).length = m.nm.size := by simp [bytesNat]
    simp only [textN, List.length_append, h2]
    omega
  have bs_app : ∀ a b : List Nat, bs a ++ bs b = bs (a ++ b) := fun a b => by simp [bs]
  cases hco : m.co with
  | true =>
    rw [hco] at l3 hcI hm
    simp only [if_true] at l3 hcI hm
    simp only [msv, hco] at e18
    simp (maxSteps := 400000) [ac16, ar16, e18, e51, e52, hk, hnf, hfv, e49, R16b, o3, o4, o5, o6, o7, o8, hcI, hco]
    refine ⟨fun x hx => by have := hcell x hx; cases x <;> simp [SV.isCell] at this ⊢, by omega, by omega, by omega, by omega, by omega, by omega, fun q => ⟨⟨by have := hsz q; omega, by have := htx (hsz q); omega⟩, ?_, hE.symm⟩, fun q => ⟨?_, hE.symm⟩⟩
    · rw [hm, bs_app, q]; simp
    · rw [hm, q]; simp
  | false =>
    rw [hco] at l3 hcI hm
    simp only [if_false, Bool.false_eq_true] at l3 hcI hm
    simp only [msv, hco] at e18
    simp (maxSteps := 400000) [ac16, ar16, e18, e51, e52, hk, hnf, hfv, e49, R16b, o3, o4, o5, o6, o7, o8, hcI, hco]
    refine ⟨fun x hx => by have := hcell x hx; cases x <;> simp [SV.isCell] at this ⊢, by omega, by omega, by omega, by omega, by omega, by omega, fun q => ⟨⟨by have := hsz q; omega, by have := htx (hsz q); omega⟩, ?_, hE.symm⟩, fun q => ⟨?_, hE.symm⟩⟩
    · rw [hm, bs_app, q]; simp
    · rw [hm, q]; simp
end Go.Proofs.Ytkiimlmlfhmkiaa

/- Meta: Get, by a closure that takes. -/


set_option linter.unusedSimpArgs false
set_option linter.unusedVariables false
set_option maxHeartbeats 4000000
namespace Go.Proofs.Ytkiimlmlfhmkiaa
open Go.Av

def R61 : Orc := {
  p := fun _ _ => none
  e := fun f cells l => match f, cells, l with
    | 62, [.sl 1 xs, .int .i64 e], [] => some (IsBs xs ∧ xs.length < 4611686018427387904, .sv (.int .i64 (rNum (nsOf xs) e).1), [.sl 1 (bs (rNum (nsOf xs) e).2.1), .int .i64 (rNum (nsOf xs) e).2.2])
    | _, _, _ => none }
theorem R61_ok : R61.ok Try.prog := by
  refine ⟨fun _ _ _ _ h => (by cases h), fun f cells l c rv cells' h hc => ?_, fun _ _ _ _ h => (by cases h), fun _ h => (by cases h), fun _ _ _ _ _ _ h => (by cases h), fun _ _ _ _ _ _ _ h => (by cases h)⟩
  simp only [R61] at h
  split at h <;> cases h
  rename_i xs e
  obtain ⟨⟨e1, h1⟩, h2⟩ := hc
  have := num_eff (nsOf xs) e h1 (by rw [e1] at h2; simpa using h2)
  rwa [← e1] at this
def tkN (has : Bool) (l : List Nat) (e : Int) : Int × List Nat × Int := if has = true then rNum l e else (0, l, e)
theorem mtake_eff (s t off : Nat) (cells : List RV) (l : List Nat) (e : Int) (has : Bool) (hst : s ≠ t) (hoff : off < cells.length) (hz : cells.getD off (.sv .undef) = .sv (.int .i64 0)) (hb : Bytes l) (hl : l.length < 4611686018427387904) :
    EffB Try.prog 61 [(s, [.sv (.sl 1 (bs l)), .sv (.int .i64 e)]), (t, cells)] [.v (.bool has), .c (.bp t off), .c (.pp s 0)] (.tup [])
      [(s, [.sv (.sl 1 (bs (tkN has l e).2.1)), .sv (.int .i64 (tkN has l e).2.2)]), (t, cells.set off (.sv (.int .i64 (tkN has l e).1)))] := by
  have hts : t ≠ s := fun q => hst q.symm
  refine effB_go R61_ok Try.func61 Try.ntmps61 comp61 cres61 (by decide) (by simp) rfl (by simp [hst, hts]) ?_
  cases has with
  | true =>
    simp [ac61, ar61, R61, tkN, hst, hts, isBs_bs, hb, hl]
    exact ⟨by omega, WkRs_refl _⟩
  | false =>
    have hset : cells.set off (.sv (.int .i64 0)) = cells := by
      rw [← hz, List.getD_eq_getElem?_getD, List.getElem?_eq_getElem hoff]
      exact List.set_getElem_self hoff
    simp [ac61, ar61, R61, tkN, hst, hts, hset]
    exact WkRs_refl _
end Go.Proofs.Ytkiimlmlfhmkiaa
