import Derived.Test.YtkiimlmlfhmkiaaMCvB
import Derived.Test.YtkiimlmlfhmkiaaCrA

set_option linter.unusedVariables false
set_option linter.unusedSimpArgs false

set_option linter.unusedSimpArgs false
set_option linter.unusedVariables false
set_option maxHeartbeats 1000000
namespace Go.Proofs.Ytkiimlmlfhmkiaa
open Go.Av

def bytesNat (s : ByteArray) : List Nat := s.data.toList.map UInt8.toNat
theorem bytesV_eq (l : List UInt8) : bytesV l = bs (l.map UInt8.toNat) := by simp [bytesV, bs]

def R3 : Orc := { p := fun f l => match f, l with
  | 87, [.int .i64 n] => some (I64 n, .sv (.int .u64 (zig n)))
  | 90, [.int .i64 n] => some (I64 n, .sv (.int .u64 (zig n)))
  | 103, [.int .u64 u] => some (U64 u, .sv (.int .i64 (zag u.toNat)))
  | 105, [.int .u64 u] => some (U64 u, .sv (.int .i64 (zag u.toNat)))
  | 50, [.int .i64 n] => some (I64 n, .own 1 (bs (layN (zig n))))
  | 55, [.int .i64 n] => some (I64 n, .own 1 (bs (layN (zig n))))
  | 95, [.sl 1 xs] => some (IsBs xs ∧ xs.length < 4611686018427387904, .tup [.sv (.int .i64 (getN (nsOf xs)).1), .sv (.int .i64 (getN (nsOf xs)).2.1), .sv (.int .i64 (getN (nsOf xs)).2.2)])
  | 95, [.nils] => some (True, .tup [.sv (.int .i64 0), .sv (.int .i64 0), .sv (.int .i64 3)])
  | 97, [.sl 1 xs] => some (IsBs xs ∧ xs.length < 4611686018427387904, .tup [.sv (.int .i64 (getN (nsOf xs)).1), .sv (.int .i64 (getN (nsOf xs)).2.1), .sv (.int .i64 (getN (nsOf xs)).2.2)])
  | 97, [.nils] => some (True, .tup [.sv (.int .i64 0), .sv (.int .i64 0), .sv (.int .i64 3)])
  | 92, [.sl 1 xs] => some (IsBs xs ∧ xs.length < 4611686018427387904, .sv (.int .u64 (unF (nsOf xs))))
  | 92, [.nils] => some (True, .sv (.int .u64 0))
  | 104, [.sl 1 xs] => some (IsBs xs ∧ xs.length < 4611686018427387904, .sv (.int .u64 (unF (nsOf xs))))
  | 104, [.nils] => some (True, .sv (.int .u64 0))
  | 94, [.int .i64 w] => some (True, .sv (.int .i64 (wid w)))
  | 91, [.sl 1 xs] => some (xs.length ≤ 140737488355328, .own 1 xs)
  | _, _ => none }

theorem pure_of_nils {P : Program} {f : FuncId} {rv : LV} (h : Pure P f [.sl 1 []] rv) : Pure P f [.nils] rv := by
  intro mu w vs hm ha
  refine h mu w vs hm ⟨ha.1, fun j hj => ?_⟩
  have := ha.2 j hj
  simp at hj
  subst hj
  simp at this ⊢
  rw [Rep.inv_nils this]
  exact .slnil 1

theorem clone_pure (xs : List SV) (hl : xs.length ≤ 140737488355328) : Pure Try.prog 91 [.sl 1 xs] (.own 1 xs) := by
  refine pure_go R0_ok Try.func91 Try.ntmps91 comp91 cres91 (by decide) (by simp) ?_
  cases xs with
  | nil => simp [ac91, ar91]
  | cons x xs => simp [ac91, ar91]; simpa using hl

theorem R3_ok : R3.ok Try.prog := by
  refine ⟨fun f l c rv h hc => ?_, fun _ _ _ _ _ _ h => (by cases h), fun _ _ _ _ h => (by cases h), fun _ h => (by cases h), fun _ _ _ _ _ _ h => (by cases h), fun _ _ _ _ _ _ _ h => (by cases h)⟩
  simp only [R3] at h
  split at h <;> cases h
  · exact R1_ok.p 87 _ _ _ rfl hc
  · exact R1_ok.p 90 _ _ _ rfl hc
  · exact R1_ok.p 103 _ _ _ rfl hc
  · exact R1_ok.p 105 _ _ _ rfl hc
  · exact put_pure _ hc
  · exact rput_pure _ hc
  · obtain ⟨⟨e1, h1⟩, h2⟩ := hc
    have := get_pure _ h1 (by rw [e1] at h2; simpa using h2)
    rwa [← e1] at this
  · exact pure_of_nils (get_pure [] (fun c h => by simp at h) (by simp))
  · obtain ⟨⟨e1, h1⟩, h2⟩ := hc
    have := rget_pure _ h1 (by rw [e1] at h2; simpa using h2)
    rwa [← e1] at this
  · exact pure_of_nils (rget_pure [] (fun c h => by simp at h) (by simp))
  · obtain ⟨⟨e1, h1⟩, h2⟩ := hc
    have := unfixed_pure _ h1 (by rw [e1] at h2; simpa using h2)
    rwa [← e1] at this
  · exact pure_of_nils (unfixed_pure [] (fun c h => by simp at h) (by simp))
  · obtain ⟨⟨e1, h1⟩, h2⟩ := hc
    have := runfixed_pure _ h1 (by rw [e1] at h2; simpa using h2)
    rwa [← e1] at this
  · exact pure_of_nils (runfixed_pure [] (fun c h => by simp at h) (by simp))
  · exact R1_ok.p 94 _ _ _ rfl trivial
  · exact clone_pure _ hc

theorem text_pure (s : ByteArray) (h : s.size ≤ 140737488355000) : Pure Try.prog 52 [.str s] (.own 1 (bs (layN (zig s.size) ++ bytesNat s))) := by
  refine pure_go R3_ok Try.func52 Try.ntmps52 comp52 cres52 (by decide) (by simp) ?_
  simp [ac52, ar52, R3, I64]
  have h1 := layN_le10 (u := zig s.size) (zig_lt (by omega) (by omega))
  refine ⟨⟨by omega, by omega⟩, ?_⟩
  rw [bytesV_eq, bs_append]; rfl

theorem err_eff (b : SV) (e : Int) : Eff1 Try.prog 67 [b, .int .i64 e] [] (.sv (.int .i64 e)) [b, .int .i64 e] := by
  refine eff_go R0_ok Try.func67 Try.ntmps67 comp67 cres67 (by decide) (by simp) ?_
  simp [ac67, ar67]
theorem err_nil : Pure Try.prog 67 [.nilp] (.sv (.int .i64 1)) := by
  refine pure_go R0_ok Try.func67 Try.ntmps67 comp67 cres67 (by decide) (by simp) ?_
  simp [ac67, ar67]
/-- What a reader's take does. -/
def rTake (l : List Nat) (e n : Int) : List Nat × List Nat × Int := if (l.length : Int) < n then ([], l, 3) else (l.take n.toNat, l.drop n.toNat, e)
def rNum (l : List Nat) (e : Int) : Int × List Nat × Int := if e = 0 then ((getN l).1, l.drop (getN l).2.1, (getN l).2.2) else (0, l, e)
def rFixed (l : List Nat) (e w : Int) : Nat × List Nat × Int := if e = 0 then (unF (rTake l e (wid w)).1, (rTake l e (wid w)).2) else (0, l, e)
def rText (l : List Nat) (e most : Int) : List Nat × List Nat × Int :=
  let (n, l', e') := rNum l e
  if e' = 0 then (if n < 0 ∨ n > (if most > 0 then most else 0) then ([], l', 5) else rTake l' e' n) else ([], l', e')
def rDone (l : List Nat) (e : Int) : Int := if e = 0 then (if l.length > 0 then 4 else 0) else e

theorem take_eff (l : List Nat) (e n : Int) (hl : l.length < 4611686018427387904) (hn : 0 ≤ n) : Eff1 Try.prog 93 [.sl 1 (bs l), .int .i64 e] [.int .i64 n] (.sv (.sl 1 (bs (rTake l e n).1))) [.sl 1 (bs (rTake l e n).2.1), .int .i64 (rTake l e n).2.2] := by
  refine eff_go R0_ok Try.func93 Try.ntmps93 comp93 cres93 (by decide) (by simp) ?_
  by_cases h : (l.length : Int) < n
  · simp [ac93, ar93, h, rTake]
  · simp [ac93, ar93, h, rTake, bs_take, bs_drop]
    refine ⟨⟨hn, by omega⟩, ?_⟩
    rw [List.take_of_length_le (by simp)]

def RR : Orc := { R3 with e := fun f cells l => match f, cells, l with
  | 67, [b, .int .i64 e], [] => some (True, .sv (.int .i64 e), [b, .int .i64 e])
  | 93, [.sl 1 xs, .int .i64 e], [.int .i64 n] => some (IsBs xs ∧ xs.length < 4611686018427387904 ∧ 0 ≤ n, .sv (.sl 1 (bs (rTake (nsOf xs) e n).1)), [.sl 1 (bs (rTake (nsOf xs) e n).2.1), .int .i64 (rTake (nsOf xs) e n).2.2])
  | _, _, _ => none }
theorem RR_ok : RR.ok Try.prog := by
  refine ⟨R3_ok.p, fun f cells l c rv cells' h hc => ?_, fun _ _ _ _ h => (by cases h), fun _ h => (by cases h), fun _ _ _ _ _ _ h => (by cases h), fun _ _ _ _ _ _ _ h => (by cases h)⟩
  simp only [RR] at h
  split at h <;> cases h
  · exact err_eff _ _
  · rename_i xs e n
    obtain ⟨⟨e1, h1⟩, h2, h3⟩ := hc
    have := take_eff (nsOf xs) e n (by rw [e1] at h2; simpa using h2) h3
    rwa [← e1] at this
@[simp] theorem RR_95 (xs : List SV) : RR.p 95 [.sl 1 xs] = some (IsBs xs ∧ xs.length < 4611686018427387904, .tup [.sv (.int .i64 (getN (nsOf xs)).1), .sv (.int .i64 (getN (nsOf xs)).2.1), .sv (.int .i64 (getN (nsOf xs)).2.2)]) := rfl
@[simp] theorem RR_92 (xs : List SV) : RR.p 92 [.sl 1 xs] = some (IsBs xs ∧ xs.length < 4611686018427387904, .sv (.int .u64 (unF (nsOf xs)))) := rfl
@[simp] theorem RR_94 (w : Int) : RR.p 94 [.int .i64 w] = some (True, .sv (.int .i64 (wid w))) := rfl
@[simp] theorem RR_67 (b : SV) (e : Int) : RR.e 67 [b, .int .i64 e] [] = some (True, .sv (.int .i64 e), [b, .int .i64 e]) := rfl
@[simp] theorem RR_93 (xs : List SV) (e n : Int) : RR.e 93 [.sl 1 xs, .int .i64 e] [.int .i64 n] = some (IsBs xs ∧ xs.length < 4611686018427387904 ∧ 0 ≤ n, .sv (.sl 1 (bs (rTake (nsOf xs) e n).1)), [.sl 1 (bs (rTake (nsOf xs) e n).2.1), .int .i64 (rTake (nsOf xs) e n).2.2]) := rfl

theorem getN_k (l : List Nat) : (getN l).2.1 ≤ l.length := by
  unfold getN
  simp only []
  split
  · rename_i h
    split
    · have := endN_le (l.take 10); simp at h this ⊢; omega
    · simp
  · split <;> simp

theorem rTake_bytes {l : List Nat} (hl : Bytes l) (e n : Int) : Bytes (rTake l e n).1 := by
  unfold rTake; split
  · exact fun c h => by simp at h
  · exact hl.take _
theorem rTake_bytes2 {l : List Nat} (hl : Bytes l) (e n : Int) : Bytes (rTake l e n).2.1 := by
  unfold rTake; split
  · exact hl
  · exact hl.drop _
theorem rTake_le (l : List Nat) (e n : Int) : (rTake l e n).1.length ≤ l.length := by
  unfold rTake; split <;> simp; omega
theorem rTake_le2 (l : List Nat) (e n : Int) : (rTake l e n).2.1.length ≤ l.length := by
  unfold rTake; split <;> simp
theorem rNum_bytes {l : List Nat} (hl : Bytes l) (e : Int) : Bytes (rNum l e).2.1 := by
  unfold rNum; split
  · exact hl.drop _
  · exact hl
theorem rNum_le (l : List Nat) (e : Int) : (rNum l e).2.1.length ≤ l.length := by
  unfold rNum; split <;> simp
theorem rFixed_bytes {l : List Nat} (hl : Bytes l) (e w : Int) : Bytes (rFixed l e w).2.1 := by
  unfold rFixed; split
  · exact rTake_bytes2 hl _ _
  · exact hl
theorem rFixed_le (l : List Nat) (e w : Int) : (rFixed l e w).2.1.length ≤ l.length := by
  unfold rFixed; split
  · exact rTake_le2 _ _ _
  · simp

theorem num_eff (l : List Nat) (e : Int) (hl : Bytes l) (hn : l.length < 4611686018427387904) : Eff1 Try.prog 62 [.sl 1 (bs l), .int .i64 e] [] (.sv (.int .i64 (rNum l e).1)) [.sl 1 (bs (rNum l e).2.1), .int .i64 (rNum l e).2.2] := by
  refine eff_go RR_ok Try.func62 Try.ntmps62 comp62 cres62 (by decide) (by simp) ?_
  have hk := getN_k l
  by_cases h : e = 0
  · simp [ac62, ar62, h, rNum, isBs_bs, hl, hn, hk, bs_drop]
    rw [List.take_of_length_le (by simp)]
  · simp [ac62, ar62, h, rNum]

theorem rfix_eff (l : List Nat) (e w : Int) (hl : Bytes l) (hn : l.length < 4611686018427387904) : Eff1 Try.prog 60 [.sl 1 (bs l), .int .i64 e] [.int .i64 w] (.sv (.int .u64 (rFixed l e w).1)) [.sl 1 (bs (rFixed l e w).2.1), .int .i64 (rFixed l e w).2.2] := by
  refine eff_go RR_ok Try.func60 Try.ntmps60 comp60 cres60 (by decide) (by simp) ?_
  by_cases h : e = 0
  · simp [ac60, ar60, h, rFixed, isBs_bs, hl, hn]
    refine ⟨rTake_bytes hl _ _, ?_⟩
    have := rTake_le l 0 (wid w)
    omega
  · simp [ac60, ar60, h, rFixed]

theorem done_eff (l : List Nat) (e : Int) : Eff1 Try.prog 64 [.sl 1 (bs l), .int .i64 e] [] (.sv (.int .i64 (rDone l e))) [.sl 1 (bs l), .int .i64 e] := by
  refine eff_go RR_ok Try.func64 Try.ntmps64 comp64 cres64 (by decide) (by simp) ?_
  by_cases h : e = 0
  · by_cases h2 : l.length > 0
    · simp [ac64, ar64, h, rDone, h2]
    · have : l = [] := by simpa using h2
      simp [ac64, ar64, h, rDone, this]
  · simp [ac64, ar64, h, rDone]

def RS : Orc := { RR with e := fun f cells l => match f, cells, l with
  | 62, [.sl 1 xs, .int .i64 e], [] => some (IsBs xs ∧ xs.length < 4611686018427387904, .sv (.int .i64 (rNum (nsOf xs) e).1), [.sl 1 (bs (rNum (nsOf xs) e).2.1), .int .i64 (rNum (nsOf xs) e).2.2])
  | f, cells, l => RR.e f cells l }
theorem RS_ok : RS.ok Try.prog := by
  refine ⟨RR_ok.p, fun f cells l c rv cells' h hc => ?_, RR_ok.n, fun _ h => (by cases h), fun _ _ _ _ _ _ h => (by cases h), fun _ _ _ _ _ _ _ h => (by cases h)⟩
  simp only [RS] at h
  split at h
  · cases h
    rename_i xs e
    obtain ⟨⟨e1, h1⟩, h2⟩ := hc
    have := num_eff (nsOf xs) e h1 (by rw [e1] at h2; simpa using h2)
    rwa [← e1] at this
  · exact RR_ok.e _ _ _ _ _ _ h hc
@[simp] theorem RS_62 (xs : List SV) (e : Int) : RS.e 62 [.sl 1 xs, .int .i64 e] [] = some (IsBs xs ∧ xs.length < 4611686018427387904, .sv (.int .i64 (rNum (nsOf xs) e).1), [.sl 1 (bs (rNum (nsOf xs) e).2.1), .int .i64 (rNum (nsOf xs) e).2.2]) := rfl
@[simp] theorem RS_67 (b : SV) (e : Int) : RS.e 67 [b, .int .i64 e] [] = some (True, .sv (.int .i64 e), [b, .int .i64 e]) := rfl
@[simp] theorem RS_93 (xs : List SV) (e n : Int) : RS.e 93 [.sl 1 xs, .int .i64 e] [.int .i64 n] = some (IsBs xs ∧ xs.length < 4611686018427387904 ∧ 0 ≤ n, .sv (.sl 1 (bs (rTake (nsOf xs) e n).1)), [.sl 1 (bs (rTake (nsOf xs) e n).2.1), .int .i64 (rTake (nsOf xs) e n).2.2]) := rfl

theorem rtext_eff (l : List Nat) (e most : Int) (hl : Bytes l) (hn : l.length < 4611686018427387904) : Eff1 Try.prog 63 [.sl 1 (bs l), .int .i64 e] [.int .i64 most] (.sv (.str (sOf (rText l e most).1))) [.sl 1 (bs (rText l e most).2.1), .int .i64 (rText l e most).2.2] := by
  refine eff_go RS_ok Try.func63 Try.ntmps63 comp63 cres63 (by decide) (by simp) ?_
  have hb := rNum_bytes hl e
  have hln := rNum_le l e
  unfold rText
  generalize hp : rNum l e = p at hb hln
  obtain ⟨n, l', e'⟩ := p
  simp only at hb hln
  have hm : (if 0 < most then most else 0) ≥ 0 := by split <;> omega
  generalize hmm : (if 0 < most then most else 0) = m at hm
  by_cases h : e' = 0
  · by_cases h1 : n < 0
    · simp [ac63, ar63, hp, h, h1, isBs_bs, hl, hn, sOf]
    · by_cases h2 : m < n
      · simp [ac63, ar63, hp, h, h1, h2, hmm, isBs_bs, hl, hn, sOf]
      · have h3 : 0 ≤ n := by omega
        simp [ac63, ar63, hp, h, h1, h2, h3, hmm, isBs_bs, hl, hn, hb]
        refine ⟨⟨by omega, fun x hx => bs_byte _ x hx⟩, ?_⟩
        have := bs_str (rTake l' 0 n).1
        simpa using this
  · simp [ac63, ar63, hp, h, isBs_bs, hl, hn, sOf]

theorem new_new (xs : List SV) (hl : xs.length ≤ 140737488355328) : PureN Try.prog 59 [.sl 1 xs] [.sl 1 xs, .int .i64 0] := by
  refine new_go R3_ok Try.func59 Try.ntmps59 comp59 cres59 (by simp) ?_
  simp [ac59, ar59, R3, hl]

def RT : Orc := { R3 with
  p := fun f l => match f, l with
    | 52, [.str s] => some (s.size ≤ 140737488355000, .own 1 (bs (layN (zig s.size) ++ bytesNat s)))
    | f, l => R3.p f l
  e := fun f cells l => match f, cells, l with
    | 63, [.sl 1 xs, .int .i64 e], [.int .i64 m] => some (IsBs xs ∧ xs.length < 4611686018427387904, .sv (.str (sOf (rText (nsOf xs) e m).1)), [.sl 1 (bs (rText (nsOf xs) e m).2.1), .int .i64 (rText (nsOf xs) e m).2.2])
    | 60, [.sl 1 xs, .int .i64 e], [.int .i64 w] => some (IsBs xs ∧ xs.length < 4611686018427387904, .sv (.int .u64 (rFixed (nsOf xs) e w).1), [.sl 1 (bs (rFixed (nsOf xs) e w).2.1), .int .i64 (rFixed (nsOf xs) e w).2.2])
    | 64, [.sl 1 xs, .int .i64 e], [] => some (IsBs xs, .sv (.int .i64 (rDone (nsOf xs) e)), [.sl 1 xs, .int .i64 e])
    | f, cells, l => RS.e f cells l
  n := fun f l => match f, l with
    | 59, [.sl 1 xs] => some (xs.length ≤ 140737488355328, [.sl 1 xs, .int .i64 0])
    | _, _ => none }
theorem RT_ok : RT.ok Try.prog := by
  refine ⟨fun f l c rv h hc => ?_, fun f cells l c rv cells' h hc => ?_, fun f l c cells h hc => ?_, fun _ h => (by cases h), fun _ _ _ _ _ _ h => (by cases h), fun _ _ _ _ _ _ _ h => (by cases h)⟩
  · simp only [RT] at h
    split at h
    · cases h; exact text_pure _ hc
    · exact R3_ok.p _ _ _ _ h hc
  · simp only [RT] at h
    split at h
    · cases h
      rename_i xs e m
      obtain ⟨⟨e1, h1⟩, h2⟩ := hc
      have := rtext_eff (nsOf xs) e m h1 (by rw [e1] at h2; simpa using h2)
      rwa [← e1] at this
    · cases h
      rename_i xs e m
      obtain ⟨⟨e1, h1⟩, h2⟩ := hc
      have := rfix_eff (nsOf xs) e m h1 (by rw [e1] at h2; simpa using h2)
      rwa [← e1] at this
    · cases h
      rename_i xs e
      obtain ⟨e1, h1⟩ := hc
      have := done_eff (nsOf xs) e
      rwa [← e1] at this
    · exact RS_ok.e _ _ _ _ _ _ h hc
  · simp only [RT] at h
    split at h
    · cases h; exact new_new _ hc
    · cases h
end Go.Proofs.Ytkiimlmlfhmkiaa

set_option linter.unusedSimpArgs false
set_option linter.unusedVariables false
set_option maxHeartbeats 2000000
namespace Go.Proofs.Ytkiimlmlfhmkiaa
open Go.Av

structure Rec where
  dl : Int
  tm : Int
  kd : Bool
  key : ByteArray
  dd : Bool
  val : ByteArray
def Rec.cells (r : Rec) : List SV := [.int .i64 r.dl, .int .i64 r.tm, .bool r.kd, .str r.key, .bool r.dd, .str r.val]
def Rec.sv (r : Rec) : SV := .agg r.cells
def Rec.fits (r : Rec) : Prop := I64 r.dl ∧ I64 r.tm
def isE (s : ByteArray) : Bool := decide (s.toList = [])
def recE (r : Rec) : Int :=
  if r.dl < 0 ∨ 32 ≤ r.dl ∨ r.tm < 0 ∨ 1099511627776 < r.tm then 11
  else if 64 < (r.key.size : Int) ∨ 512 < (r.val.size : Int) then 5
  else if (!r.kd && (!isE r.key || r.dd)) || (r.dd && !isE r.val) then 4
  else 0

theorem light_pure (r : Rec) : Pure Try.prog 70 [r.sv] (.sv (.bool (decide ((r.key.size : Int) ≤ 200) && decide ((r.val.size : Int) ≤ 700)))) := by
  refine pure_go R0_ok Try.func70 Try.ntmps70 comp70 cres70 (by decide) (by simp) ?_
  obtain ⟨dl, tm, kd, key, dd, val⟩ := r
  simp [ac70, ar70, Rec.sv, Rec.cells]
theorem check_pure (r : Rec) : Pure Try.prog 74 [r.sv] (.sv (.int .i64 (recE r))) := by
  refine pure_go R0_ok Try.func74 Try.ntmps74 comp74 cres74 (by decide) (by simp) ?_
  obtain ⟨dl, tm, kd, key, dd, val⟩ := r
  simp only [Rec.sv, Rec.cells, recE, isE]
  by_cases h1 : dl < 0
  · simp [ac74, ar74, h1]
  by_cases h2 : 32 ≤ dl
  · simp [ac74, ar74, h1, h2]
  by_cases h3 : tm < 0
  · simp [ac74, ar74, h1, h2, h3]
  by_cases h4 : 1099511627776 < tm
  · simp [ac74, ar74, h1, h2, h3, h4]
  by_cases h5 : 64 < (key.size : Int)
  · simp [ac74, ar74, h1, h2, h3, h4, h5]
  by_cases h6 : 512 < (val.size : Int)
  · simp [ac74, ar74, h1, h2, h3, h4, h5, h6]
  by_cases h7 : key.toList = []
  · by_cases h8 : val.toList = []
    · cases kd <;> cases dd <;> simp [ac74, ar74, h1, h2, h3, h4, h5, h6, h7, h8]
    · cases kd <;> cases dd <;> simp [ac74, ar74, h1, h2, h3, h4, h5, h6, h7, h8]
  · by_cases h8 : val.toList = []
    · cases kd <;> cases dd <;> simp [ac74, ar74, h1, h2, h3, h4, h5, h6, h7, h8]
    · cases kd <;> cases dd <;> simp [ac74, ar74, h1, h2, h3, h4, h5, h6, h7, h8]
theorem rcheck_pure (r : Rec) : Pure Try.prog 80 [r.sv] (.sv (.int .i64 (recE r))) := by
  refine pure_go R0_ok Try.func80 Try.ntmps80 comp80 cres80 (by decide) (by simp) ?_
  obtain ⟨dl, tm, kd, key, dd, val⟩ := r
  simp only [Rec.sv, Rec.cells, recE, isE]
  by_cases h1 : dl < 0
  · simp [ac80, ar80, h1]
  by_cases h2 : 32 ≤ dl
  · have h2' : 31 < dl := by omega
    simp [ac80, ar80, h1, h2, h2']
  have h2' : ¬ 31 < dl := by omega
  by_cases h3 : tm < 0
  · simp [ac80, ar80, h1, h2, h2', h3]
  by_cases h4 : 1099511627776 < tm
  · simp [ac80, ar80, h1, h2, h2', h3, h4]
  by_cases h5 : 64 < (key.size : Int)
  · simp [ac80, ar80, h1, h2, h2', h3, h4, h5]
  by_cases h6 : 512 < (val.size : Int)
  · simp [ac80, ar80, h1, h2, h2', h3, h4, h5, h6]
  by_cases h7 : key.toList = []
  · by_cases h8 : val.toList = []
    · cases kd <;> cases dd <;> simp [ac80, ar80, h1, h2, h2', h3, h4, h5, h6, h7, h8]
    · cases kd <;> cases dd <;> simp [ac80, ar80, h1, h2, h2', h3, h4, h5, h6, h7, h8]
  · by_cases h8 : val.toList = []
    · cases kd <;> cases dd <;> simp [ac80, ar80, h1, h2, h2', h3, h4, h5, h6, h7, h8]
    · cases kd <;> cases dd <;> simp [ac80, ar80, h1, h2, h2', h3, h4, h5, h6, h7, h8]
def recS (r s : Rec) : Bool := (r.dl == s.dl) && ((r.tm == s.tm) && ((r.kd == s.kd) && ((r.key.toList == s.key.toList) && ((r.dd == s.dd) && (r.val.toList == s.val.toList)))))
theorem rsame_pure (r s : Rec) : Pure Try.prog 45 [r.sv, s.sv] (.sv (.bool (recS r s))) := by
  refine pure_go R0_ok Try.func45 Try.ntmps45 comp45 cres45 (by decide) (by simp) ?_
  obtain ⟨dl, tm, kd, key, dd, val⟩ := r
  obtain ⟨dl', tm', kd', key', dd', val'⟩ := s
  simp only [Rec.sv, Rec.cells, recS]
  simp [ac45, ar45]
  simp [Bool.and_assoc]

end Go.Proofs.Ytkiimlmlfhmkiaa
