import Derived.Test.YtflcdbfcipkhkaaMDvA
import Derived.Test.YtflcdbfcipkhkaaMDrA

set_option linter.unusedVariables false
set_option linter.unusedSimpArgs false

set_option linter.unusedSimpArgs false
set_option linter.unusedVariables false
set_option maxHeartbeats 1000000
namespace Go.Proofs.Ytflcdbfcipkhkaa
open Go.Av

theorem rget_pure (l : List Nat) (hl : Bytes l) (hn : l.length < 4611686018427387904) : Pure Try.prog 77 [.sl 1 (bs l)] (.tup [.sv (.int .i64 (getN l).1), .sv (.int .i64 (getN l).2.1), .sv (.int .i64 (getN l).2.2)]) := by
  refine pure_go R2_ok Try.func77 Try.ntmps77 comp77 cres77 (by decide) (by simp) ?_
  simp [ac77, ar77]
  refine awpR_loop (α := Nat) (fun i => i ≤ l.length ∧ i ≤ 10 ∧ ∀ j (h : j < l.length), j < i → 128 ≤ l[j]) (fun i => { n := 60, sl := [(0, .sv (.sl 1 (bs l))), (5, .sv (.int .i64 i))], bx := [], hp := fun _ => none })
    (fun i => 10 - i) 0 (by simp) ?_ ?_
  · simp
  rintro i ⟨hi, hi10, hb⟩
  have e4 : IntKind.i64.wrap ((i : Int) + 1) = ((i + 1 : Nat) : Int) := by rw [wrap_i64_in (by omega) (by omega)]; omega
  by_cases h10 : i = 10
  · have hg := getN_none (l := l) (fun j h q => hb j h (by omega))
    rw [if_neg (by omega)] at hg
    have h1 : ¬ (i : Int) < 10 := by omega
    have h3 : (i : Int) = 10 := by omega
    by_cases hlt : i < l.length
    · simp [hlt, hg, h1]
      exact fun q => absurd h3 q
    · have : i = l.length := by omega
      subst this
      simp [hg, h1]
      exact h3
  by_cases hend : i = l.length
  · have hg := getN_none (l := l) (fun j h q => hb j h (by omega))
    rw [if_pos (by omega)] at hg
    have h10' : ¬ (i : Int) = 10 := by omega
    subst hend
    simp [hg, h10']
  have hlt : i < l.length := by omega
  have hc8 := hl.get hlt
  by_cases hc' : 128 ≤ l[i]
  · have h1 : (i : Int) < 10 := by omega
    have h2 : (128 : Int) ≤ l[i] := by omega
    simp [hlt, h1, h2, e4, -Int.natCast_add]
    refine ⟨i + 1, ⟨by omega, by omega, fun j h q => ?_⟩, by omega, rfl⟩
    by_cases e : j = i
    · subst e; omega
    · exact hb j h (by omega)
  have hc : l[i] < 128 := by omega
  have h1 : (i : Int) < 10 := by omega
  have h2 : ¬ (128 : Int) ≤ l[i] := by omega
  have h3 : ¬ (i : Int) = 10 := by omega
  have h4 : ¬ (i : Int) = l.length := by omega
  have hg := getN_found hlt (by omega) hb hc
  simp [hlt, h1, h2, h3, h4]
  refine awpR_loop (α := Nat) (fun k => k ≤ i + 1) (fun k => { n := 60, sl := [(0, .sv (.sl 1 (bs l))), (5, .sv (.int .i64 i)), (6, .sv (.int .u64 (valN ((l.take (i + 1)).drop k) % 18446744073709551616 : Nat))), (7, .sv (.int .i64 ((k : Int) - 1)))], bx := [], hp := fun _ => none })
    (fun k => k) (i + 1) (by omega) ?_ ?_
  · simp [valN]
  intro k hk
  by_cases hk0 : k = 0
  · subst hk0
    simp only [List.drop_zero]
    generalize hV : valN (l.take (i + 1)) % 18446744073709551616 = V at hg
    have hVlt : V < 18446744073709551616 := by rw [← hV]; exact Nat.mod_lt _ (by decide)
    have hso := sOf_eq (layN_bytes V) (hl.take (i + 1))
    simp [e4, bs_take, bs_str, hso, -Int.natCast_add]
    refine ⟨⟨⟨⟨⟨by omega, by omega⟩, bs_byte _⟩, by omega⟩, bs_byte _⟩, fun q => ?_, fun q => ?_⟩
    · rw [if_neg q] at hg; simp [hg]
    · rw [if_pos q] at hg; simp [hg]; exact ⟨by omega, by omega⟩
  · have hk1 : 0 ≤ (k : Int) - 1 := by omega
    have hk2 : ((k : Int) - 1).toNat = k - 1 := by omega
    have hk3 : k - 1 < l.length := by omega
    have hk4 : (k : Int) - 1 < l.length := by omega
    have hk5 : ¬ (k : Int) < 1 := by omega
    have hk6 : (1 : Int) ≤ k := by omega
    simp [hk1, hk2, hk3, hk4, hk5, hk6, -Int.natCast_emod]
    refine ⟨k - 1, by omega, by omega, ?_, by rw [wrap_i64_in (by omega) (by omega)]; omega⟩
    have e1 : (l.take (i + 1)).drop (k - 1) = l[k - 1] :: (l.take (i + 1)).drop k := by
      have := List.drop_eq_getElem_cons (l := l.take (i + 1)) (i := k - 1) (by simp; omega)
      rw [this, List.getElem_take, show k - 1 + 1 = k by omega]
    have hc := hl.get hk3
    have e2 : ((l[k - 1] : Nat) : Int).tmod 128 = ((l[k - 1] % 128 : Nat) : Int) := tmod_nat _ 128
    rw [e1, valN, e2, IntKind.wrap_u64, IntKind.wrap_u64, IntKind.wrap_u64]
    generalize valN ((l.take (i + 1)).drop k) = v
    omega
end Go.Proofs.Ytflcdbfcipkhkaa

set_option linter.unusedSimpArgs false
set_option linter.unusedVariables false
set_option maxHeartbeats 1000000
namespace Go.Proofs.Ytflcdbfcipkhkaa
open Go.Av

def bytesNat (s : ByteArray) : List Nat := s.data.toList.map UInt8.toNat
theorem bytesV_eq (l : List UInt8) : bytesV l = bs (l.map UInt8.toNat) := by simp [bytesV, bs]

def R3 : Orc := { p := fun f l => match f, l with
  | 73, [.int .i64 n] => some (I64 n, .sv (.int .u64 (zig n)))
  | 131, [.int .i64 n] => some (I64 n, .sv (.int .u64 (zig n)))
  | 74, [.int .u64 u] => some (U64 u, .sv (.int .i64 (zag u.toNat)))
  | 130, [.int .u64 u] => some (U64 u, .sv (.int .i64 (zag u.toNat)))
  | 71, [.int .i64 n] => some (I64 n, .own 1 (bs (layN (zig n))))
  | 82, [.int .i64 n] => some (I64 n, .own 1 (bs (layN (zig n))))
  | 78, [.sl 1 xs] => some (IsBs xs ∧ xs.length < 4611686018427387904, .tup [.sv (.int .i64 (getN (nsOf xs)).1), .sv (.int .i64 (getN (nsOf xs)).2.1), .sv (.int .i64 (getN (nsOf xs)).2.2)])
  | 78, [.nils] => some (True, .tup [.sv (.int .i64 0), .sv (.int .i64 0), .sv (.int .i64 3)])
  | 77, [.sl 1 xs] => some (IsBs xs ∧ xs.length < 4611686018427387904, .tup [.sv (.int .i64 (getN (nsOf xs)).1), .sv (.int .i64 (getN (nsOf xs)).2.1), .sv (.int .i64 (getN (nsOf xs)).2.2)])
  | 77, [.nils] => some (True, .tup [.sv (.int .i64 0), .sv (.int .i64 0), .sv (.int .i64 3)])
  | 75, [.sl 1 xs] => some (IsBs xs ∧ xs.length < 4611686018427387904, .sv (.int .u64 (unF (nsOf xs))))
  | 75, [.nils] => some (True, .sv (.int .u64 0))
  | 79, [.sl 1 xs] => some (IsBs xs ∧ xs.length < 4611686018427387904, .sv (.int .u64 (unF (nsOf xs))))
  | 79, [.nils] => some (True, .sv (.int .u64 0))
  | 81, [.int .i64 w] => some (True, .sv (.int .i64 (wid w)))
  | 76, [.sl 1 xs] => some (xs.length ≤ 140737488355328, .own 1 xs)
  | _, _ => none }

theorem pure_of_nils {P : Program} {f : FuncId} {rv : LV} (h : Pure P f [.sl 1 []] rv) : Pure P f [.nils] rv := by
  intro mu w vs hm ha
  refine h mu w vs hm ⟨ha.1, fun j hj => ?_⟩
  have := ha.2 j hj
  simp at hj
  subst hj
  simp at this ⊢
  rw [Rep.inv_nils this]
  exact .slnil 1

theorem clone_pure (xs : List SV) (hl : xs.length ≤ 140737488355328) : Pure Try.prog 76 [.sl 1 xs] (.own 1 xs) := by
  refine pure_go R0_ok Try.func76 Try.ntmps76 comp76 cres76 (by decide) (by simp) ?_
  cases xs with
  | nil => simp [ac76, ar76]
  | cons x xs => simp [ac76, ar76]; simpa using hl

theorem R3_ok : R3.ok Try.prog := by
  refine ⟨fun f l c rv h hc => ?_, fun _ _ _ _ _ _ h => (by cases h), fun _ _ _ _ h => (by cases h), fun _ h => (by cases h), fun _ _ _ _ _ _ h => (by cases h), fun _ _ _ _ _ _ _ h => (by cases h)⟩
  simp only [R3] at h
  split at h <;> cases h
  · exact R1_ok.p 73 _ _ _ rfl hc
  · exact R1_ok.p 131 _ _ _ rfl hc
  · exact R1_ok.p 74 _ _ _ rfl hc
  · exact R1_ok.p 130 _ _ _ rfl hc
  · exact put_pure _ hc
  · exact rput_pure _ hc
  · obtain ⟨⟨e1, h1⟩, h2⟩ := hc
    have := get_pure _ h1 (by rw [e1] at h2; simpa using h2)
    rwa [← e1] at this
  · exact pure_of_nils (get_pure [] (fun c h => by simp at h) (by simp))
  · obtain ⟨⟨e1, h1⟩, h2⟩ := hc
    have := rget_pure _ h1 (by rw [e1] at h2; simpa using h2)
    rwa [← e1] at this
  · exact pure_of_nils (rget_pure [] (fun c h => by simp at h) (by simp))
  · obtain ⟨⟨e1, h1⟩, h2⟩ := hc
    have := unfixed_pure _ h1 (by rw [e1] at h2; simpa using h2)
    rwa [← e1] at this
  · exact pure_of_nils (unfixed_pure [] (fun c h => by simp at h) (by simp))
  · obtain ⟨⟨e1, h1⟩, h2⟩ := hc
    have := runfixed_pure _ h1 (by rw [e1] at h2; simpa using h2)
    rwa [← e1] at this
  · exact pure_of_nils (runfixed_pure [] (fun c h => by simp at h) (by simp))
  · exact R1_ok.p 81 _ _ _ rfl trivial
  · exact clone_pure _ hc

theorem text_pure (s : ByteArray) (h : s.size ≤ 140737488355000) : Pure Try.prog 27 [.str s] (.own 1 (bs (layN (zig s.size) ++ bytesNat s))) := by
  refine pure_go R3_ok Try.func27 Try.ntmps27 comp27 cres27 (by decide) (by simp) ?_
  simp [ac27, ar27, R3, I64]
  have h1 := layN_le10 (u := zig s.size) (zig_lt (by omega) (by omega))
  refine ⟨⟨by omega, by omega⟩, ?_⟩
  rw [bytesV_eq, bs_append]; rfl

theorem err_eff (b : SV) (e : Int) : Eff1 Try.prog 24 [b, .int .i64 e] [] (.sv (.int .i64 e)) [b, .int .i64 e] := by
  refine eff_go R0_ok Try.func24 Try.ntmps24 comp24 cres24 (by decide) (by simp) ?_
  simp [ac24, ar24]
theorem err_nil : Pure Try.prog 24 [.nilp] (.sv (.int .i64 1)) := by
  refine pure_go R0_ok Try.func24 Try.ntmps24 comp24 cres24 (by decide) (by simp) ?_
  simp [ac24, ar24]
/-- What a reader's take does. -/
def rTake (l : List Nat) (e n : Int) : List Nat × List Nat × Int := if (l.length : Int) < n then ([], l, 3) else (l.take n.toNat, l.drop n.toNat, e)
def rNum (l : List Nat) (e : Int) : Int × List Nat × Int := if e = 0 then ((getN l).1, l.drop (getN l).2.1, (getN l).2.2) else (0, l, e)
def rFixed (l : List Nat) (e w : Int) : Nat × List Nat × Int := if e = 0 then (unF (rTake l e (wid w)).1, (rTake l e (wid w)).2) else (0, l, e)
def rText (l : List Nat) (e most : Int) : List Nat × List Nat × Int :=
  let (n, l', e') := rNum l e
  if e' = 0 then (if n < 0 ∨ n > (if most > 0 then most else 0) then ([], l', 5) else rTake l' e' n) else ([], l', e')
def rDone (l : List Nat) (e : Int) : Int := if e = 0 then (if l.length > 0 then 4 else 0) else e

theorem take_eff (l : List Nat) (e n : Int) (hl : l.length < 4611686018427387904) (hn : 0 ≤ n) : Eff1 Try.prog 80 [.sl 1 (bs l), .int .i64 e] [.int .i64 n] (.sv (.sl 1 (bs (rTake l e n).1))) [.sl 1 (bs (rTake l e n).2.1), .int .i64 (rTake l e n).2.2] := by
  refine eff_go R0_ok Try.func80 Try.ntmps80 comp80 cres80 (by decide) (by simp) ?_
  by_cases h : (l.length : Int) < n
  · simp [ac80, ar80, h, rTake]
  · simp [ac80, ar80, h, rTake, bs_take, bs_drop]
    refine ⟨⟨hn, by omega⟩, ?_⟩
    rw [List.take_of_length_le (by simp)]

def RR : Orc := { R3 with e := fun f cells l => match f, cells, l with
  | 24, [b, .int .i64 e], [] => some (True, .sv (.int .i64 e), [b, .int .i64 e])
  | 80, [.sl 1 xs, .int .i64 e], [.int .i64 n] => some (IsBs xs ∧ xs.length < 4611686018427387904 ∧ 0 ≤ n, .sv (.sl 1 (bs (rTake (nsOf xs) e n).1)), [.sl 1 (bs (rTake (nsOf xs) e n).2.1), .int .i64 (rTake (nsOf xs) e n).2.2])
  | _, _, _ => none }
theorem RR_ok : RR.ok Try.prog := by
  refine ⟨R3_ok.p, fun f cells l c rv cells' h hc => ?_, fun _ _ _ _ h => (by cases h), fun _ h => (by cases h), fun _ _ _ _ _ _ h => (by cases h), fun _ _ _ _ _ _ _ h => (by cases h)⟩
  simp only [RR] at h
  split at h <;> cases h
  · exact err_eff _ _
  · rename_i xs e n
    obtain ⟨⟨e1, h1⟩, h2, h3⟩ := hc
    have := take_eff (nsOf xs) e n (by rw [e1] at h2; simpa using h2) h3
    rwa [← e1] at this
@[simp] theorem RR_78 (xs : List SV) : RR.p 78 [.sl 1 xs] = some (IsBs xs ∧ xs.length < 4611686018427387904, .tup [.sv (.int .i64 (getN (nsOf xs)).1), .sv (.int .i64 (getN (nsOf xs)).2.1), .sv (.int .i64 (getN (nsOf xs)).2.2)]) := rfl
@[simp] theorem RR_75 (xs : List SV) : RR.p 75 [.sl 1 xs] = some (IsBs xs ∧ xs.length < 4611686018427387904, .sv (.int .u64 (unF (nsOf xs)))) := rfl
@[simp] theorem RR_81 (w : Int) : RR.p 81 [.int .i64 w] = some (True, .sv (.int .i64 (wid w))) := rfl
@[simp] theorem RR_24 (b : SV) (e : Int) : RR.e 24 [b, .int .i64 e] [] = some (True, .sv (.int .i64 e), [b, .int .i64 e]) := rfl
@[simp] theorem RR_80 (xs : List SV) (e n : Int) : RR.e 80 [.sl 1 xs, .int .i64 e] [.int .i64 n] = some (IsBs xs ∧ xs.length < 4611686018427387904 ∧ 0 ≤ n, .sv (.sl 1 (bs (rTake (nsOf xs) e n).1)), [.sl 1 (bs (rTake (nsOf xs) e n).2.1), .int .i64 (rTake (nsOf xs) e n).2.2]) := rfl

theorem getN_k (l : List Nat) : (getN l).2.1 ≤ l.length := by
  unfold getN
  simp only []
  split
  · rename_i h
    split
    · have := endN_le (l.take 10); simp at h this ⊢; omega
    · simp
  · split <;> simp

theorem rTake_bytes {l : List Nat} (hl : Bytes l) (e n : Int) : Bytes (rTake l e n).1 := by
  unfold rTake; split
  · exact fun c h => by simp at h
  · exact hl.take _
theorem rTake_bytes2 {l : List Nat} (hl : Bytes l) (e n : Int) : Bytes (rTake l e n).2.1 := by
  unfold rTake; split
  · exact hl
  · exact hl.drop _
theorem rTake_le (l : List Nat) (e n : Int) : (rTake l e n).1.length ≤ l.length := by
  unfold rTake; split <;> simp; omega
theorem rTake_le2 (l : List Nat) (e n : Int) : (rTake l e n).2.1.length ≤ l.length := by
  unfold rTake; split <;> simp
theorem rNum_bytes {l : List Nat} (hl : Bytes l) (e : Int) : Bytes (rNum l e).2.1 := by
  unfold rNum; split
  · exact hl.drop _
  · exact hl
theorem rNum_le (l : List Nat) (e : Int) : (rNum l e).2.1.length ≤ l.length := by
  unfold rNum; split <;> simp
theorem rFixed_bytes {l : List Nat} (hl : Bytes l) (e w : Int) : Bytes (rFixed l e w).2.1 := by
  unfold rFixed; split
  · exact rTake_bytes2 hl _ _
  · exact hl
theorem rFixed_le (l : List Nat) (e w : Int) : (rFixed l e w).2.1.length ≤ l.length := by
  unfold rFixed; split
  · exact rTake_le2 _ _ _
  · simp

theorem num_eff (l : List Nat) (e : Int) (hl : Bytes l) (hn : l.length < 4611686018427387904) : Eff1 Try.prog 18 [.sl 1 (bs l), .int .i64 e] [] (.sv (.int .i64 (rNum l e).1)) [.sl 1 (bs (rNum l e).2.1), .int .i64 (rNum l e).2.2] := by
  refine eff_go RR_ok Try.func18 Try.ntmps18 comp18 cres18 (by decide) (by simp) ?_
  have hk := getN_k l
  by_cases h : e = 0
  · simp [ac18, ar18, h, rNum, isBs_bs, hl, hn, hk, bs_drop]
    rw [List.take_of_length_le (by simp)]
  · simp [ac18, ar18, h, rNum]

theorem rfix_eff (l : List Nat) (e w : Int) (hl : Bytes l) (hn : l.length < 4611686018427387904) : Eff1 Try.prog 20 [.sl 1 (bs l), .int .i64 e] [.int .i64 w] (.sv (.int .u64 (rFixed l e w).1)) [.sl 1 (bs (rFixed l e w).2.1), .int .i64 (rFixed l e w).2.2] := by
  refine eff_go RR_ok Try.func20 Try.ntmps20 comp20 cres20 (by decide) (by simp) ?_
  by_cases h : e = 0
  · simp [ac20, ar20, h, rFixed, isBs_bs, hl, hn]
    refine ⟨rTake_bytes hl _ _, ?_⟩
    have := rTake_le l 0 (wid w)
    omega
  · simp [ac20, ar20, h, rFixed]

theorem done_eff (l : List Nat) (e : Int) : Eff1 Try.prog 25 [.sl 1 (bs l), .int .i64 e] [] (.sv (.int .i64 (rDone l e))) [.sl 1 (bs l), .int .i64 e] := by
  refine eff_go RR_ok Try.func25 Try.ntmps25 comp25 cres25 (by decide) (by simp) ?_
  by_cases h : e = 0
  · by_cases h2 : l.length > 0
    · simp [ac25, ar25, h, rDone, h2]
    · have : l = [] := by simpa using h2
      simp [ac25, ar25, h, rDone, this]
  · simp [ac25, ar25, h, rDone]

def RS : Orc := { RR with e := fun f cells l => match f, cells, l with
  | 18, [.sl 1 xs, .int .i64 e], [] => some (IsBs xs ∧ xs.length < 4611686018427387904, .sv (.int .i64 (rNum (nsOf xs) e).1), [.sl 1 (bs (rNum (nsOf xs) e).2.1), .int .i64 (rNum (nsOf xs) e).2.2])
  | f, cells, l => RR.e f cells l }
theorem RS_ok : RS.ok Try.prog := by
  refine ⟨RR_ok.p, fun f cells l c rv cells' h hc => ?_, RR_ok.n, fun _ h => (by cases h), fun _ _ _ _ _ _ h => (by cases h), fun _ _ _ _ _ _ _ h => (by cases h)⟩
  simp only [RS] at h
  split at h
  · cases h
    rename_i xs e
    obtain ⟨⟨e1, h1⟩, h2⟩ := hc
    have := num_eff (nsOf xs) e h1 (by rw [e1] at h2; simpa using h2)
    rwa [← e1] at this
  · exact RR_ok.e _ _ _ _ _ _ h hc
@[simp] theorem RS_18 (xs : List SV) (e : Int) : RS.e 18 [.sl 1 xs, .int .i64 e] [] = some (IsBs xs ∧ xs.length < 4611686018427387904, .sv (.int .i64 (rNum (nsOf xs) e).1), [.sl 1 (bs (rNum (nsOf xs) e).2.1), .int .i64 (rNum (nsOf xs) e).2.2]) := rfl
@[simp] theorem RS_24 (b : SV) (e : Int) : RS.e 24 [b, .int .i64 e] [] = some (True, .sv (.int .i64 e), [b, .int .i64 e]) := rfl
@[simp] theorem RS_80 (xs : List SV) (e n : Int) : RS.e 80 [.sl 1 xs, .int .i64 e] [.int .i64 n] = some (IsBs xs ∧ xs.length < 4611686018427387904 ∧ 0 ≤ n, .sv (.sl 1 (bs (rTake (nsOf xs) e n).1)), [.sl 1 (bs (rTake (nsOf xs) e n).2.1), .int .i64 (rTake (nsOf xs) e n).2.2]) := rfl

theorem rtext_eff (l : List Nat) (e most : Int) (hl : Bytes l) (hn : l.length < 4611686018427387904) : Eff1 Try.prog 22 [.sl 1 (bs l), .int .i64 e] [.int .i64 most] (.sv (.str (sOf (rText l e most).1))) [.sl 1 (bs (rText l e most).2.1), .int .i64 (rText l e most).2.2] := by
  refine eff_go RS_ok Try.func22 Try.ntmps22 comp22 cres22 (by decide) (by simp) ?_
  have hb := rNum_bytes hl e
  have hln := rNum_le l e
  unfold rText
  generalize hp : rNum l e = p at hb hln
  obtain ⟨n, l', e'⟩ := p
  simp only at hb hln
  have hm : (if 0 < most then most else 0) ≥ 0 := by split <;> omega
  generalize hmm : (if 0 < most then most else 0) = m at hm
  by_cases h : e' = 0
  · by_cases h1 : n < 0
    · simp [ac22, ar22, hp, h, h1, isBs_bs, hl, hn, sOf]
    · by_cases h2 : m < n
      · simp [ac22, ar22, hp, h, h1, h2, hmm, isBs_bs, hl, hn, sOf]
      · have h3 : 0 ≤ n := by omega
        simp [ac22, ar22, hp, h, h1, h2, h3, hmm, isBs_bs, hl, hn, hb]
        refine ⟨⟨by omega, fun x hx => bs_byte _ x hx⟩, ?_⟩
        have := bs_str (rTake l' 0 n).1
        simpa using this
  · simp [ac22, ar22, hp, h, isBs_bs, hl, hn, sOf]

theorem new_new (xs : List SV) (hl : xs.length ≤ 140737488355328) : PureN Try.prog 16 [.sl 1 xs] [.sl 1 xs, .int .i64 0] := by
  refine new_go R3_ok Try.func16 Try.ntmps16 comp16 cres16 (by simp) ?_
  simp [ac16, ar16, R3, hl]

def RT : Orc := { R3 with
  p := fun f l => match f, l with
    | 27, [.str s] => some (s.size ≤ 140737488355000, .own 1 (bs (layN (zig s.size) ++ bytesNat s)))
    | f, l => R3.p f l
  e := fun f cells l => match f, cells, l with
    | 22, [.sl 1 xs, .int .i64 e], [.int .i64 m] => some (IsBs xs ∧ xs.length < 4611686018427387904, .sv (.str (sOf (rText (nsOf xs) e m).1)), [.sl 1 (bs (rText (nsOf xs) e m).2.1), .int .i64 (rText (nsOf xs) e m).2.2])
    | 20, [.sl 1 xs, .int .i64 e], [.int .i64 w] => some (IsBs xs ∧ xs.length < 4611686018427387904, .sv (.int .u64 (rFixed (nsOf xs) e w).1), [.sl 1 (bs (rFixed (nsOf xs) e w).2.1), .int .i64 (rFixed (nsOf xs) e w).2.2])
    | 25, [.sl 1 xs, .int .i64 e], [] => some (IsBs xs, .sv (.int .i64 (rDone (nsOf xs) e)), [.sl 1 xs, .int .i64 e])
    | f, cells, l => RS.e f cells l
  n := fun f l => match f, l with
    | 16, [.sl 1 xs] => some (xs.length ≤ 140737488355328, [.sl 1 xs, .int .i64 0])
    | _, _ => none }
theorem RT_ok : RT.ok Try.prog := by
  refine ⟨fun f l c rv h hc => ?_, fun f cells l c rv cells' h hc => ?_, fun f l c cells h hc => ?_, fun _ h => (by cases h), fun _ _ _ _ _ _ h => (by cases h), fun _ _ _ _ _ _ _ h => (by cases h)⟩
  · simp only [RT] at h
    split at h
    · cases h; exact text_pure _ hc
    · exact R3_ok.p _ _ _ _ h hc
  · simp only [RT] at h
    split at h
    · cases h
      rename_i xs e m
      obtain ⟨⟨e1, h1⟩, h2⟩ := hc
      have := rtext_eff (nsOf xs) e m h1 (by rw [e1] at h2; simpa using h2)
      rwa [← e1] at this
    · cases h
      rename_i xs e m
      obtain ⟨⟨e1, h1⟩, h2⟩ := hc
      have := rfix_eff (nsOf xs) e m h1 (by rw [e1] at h2; simpa using h2)
      rwa [← e1] at this
    · cases h
      rename_i xs e
      obtain ⟨e1, h1⟩ := hc
      have := done_eff (nsOf xs) e
      rwa [← e1] at this
    · exact RS_ok.e _ _ _ _ _ _ h hc
  · simp only [RT] at h
    split at h
    · cases h; exact new_new _ hc
    · cases h
end Go.Proofs.Ytflcdbfcipkhkaa

set_option linter.unusedSimpArgs false
set_option linter.unusedVariables false
set_option maxHeartbeats 2000000
namespace Go.Proofs.Ytflcdbfcipkhkaa
open Go.Av

structure Rec where
  dl : Int
  tm : Int
  kd : Bool
  key : ByteArray
  dd : Bool
  val : ByteArray
def Rec.cells (r : Rec) : List SV := [.int .i64 r.dl, .int .i64 r.tm, .bool r.kd, .str r.key, .bool r.dd, .str r.val]
def Rec.sv (r : Rec) : SV := .agg r.cells
def Rec.fits (r : Rec) : Prop := I64 r.dl ∧ I64 r.tm
def isE (s : ByteArray) : Bool := decide (s.toList = [])
def recE (r : Rec) : Int :=
  if r.dl < 0 ∨ 32 ≤ r.dl ∨ r.tm < 0 ∨ 1099511627776 < r.tm then 11
  else if 64 < (r.key.size : Int) ∨ 512 < (r.val.size : Int) then 5
  else if (!r.kd && (!isE r.key || r.dd)) || (r.dd && !isE r.val) then 4
  else 0

theorem light_pure (r : Rec) : Pure Try.prog 121 [r.sv] (.sv (.bool (decide ((r.key.size : Int) ≤ 200) && decide ((r.val.size : Int) ≤ 700)))) := by
  refine pure_go R0_ok Try.func121 Try.ntmps121 comp121 cres121 (by decide) (by simp) ?_
  obtain ⟨dl, tm, kd, key, dd, val⟩ := r
  simp [ac121, ar121, Rec.sv, Rec.cells]
theorem check_pure (r : Rec) : Pure Try.prog 124 [r.sv] (.sv (.int .i64 (recE r))) := by
  refine pure_go R0_ok Try.func124 Try.ntmps124 comp124 cres124 (by decide) (by simp) ?_
  obtain ⟨dl, tm, kd, key, dd, val⟩ := r
  simp only [Rec.sv, Rec.cells, recE, isE]
  by_cases h1 : dl < 0
  · simp [ac124, ar124, h1]
  by_cases h2 : 32 ≤ dl
  · simp [ac124, ar124, h1, h2]
  by_cases h3 : tm < 0
  · simp [ac124, ar124, h1, h2, h3]
  by_cases h4 : 1099511627776 < tm
  · simp [ac124, ar124, h1, h2, h3, h4]
  by_cases h5 : 64 < (key.size : Int)
  · simp [ac124, ar124, h1, h2, h3, h4, h5]
  by_cases h6 : 512 < (val.size : Int)
  · simp [ac124, ar124, h1, h2, h3, h4, h5, h6]
  by_cases h7 : key.toList = []
  · by_cases h8 : val.toList = []
    · cases kd <;> cases dd <;> simp [ac124, ar124, h1, h2, h3, h4, h5, h6, h7, h8]
    · cases kd <;> cases dd <;> simp [ac124, ar124, h1, h2, h3, h4, h5, h6, h7, h8]
  · by_cases h8 : val.toList = []
    · cases kd <;> cases dd <;> simp [ac124, ar124, h1, h2, h3, h4, h5, h6, h7, h8]
    · cases kd <;> cases dd <;> simp [ac124, ar124, h1, h2, h3, h4, h5, h6, h7, h8]
theorem rcheck_pure (r : Rec) : Pure Try.prog 140 [r.sv] (.sv (.int .i64 (recE r))) := by
  refine pure_go R0_ok Try.func140 Try.ntmps140 comp140 cres140 (by decide) (by simp) ?_
  obtain ⟨dl, tm, kd, key, dd, val⟩ := r
  simp only [Rec.sv, Rec.cells, recE, isE]
  by_cases h1 : dl < 0
  · simp [ac140, ar140, h1]
  by_cases h2 : 32 ≤ dl
  · have h2' : 31 < dl := by omega
    simp [ac140, ar140, h1, h2, h2']
  have h2' : ¬ 31 < dl := by omega
  by_cases h3 : tm < 0
  · simp [ac140, ar140, h1, h2, h2', h3]
  by_cases h4 : 1099511627776 < tm
  · simp [ac140, ar140, h1, h2, h2', h3, h4]
  by_cases h5 : 64 < (key.size : Int)
  · simp [ac140, ar140, h1, h2, h2', h3, h4, h5]
  by_cases h6 : 512 < (val.size : Int)
  · simp [ac140, ar140, h1, h2, h2', h3, h4, h5, h6]
  by_cases h7 : key.toList = []
  · by_cases h8 : val.toList = []
    · cases kd <;> cases dd <;> simp [ac140, ar140, h1, h2, h2', h3, h4, h5, h6, h7, h8]
    · cases kd <;> cases dd <;> simp [ac140, ar140, h1, h2, h2', h3, h4, h5, h6, h7, h8]
  · by_cases h8 : val.toList = []
    · cases kd <;> cases dd <;> simp [ac140, ar140, h1, h2, h2', h3, h4, h5, h6, h7, h8]
    · cases kd <;> cases dd <;> simp [ac140, ar140, h1, h2, h2', h3, h4, h5, h6, h7, h8]
def recS (r s : Rec) : Bool := (r.dl == s.dl) && ((r.tm == s.tm) && ((r.kd == s.kd) && ((r.key.toList == s.key.toList) && ((r.dd == s.dd) && (r.val.toList == s.val.toList)))))
theorem rsame_pure (r s : Rec) : Pure Try.prog 156 [r.sv, s.sv] (.sv (.bool (recS r s))) := by
  refine pure_go R0_ok Try.func156 Try.ntmps156 comp156 cres156 (by decide) (by simp) ?_
  obtain ⟨dl, tm, kd, key, dd, val⟩ := r
  obtain ⟨dl', tm', kd', key', dd', val'⟩ := s
  simp only [Rec.sv, Rec.cells, recS]
  simp [ac156, ar156]
  simp [Bool.and_assoc]

end Go.Proofs.Ytflcdbfcipkhkaa

set_option linter.unusedSimpArgs false
set_option linter.unusedVariables false
set_option maxHeartbeats 2000000
namespace Go.Proofs.Ytflcdbfcipkhkaa
open Go.Av

def recP (r : Rec) : List Nat := ((if r.kd then 1 else 0) + (if r.dd then 2 else 0)) :: (layN (zig r.dl) ++ layN (zig r.tm)) ++ (if r.kd then layN (zig r.key.size) ++ bytesNat r.key else []) ++ (if r.dd then [] else layN (zig r.val.size) ++ bytesNat r.val)

def RP : Orc := { p := fun f l => match f, l with
    | 71, [.int .i64 n] => some (I64 n, .own 1 (bs (layN (zig n))))
    | 82, [.int .i64 n] => some (I64 n, .own 1 (bs (layN (zig n))))
    | 27, [.str s] => some (s.size ≤ 140737488355000, .own 1 (bs (layN (zig s.size) ++ bytesNat s)))
    | 124, [.agg [.int .i64 dl, .int .i64 tm, .bool kd, .str key, .bool dd, .str val]] => some (True, .sv (.int .i64 (recE ⟨dl, tm, kd, key, dd, val⟩)))
    | 140, [.agg [.int .i64 dl, .int .i64 tm, .bool kd, .str key, .bool dd, .str val]] => some (True, .sv (.int .i64 (recE ⟨dl, tm, kd, key, dd, val⟩)))
    | _, _ => none }
theorem RP_ok : RP.ok Try.prog := by
  refine ⟨fun f l c rv h hc => ?_, fun _ _ _ _ _ _ h => (by cases h), fun _ _ _ _ h => (by cases h), fun _ h => (by cases h), fun _ _ _ _ _ _ h => (by cases h), fun _ _ _ _ _ _ _ h => (by cases h)⟩
  simp only [RP] at h
  split at h <;> cases h
  · exact put_pure _ hc
  · exact rput_pure _ hc
  · exact text_pure _ hc
  · exact check_pure ⟨_, _, _, _, _, _⟩
  · exact rcheck_pure ⟨_, _, _, _, _, _⟩
@[simp] theorem RP_71 (n : Int) : RP.p 71 [.int .i64 n] = some (I64 n, .own 1 (bs (layN (zig n)))) := rfl
@[simp] theorem RP_27 (s : ByteArray) : RP.p 27 [.str s] = some (s.size ≤ 140737488355000, .own 1 (bs (layN (zig s.size) ++ bytesNat s))) := rfl
@[simp] theorem RP_124 (dl tm kd key dd val) : RP.p 124 [.agg [.int .i64 dl, .int .i64 tm, .bool kd, .str key, .bool dd, .str val]] = some (True, .sv (.int .i64 (recE ⟨dl, tm, kd, key, dd, val⟩))) := rfl
theorem recE_small {r : Rec} (h : recE r = 0) : 0 ≤ r.dl ∧ r.dl < 32 ∧ 0 ≤ r.tm ∧ r.tm ≤ 1099511627776 ∧ r.key.size ≤ 64 ∧ r.val.size ≤ 512 := by
  unfold recE at h
  split at h
  · cases h
  · split at h
    · cases h
    · omega

theorem bytesNat_length (s : ByteArray) : (bytesNat s).length = s.size := by simp [bytesNat]

def putR (r : Rec) : List Nat := if recE r = 0 then recP r else []
theorem put_rec (r : Rec) : Pure Try.prog 154 [r.sv] (.tup [.own 1 (bs (putR r)), .sv (.int .i64 (recE r))]) := by
  refine pure_go RP_ok Try.func154 Try.ntmps154 comp154 cres154 (by decide) (by simp) ?_
  by_cases h : recE r = 0
  · obtain ⟨a1, a2, a3, a4, a5, a6⟩ := recE_small h
    rw [putR, if_pos h, h]
    obtain ⟨dl, tm, kd, key, dd, val⟩ := r
    simp only at a1 a2 a3 a4 a5 a6
    have i1 : I64 dl := ⟨by omega, by omega⟩
    have i2 : I64 tm := ⟨by omega, by omega⟩
    have l1 := layN_le10 (zig_lt i1.1 i1.2)
    have l2 := layN_le10 (zig_lt i2.1 i2.2)
    have l3 := layN_le10 (u := zig key.size) (zig_lt (by omega) (by omega))
    have l4 := layN_le10 (u := zig val.size) (zig_lt (by omega) (by omega))
    have k1 : key.size ≤ 140737488355000 := by omega
    have k2 : val.size ≤ 140737488355000 := by omega
    simp only [Rec.sv, Rec.cells]
    cases kd <;> cases dd <;> simp [ac154, ar154, h, i1, i2, k1, k2, bytesNat_length]
    all_goals (repeat' apply And.intro) <;> first | omega | (simp [recP, bs_append, bs_cons]; done) | (simp [recP, bs_append, bs_cons]; rfl)
  · rw [putR, if_neg h]
    obtain ⟨dl, tm, kd, key, dd, val⟩ := r
    simp only [Rec.sv, Rec.cells]
    simp [ac154, ar154, h]

theorem rtext_pure (s : ByteArray) (h : s.size ≤ 140737488355000) : Pure Try.prog 28 [.str s] (.own 1 (bs (layN (zig s.size) ++ bytesNat s))) := by
  refine pure_go RP_ok Try.func28 Try.ntmps28 comp28 cres28 (by decide) (by simp) ?_
  have hI : I64 (s.size : Int) := ⟨by omega, by omega⟩
  simp [ac28, ar28, RP, hI]
  have h1 := layN_le10 (u := zig s.size) (zig_lt (by omega) (by omega))
  refine ⟨by omega, ?_⟩
  rw [bytesV_eq, bs_append]; rfl
def RP2 : Orc := { RP with p := fun f l => match f, l with
    | 28, [.str s] => some (s.size ≤ 140737488355000, .own 1 (bs (layN (zig s.size) ++ bytesNat s)))
    | f, l => RP.p f l }
theorem RP2_ok : RP2.ok Try.prog := by
  refine ⟨fun f l c rv h hc => ?_, RP_ok.e, RP_ok.n, fun _ h => (by cases h), fun _ _ _ _ _ _ h => (by cases h), fun _ _ _ _ _ _ _ h => (by cases h)⟩
  simp only [RP2] at h
  split at h
  · cases h; exact rtext_pure _ hc
  · exact RP_ok.p _ _ _ _ h hc
@[simp] theorem RP2_82 (n : Int) : RP2.p 82 [.int .i64 n] = some (I64 n, .own 1 (bs (layN (zig n)))) := rfl
@[simp] theorem RP2_28 (s : ByteArray) : RP2.p 28 [.str s] = some (s.size ≤ 140737488355000, .own 1 (bs (layN (zig s.size) ++ bytesNat s))) := rfl
@[simp] theorem RP2_140 (dl tm kd key dd val) : RP2.p 140 [.agg [.int .i64 dl, .int .i64 tm, .bool kd, .str key, .bool dd, .str val]] = some (True, .sv (.int .i64 (recE ⟨dl, tm, kd, key, dd, val⟩))) := rfl

theorem rput_rec (r : Rec) : Pure Try.prog 155 [r.sv] (.tup [.own 1 (bs (putR r)), .sv (.int .i64 (recE r))]) := by
  refine pure_go RP2_ok Try.func155 Try.ntmps155 comp155 cres155 (by decide) (by simp) ?_
  by_cases h : recE r = 0
  · obtain ⟨a1, a2, a3, a4, a5, a6⟩ := recE_small h
    rw [putR, if_pos h, h]
    obtain ⟨dl, tm, kd, key, dd, val⟩ := r
    simp only at a1 a2 a3 a4 a5 a6
    have i1 : I64 dl := ⟨by omega, by omega⟩
    have i2 : I64 tm := ⟨by omega, by omega⟩
    have l1 := layN_le10 (zig_lt i1.1 i1.2)
    have l2 := layN_le10 (zig_lt i2.1 i2.2)
    have l3 := layN_le10 (u := zig key.size) (zig_lt (by omega) (by omega))
    have l4 := layN_le10 (u := zig val.size) (zig_lt (by omega) (by omega))
    have k1 : key.size ≤ 140737488355000 := by omega
    have k2 : val.size ≤ 140737488355000 := by omega
    simp only [Rec.sv, Rec.cells]
    cases kd <;> cases dd <;> simp [ac155, ar155, h, i1, i2, k1, k2, bytesNat_length]
    all_goals (repeat' apply And.intro) <;> first | omega | (simp [recP, bs_append, bs_cons]; done) | (simp [recP, bs_append, bs_cons]; rfl)
  · rw [putR, if_neg h]
    obtain ⟨dl, tm, kd, key, dd, val⟩ := r
    simp only [Rec.sv, Rec.cells]
    simp [ac155, ar155, h]
end Go.Proofs.Ytflcdbfcipkhkaa

set_option linter.unusedSimpArgs false
set_option linter.unusedVariables false
set_option maxHeartbeats 2000000
namespace Go.Proofs.Ytflcdbfcipkhkaa
open Go.Av

def rec0 : Rec := ⟨0, 0, false, ByteArray.mk #[], false, ByteArray.mk #[]⟩
def recG5 (f : Nat) (dl tm : Int) (l3 : List Nat) (e3 : Int) : Rec × Int × List Nat × Int :=
  let k := if f % 2 = 1 then rText l3 e3 64 else ([], l3, e3)
  let v := if f / 2 % 2 = 1 then ([], k.2) else rText k.2.1 k.2.2 512
  let r : Rec := ⟨dl, tm, decide (f % 2 = 1), sOf k.1, decide (f / 2 % 2 = 1), sOf v.1⟩
  if v.2.2 = 0 then (if 4 ≤ f ∨ recE r ≠ 0 then (rec0, 4, v.2) else (r, 0, v.2)) else (rec0, v.2.2, v.2)
def recG (l : List Nat) (e : Int) : Rec × Int × List Nat × Int :=
  let f := rFixed l e 1
  let d := rNum f.2.1 f.2.2
  let t := rNum d.2.1 d.2.2
  recG5 f.1 d.1 t.1 t.2.1 t.2.2

def RG : Orc := { p := RP.p, e := RT.e }
theorem RG_ok : RG.ok Try.prog := ⟨RP_ok.p, RT_ok.e, fun _ _ _ _ h => (by cases h), fun _ h => (by cases h), fun _ _ _ _ _ _ h => (by cases h), fun _ _ _ _ _ _ _ h => (by cases h)⟩
@[simp] theorem RG_124 (dl tm kd key dd val) : RG.p 124 [.agg [.int .i64 dl, .int .i64 tm, .bool kd, .str key, .bool dd, .str val]] = some (True, .sv (.int .i64 (recE ⟨dl, tm, kd, key, dd, val⟩))) := rfl
@[simp] theorem RG_18 (xs : List SV) (e : Int) : RG.e 18 [.sl 1 xs, .int .i64 e] [] = some (IsBs xs ∧ xs.length < 4611686018427387904, .sv (.int .i64 (rNum (nsOf xs) e).1), [.sl 1 (bs (rNum (nsOf xs) e).2.1), .int .i64 (rNum (nsOf xs) e).2.2]) := rfl
@[simp] theorem RG_20 (xs : List SV) (e w : Int) : RG.e 20 [.sl 1 xs, .int .i64 e] [.int .i64 w] = some (IsBs xs ∧ xs.length < 4611686018427387904, .sv (.int .u64 (rFixed (nsOf xs) e w).1), [.sl 1 (bs (rFixed (nsOf xs) e w).2.1), .int .i64 (rFixed (nsOf xs) e w).2.2]) := rfl
@[simp] theorem RG_22 (xs : List SV) (e m : Int) : RG.e 22 [.sl 1 xs, .int .i64 e] [.int .i64 m] = some (IsBs xs ∧ xs.length < 4611686018427387904, .sv (.str (sOf (rText (nsOf xs) e m).1)), [.sl 1 (bs (rText (nsOf xs) e m).2.1), .int .i64 (rText (nsOf xs) e m).2.2]) := rfl
@[simp] theorem RG_24 (b : SV) (e : Int) : RG.e 24 [b, .int .i64 e] [] = some (True, .sv (.int .i64 e), [b, .int .i64 e]) := rfl

theorem sOf_nil : sOf [] = ByteArray.mk #[] := rfl
theorem u64_and1 (f : Nat) : IntKind.u64.wrap ((f % 2 ^ IntKind.u64.bits &&& 1 % 2 ^ IntKind.u64.bits : Nat) : Int) = ((f % 2 : Nat) : Int) := by
  rw [show 1 % 2 ^ IntKind.u64.bits = 1 from rfl, Nat.and_one_is_mod, IntKind.wrap_u64]; simp [IntKind.bits]; omega
theorem u64_and2 (f : Nat) (h : f < 256) : IntKind.u64.wrap ((f % 2 ^ IntKind.u64.bits &&& 2 % 2 ^ IntKind.u64.bits : Nat) : Int) = ((f / 2 % 2 * 2 : Nat) : Int) := by
  have e : f % 2 ^ IntKind.u64.bits = f := by simp [IntKind.bits]; omega
  have : ∀ x : Fin 256, x.val &&& 2 = x.val / 2 % 2 * 2 := by decide +kernel
  rw [e, show 2 % 2 ^ IntKind.u64.bits = 2 from rfl, show f &&& 2 = f / 2 % 2 * 2 from this ⟨f, h⟩, IntKind.wrap_u64]; omega
theorem rFixed1_lt (l : List Nat) (hl : Bytes l) (e : Int) : (rFixed l e 1).1 < 256 := by
  unfold rFixed
  split
  · have hb := rTake_bytes hl e (wid 1)
    have hln : (rTake l e (wid 1)).1.length ≤ 1 := by
      unfold rTake; split
      · simp
      · simp [wid]; omega
    generalize (rTake l e (wid 1)).1 = t at hb hln
    cases t with
    | nil => simp [unF, unL]
    | cons c t =>
      have : t = [] := by cases t with | nil => rfl | cons _ _ => simp at hln
      subst this
      have := hb c (by simp)
      simp [unF, unL]; omega
  · simp
theorem rText_bytes {l : List Nat} (hl : Bytes l) (e m : Int) : Bytes (rText l e m).2.1 := by
  unfold rText
  have := rNum_bytes hl e
  generalize rNum l e = p at this
  obtain ⟨n, l', e'⟩ := p
  simp only at this ⊢
  generalize (if m > 0 then m else 0) = q
  split
  · split
    · exact this
    · exact rTake_bytes2 this _ _
  · exact this
theorem rText_le (l : List Nat) (e m : Int) : (rText l e m).2.1.length ≤ l.length := by
  unfold rText
  have := rNum_le l e
  generalize rNum l e = p at this
  obtain ⟨n, l', e'⟩ := p
  simp only at this ⊢
  generalize (if m > 0 then m else 0) = q
  split
  · split
    · exact this
    · exact Nat.le_trans (rTake_le2 _ _ _) this
  · exact this

theorem get_rec (l : List Nat) (e : Int) (hl : Bytes l) (hn : l.length < 4611686018427387904) : Eff1 Try.prog 137 [.sl 1 (bs l), .int .i64 e] [] (.tup [.sv (recG l e).1.sv, .sv (.int .i64 (recG l e).2.1)]) [.sl 1 (bs (recG l e).2.2.1), .int .i64 (recG l e).2.2.2] := by
  refine eff_go RG_ok Try.func137 Try.ntmps137 comp137 cres137 (by decide) (by simp) ?_
  unfold recG
  have f1 := rFixed1_lt l hl e
  have f2 := rFixed_bytes hl e 1
  have f3 := rFixed_le l e 1
  generalize h1 : rFixed l e 1 = p1 at f1 f2 f3 ⊢
  obtain ⟨f, l1, e1⟩ := p1
  simp only at f1 f2 f3 ⊢
  have d2 := rNum_bytes f2 e1
  have d3 := rNum_le l1 e1
  generalize h2 : rNum l1 e1 = p2 at d2 d3 ⊢
  obtain ⟨dl, l2, e2⟩ := p2
  simp only at d2 d3 ⊢
  have t2 := rNum_bytes d2 e2
  have t3 := rNum_le l2 e2
  generalize h3 : rNum l2 e2 = p3 at t2 t3 ⊢
  obtain ⟨tm, l3, e3⟩ := p3
  simp only at t2 t3 ⊢
  have k2 := rText_bytes t2 e3 64
  have k3 := rText_le l3 e3 64
  have n1 : l1.length < 4611686018427387904 := by omega
  have n2 : l2.length < 4611686018427387904 := by omega
  have n3 : l3.length < 4611686018427387904 := by omega
  generalize h4 : rText l3 e3 64 = p4 at k2 k3
  obtain ⟨key, l4, e4⟩ := p4
  simp only at k2 k3
  have n4 : l4.length < 4611686018427387904 := by omega
  have a1 := u64_and1 f
  have a2 := u64_and2 f f1
  unfold recG5
  rw [h4]
  by_cases hk : f % 2 = 1
  · by_cases hd : f / 2 % 2 = 1
    · simp only [hk, hd, if_true, decide_true]
      by_cases he : e4 = 0
      · by_cases h4f : 4 ≤ f
        · have h4f' : (4 : Int) ≤ f := by omega
          simp [ac137, ar137, h1, h2, h3, h4, k2, n4, isBs_bs, hl, f2, d2, t2, hn, n1, n2, n3, a1, a2, rec0, Rec.sv, Rec.cells, sOf_nil, hk, hd, he, h4f, h4f']
        · have h4f' : ¬ (4 : Int) ≤ f := by omega
          by_cases hr : recE ⟨dl, tm, true, sOf key, true, ByteArray.mk #[]⟩ = 0
          · simp [ac137, ar137, h1, h2, h3, h4, k2, n4, isBs_bs, hl, f2, d2, t2, hn, n1, n2, n3, a1, a2, rec0, Rec.sv, Rec.cells, sOf_nil, hk, hd, he, h4f, h4f', hr]
          · simp [ac137, ar137, h1, h2, h3, h4, k2, n4, isBs_bs, hl, f2, d2, t2, hn, n1, n2, n3, a1, a2, rec0, Rec.sv, Rec.cells, sOf_nil, hk, hd, he, h4f, h4f', hr]
      · simp [ac137, ar137, h1, h2, h3, h4, k2, n4, isBs_bs, hl, f2, d2, t2, hn, n1, n2, n3, a1, a2, rec0, Rec.sv, Rec.cells, sOf_nil, hk, hd, he]
    · have hd' : f / 2 % 2 = 0 := by omega
      have v2 := rText_bytes k2 e4 512
      have v3 := rText_le l4 e4 512
      simp only [hk, hd, if_true, if_false, decide_true]
      generalize h5 : rText l4 e4 512 = p5 at v2 v3 ⊢
      obtain ⟨val, l5, e5⟩ := p5
      simp only at v2 v3 ⊢
      have n5 : l5.length < 4611686018427387904 := by omega
      by_cases he : e5 = 0
      · by_cases h4f : 4 ≤ f
        · have h4f' : (4 : Int) ≤ f := by omega
          simp [ac137, ar137, h1, h2, h3, h4, k2, n4, h5, v2, n5, hd', isBs_bs, hl, f2, d2, t2, hn, n1, n2, n3, a1, a2, rec0, Rec.sv, Rec.cells, sOf_nil, hk, hd, he, h4f, h4f']
        · have h4f' : ¬ (4 : Int) ≤ f := by omega
          by_cases hr : recE ⟨dl, tm, true, sOf key, false, sOf val⟩ = 0
          · simp [ac137, ar137, h1, h2, h3, h4, k2, n4, h5, v2, n5, hd', isBs_bs, hl, f2, d2, t2, hn, n1, n2, n3, a1, a2, rec0, Rec.sv, Rec.cells, sOf_nil, hk, hd, he, h4f, h4f', hr]
          · simp [ac137, ar137, h1, h2, h3, h4, k2, n4, h5, v2, n5, hd', isBs_bs, hl, f2, d2, t2, hn, n1, n2, n3, a1, a2, rec0, Rec.sv, Rec.cells, sOf_nil, hk, hd, he, h4f, h4f', hr]
      · simp [ac137, ar137, h1, h2, h3, h4, k2, n4, h5, v2, n5, hd', isBs_bs, hl, f2, d2, t2, hn, n1, n2, n3, a1, a2, rec0, Rec.sv, Rec.cells, sOf_nil, hk, hd, he]
  · have hk' : f % 2 = 0 := by omega
    by_cases hd : f / 2 % 2 = 1
    · simp only [hk, hd, if_true, if_false, decide_true]
      by_cases he : e3 = 0
      · by_cases h4f : 4 ≤ f
        · have h4f' : (4 : Int) ≤ f := by omega
          simp [ac137, ar137, h1, h2, h3, hk', isBs_bs, hl, f2, d2, t2, hn, n1, n2, n3, a1, a2, rec0, Rec.sv, Rec.cells, sOf_nil, hk, hd, he, h4f, h4f']
        · have h4f' : ¬ (4 : Int) ≤ f := by omega
          by_cases hr : recE ⟨dl, tm, false, ByteArray.mk #[], true, ByteArray.mk #[]⟩ = 0
          · simp [ac137, ar137, h1, h2, h3, hk', isBs_bs, hl, f2, d2, t2, hn, n1, n2, n3, a1, a2, rec0, Rec.sv, Rec.cells, sOf_nil, hk, hd, he, h4f, h4f', hr]
          · simp [ac137, ar137, h1, h2, h3, hk', isBs_bs, hl, f2, d2, t2, hn, n1, n2, n3, a1, a2, rec0, Rec.sv, Rec.cells, sOf_nil, hk, hd, he, h4f, h4f', hr]
      · simp [ac137, ar137, h1, h2, h3, hk', isBs_bs, hl, f2, d2, t2, hn, n1, n2, n3, a1, a2, rec0, Rec.sv, Rec.cells, sOf_nil, hk, hd, he]
    · have hd' : f / 2 % 2 = 0 := by omega
      have v2 := rText_bytes t2 e3 512
      have v3 := rText_le l3 e3 512
      simp only [hk, hd, if_true, if_false, decide_true]
      generalize h5 : rText l3 e3 512 = p5 at v2 v3 ⊢
      obtain ⟨val, l5, e5⟩ := p5
      simp only at v2 v3 ⊢
      have n5 : l5.length < 4611686018427387904 := by omega
      by_cases he : e5 = 0
      · by_cases h4f : 4 ≤ f
        · have h4f' : (4 : Int) ≤ f := by omega
          simp [ac137, ar137, h1, h2, h3, h5, v2, n5, hk', hd', isBs_bs, hl, f2, d2, t2, hn, n1, n2, n3, a1, a2, rec0, Rec.sv, Rec.cells, sOf_nil, hk, hd, he, h4f, h4f']
        · have h4f' : ¬ (4 : Int) ≤ f := by omega
          by_cases hr : recE ⟨dl, tm, false, ByteArray.mk #[], false, sOf val⟩ = 0
          · simp [ac137, ar137, h1, h2, h3, h5, v2, n5, hk', hd', isBs_bs, hl, f2, d2, t2, hn, n1, n2, n3, a1, a2, rec0, Rec.sv, Rec.cells, sOf_nil, hk, hd, he, h4f, h4f', hr]
          · simp [ac137, ar137, h1, h2, h3, h5, v2, n5, hk', hd', isBs_bs, hl, f2, d2, t2, hn, n1, n2, n3, a1, a2, rec0, Rec.sv, Rec.cells, sOf_nil, hk, hd, he, h4f, h4f', hr]
      · simp [ac137, ar137, h1, h2, h3, h5, v2, n5, hk', hd', isBs_bs, hl, f2, d2, t2, hn, n1, n2, n3, a1, a2, rec0, Rec.sv, Rec.cells, sOf_nil, hk, hd, he]
end Go.Proofs.Ytflcdbfcipkhkaa

set_option linter.unusedSimpArgs false
set_option linter.unusedVariables false
/- Plain facts: a number that is put is got. -/
namespace Go.Av

theorem lay_big (u : Nat) : ∀ (j : Nat) (h : j < (layN u).length), j + 1 < (layN u).length → 128 ≤ (layN u)[j] := by
  induction u using Nat.strongRecOn with
  | _ u ih =>
    intro j h h1
    by_cases q : u < 128
    · have := layN_small q
      simp [this] at h1
    · have e := layN_big q
      cases j with
      | zero => simp [e]
      | succ j =>
        have hl : (layN u).length = (layN (u / 128)).length + 1 := by rw [e]; simp
        have := ih (u / 128) (by omega) j (by omega) (by omega)
        simpa [e] using this
theorem lay_last (u : Nat) : ∀ (j : Nat) (h : j < (layN u).length), j + 1 = (layN u).length → (layN u)[j] < 128 := by
  induction u using Nat.strongRecOn with
  | _ u ih =>
    intro j h h1
    by_cases q : u < 128
    · have e := layN_small q
      have hj : j = 0 := by simp [e] at h1; exact h1
      subst hj
      simp [e, q]
    · have e := layN_big q
      have hl : (layN u).length = (layN (u / 128)).length + 1 := by rw [e]; simp
      have hp := layN_pos (u / 128)
      cases j with
      | zero => omega
      | succ j =>
        have := ih (u / 128) (by omega) j (by omega) (by omega)
        simpa [e] using this

theorem getN_lay (u : Nat) (hu : u < 18446744073709551616) (l : List Nat) : getN (layN u ++ l) = (zag u, (layN u).length, 0) := by
  have hp := layN_pos u
  have h10 := layN_le10 hu
  have ht : (layN u ++ l).take ((layN u).length - 1 + 1) = layN u := by
    rw [show (layN u).length - 1 + 1 = (layN u).length by omega]; simp
  have := getN_found (l := layN u ++ l) (i := (layN u).length - 1) (by simp; omega) (by omega) (fun j h q => by
      have hj : j < (layN u).length := by omega
      rw [List.getElem_append_left hj]
      exact lay_big u j hj (by omega)) (by
      have hj : (layN u).length - 1 < (layN u).length := by omega
      rw [List.getElem_append_left hj]
      exact lay_last u _ hj (by omega))
  rw [this, ht, valN_layN, Nat.mod_eq_of_lt hu, if_pos rfl]
  congr 2; omega
theorem getN_cut (u : Nat) (hu : u < 18446744073709551616) : getN ((layN u).take ((layN u).length - 1)) = (0, 0, 3) := by
  have hp := layN_pos u
  have h10 := layN_le10 hu
  rw [getN_none (fun j h q => by
    rw [List.getElem_take]
    simp at h
    exact lay_big u j (by omega) (by omega)), if_pos (by simp; omega)]

theorem unF_fixL (w u : Nat) (hw : w ≤ 8) (hu : u < 18446744073709551616) : unF (fixL w u) = u % 256 ^ w := by
  unfold unF
  rw [unL_fixL]
  have : u % 256 ^ w ≤ u := Nat.mod_le _ _
  omega
theorem fixL_8 (u : Nat) (hu : u < 18446744073709551616) : u % 256 ^ 8 = u := by omega
theorem pow8 (w : Nat) : (2 : Nat) ^ (8 * w) = 256 ^ w := by rw [Nat.pow_mul]
theorem low_tmod (u w : Nat) (hw : w < 8) : ((u : Int).tmod (IntKind.u64.wrap (2 ^ min (8 * w) IntKind.u64.bits))) = ((u % 256 ^ w : Nat) : Int) := by
  have hm : min (8 * w) IntKind.u64.bits = 8 * w := by simp [IntKind.bits]; omega
  have h64 : 256 ^ w ≤ 256 ^ 7 := Nat.pow_le_pow_right (by decide) (by omega)
  have hw2 : IntKind.u64.wrap ((256 ^ w : Nat) : Int) = ((256 ^ w : Nat) : Int) := by
    rw [IntKind.wrap_u64]; generalize 256 ^ w = q at h64 ⊢; omega
  rw [hm, two_pow_nat, pow8, hw2, tmod_nat]
theorem low_pos (w : Nat) (hw : w < 8) : ¬ IntKind.u64.wrap (2 ^ min (8 * w) IntKind.u64.bits) = 0 := by
  have hm : min (8 * w) IntKind.u64.bits = 8 * w := by simp [IntKind.bits]; omega
  have h64 : 256 ^ w ≤ 256 ^ 7 := Nat.pow_le_pow_right (by decide) (by omega)
  have h0 : 0 < 256 ^ w := Nat.pow_pos (by decide)
  rw [hm, two_pow_nat, pow8, IntKind.wrap_u64]
  generalize 256 ^ w = q at h64 h0 ⊢
  omega
end Go.Av

set_option linter.unusedSimpArgs false
set_option linter.unusedVariables false
set_option maxHeartbeats 2000000
namespace Go.Proofs.Ytflcdbfcipkhkaa
open Go.Av

theorem sOf_bytesNat (s : ByteArray) : sOf (bytesNat s) = s := by
  simp [sOf, bytesNat, Function.comp_def]
theorem bytesNat_bytes (s : ByteArray) : Bytes (bytesNat s) := by
  intro c hc
  simp only [bytesNat, List.mem_map] at hc
  obtain ⟨x, _, rfl⟩ := hc
  exact x.toNat_lt
theorem rNum_lay {n : Int} (h : I64 n) (l : List Nat) : rNum (layN (zig n) ++ l) 0 = (n, l, 0) := by
  simp [rNum, getN_lay _ (zig_lt h.1 h.2), zag_zig]
theorem rText_lay (s : ByteArray) (m : Int) (h : I64 (s.size : Int)) (hm : (s.size : Int) ≤ m) (l : List Nat) : rText (layN (zig s.size) ++ (bytesNat s ++ l)) 0 m = (bytesNat s, l, 0) := by
  have hl := bytesNat_length s
  have h1 : ¬ ((s.size : Int) < 0 ∨ (s.size : Int) > if m > 0 then m else 0) := by split <;> omega
  simp only [rText, rNum_lay h, if_true, if_neg h1, rTake]
  rw [if_neg (by simp [hl]; omega)]
  simp [← hl]
theorem rText_cut (s : ByteArray) (m : Int) (h : I64 (s.size : Int)) (hm : (s.size : Int) ≤ m) : (rText (layN (zig s.size) ++ bytesNat s).dropLast 0 m).2.2 = 3 := by
  have hl := bytesNat_length s
  by_cases hs : bytesNat s = []
  · rw [hs] at hl
    have : s.size = 0 := by simpa using hl.symm
    rw [hs, List.append_nil]
    have e : (layN (zig s.size)).dropLast = [] := by
      rw [this, show zig ((0 : Nat) : Int) = 0 from rfl, layN_small (by decide)]; rfl
    rw [e]
    have : getN [] = (0, 0, 3) := by rw [getN_none (fun j h => by simp at h)]; rfl
    simp [rText, rNum, this]
  · rw [List.dropLast_append_of_ne_nil hs]
    have h1 : ¬ ((s.size : Int) < 0 ∨ (s.size : Int) > if m > 0 then m else 0) := by split <;> omega
    have hp : 0 < (bytesNat s).length := List.length_pos_iff.2 hs
    simp only [rText, rNum_lay h, if_true, if_neg h1, rTake]
    rw [if_pos (by simp [hl]; omega)]
theorem rFixed_1 (c : Nat) (h : c < 256) (l : List Nat) : rFixed (c :: l) 0 1 = (c, l, 0) := by
  have hw : wid 1 = 1 := rfl
  simp [rFixed, rTake, hw, unF, unL]
  rw [if_neg (by omega)]
  simp; omega

theorem recE_form {r : Rec} (h : recE r = 0) : (r.kd = false → r.key = ByteArray.mk #[] ∧ r.dd = false) ∧ (r.dd = true → r.val = ByteArray.mk #[]) := by
  have em : ∀ s : ByteArray, isE s = true → s = ByteArray.mk #[] := fun s hs => by
    simp [isE, ByteArray.toList_eq] at hs
    obtain ⟨⟨d⟩⟩ := s
    simp at hs
    subst hs; rfl
  unfold recE at h
  split at h
  · cases h
  split at h
  · cases h
  split at h
  · cases h
  rename_i hq
  simp only [Bool.not_eq_true, Bool.or_eq_false_iff, Bool.and_eq_false_iff, Bool.not_eq_false'] at hq
  obtain ⟨q1, q2⟩ := hq
  refine ⟨fun hk => ?_, fun hd => ?_⟩
  · rcases q1 with q | q
    · rw [hk] at q; cases q
    · exact ⟨em _ (by simpa using q.1), q.2⟩
  · rcases q2 with q | q
    · rw [hd] at q; cases q
    · exact em _ (by simpa using q)

def flagR (r : Rec) : Nat := (if r.kd then 1 else 0) + (if r.dd then 2 else 0)
theorem recG_put (r : Rec) (h : recE r = 0) (l : List Nat) : recG (recP r ++ l) 0 = (r, 0, l, 0) := by
  obtain ⟨a1, a2, a3, a4, a5, a6⟩ := recE_small h
  obtain ⟨b1, b2⟩ := recE_form h
  obtain ⟨dl, tm, kd, key, dd, val⟩ := r
  simp only at a1 a2 a3 a4 a5 a6 b1 b2
  have i1 : I64 dl := ⟨by omega, by omega⟩
  have i2 : I64 tm := ⟨by omega, by omega⟩
  have i3 : I64 (key.size : Int) := ⟨by omega, by omega⟩
  have i4 : I64 (val.size : Int) := ⟨by omega, by omega⟩
  cases kd
  · obtain ⟨rfl, rfl⟩ := b1 rfl
    have e1 : recP ⟨dl, tm, false, ByteArray.mk #[], false, val⟩ ++ l = 0 :: (layN (zig dl) ++ (layN (zig tm) ++ (layN (zig val.size) ++ (bytesNat val ++ l)))) := by simp [recP]
    rw [e1]
    simp only [recG, rFixed_1 0 (by decide), rNum_lay i1, rNum_lay i2, recG5]
    simp [rText_lay val 512 i4 (by omega), sOf_bytesNat, sOf_nil, h]
  · cases dd
    · have e1 : recP ⟨dl, tm, true, key, false, val⟩ ++ l = 1 :: (layN (zig dl) ++ (layN (zig tm) ++ (layN (zig key.size) ++ (bytesNat key ++ (layN (zig val.size) ++ (bytesNat val ++ l)))))) := by simp [recP]
      rw [e1]
      simp only [recG, rFixed_1 1 (by decide), rNum_lay i1, rNum_lay i2, recG5]
      simp only [if_true, rText_lay key 64 i3 (by omega), rText_lay val 512 i4 (by omega)]
      simp [rText_lay val 512 i4 (by omega), sOf_bytesNat, sOf_nil, h]
    · obtain rfl := b2 rfl
      have e1 : recP ⟨dl, tm, true, key, true, ByteArray.mk #[]⟩ ++ l = 3 :: (layN (zig dl) ++ (layN (zig tm) ++ (layN (zig key.size) ++ (bytesNat key ++ l)))) := by simp [recP]
      rw [e1]
      simp only [recG, rFixed_1 3 (by decide), rNum_lay i1, rNum_lay i2, recG5]
      simp [rText_lay key 64 i3 (by omega), sOf_bytesNat, sOf_nil, h]
theorem recG_cut (r : Rec) (h : recE r = 0) : (recG (recP r).dropLast 0).2.1 = 3 := by
  obtain ⟨a1, a2, a3, a4, a5, a6⟩ := recE_small h
  obtain ⟨b1, b2⟩ := recE_form h
  obtain ⟨dl, tm, kd, key, dd, val⟩ := r
  simp only at a1 a2 a3 a4 a5 a6 b1 b2
  have i1 : I64 dl := ⟨by omega, by omega⟩
  have i2 : I64 tm := ⟨by omega, by omega⟩
  have i3 : I64 (key.size : Int) := ⟨by omega, by omega⟩
  have i4 : I64 (val.size : Int) := ⟨by omega, by omega⟩
  have ne : ∀ s : ByteArray, layN (zig s.size) ++ bytesNat s ≠ [] := fun s q => by
    have := layN_pos (zig s.size)
    have := congrArg List.length q
    simp only [List.length_append, List.length_nil] at this; omega
  cases kd
  · obtain ⟨rfl, rfl⟩ := b1 rfl
    have e1 : (recP ⟨dl, tm, false, ByteArray.mk #[], false, val⟩).dropLast = 0 :: (layN (zig dl) ++ (layN (zig tm) ++ (layN (zig val.size) ++ bytesNat val).dropLast)) := by
      have : recP ⟨dl, tm, false, ByteArray.mk #[], false, val⟩ = (0 :: (layN (zig dl) ++ layN (zig tm))) ++ (layN (zig val.size) ++ bytesNat val) := by simp [recP]
      rw [this, List.dropLast_append_of_ne_nil (ne val)]; simp
    rw [e1]
    have hc := rText_cut val 512 i4 (by omega)
    simp only [recG, rFixed_1 0 (by decide), rNum_lay i1, rNum_lay i2, recG5]
    simp [hc]
  · cases dd
    · have e1 : (recP ⟨dl, tm, true, key, false, val⟩).dropLast = 1 :: (layN (zig dl) ++ (layN (zig tm) ++ (layN (zig key.size) ++ (bytesNat key ++ (layN (zig val.size) ++ bytesNat val).dropLast)))) := by
        have : recP ⟨dl, tm, true, key, false, val⟩ = (1 :: (layN (zig dl) ++ layN (zig tm) ++ (layN (zig key.size) ++ bytesNat key))) ++ (layN (zig val.size) ++ bytesNat val) := by simp [recP]
        rw [this, List.dropLast_append_of_ne_nil (ne val)]; simp
      rw [e1]
      have hc := rText_cut val 512 i4 (by omega)
      simp only [recG, rFixed_1 1 (by decide), rNum_lay i1, rNum_lay i2, recG5]
      simp only [if_true, rText_lay key 64 i3 (by omega)]
      simp [hc]
    · obtain rfl := b2 rfl
      have e1 : (recP ⟨dl, tm, true, key, true, ByteArray.mk #[]⟩).dropLast = 3 :: (layN (zig dl) ++ (layN (zig tm) ++ (layN (zig key.size) ++ bytesNat key).dropLast)) := by
        have : recP ⟨dl, tm, true, key, true, ByteArray.mk #[]⟩ = (3 :: (layN (zig dl) ++ layN (zig tm))) ++ (layN (zig key.size) ++ bytesNat key) := by simp [recP]
        rw [this, List.dropLast_append_of_ne_nil (ne key)]; simp
      rw [e1]
      have hc := rText_cut key 64 i3 (by omega)
      simp only [recG, rFixed_1 3 (by decide), rNum_lay i1, rNum_lay i2, recG5]
      simp [hc]

theorem recS_iff (r s : Rec) : recS r s = true ↔ r = s := by
  obtain ⟨dl, tm, kd, key, dd, val⟩ := r
  obtain ⟨dl', tm', kd', key', dd', val'⟩ := s
  have ba : ∀ a b : ByteArray, a.toList = b.toList → a = b := fun a b h => by
    rw [ByteArray.toList_eq, ByteArray.toList_eq] at h
    obtain ⟨⟨x⟩⟩ := a
    obtain ⟨⟨y⟩⟩ := b
    simp at h; subst h; rfl
  simp only [recS, Bool.and_eq_true, beq_iff_eq, Rec.mk.injEq]
  constructor
  · rintro ⟨h1, h2, h3, h4, h5, h6⟩; exact ⟨h1, h2, h3, ba _ _ h4, h5, ba _ _ h6⟩
  · rintro ⟨h1, h2, h3, h4, h5, h6⟩; exact ⟨h1, h2, h3, by rw [h4], h5, by rw [h6]⟩
theorem rec_prefix {r s : Rec} (hr : recE r = 0) (hs : recE s = 0) {t : List Nat} (h : recP s = recP r ++ t) : r = s := by
  have h1 := recG_put s hs []
  rw [List.append_nil, h, recG_put r hr t] at h1
  exact congrArg Prod.fst h1
theorem recP_bytes (r : Rec) : Bytes (recP r) := by
  have h0 : Bytes [(if r.kd = true then 1 else 0) + (if r.dd = true then 2 else 0)] := fun c hc => by
    simp at hc; subst hc; split <;> split <;> omega
  have : recP r = [(if r.kd = true then 1 else 0) + (if r.dd = true then 2 else 0)] ++ (layN (zig r.dl) ++ layN (zig r.tm)) ++ (if r.kd then layN (zig r.key.size) ++ bytesNat r.key else []) ++ (if r.dd then [] else layN (zig r.val.size) ++ bytesNat r.val) := by simp [recP]
  rw [this]
  refine ((h0.append ((layN_bytes _).append (layN_bytes _))).append ?_).append ?_
  · split
    · exact (layN_bytes _).append (bytesNat_bytes _)
    · exact fun c h => by simp at h
  · split
    · exact fun c h => by simp at h
    · exact (layN_bytes _).append (bytesNat_bytes _)
end Go.Proofs.Ytflcdbfcipkhkaa

set_option linter.unusedSimpArgs false
set_option linter.unusedVariables false
set_option maxHeartbeats 2000000
namespace Go.Proofs.Ytflcdbfcipkhkaa
open Go.Av

def rd' (l : List Nat) (e : Int) : SV := .agg [.sl 1 (bs l), .int .i64 e]
def R23 : Orc := {
  p := fun f l => match f, l with
  | 77, [.sl 1 xs] => some (IsBs xs ∧ xs.length < 4611686018427387904, .tup [.sv (.int .i64 (getN (nsOf xs)).1), .sv (.int .i64 (getN (nsOf xs)).2.1), .sv (.int .i64 (getN (nsOf xs)).2.2)])
  | 79, [.sl 1 xs] => some (IsBs xs ∧ xs.length < 4611686018427387904, .sv (.int .u64 (unF (nsOf xs))))
  | _, _ => none }
theorem R23_ok : R23.ok Try.prog := by
  refine ⟨fun f l c rv h hc => ?_, fun _ _ _ _ _ _ h => (by cases h), fun _ _ _ _ h => (by cases h), fun _ h => (by cases h), fun _ _ _ _ _ _ h => (by cases h), fun _ _ _ _ _ _ _ h => (by cases h)⟩
  simp only [R23] at h
  split at h <;> cases h
  · exact R3_ok.p 77 _ _ _ rfl hc
  · exact R3_ok.p 79 _ _ _ rfl hc

theorem getN_err (l : List Nat) (h : (getN l).2.2 ≠ 0) : (getN l).1 = 0 ∧ (getN l).2.1 = 0 := by
  unfold getN at h ⊢
  simp only [] at h ⊢
  split at h
  · split at h
    · simp at h
    · rename_i h1 h2; rw [if_pos h1, if_neg h2]; simp
  · rename_i h1; rw [if_neg h1]; split <;> simp

theorem refnum (l : List Nat) (e : Int) (hl : Bytes l) (hn : l.length < 4611686018427387904) : Pure Try.prog 17 [rd' l e] (.tup [.sv (rd' (rNum l e).2.1 (rNum l e).2.2), .sv (.int .i64 (rNum l e).1)]) := by
  refine pure_go R23_ok Try.func17 Try.ntmps17 comp17 cres17 (by decide) (by simp) ?_
  have hk := getN_k l
  simp only [rd']
  by_cases h : e = 0
  · by_cases h2 : (getN l).2.2 = 0
    · simp [ac17, ar17, h, h2, R23, rNum, isBs_bs, hl, hn, hk, bs_drop]
      rw [List.take_of_length_le (by simp)]
    · obtain ⟨q1, q2⟩ := getN_err l h2
      simp [ac17, ar17, h, h2, q1, q2, R23, rNum, isBs_bs, hl, hn]
  · simp [ac17, ar17, h, R23, rNum]
theorem reffix (l : List Nat) (e w : Int) (hl : Bytes l) (hn : l.length < 4611686018427387904) : Pure Try.prog 19 [rd' l e, .int .i64 w] (.tup [.sv (rd' (rFixed l e w).2.1 (rFixed l e w).2.2), .sv (.int .u64 (rFixed l e w).1)]) := by
  refine pure_go R23_ok Try.func19 Try.ntmps19 comp19 cres19 (by decide) (by simp) ?_
  simp only [rd']
  have hw : (if 0 < if 8 < w then 8 else w then if 8 < w then 8 else w else 0) = (wid w : Int) := by unfold wid; (repeat' split) <;> omega
  have hun : unF [] = 0 := rfl
  by_cases h : e = 0
  · by_cases h2 : (l.length : Int) < wid w
    · have h2' : l.length < wid w := by omega
      simp [ac19, ar19, h, hw, h2, h2', R23, rFixed, rTake, hun]
    · have h2' : ¬ l.length < wid w := by omega
      simp [ac19, ar19, h, hw, h2, h2', R23, rFixed, rTake, bs_take, bs_drop, isBs_bs, hl.take]
      exact ⟨⟨by omega, by omega⟩, by rw [List.take_of_length_le (by simp)]⟩
  · simp [ac19, ar19, h, hw, R23, rFixed]
def R27 : Orc := {
  p := fun f l => match f, l with
  | 17, [.agg [.sl 1 xs, .int .i64 e]] => some (IsBs xs ∧ xs.length < 4611686018427387904, .tup [.sv (rd' (rNum (nsOf xs) e).2.1 (rNum (nsOf xs) e).2.2), .sv (.int .i64 (rNum (nsOf xs) e).1)])
  | _, _ => none }
theorem R27_ok : R27.ok Try.prog := by
  refine ⟨fun f l c rv h hc => ?_, fun _ _ _ _ _ _ h => (by cases h), fun _ _ _ _ h => (by cases h), fun _ h => (by cases h), fun _ _ _ _ _ _ h => (by cases h), fun _ _ _ _ _ _ _ h => (by cases h)⟩
  simp only [R27] at h
  split at h <;> cases h
  rename_i xs e
  obtain ⟨⟨e1, h1⟩, h2⟩ := hc
  have := refnum (nsOf xs) e h1 (by rw [e1] at h2; simpa using h2)
  rw [rd', ← e1] at this
  exact this
theorem reftext (l : List Nat) (e m : Int) (hl : Bytes l) (hn : l.length < 4611686018427387904) : Pure Try.prog 21 [rd' l e, .int .i64 m] (.tup [.sv (rd' (rText l e m).2.1 (rText l e m).2.2), .sv (.str (sOf (rText l e m).1))]) := by
  refine pure_go R27_ok Try.func21 Try.ntmps21 comp21 cres21 (by decide) (by simp) ?_
  have hb := rNum_bytes hl e
  have hln := rNum_le l e
  simp only [rd']
  unfold rText
  generalize hp : rNum l e = p at hb hln
  obtain ⟨n, l', e'⟩ := p
  simp only at hb hln
  have hm : (if 0 < m then m else 0) ≥ 0 := by split <;> omega
  generalize hmm : (if 0 < m then m else 0) = q at hm
  by_cases h : e' = 0
  · by_cases h1 : n < 0
    · simp [ac21, ar21, R27, hp, h, h1, isBs_bs, hl, hn, rd', sOf_nil]
    · by_cases h2 : q < n
      · simp [ac21, ar21, R27, hp, h, h1, h2, hmm, isBs_bs, hl, hn, rd', sOf_nil]
      · have h3 : 0 ≤ n := by omega
        by_cases h4 : (l'.length : Int) < n
        · simp [ac21, ar21, R27, hp, h, h1, h2, h3, h4, hmm, isBs_bs, hl, hn, rd', sOf_nil, rTake]
        · have h5 : n ≤ (l'.length : Int) := by omega
          simp [ac21, ar21, R27, hp, h, h1, h2, h3, h4, h5, hmm, isBs_bs, hl, hn, rd', rTake, bs_take, bs_drop, bs_str]
          exact ⟨fun x hx => bs_byte _ x hx, by rw [List.take_of_length_le (by simp)]⟩
  · simp [ac21, ar21, R27, hp, h, isBs_bs, hl, hn, rd', sOf_nil]
end Go.Proofs.Ytflcdbfcipkhkaa
