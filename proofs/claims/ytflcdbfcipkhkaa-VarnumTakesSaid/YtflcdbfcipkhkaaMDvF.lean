import Derived.Test.YtflcdbfcipkhkaaMDvA
import Derived.Test.YtflcdbfcipkhkaaAvL3
import Derived.Test.YtflcdbfcipkhkaaProg
import Derived.KernelRfl
import Derived.Test.YtflcdbfcipkhkaaAvAD
import Derived.Test.YtflcdbfcipkhkaaAvRg
import Derived.Maps.Own
import Derived.WalkKit
import Derived.Deep.LoopGhost
import Derived.Deep.Draws
import Derived.Deep.RegionWith
import Derived.Deep.RegionHeld3

set_option linter.unusedVariables false
set_option linter.unusedSimpArgs false

set_option linter.unusedSimpArgs false
set_option linter.unusedVariables false
set_option maxHeartbeats 1000000
namespace Go.Proofs.Ytflcdbfcipkhkaa

open Go.Av

theorem rget_pure (l : List Nat) (hl : Bytes l) (hn : l.length < 4611686018427387904) : Pure Try.prog 77 [.sl 1 (bs l)] (.tup [.sv (.int .i64 (getN l).1), .sv (.int .i64 (getN l).2.1), .sv (.int .i64 (getN l).2.2)]) := by
  refine pure_go R2_ok Try.func77 Try.ntmps77 comp77 cres77 (by decide) (by simp) ?_
  simp [ac77, ar77]
  refine awpR_loop (α := Nat) (fun i => i ≤ l.length ∧ i ≤ 10 ∧ ∀ j (h : j < l.length), j < i → 128 ≤ l[j]) (fun i => { n := 60, sl := [(0, .sv (.sl 1 (bs l))), (5, .sv (.int .i64 i))], bx := [], hp := fun _ => none })
    (fun i => 10 - i) 0 (by simp) ?_ ?_
  · simp
  rintro i ⟨hi, hi10, hb⟩
  have e4 : IntKind.i64.wrap ((i : Int) + 1) = ((i + 1 : Nat) : Int) := by rw [wrap_i64_in (by omega) (by omega)]; omega
  by_cases h10 : i = 10
  · have hg := getN_none (l := l) (fun j h q => hb j h (by omega))
    rw [if_neg (by omega)] at hg
    have h1 : ¬ (i : Int) < 10 := by omega
    have h3 : (i : Int) = 10 := by omega
    by_cases hlt : i < l.length
    · simp [hlt, hg, h1]
      exact fun q => absurd h3 q
    · have : i = l.length := by omega
      subst this
      simp [hg, h1]
      exact h3
  by_cases hend : i = l.length
  · have hg := getN_none (l := l) (fun j h q => hb j h (by omega))
    rw [if_pos (by omega)] at hg
    have h10' : ¬ (i : Int) = 10 := by omega
    subst hend
    simp [hg, h10']
  have hlt : i < l.length := by omega
  have hc8 := hl.get hlt
  by_cases hc' : 128 ≤ l[i]
  · have h1 : (i : Int) < 10 := by omega
    have h2 : (128 : Int) ≤ l[i] := by omega
    simp [hlt, h1, h2, e4, -Int.natCast_add]
    refine ⟨i + 1, ⟨by omega, by omega, fun j h q => ?_⟩, by omega, rfl⟩
    by_cases e : j = i
    · subst e; omega
    · exact hb j h (by omega)
  have hc : l[i] < 128 := by omega
  have h1 : (i : Int) < 10 := by omega
  have h2 : ¬ (128 : Int) ≤ l[i] := by omega
  have h3 : ¬ (i : Int) = 10 := by omega
  have h4 : ¬ (i : Int) = l.length := by omega
  have hg := getN_found hlt (by omega) hb hc
  simp [hlt, h1, h2, h3, h4]
  refine awpR_loop (α := Nat) (fun k => k ≤ i + 1) (fun k => { n := 60, sl := [(0, .sv (.sl 1 (bs l))), (5, .sv (.int .i64 i)), (6, .sv (.int .u64 (valN ((l.take (i + 1)).drop k) % 18446744073709551616 : Nat))), (7, .sv (.int .i64 ((k : Int) - 1)))], bx := [], hp := fun _ => none })
    (fun k => k) (i + 1) (by omega) ?_ ?_
  · simp [valN]
  intro k hk
  by_cases hk0 : k = 0
  · subst hk0
    simp only [List.drop_zero]
    generalize hV : valN (l.take (i + 1)) % 18446744073709551616 = V at hg
    have hVlt : V < 18446744073709551616 := by rw [← hV]; exact Nat.mod_lt _ (by decide)
    have hso := sOf_eq (layN_bytes V) (hl.take (i + 1))
    simp [e4, bs_take, bs_str, hso, -Int.natCast_add]
    refine ⟨⟨⟨⟨⟨by omega, by omega⟩, bs_byte _⟩, by omega⟩, bs_byte _⟩, fun q => ?_, fun q => ?_⟩
    · rw [if_neg q] at hg; simp [hg]
    · rw [if_pos q] at hg; simp [hg]; exact ⟨by omega, by omega⟩
  · have hk1 : 0 ≤ (k : Int) - 1 := by omega
    have hk2 : ((k : Int) - 1).toNat = k - 1 := by omega
    have hk3 : k - 1 < l.length := by omega
    have hk4 : (k : Int) - 1 < l.length := by omega
    have hk5 : ¬ (k : Int) < 1 := by omega
    have hk6 : (1 : Int) ≤ k := by omega
    simp [hk1, hk2, hk3, hk4, hk5, hk6, -Int.natCast_emod]
    refine ⟨k - 1, by omega, by omega, ?_, by rw [wrap_i64_in (by omega) (by omega)]; omega⟩
    have e1 : (l.take (i + 1)).drop (k - 1) = l[k - 1] :: (l.take (i + 1)).drop k := by
      have := List.drop_eq_getElem_cons (l := l.take (i + 1)) (i := k - 1) (by simp; omega)
      rw [this, List.getElem_take, show k - 1 + 1 = k by omega]
    have hc := hl.get hk3
    have e2 : ((l[k - 1] : Nat) : Int).tmod 128 = ((l[k - 1] % 128 : Nat) : Int) := tmod_nat _ 128
    rw [e1, valN, e2, IntKind.wrap_u64, IntKind.wrap_u64, IntKind.wrap_u64]
    generalize valN ((l.take (i + 1)).drop k) = v
    omega
end Go.Proofs.Ytflcdbfcipkhkaa

set_option linter.unusedSimpArgs false
set_option linter.unusedVariables false
set_option maxHeartbeats 1000000
namespace Go.Proofs.Ytflcdbfcipkhkaa

open Go.Av

def bytesNat (s : ByteArray) : List Nat := s.data.toList.map UInt8.toNat
theorem bytesV_eq (l : List UInt8) : bytesV l = bs (l.map UInt8.toNat) := by simp [bytesV, bs]

def R3 : Orc := { p := fun f l => match f, l with
  | 73, [.int .i64 n] => some (I64 n, .sv (.int .u64 (zig n)))
  | 131, [.int .i64 n] => some (I64 n, .sv (.int .u64 (zig n)))
  | 74, [.int .u64 u] => some (U64 u, .sv (.int .i64 (zag u.toNat)))
  | 130, [.int .u64 u] => some (U64 u, .sv (.int .i64 (zag u.toNat)))
  | 71, [.int .i64 n] => some (I64 n, .own 1 (bs (layN (zig n))))
  | 82, [.int .i64 n] => some (I64 n, .own 1 (bs (layN (zig n))))
  | 78, [.sl 1 xs] => some (IsBs xs ∧ xs.length < 4611686018427387904, .tup [.sv (.int .i64 (getN (nsOf xs)).1), .sv (.int .i64 (getN (nsOf xs)).2.1), .sv (.int .i64 (getN (nsOf xs)).2.2)])
  | 78, [.nils] => some (True, .tup [.sv (.int .i64 0), .sv (.int .i64 0), .sv (.int .i64 3)])
  | 77, [.sl 1 xs] => some (IsBs xs ∧ xs.length < 4611686018427387904, .tup [.sv (.int .i64 (getN (nsOf xs)).1), .sv (.int .i64 (getN (nsOf xs)).2.1), .sv (.int .i64 (getN (nsOf xs)).2.2)])
  | 77, [.nils] => some (True, .tup [.sv (.int .i64 0), .sv (.int .i64 0), .sv (.int .i64 3)])
  | 75, [.sl 1 xs] => some (IsBs xs ∧ xs.length < 4611686018427387904, .sv (.int .u64 (unF (nsOf xs))))
  | 75, [.nils] => some (True, .sv (.int .u64 0))
  | 79, [.sl 1 xs] => some (IsBs xs ∧ xs.length < 4611686018427387904, .sv (.int .u64 (unF (nsOf xs))))
  | 79, [.nils] => some (True, .sv (.int .u64 0))
  | 81, [.int .i64 w] => some (True, .sv (.int .i64 (wid w)))
  | 76, [.sl 1 xs] => some (xs.length ≤ 140737488355328, .own 1 xs)
  | _, _ => none }

theorem pure_of_nils {P : Program} {f : FuncId} {rv : LV} (h : Pure P f [.sl 1 []] rv) : Pure P f [.nils] rv := by
  intro mu w vs hm ha
  refine h mu w vs hm ⟨ha.1, fun j hj => ?_⟩
  have := ha.2 j hj
  simp at hj
  subst hj
  simp at this ⊢
  rw [Rep.inv_nils this]
  exact .slnil 1

theorem clone_pure (xs : List SV) (hl : xs.length ≤ 140737488355328) : Pure Try.prog 76 [.sl 1 xs] (.own 1 xs) := by
  refine pure_go R0_ok Try.func76 Try.ntmps76 comp76 cres76 (by decide) (by simp) ?_
  cases xs with
  | nil => simp [ac76, ar76]
  | cons x xs => simp [ac76, ar76]; simpa using hl

theorem R3_ok : R3.ok Try.prog := by
  refine ⟨fun f l c rv h hc => ?_, fun _ _ _ _ _ _ h => (by cases h), fun _ _ _ _ h => (by cases h), fun _ h => (by cases h), fun _ _ _ _ _ _ h => (by cases h), fun _ _ _ _ _ _ _ h => (by cases h)⟩
  simp only [R3] at h
  split at h <;> cases h
  · exact R1_ok.p 73 _ _ _ rfl hc
  · exact R1_ok.p 131 _ _ _ rfl hc
  · exact R1_ok.p 74 _ _ _ rfl hc
  · exact R1_ok.p 130 _ _ _ rfl hc
  · exact put_pure _ hc
  · exact rput_pure _ hc
  · obtain ⟨⟨e1, h1⟩, h2⟩ := hc
    have := get_pure _ h1 (by rw [e1] at h2; simpa using h2)
    rwa [← e1] at this
  · exact pure_of_nils (get_pure [] (fun c h => by simp at h) (by simp))
  · obtain ⟨⟨e1, h1⟩, h2⟩ := hc
    have := rget_pure _ h1 (by rw [e1] at h2; simpa using h2)
    rwa [← e1] at this
  · exact pure_of_nils (rget_pure [] (fun c h => by simp at h) (by simp))
  · obtain ⟨⟨e1, h1⟩, h2⟩ := hc
    have := unfixed_pure _ h1 (by rw [e1] at h2; simpa using h2)
    rwa [← e1] at this
  · exact pure_of_nils (unfixed_pure [] (fun c h => by simp at h) (by simp))
  · obtain ⟨⟨e1, h1⟩, h2⟩ := hc
    have := runfixed_pure _ h1 (by rw [e1] at h2; simpa using h2)
    rwa [← e1] at this
  · exact pure_of_nils (runfixed_pure [] (fun c h => by simp at h) (by simp))
  · exact R1_ok.p 81 _ _ _ rfl trivial
  · exact clone_pure _ hc

theorem text_pure (s : ByteArray) (h : s.size ≤ 140737488355000) : Pure Try.prog 27 [.str s] (.own 1 (bs (layN (zig s.size) ++ bytesNat s))) := by
  refine pure_go R3_ok Try.func27 Try.ntmps27 comp27 cres27 (by decide) (by simp) ?_
  simp [ac27, ar27, R3, I64]
  have h1 := layN_le10 (u := zig s.size) (zig_lt (by omega) (by omega))
  refine ⟨⟨by omega, by omega⟩, ?_⟩
  rw [bytesV_eq, bs_append]; rfl

theorem err_eff (b : SV) (e : Int) : Eff1 Try.prog 24 [b, .int .i64 e] [] (.sv (.int .i64 e)) [b, .int .i64 e] := by
  refine eff_go R0_ok Try.func24 Try.ntmps24 comp24 cres24 (by decide) (by simp) ?_
  simp [ac24, ar24]
theorem err_nil : Pure Try.prog 24 [.nilp] (.sv (.int .i64 1)) := by
  refine pure_go R0_ok Try.func24 Try.ntmps24 comp24 cres24 (by decide) (by simp) ?_
  simp [ac24, ar24]
/-- What a reader's take does. -/
def rTake (l : List Nat) (e n : Int) : List Nat × List Nat × Int := if (l.length : Int) < n then ([], l, 3) else (l.take n.toNat, l.drop n.toNat, e)
def rNum (l : List Nat) (e : Int) : Int × List Nat × Int := if e = 0 then ((getN l).1, l.drop (getN l).2.1, (getN l).2.2) else (0, l, e)
def rFixed (l : List Nat) (e w : Int) : Nat × List Nat × Int := if e = 0 then (unF (rTake l e (wid w)).1, (rTake l e (wid w)).2) else (0, l, e)
def rText (l : List Nat) (e most : Int) : List Nat × List Nat × Int :=
  let (n, l', e') := rNum l e
  if e' = 0 then (if n < 0 ∨ n > (if most > 0 then most else 0) then ([], l', 5) else rTake l' e' n) else ([], l', e')
def rDone (l : List Nat) (e : Int) : Int := if e = 0 then (if l.length > 0 then 4 else 0) else e

theorem take_eff (l : List Nat) (e n : Int) (hl : l.length < 4611686018427387904) (hn : 0 ≤ n) : Eff1 Try.prog 80 [.sl 1 (bs l), .int .i64 e] [.int .i64 n] (.sv (.sl 1 (bs (rTake l e n).1))) [.sl 1 (bs (rTake l e n).2.1), .int .i64 (rTake l e n).2.2] := by
  refine eff_go R0_ok Try.func80 Try.ntmps80 comp80 cres80 (by decide) (by simp) ?_
  by_cases h : (l.length : Int) < n
  · simp [ac80, ar80, h, rTake]
  · simp [ac80, ar80, h, rTake, bs_take, bs_drop]
    refine ⟨⟨hn, by omega⟩, ?_⟩
    rw [List.take_of_length_le (by simp)]

def RR : Orc := { R3 with e := fun f cells l => match f, cells, l with
  | 24, [b, .int .i64 e], [] => some (True, .sv (.int .i64 e), [b, .int .i64 e])
  | 80, [.sl 1 xs, .int .i64 e], [.int .i64 n] => some (IsBs xs ∧ xs.length < 4611686018427387904 ∧ 0 ≤ n, .sv (.sl 1 (bs (rTake (nsOf xs) e n).1)), [.sl 1 (bs (rTake (nsOf xs) e n).2.1), .int .i64 (rTake (nsOf xs) e n).2.2])
  | _, _, _ => none }
theorem RR_ok : RR.ok Try.prog := by
  refine ⟨R3_ok.p, fun f cells l c rv cells' h hc => ?_, fun _ _ _ _ h => (by cases h), fun _ h => (by cases h), fun _ _ _ _ _ _ h => (by cases h), fun _ _ _ _ _ _ _ h => (by cases h)⟩
  simp only [RR] at h
  split at h <;> cases h
  · exact err_eff _ _
  · rename_i xs e n
    obtain ⟨⟨e1, h1⟩, h2, h3⟩ := hc
    have := take_eff (nsOf xs) e n (by rw [e1] at h2; simpa using h2) h3
    rwa [← e1] at this
@[simp] theorem RR_78 (xs : List SV) : RR.p 78 [.sl 1 xs] = some (IsBs xs ∧ xs.length < 4611686018427387904, .tup [.sv (.int .i64 (getN (nsOf xs)).1), .sv (.int .i64 (getN (nsOf xs)).2.1), .sv (.int .i64 (getN (nsOf xs)).2.2)]) := rfl
@[simp] theorem RR_75 (xs : List SV) : RR.p 75 [.sl 1 xs] = some (IsBs xs ∧ xs.length < 4611686018427387904, .sv (.int .u64 (unF (nsOf xs)))) := rfl
@[simp] theorem RR_81 (w : Int) : RR.p 81 [.int .i64 w] = some (True, .sv (.int .i64 (wid w))) := rfl
@[simp] theorem RR_24 (b : SV) (e : Int) : RR.e 24 [b, .int .i64 e] [] = some (True, .sv (.int .i64 e), [b, .int .i64 e]) := rfl
@[simp] theorem RR_80 (xs : List SV) (e n : Int) : RR.e 80 [.sl 1 xs, .int .i64 e] [.int .i64 n] = some (IsBs xs ∧ xs.length < 4611686018427387904 ∧ 0 ≤ n, .sv (.sl 1 (bs (rTake (nsOf xs) e n).1)), [.sl 1 (bs (rTake (nsOf xs) e n).2.1), .int .i64 (rTake (nsOf xs) e n).2.2]) := rfl

theorem getN_k (l : List Nat) : (getN l).2.1 ≤ l.length := by
  unfold getN
  simp only []
  split
  · rename_i h
    split
    · have := endN_le (l.take 10); simp at h this ⊢; omega
    · simp
  · split <;> simp

theorem rTake_bytes {l : List Nat} (hl : Bytes l) (e n : Int) : Bytes (rTake l e n).1 := by
  unfold rTake; split
  · exact fun c h => by simp at h
  · exact hl.take _
theorem rTake_bytes2 {l : List Nat} (hl : Bytes l) (e n : Int) : Bytes (rTake l e n).2.1 := by
  unfold rTake; split
  · exact hl
  · exact hl.drop _
theorem rTake_le (l : List Nat) (e n : Int) : (rTake l e n).1.length ≤ l.length := by
  unfold rTake; split <;> simp; omega
theorem rTake_le2 (l : List Nat) (e n : Int) : (rTake l e n).2.1.length ≤ l.length := by
  unfold rTake; split <;> simp
theorem rNum_bytes {l : List Nat} (hl : Bytes l) (e : Int) : Bytes (rNum l e).2.1 := by
  unfold rNum; split
  · exact hl.drop _
  · exact hl
theorem rNum_le (l : List Nat) (e : Int) : (rNum l e).2.1.length ≤ l.length := by
  unfold rNum; split <;> simp
theorem rFixed_bytes {l : List Nat} (hl : Bytes l) (e w : Int) : Bytes (rFixed l e w).2.1 := by
  unfold rFixed; split
  · exact rTake_bytes2 hl _ _
  · exact hl
theorem rFixed_le (l : List Nat) (e w : Int) : (rFixed l e w).2.1.length ≤ l.length := by
  unfold rFixed; split
  · exact rTake_le2 _ _ _
  · simp

theorem num_eff (l : List Nat) (e : Int) (hl : Bytes l) (hn : l.length < 4611686018427387904) : Eff1 Try.prog 18 [.sl 1 (bs l), .int .i64 e] [] (.sv (.int .i64 (rNum l e).1)) [.sl 1 (bs (rNum l e).2.1), .int .i64 (rNum l e).2.2] := by
  refine eff_go RR_ok Try.func18 Try.ntmps18 comp18 cres18 (by decide) (by simp) ?_
  have hk := getN_k l
  by_cases h : e = 0
  · simp [ac18, ar18, h, rNum, isBs_bs, hl, hn, hk, bs_drop]
    rw [List.take_of_length_le (by simp)]
  · simp [ac18, ar18, h, rNum]

theorem rfix_eff (l : List Nat) (e w : Int) (hl : Bytes l) (hn : l.length < 4611686018427387904) : Eff1 Try.prog 20 [.sl 1 (bs l), .int .i64 e] [.int .i64 w] (.sv (.int .u64 (rFixed l e w).1)) [.sl 1 (bs (rFixed l e w).2.1), .int .i64 (rFixed l e w).2.2] := by
  refine eff_go RR_ok Try.func20 Try.ntmps20 comp20 cres20 (by decide) (by simp) ?_
  by_cases h : e = 0
  · simp [ac20, ar20, h, rFixed, isBs_bs, hl, hn]
    refine ⟨rTake_bytes hl _ _, ?_⟩
    have := rTake_le l 0 (wid w)
    omega
  · simp [ac20, ar20, h, rFixed]

theorem done_eff (l : List Nat) (e : Int) : Eff1 Try.prog 25 [.sl 1 (bs l), .int .i64 e] [] (.sv (.int .i64 (rDone l e))) [.sl 1 (bs l), .int .i64 e] := by
  refine eff_go RR_ok Try.func25 Try.ntmps25 comp25 cres25 (by decide) (by simp) ?_
  by_cases h : e = 0
  · by_cases h2 : l.length > 0
    · simp [ac25, ar25, h, rDone, h2]
    · have : l = [] := by simpa using h2
      simp [ac25, ar25, h, rDone, this]
  · simp [ac25, ar25, h, rDone]

def RS : Orc := { RR with e := fun f cells l => match f, cells, l with
  | 18, [.sl 1 xs, .int .i64 e], [] => some (IsBs xs ∧ xs.length < 4611686018427387904, .sv (.int .i64 (rNum (nsOf xs) e).1), [.sl 1 (bs (rNum (nsOf xs) e).2.1), .int .i64 (rNum (nsOf xs) e).2.2])
  | f, cells, l => RR.e f cells l }
theorem RS_ok : RS.ok Try.prog := by
  refine ⟨RR_ok.p, fun f cells l c rv cells' h hc => ?_, RR_ok.n, fun _ h => (by cases h), fun _ _ _ _ _ _ h => (by cases h), fun _ _ _ _ _ _ _ h => (by cases h)⟩
  simp only [RS] at h
  split at h
  · cases h
    rename_i xs e
    obtain ⟨⟨e1, h1⟩, h2⟩ := hc
    have := num_eff (nsOf xs) e h1 (by rw [e1] at h2; simpa using h2)
    rwa [← e1] at this
  · exact RR_ok.e _ _ _ _ _ _ h hc
@[simp] theorem RS_18 (xs : List SV) (e : Int) : RS.e 18 [.sl 1 xs, .int .i64 e] [] = some (IsBs xs ∧ xs.length < 4611686018427387904, .sv (.int .i64 (rNum (nsOf xs) e).1), [.sl 1 (bs (rNum (nsOf xs) e).2.1), .int .i64 (rNum (nsOf xs) e).2.2]) := rfl
@[simp] theorem RS_24 (b : SV) (e : Int) : RS.e 24 [b, .int .i64 e] [] = some (True, .sv (.int .i64 e), [b, .int .i64 e]) := rfl
@[simp] theorem RS_80 (xs : List SV) (e n : Int) : RS.e 80 [.sl 1 xs, .int .i64 e] [.int .i64 n] = some (IsBs xs ∧ xs.length < 4611686018427387904 ∧ 0 ≤ n, .sv (.sl 1 (bs (rTake (nsOf xs) e n).1)), [.sl 1 (bs (rTake (nsOf xs) e n).2.1), .int .i64 (rTake (nsOf xs) e n).2.2]) := rfl

theorem rtext_eff (l : List Nat) (e most : Int) (hl : Bytes l) (hn : l.length < 4611686018427387904) : Eff1 Try.prog 22 [.sl 1 (bs l), .int .i64 e] [.int .i64 most] (.sv (.str (sOf (rText l e most).1))) [.sl 1 (bs (rText l e most).2.1), .int .i64 (rText l e most).2.2] := by
  refine eff_go RS_ok Try.func22 Try.ntmps22 comp22 cres22 (by decide) (by simp) ?_
  have hb := rNum_bytes hl e
  have hln := rNum_le l e
  unfold rText
  generalize hp : rNum l e = p at hb hln
  obtain ⟨n, l', e'⟩ := p
  simp only at hb hln
  have hm : (if 0 < most then most else 0) ≥ 0 := by split <;> omega
  generalize hmm : (if 0 < most then most else 0) = m at hm
  by_cases h : e' = 0
  · by_cases h1 : n < 0
    · simp [ac22, ar22, hp, h, h1, isBs_bs, hl, hn, sOf]
    · by_cases h2 : m < n
      · simp [ac22, ar22, hp, h, h1, h2, hmm, isBs_bs, hl, hn, sOf]
      · have h3 : 0 ≤ n := by omega
        simp [ac22, ar22, hp, h, h1, h2, h3, hmm, isBs_bs, hl, hn, hb]
        refine ⟨⟨by omega, fun x hx => bs_byte _ x hx⟩, ?_⟩
        have := bs_str (rTake l' 0 n).1
        simpa using this
  · simp [ac22, ar22, hp, h, isBs_bs, hl, hn, sOf]

theorem new_new (xs : List SV) (hl : xs.length ≤ 140737488355328) : PureN Try.prog 16 [.sl 1 xs] [.sl 1 xs, .int .i64 0] := by
  refine new_go R3_ok Try.func16 Try.ntmps16 comp16 cres16 (by simp) ?_
  simp [ac16, ar16, R3, hl]

def RT : Orc := { R3 with
  p := fun f l => match f, l with
    | 27, [.str s] => some (s.size ≤ 140737488355000, .own 1 (bs (layN (zig s.size) ++ bytesNat s)))
    | f, l => R3.p f l
  e := fun f cells l => match f, cells, l with
    | 22, [.sl 1 xs, .int .i64 e], [.int .i64 m] => some (IsBs xs ∧ xs.length < 4611686018427387904, .sv (.str (sOf (rText (nsOf xs) e m).1)), [.sl 1 (bs (rText (nsOf xs) e m).2.1), .int .i64 (rText (nsOf xs) e m).2.2])
    | 20, [.sl 1 xs, .int .i64 e], [.int .i64 w] => some (IsBs xs ∧ xs.length < 4611686018427387904, .sv (.int .u64 (rFixed (nsOf xs) e w).1), [.sl 1 (bs (rFixed (nsOf xs) e w).2.1), .int .i64 (rFixed (nsOf xs) e w).2.2])
    | 25, [.sl 1 xs, .int .i64 e], [] => some (IsBs xs, .sv (.int .i64 (rDone (nsOf xs) e)), [.sl 1 xs, .int .i64 e])
    | f, cells, l => RS.e f cells l
  n := fun f l => match f, l with
    | 16, [.sl 1 xs] => some (xs.length ≤ 140737488355328, [.sl 1 xs, .int .i64 0])
    | _, _ => none }
theorem RT_ok : RT.ok Try.prog := by
  refine ⟨fun f l c rv h hc => ?_, fun f cells l c rv cells' h hc => ?_, fun f l c cells h hc => ?_, fun _ h => (by cases h), fun _ _ _ _ _ _ h => (by cases h), fun _ _ _ _ _ _ _ h => (by cases h)⟩
  · simp only [RT] at h
    split at h
    · cases h; exact text_pure _ hc
    · exact R3_ok.p _ _ _ _ h hc
  · simp only [RT] at h
    split at h
    · cases h
      rename_i xs e m
      obtain ⟨⟨e1, h1⟩, h2⟩ := hc
      have := rtext_eff (nsOf xs) e m h1 (by rw [e1] at h2; simpa using h2)
      rwa [← e1] at this
    · cases h
      rename_i xs e m
      obtain ⟨⟨e1, h1⟩, h2⟩ := hc
      have := rfix_eff (nsOf xs) e m h1 (by rw [e1] at h2; simpa using h2)
      rwa [← e1] at this
    · cases h
      rename_i xs e
      obtain ⟨e1, h1⟩ := hc
      have := done_eff (nsOf xs) e
      rwa [← e1] at this
    · exact RS_ok.e _ _ _ _ _ _ h hc
  · simp only [RT] at h
    split at h
    · cases h; exact new_new _ hc
    · cases h
end Go.Proofs.Ytflcdbfcipkhkaa

set_option maxRecDepth 100000
namespace Go.Proofs.Ytflcdbfcipkhkaa

open Go.Av
/-- bilander/bilanderlaw01.awake -/
def ac15 : AC :=
 (.seq
  (.reg [⟨(some 0), none, .mv (.c (.bool false))⟩])
  (.seq
   (.reg [⟨(some 2), none, .bsl 1 7 [(.int .u8 0)] [(0, (.c (.int .u8 4))), (1, (.c (.int .u8 97))), (2, (.c (.int .u8 98))), (3, (.c (.int .u8 128))), (4, (.c (.int .u8 1))), (5, (.c (.int .u8 0))), (6, (.c (.int .u8 9)))]⟩,
     ⟨(some 3), none, .mark 2⟩,
     ⟨(some 4), none, .callN 16 [(.t 3)]⟩,
     ⟨(some 1), none, .take 4⟩])
   (.seq
    (.reg [⟨(some 5), none, .call 71 [(.c (.int .i64 (-1)))]⟩,
      ⟨(some 6), none, .b2s (.t 5)⟩,
      ⟨(some 7), none, .bin .eql (.t 6) (.c (.str (ByteArray.mk #[1])))⟩,
      ⟨(some 8), none, .take 7⟩,
      ⟨(some 9), (some (8, true)), .call 71 [(.c (.int .i64 64))]⟩,
      ⟨(some 10), (some (8, true)), .b2s (.t 9)⟩,
      ⟨(some 11), (some (8, true)), .bin .eql (.t 10) (.c (.str (ByteArray.mk #[128, 1])))⟩,
      ⟨(some 12), none, .pick (.t 8) (.t 11) (.c (.bool false))⟩,
      ⟨(some 13), none, .take 12⟩,
      ⟨(some 14), (some (13, true)), .call 27 [(.c (.str (ByteArray.mk #[97, 98])))]⟩,
      ⟨(some 15), (some (13, true)), .b2s (.t 14)⟩,
      ⟨(some 16), (some (13, true)), .bin .eql (.t 15) (.c (.str (ByteArray.mk #[4, 97, 98])))⟩,
      ⟨(some 17), none, .pick (.t 13) (.t 16) (.c (.bool false))⟩,
      ⟨(some 18), none, .take 17⟩,
      ⟨(some 19), (some (18, true)), .call 72 [(.c (.int .u64 258)), (.c (.int .i64 3))]⟩,
      ⟨(some 20), (some (18, true)), .b2s (.t 19)⟩,
      ⟨(some 21), (some (18, true)), .bin .eql (.t 20) (.c (.str (ByteArray.mk #[0, 1, 2])))⟩,
      ⟨(some 22), none, .pick (.t 18) (.t 21) (.c (.bool false))⟩,
      ⟨(some 23), none, .take 22⟩,
      ⟨(some 24), (some (23, true)), .mv (.t 1)⟩,
      ⟨(some 25), (some (23, true)), .callE 22 (.t 24) [(.c (.int .i64 9))]⟩,
      ⟨(some 26), (some (23, true)), .bin .eql (.t 25) (.c (.str (ByteArray.mk #[97, 98])))⟩,
      ⟨(some 27), none, .pick (.t 23) (.t 26) (.c (.bool false))⟩,
      ⟨(some 28), none, .take 27⟩,
      ⟨(some 29), (some (28, true)), .mv (.t 1)⟩,
      ⟨(some 30), (some (28, true)), .callE 18 (.t 29) []⟩,
      ⟨(some 31), (some (28, true)), .bin .eql (.t 30) (.c (.int .i64 64))⟩,
      ⟨(some 32), none, .pick (.t 28) (.t 31) (.c (.bool false))⟩,
      ⟨(some 33), none, .take 32⟩,
      ⟨(some 34), (some (33, true)), .mv (.t 1)⟩,
      ⟨(some 35), (some (33, true)), .callE 20 (.t 34) [(.c (.int .i64 2))]⟩,
      ⟨(some 36), (some (33, true)), .bin .eql (.t 35) (.c (.int .u64 9))⟩,
      ⟨(some 37), none, .pick (.t 33) (.t 36) (.c (.bool false))⟩,
      ⟨(some 38), none, .take 37⟩,
      ⟨(some 39), (some (38, true)), .mv (.t 1)⟩,
      ⟨(some 40), (some (38, true)), .callE 25 (.t 39) []⟩,
      ⟨(some 41), (some (38, true)), .bin .eql (.t 40) (.c (.int .i64 0))⟩,
      ⟨(some 42), none, .pick (.t 38) (.t 41) (.c (.bool false))⟩,
      ⟨(some 43), none, .take 42⟩,
      ⟨(some 44), (some (43, true)), .call 73 [(.c (.int .i64 (-3)))]⟩,
      ⟨(some 45), (some (43, true)), .bin .eql (.t 44) (.c (.int .u64 5))⟩,
      ⟨(some 46), none, .pick (.t 43) (.t 45) (.c (.bool false))⟩,
      ⟨(some 47), none, .take 46⟩,
      ⟨(some 48), (some (47, true)), .call 74 [(.c (.int .u64 5))]⟩,
      ⟨(some 49), (some (47, true)), .bin .eql (.t 48) (.c (.int .i64 (-3)))⟩,
      ⟨(some 50), none, .pick (.t 47) (.t 49) (.c (.bool false))⟩,
      ⟨(some 51), none, .take 50⟩,
      ⟨(some 52), (some (51, true)), .bsl 1 2 [(.int .u8 0)] [(0, (.c (.int .u8 1))), (1, (.c (.int .u8 0)))]⟩,
      ⟨(some 53), (some (51, true)), .call 75 [(.t 52)]⟩,
      ⟨(some 54), (some (51, true)), .bin .eql (.t 53) (.c (.int .u64 256))⟩,
      ⟨(some 55), none, .pick (.t 51) (.t 54) (.c (.bool false))⟩,
      ⟨(some 56), none, .take 55⟩,
      ⟨(some 57), none, .pick (.t 56) (.c (.bool true)) (.c (.bool false))⟩,
      ⟨(some 58), none, .take 57⟩,
      ⟨(some 59), none, .pick (.t 58) (.c (.bool true)) (.c (.bool false))⟩,
      ⟨(some 60), none, .take 59⟩,
      ⟨(some 61), none, .pick (.t 60) (.c (.bool true)) (.c (.bool false))⟩,
      ⟨(some 0), none, .take 61⟩])
    .ret)))
def ar15 : List AR := [.t 0]
theorem comp15 : Try.f15.body.bind (comp Try.prog 62) = some ac15 := by kernel_rfl
theorem cres15 : compRes Try.prog Try.f15.results.toList = some ar15 := by kernel_rfl
/-- (*bilander/varnum.Reader).Left -/
def ac23 : AC :=
 (.seq
  (.reg [⟨(some 2), none, .mv (.c (.int .i64 0))⟩])
  (.seq
   (.seq
    (.reg [⟨(some 3), none, .mv (.t 0)⟩,
      ⟨(some 4), none, .eqn false false (.t 3)⟩])
    (.cond (.t 4)
     (.seq
      (.reg [⟨(some 2), none, .mv (.c (.int .i64 0))⟩])
      .ret)
     .skip))
   (.seq
    (.reg [⟨(some 5), none, .mv (.t 0)⟩,
      ⟨(some 6), none, .nilc (.t 5)⟩,
      ⟨(some 7), none, .faddr (.t 6) 0⟩,
      ⟨(some 8), none, .load none (.t 7)⟩,
      ⟨(some 9), none, .len false (.t 8)⟩,
      ⟨(some 2), none, .take 9⟩])
    .ret)))
def ar23 : List AR := [.t 2]
theorem comp23 : Try.f23.body.bind (comp Try.prog 10) = some ac23 := by kernel_rfl
theorem cres23 : compRes Try.prog Try.f23.results.toList = some ar23 := by kernel_rfl
/-- (bilander/bilanderref01.Reader).Done -/
def ac26 : AC :=
 (.seq
  (.reg [⟨(some 1), none, .box 2 (.t 0)⟩,
    ⟨(some 2), none, .mv (.c (.int .i64 0))⟩])
  (.seq
   (.seq
    (.reg [⟨(some 3), none, .faddr (.t 1) 1⟩,
      ⟨(some 4), none, .load none (.t 3)⟩,
      ⟨(some 5), none, .bin .eql (.t 4) (.c (.int .i64 0))⟩,
      ⟨(some 6), none, .take 5⟩,
      ⟨(some 7), (some (6, true)), .faddr (.t 1) 0⟩,
      ⟨(some 8), (some (6, true)), .load none (.t 7)⟩,
      ⟨(some 9), (some (6, true)), .len false (.t 8)⟩,
      ⟨(some 10), (some (6, true)), .bin .gtr (.t 9) (.c (.int .i64 0))⟩,
      ⟨(some 11), none, .pick (.t 6) (.t 10) (.c (.bool false))⟩])
    (.cond (.t 11)
     (.seq
      (.reg [⟨(some 2), none, .mv (.c (.int .i64 4))⟩])
      .ret)
     .skip))
   (.seq
    (.reg [⟨(some 12), none, .faddr (.t 1) 1⟩,
      ⟨(some 13), none, .load none (.t 12)⟩,
      ⟨(some 2), none, .take 13⟩])
    .ret)))
def ar26 : List AR := [.t 2]
theorem comp26 : Try.f26.body.bind (comp Try.prog 14) = some ac26 := by kernel_rfl
theorem cres26 : compRes Try.prog Try.f26.results.toList = some ar26 := by kernel_rfl
/-- bilander/varnum.Fixed -/
def ac72 : AC :=
 (.seq
  (.reg [⟨(some 4), none, .mv (.c .nils)⟩])
  (.seq
   (.reg [⟨(some 7), none, .mv (.t 1)⟩,
     ⟨(some 8), none, .call 81 [(.t 7)]⟩,
     ⟨(some 9), none, .mks 1 1 [(.int .u8 0)] (.t 8)⟩,
     ⟨(some 5), none, .take 9⟩])
   (.seq
    (.seq
     (.reg [⟨(some 10), none, .mv (.t 5)⟩,
       ⟨(some 11), none, .len false (.t 10)⟩,
       ⟨(some 12), none, .mv (.c (.int .i64 0))⟩])
     (.block 0
      (.loop
       (.seq
        (.reg [⟨(some 13), none, .bin .lss (.t 12) (.t 11)⟩])
        (.seq
         (.cond (.t 13)
          .skip
          (.exit 0))
         (.seq
          (.block 1
           (.seq
            (.reg [⟨(some 14), none, .take 12⟩,
              ⟨(some 6), none, .take 14⟩])
            (.reg [⟨(some 15), none, .mv (.t 5)⟩,
              ⟨(some 16), none, .mv (.t 5)⟩,
              ⟨(some 17), none, .len false (.t 16)⟩,
              ⟨(some 18), none, .bin .sub (.t 17) (.c (.int .i64 1))⟩,
              ⟨(some 19), none, .mv (.t 6)⟩,
              ⟨(some 20), none, .bin .sub (.t 18) (.t 19)⟩,
              ⟨(some 21), none, .mv (.t 0)⟩,
              ⟨(some 22), none, .mv (.t 6)⟩,
              ⟨(some 23), none, .bin .mul (.c (.int .i64 8)) (.t 22)⟩,
              ⟨(some 24), none, .bin .shr (.t 21) (.t 23)⟩,
              ⟨(some 25), none, .conv .u8 (.t 24)⟩,
              ⟨(some 26), none, .iaddr 1 (.t 15) (.t 20)⟩,
              ⟨none, none, .store 1 (.t 26) (.t 25)⟩])))
          (.reg [⟨(some 27), none, .bin .add (.t 12) (.c (.int .i64 1))⟩,
            ⟨(some 12), none, .take 27⟩])))))))
    (.seq
     (.reg [⟨(some 28), none, .take 5⟩,
       ⟨(some 4), none, .take 28⟩])
     .ret))))
def ar72 : List AR := [.t 4]
theorem comp72 : Try.f72.body.bind (comp Try.prog 29) = some ac72 := by kernel_rfl
theorem cres72 : compRes Try.prog Try.f72.results.toList = some ar72 := by kernel_rfl
end Go.Proofs.Ytflcdbfcipkhkaa

/- Varnum: awake, nil readers (seat of Takes). -/


set_option linter.unusedSimpArgs false
set_option linter.unusedVariables false
set_option maxHeartbeats 1000000
namespace Go.Proofs.Ytflcdbfcipkhkaa

open Go.Av

theorem fixed_pure (u : Nat) (w : Int) (hu : u < 18446744073709551616) : Pure Try.prog 72 [.int .u64 u, .int .i64 w] (.sv (.sl 1 (bs (fixL (wid w) u)))) := by
  refine pure_goF 9 R1a_ok Try.func72 Try.ntmps72 comp72 cres72 (by decide) (by simp) ?_
  have hw := wid_le w
  generalize hW : wid w = W at hw
  have hR : R1a.p 81 [.int .i64 w] = some (True, .sv (.int .i64 (W : Int))) := by rw [← hW]; rfl
  have hA : R1a.arr 9 = true := rfl
  have hA' : ∀ d, d ≠ 9 → R1a.arr d = false := fun d h => by simp [R1a, h]
  simp [ac72, ar72, hR, hA]
  refine ⟨by omega, ?_⟩
  refine awpR_loop (α := Nat) (fun i => i ≤ W) (fun i => { n := 29, sl := [(0, .sv (.int .u64 u)), (5, .lsl 9 1 0 W W), (10, .lsl 9 1 0 W W), (11, .sv (.int .i64 W)), (12, .sv (.int .i64 i))], bx := [(9, (bs (List.replicate (W - i) 0 ++ fixL i u)).map .sv)], hp := fun _ => none })
    (fun i => W - i) 0 (by simp) ?_ ?_
  · simp
    exact WkRs_eq (by simp [fixL, bs])
  intro i hi
  by_cases hlt : i < W
  · have e1 : IntKind.i64.wrap (8 * (i : Int)) = ((8 * i : Nat) : Int) := by rw [wrap_i64_in (by omega) (by omega)]; omega
    have e2 : IntKind.i64.wrap ((W : Int) - 1) = ((W - 1 : Nat) : Int) := by rw [wrap_i64_in (by omega) (by omega)]; omega
    have e3 : IntKind.i64.wrap (((W - 1 : Nat) : Int) - (i : Int)) = ((W - 1 - i : Nat) : Int) := by rw [wrap_i64_in (by omega) (by omega)]; omega
    have e4 : IntKind.i64.wrap ((i : Int) + 1) = ((i + 1 : Nat) : Int) := by rw [wrap_i64_in (by omega) (by omega)]; omega
    simp [hlt, e1, e2, e3, e4, -Int.natCast_mul, -Int.natCast_add]
    refine ⟨⟨by omega, by omega⟩, i + 1, by omega, by omega, rfl, WkRs_eq ?_⟩
    rw [shr8 u i (by omega), ← List.map_set, bs_set, show W - i = (W - 1 - i) + 1 by omega, set_zero, fixL_cons, show W - (i + 1) = W - 1 - i by omega]
  · have : i = W := by omega
    subst this
    simp
    refine ⟨fun a ha => ?_, ?_⟩
    · simp only [bs, List.mem_map] at ha
      obtain ⟨n, _, rfl⟩ := ha
      rfl
    · rw [List.take_of_length_le (by simp)]
      simp [Function.comp_def, RV.share]
theorem left_eff (xs : List SV) (e : Int) : Eff1 Try.prog 23 [.sl 1 xs, .int .i64 e] [] (.sv (.int .i64 xs.length)) [.sl 1 xs, .int .i64 e] := by
  refine eff_go R0_ok Try.func23 Try.ntmps23 comp23 cres23 (by decide) (by simp) ?_
  simp [ac23, ar23]
theorem left_nil : Pure Try.prog 23 [.nilp] (.sv (.int .i64 0)) := by
  refine pure_go R0_ok Try.func23 Try.ntmps23 comp23 cres23 (by decide) (by simp) ?_
  simp [ac23, ar23]
def RN : Orc := { R3 with p := fun f l => match f, l with
  | 24, [.nilp] => some (True, .sv (.int .i64 1))
  | f, l => R3.p f l }
theorem RN_ok : RN.ok Try.prog := by
  refine ⟨fun f l c rv h hc => ?_, R3_ok.e, R3_ok.n, fun _ h => (by cases h), fun _ _ _ _ _ _ h => (by cases h), fun _ _ _ _ _ _ _ h => (by cases h)⟩
  simp only [RN] at h
  split at h
  · cases h; exact err_nil
  · exact R3_ok.p _ _ _ _ h hc
theorem num_nil : Pure Try.prog 18 [.nilp] (.sv (.int .i64 0)) := by
  refine pure_go RN_ok Try.func18 Try.ntmps18 comp18 cres18 (by decide) (by simp) ?_
  simp [ac18, ar18, RN]
theorem rfix_nil (w : Int) : Pure Try.prog 20 [.nilp, .int .i64 w] (.sv (.int .u64 0)) := by
  refine pure_go RN_ok Try.func20 Try.ntmps20 comp20 cres20 (by decide) (by simp) ?_
  simp [ac20, ar20, RN]
theorem done_nil : Pure Try.prog 25 [.nilp] (.sv (.int .i64 1)) := by
  refine pure_go RN_ok Try.func25 Try.ntmps25 comp25 cres25 (by decide) (by simp) ?_
  simp [ac25, ar25, RN]
def RN2 : Orc := { RN with p := fun f l => match f, l with
  | 18, [.nilp] => some (True, .sv (.int .i64 0))
  | f, l => RN.p f l }
theorem RN2_ok : RN2.ok Try.prog := by
  refine ⟨fun f l c rv h hc => ?_, R3_ok.e, R3_ok.n, fun _ h => (by cases h), fun _ _ _ _ _ _ h => (by cases h), fun _ _ _ _ _ _ _ h => (by cases h)⟩
  simp only [RN2] at h
  split at h
  · cases h; exact num_nil
  · exact RN_ok.p _ _ _ _ h hc
theorem rtext_nil (w : Int) : Pure Try.prog 22 [.nilp, .int .i64 w] (.sv (.str ByteArray.empty)) := by
  refine pure_go RN2_ok Try.func22 Try.ntmps22 comp22 cres22 (by decide) (by simp) ?_
  simp [ac22, ar22, RN2, RN]
  rfl
theorem lay1 : layN 1 = [1] := by rw [layN]; rfl
theorem lay4 : layN 4 = [4] := by rw [layN]; rfl
theorem lay128 : layN 128 = [128, 1] := by rw [layN, if_neg (by decide), show 128 / 128 = 1 from rfl, lay1]

theorem getA : getN [128, 1, 0, 9] = (64, 2, 0) := by
  have := getN_found (l := [128, 1, 0, 9]) (i := 1) (by decide) (by decide) (by decide) (by decide)
  rw [this]
  simp [valN, lay128, zag]
theorem getB : getN [4, 97, 98, 128, 1, 0, 9] = (2, 1, 0) := by
  have := getN_found (l := [4, 97, 98, 128, 1, 0, 9]) (i := 0) (by decide) (by decide) (by decide) (by decide)
  rw [this]
  simp [valN, lay4, zag]

def L0 : List SV := [.int .u8 4, .int .u8 97, .int .u8 98, .int .u8 128, .int .u8 1, .int .u8 0, .int .u8 9]
def RA : Orc := {
  p := fun f l => match f, l with
    | 71, [.int .i64 n] => if n = -1 then some (True, .own 1 [.int .u8 1]) else if n = 64 then some (True, .own 1 [.int .u8 128, .int .u8 1]) else none
    | 27, [.str s] => some (s = ByteArray.mk #[97, 98], .own 1 [.int .u8 4, .int .u8 97, .int .u8 98])
    | 72, [.int .u64 u, .int .i64 w] => some (u = 258 ∧ w = 3, .sv (.sl 1 [.int .u8 0, .int .u8 1, .int .u8 2]))
    | 73, [.int .i64 n] => some (n = -3, .sv (.int .u64 5))
    | 74, [.int .u64 n] => some (n = 5, .sv (.int .i64 (-3)))
    | 75, [.sl 1 xs] => some (xs = [.int .u8 1, .int .u8 0], .sv (.int .u64 256))
    | _, _ => none
  e := fun f cells l => match f, cells, l with
    | 22, [.sl 1 xs, .int .i64 e], [.int .i64 m] => some (xs = L0 ∧ e = 0 ∧ m = 9, .sv (.str (ByteArray.mk #[97, 98])), [.sl 1 [.int .u8 128, .int .u8 1, .int .u8 0, .int .u8 9], .int .i64 0])
    | 18, [.sl 1 xs, .int .i64 e], [] => some (xs = [.int .u8 128, .int .u8 1, .int .u8 0, .int .u8 9] ∧ e = 0, .sv (.int .i64 64), [.sl 1 [.int .u8 0, .int .u8 9], .int .i64 0])
    | 20, [.sl 1 xs, .int .i64 e], [.int .i64 w] => some (xs = [.int .u8 0, .int .u8 9] ∧ e = 0 ∧ w = 2, .sv (.int .u64 9), [.sl 1 [], .int .i64 0])
    | 25, [.sl 1 xs, .int .i64 e], [] => some (xs = [] ∧ e = 0, .sv (.int .i64 0), [.sl 1 [], .int .i64 0])
    | _, _, _ => none
  n := fun f l => match f, l with
    | 16, [.sl 1 xs] => some (xs.length ≤ 140737488355328, [.sl 1 xs, .int .i64 0])
    | _, _ => none }

theorem nat_bytes (l : List Nat) (h : l.all (fun c => decide (c < 256)) = true) : Bytes l := fun c hc => by simpa using List.all_eq_true.1 h c hc

theorem RA_ok : RA.ok Try.prog := by
  refine ⟨fun f l c rv h hc => ?_, fun f cells l c rv cells' h hc => ?_, fun f l c cells h hc => ?_, fun _ h => (by cases h), fun _ _ _ _ _ _ h => (by cases h), fun _ _ _ _ _ _ _ h => (by cases h)⟩
  · simp only [RA] at h
    split at h
    · split at h
      · cases h; rename_i q; subst q
        have := put_pure (-1) ⟨by omega, by omega⟩
        rwa [show zig (-1) = 1 from rfl, lay1] at this
      · split at h
        · cases h; rename_i q; subst q
          have := put_pure 64 ⟨by omega, by omega⟩
          rwa [show zig 64 = 128 from rfl, lay128] at this
        · cases h
    · cases h; subst hc
      have := text_pure (ByteArray.mk #[97, 98]) (by decide)
      rwa [show zig ((ByteArray.mk #[97, 98]).size : Int) = 4 from rfl, lay4] at this
    · cases h; obtain ⟨rfl, rfl⟩ := hc
      exact fixed_pure 258 3 (by decide)
    · cases h; subst hc
      exact zigzag_pure (-3) (by omega) (by omega)
    · cases h; subst hc
      exact zagzig_pure 5 (by omega)
    · cases h; subst hc
      exact unfixed_pure [1, 0] (nat_bytes _ (by decide)) (by decide)
    · cases h
  · simp only [RA] at h
    split at h
    · cases h; obtain ⟨rfl, rfl, rfl⟩ := hc
      have := rtext_eff [4, 97, 98, 128, 1, 0, 9] 0 9 (nat_bytes _ (by decide)) (by decide)
      have e : rText [4, 97, 98, 128, 1, 0, 9] 0 9 = ([97, 98], [128, 1, 0, 9], 0) := by simp [rText, rNum, getB, rTake]
      rw [e] at this
      exact this
    · cases h; obtain ⟨rfl, rfl⟩ := hc
      have := num_eff [128, 1, 0, 9] 0 (nat_bytes _ (by decide)) (by decide)
      have e : rNum [128, 1, 0, 9] 0 = (64, [0, 9], 0) := by simp [rNum, getA]
      rw [e] at this
      exact this
    · cases h; obtain ⟨rfl, rfl, rfl⟩ := hc
      have := rfix_eff [0, 9] 0 2 (nat_bytes _ (by decide)) (by decide)
      have e : rFixed [0, 9] 0 2 = (9, [], 0) := by decide
      rw [e] at this
      exact this
    · cases h; obtain ⟨rfl, rfl⟩ := hc
      exact done_eff [] 0
    · cases h
  · simp only [RA] at h
    split at h
    · cases h; exact new_new _ hc
    · cases h

theorem awake_pure : Pure Try.prog 15 [] (.sv (.bool true)) := by
  refine pure_go RA_ok Try.func15 Try.ntmps15 comp15 cres15 (by decide) (by simp) ?_
  simp (maxSteps := 3000000) [ac15, ar15, RA, L0, Av.byteOf, isByte]
end Go.Proofs.Ytflcdbfcipkhkaa

/- Varnum: the document's Reader. -/

set_option linter.unusedSimpArgs false
set_option linter.unusedVariables false
set_option maxHeartbeats 4000000
namespace Go.Proofs.Ytflcdbfcipkhkaa

open Go.Av
theorem getN_err (l : List Nat) (h : (getN l).2.2 ≠ 0) : (getN l).1 = 0 ∧ (getN l).2.1 = 0 := by
  unfold getN at h ⊢
  simp only at h ⊢
  split
  · rename_i h1
    rw [if_pos h1] at h
    split
    · rename_i h2
      rw [if_pos h2] at h
      exact absurd rfl h
    · exact ⟨rfl, rfl⟩
  · split
    · exact ⟨rfl, rfl⟩
    · exact ⟨rfl, rfl⟩
def rdS (l : List Nat) (e : Int) : SV := .agg [.sl 1 (bs l), .int .i64 e]
@[simp] theorem R3_77 (xs : List SV) : R3.p 77 [.sl 1 xs] = some (IsBs xs ∧ xs.length < 4611686018427387904, .tup [.sv (.int .i64 (getN (nsOf xs)).1), .sv (.int .i64 (getN (nsOf xs)).2.1), .sv (.int .i64 (getN (nsOf xs)).2.2)]) := rfl
@[simp] theorem R3_79 (xs : List SV) : R3.p 79 [.sl 1 xs] = some (IsBs xs ∧ xs.length < 4611686018427387904, .sv (.int .u64 (unF (nsOf xs)))) := rfl
theorem rrnum_pure (l : List Nat) (e : Int) (hl : Bytes l) (hn : l.length < 4611686018427387904) : Pure Try.prog 17 [.agg [.sl 1 (bs l), .int .i64 e]] (.tup [.sv (.agg [.sl 1 (bs (rNum l e).2.1), .int .i64 (rNum l e).2.2]), .sv (.int .i64 (rNum l e).1)]) := by
  refine pure_go R3_ok Try.func17 Try.ntmps17 comp17 cres17 (by decide) (by simp) ?_
  by_cases h : e = 0
  · subst h
    have hk := getN_err l
    have hk2 := getN_k l
    simp [ac17, ar17, rNum, isBs_bs, hl, hn]
    generalize getN l = g at hk hk2
    obtain ⟨n, k, f⟩ := g
    simp only at hk hk2
    by_cases hf : f = 0
    · subst hf
      simp [bs_drop, hk2]
      rw [List.take_of_length_le (by simp)]
    · obtain ⟨rfl, rfl⟩ := hk hf
      simp [hf]
  · simp [ac17, ar17, rNum, h]
theorem rrfix_pure (l : List Nat) (e w : Int) (hl : Bytes l) (hn : l.length < 4611686018427387904) : Pure Try.prog 19 [.agg [.sl 1 (bs l), .int .i64 e], .int .i64 w] (.tup [.sv (.agg [.sl 1 (bs (rFixed l e w).2.1), .int .i64 (rFixed l e w).2.2]), .sv (.int .u64 (rFixed l e w).1)]) := by
  refine pure_go R3_ok Try.func19 Try.ntmps19 comp19 cres19 (by decide) (by simp) ?_
  by_cases h : e = 0
  · subst h
    have hw : (if 0 < (if 8 < w then 8 else w) then (if 8 < w then 8 else w) else 0 : Int) = (wid w : Int) := by
      unfold wid
      (repeat' split) <;> omega
    have h0 := wid_le w
    by_cases h1 : l.length < wid w
    · have hq : (l.length : Int) < (wid w : Int) := by omega
      simp [ac19, ar19, rFixed, rTake, isBs_bs, hl, hn, hq]
      simp only [hw]
      exact ⟨fun _ => rfl, hq⟩
    · have hq : ¬ (l.length : Int) < (wid w : Int) := by omega
      simp [ac19, ar19, rFixed, rTake, isBs_bs, hl, hn, hq]
      simp only [hw]
      have h2 : wid w ≤ l.length := by omega
      refine ⟨by omega, fun _ => ⟨⟨⟨by omega, by omega⟩, ?_, by omega⟩, ?_, ?_⟩⟩
      · rw [Int.toNat_natCast, bs_take, isBs_bs]
        exact fun c hc => hl c (List.mem_of_mem_take hc)
      · rw [Int.toNat_natCast, bs_drop, List.take_of_length_le (by simp)]
      · rw [Int.toNat_natCast, bs_take, nsOf_bs]
  · simp [ac19, ar19, rFixed, h]
theorem rrdone_pure (l : List Nat) (e : Int) : Pure Try.prog 26 [.agg [.sl 1 (bs l), .int .i64 e]] (.sv (.int .i64 (rDone l e))) := by
  refine pure_go R3_ok Try.func26 Try.ntmps26 comp26 cres26 (by decide) (by simp) ?_
  by_cases h : e = 0
  · subst h
    by_cases h1 : l = []
    · subst h1; simp [ac26, ar26, rDone, bs]
    · have h2 : 0 < l.length := List.length_pos_iff.2 h1
      have h3 : (0 : Int) < l.length := by omega
      simp [ac26, ar26, rDone, h2, h3, h1]
  · simp [ac26, ar26, rDone, h]
def RU : Orc := { R3 with p := fun f l => match f, l with
  | 17, [.agg [.sl 1 xs, .int .i64 e]] => some (IsBs xs ∧ xs.length < 4611686018427387904, .tup [.sv (.agg [.sl 1 (bs (rNum (nsOf xs) e).2.1), .int .i64 (rNum (nsOf xs) e).2.2]), .sv (.int .i64 (rNum (nsOf xs) e).1)])
  | f, l => R3.p f l }
theorem RU_ok : RU.ok Try.prog := by
  refine ⟨fun f l c rv h hc => ?_, R3_ok.e, R3_ok.n, fun _ h => (by cases h), fun _ _ _ _ _ _ h => (by cases h), fun _ _ _ _ _ _ _ h => (by cases h)⟩
  simp only [RU] at h
  split at h
  · cases h
    rename_i xs e
    obtain ⟨⟨e1, h1⟩, h2⟩ := hc
    have := rrnum_pure (nsOf xs) e h1 (by rw [e1] at h2; simpa using h2)
    rwa [← e1] at this
  · exact R3_ok.p _ _ _ _ h hc
@[simp] theorem RU_17 (xs : List SV) (e : Int) : RU.p 17 [.agg [.sl 1 xs, .int .i64 e]] = some (IsBs xs ∧ xs.length < 4611686018427387904, .tup [.sv (.agg [.sl 1 (bs (rNum (nsOf xs) e).2.1), .int .i64 (rNum (nsOf xs) e).2.2]), .sv (.int .i64 (rNum (nsOf xs) e).1)]) := rfl
theorem rrtext_pure (l : List Nat) (e most : Int) (hl : Bytes l) (hn : l.length < 4611686018427387904) : Pure Try.prog 21 [.agg [.sl 1 (bs l), .int .i64 e], .int .i64 most] (.tup [.sv (.agg [.sl 1 (bs (rText l e most).2.1), .int .i64 (rText l e most).2.2]), .sv (.str (sOf (rText l e most).1))]) := by
  refine pure_go RU_ok Try.func21 Try.ntmps21 comp21 cres21 (by decide) (by simp) ?_
  have hb := rNum_bytes hl e
  have hln := rNum_le l e
  unfold rText
  generalize hp : rNum l e = p at hb hln
  obtain ⟨n, l', e'⟩ := p
  simp only at hb hln
  have hm : (if 0 < most then most else 0) ≥ 0 := by split <;> omega
  generalize hmm : (if 0 < most then most else 0) = m at hm
  by_cases h : e' = 0
  · by_cases h1 : n < 0
    · simp [ac21, ar21, hp, h, h1, isBs_bs, hl, hn, sOf]
    · by_cases h2 : m < n
      · simp [ac21, ar21, hp, h, h1, h2, hmm, isBs_bs, hl, hn, sOf]
      · have h3 : 0 ≤ n := by omega
        by_cases h4 : (l'.length : Int) < n
        · simp [ac21, ar21, hp, h, h1, h2, h3, h4, hmm, isBs_bs, hl, hn, hb, rTake, sOf]
        · simp [ac21, ar21, hp, h, h1, h2, h3, h4, hmm, isBs_bs, hl, hn, hb, rTake]
          refine ⟨⟨by omega, fun x hx => bs_byte _ x (List.mem_of_mem_take hx)⟩, ?_, ?_⟩
          · rw [bs_drop, List.take_of_length_le (by simp)]
          · rw [← List.map_take, bs_take]
            exact bs_str _
  · simp [ac21, ar21, hp, h, isBs_bs, hl, hn, sOf]
end Go.Proofs.Ytflcdbfcipkhkaa

/- Varnum: both readers as VarnumTakes has them. -/









set_option linter.unusedSimpArgs false
set_option linter.unusedVariables false
set_option maxHeartbeats 4000000
set_option maxRecDepth 1000000
namespace Go.Proofs.Ytflcdbfcipkhkaa
open Go.RowKit
open Go.Av
theorem asideI {p : Prop} (h : p) : Aside p := h
theorem extD (w : World) : Ext (fun _ => False) w w.drew := ⟨rfl, rfl, rfl, Nat.le_refl _, fun _ _ _ => rfl⟩
theorem extA (w : World) (o : Obj) : Ext (fun _ => False) w (w.alloc o) := ⟨rfl, rfl, rfl, by simp, fun k hk _ => by rw [alloc_get, if_neg (by omega)]⟩
theorem blkS {w : World} {b j : Nat} {c : Array Value} {te : TypeId} {fr : Nat × Nat} (h : w.heap[b]? = some (.cells c te fr)) (v : Value) : (w.setCell ⟨b, j, none⟩ v).heap[b]? = some (.cells (c.setIfInBounds j v) te fr) := by
  simp [World.setCell, Array.getElem?_modify, h]
theorem blkO {w : World} {b j k : Nat} (h : k ≠ b) (v : Value) : (w.setCell ⟨b, j, none⟩ v).heap[k]? = w.heap[k]? := by
  simp [World.setCell, Array.getElem?_modify, Ne.symm h]
theorem extS (w : World) (b j : Nat) (v : Value) : Ext (fun k => k = b) w (w.setCell ⟨b, j, none⟩ v) := ⟨rfl, rfl, rfl, by simp [World.setCell], fun k hk ht => blkO ht v⟩
theorem memX {mu : Mem} {w w' : World} {T : Nat → Prop} (h : MemOK mu w) (k : Ext T w w') (hT : ∀ b, T b → ∀ j, mu b j = none) : MemOK mu w' := fun b j v hv => by
  obtain ⟨h1, h2⟩ := h b j v hv
  exact ⟨(World.cell?_of_block (k.block b (h.lt hv) (fun e => by rw [hT b e j] at hv; cases hv))).trans h1, h2⟩
theorem argsCons {mu : Mem} {a : SV} {al : List SV} {v : Value} {vs : List Value} (h : Rep mu a v) (hs : RepArgs mu al vs) : RepArgs mu (a :: al) (v :: vs) := by
  refine ⟨by simp [hs.1], fun j hj => ?_⟩
  cases j with
  | zero => exact h
  | succ j => simpa using hs.2 j (by simpa using hj)
theorem argsNil {mu : Mem} : RepArgs mu [] [] := ⟨rfl, fun j hj => by simp at hj⟩
/-- The reader at rb holds l and e; the document's, at xb, holds l' and e'. -/
structure TI (w : World) (rb xb : Nat) (mu0 mu : Mem) (l : List Nat) (e : Int) (l' : List Nat) (e' : Int) (p : Option Addr) (c : Nat) : Prop where
  mem : MemOK mu w
  rd : HeapAt mu w rb [.sl 1 (bs l), .int .i64 e]
  x : w.heap[xb]? = some (.cells #[.slice p l'.length c, .int .i64 e'] 28 (0, 0))
  rep : Rep mu (.sl 1 (bs l')) (.slice p l'.length c)
  xn : ∀ j, mu xb j = none
  ne : rb ≠ xb
  le : mu0.le mu
theorem TI.xlt {w : World} {rb xb : Nat} {mu0 mu : Mem} {l : List Nat} {e : Int} {l' : List Nat} {e' : Int} {p : Option Addr} {c : Nat} (h : TI w rb xb mu0 mu l e l' e' p c) : xb < w.heap.size := (Array.getElem?_eq_some_iff.1 h.x).1
theorem heapKeep {mu : Mem} {w w' : World} {b : Nat} {cells : List SV} {T : Nat → Prop} (h : HeapAt mu w b cells) (k : Ext T w w') (hT : ¬ T b) : HeapAt mu w' b cells := by
  obtain ⟨h0, c, e, fr, h1, h2, h3, h4⟩ := h
  exact ⟨h0, c, e, fr, (k.block b (Array.getElem?_eq_some_iff.1 h1).1 hT).trans h1, h2, h3, h4⟩
theorem TI.keep {w w' : World} {rb xb : Nat} {mu0 mu : Mem} {l : List Nat} {e : Int} {l' : List Nat} {e' : Int} {p : Option Addr} {c : Nat} (h : TI w rb xb mu0 mu l e l' e' p c) {T : Nat → Prop} (k : Ext T w w') (hT : ∀ b, T b → b ≠ rb ∧ b ≠ xb ∧ ∀ j, mu b j = none) : TI w' rb xb mu0 mu l e l' e' p c :=
  ⟨memX h.mem k (fun b e => (hT b e).2.2), heapKeep h.rd k (fun e => (hT _ e).1 rfl), (k.block xb h.xlt (fun e => (hT _ e).2.1 rfl)).trans h.x, h.rep, h.xn, h.ne, h.le⟩
theorem TI.ext {w w' : World} {rb xb : Nat} {mu0 mu : Mem} {l : List Nat} {e : Int} {l' : List Nat} {e' : Int} {p : Option Addr} {c : Nat} (h : TI w rb xb mu0 mu l e l' e' p c) (k : Ext (fun _ => False) w w') : TI w' rb xb mu0 mu l e l' e' p c := h.keep k (fun _ e => e.elim)
/-- A call of a reader's method. -/
theorem TI.eff {w : World} {rb xb : Nat} {mu0 mu : Mem} {l : List Nat} {e : Int} {l' : List Nat} {e' : Int} {p : Option Addr} {c : Nat} (h : TI w rb xb mu0 mu l e l' e' p c) {f : FuncId} {args : List SV} {rv : SV} {l2 : List Nat} {e2 : Int}
    (hE : Eff1 Try.prog f [.sl 1 (bs l), .int .i64 e] args (.sv rv) [.sl 1 (bs l2), .int .i64 e2]) {vs : List Value} (ha : RepArgs mu args vs) :
    Calls Try.prog f (.pointer (some ⟨rb, 0, none⟩) :: vs).toArray w fun r w' => ∃ val mu', r = .returned val ∧ TI w' rb xb mu0 mu' l2 e2 l' e' p c ∧ Rep mu' rv val ∧ Ext (fun k => k = rb) w w' ∧ (∀ b j, b < w.heap.size → mu' b j = mu b j) := by
  refine (hE mu w rb vs h.mem h.rd ha).mono ?_
  rintro r w' ⟨val, mu', rfl, hx, hle, hm, hag, hr, ⟨gx, hret, _⟩⟩
  refine ⟨val, mu', rfl, ⟨hm, hr, (hx.block xb h.xlt (Ne.symm h.ne)).trans h.x, h.rep.mono hle, fun j => ?_, h.ne, Mem.le_trans h.le hle⟩, hret, hx, hag⟩
  rw [hag xb j h.xlt]; exact h.xn j
/-- A call of a method of the document's reader. -/
theorem TI.ref {w : World} {rb xb : Nat} {mu0 mu : Mem} {l : List Nat} {e : Int} {l' : List Nat} {e' : Int} {p : Option Addr} {c : Nat} (h : TI w rb xb mu0 mu l e l' e' p c) {f : FuncId} {args : List SV} {rv : SV} {l2 : List Nat} {e2 : Int}
    (hE : Pure Try.prog f (.agg [.sl 1 (bs l'), .int .i64 e'] :: args) (.tup [.sv (.agg [.sl 1 (bs l2), .int .i64 e2]), .sv rv])) {vs : List Value} (ha : RepArgs mu args vs) :
    Calls Try.prog f (.agg #[.slice p l'.length c, .int .i64 e'] :: vs).toArray w fun r w' => ∃ p2 c2 val mu', r = .returned (.tuple #[.agg #[.slice p2 l2.length c2, .int .i64 e2], val]) ∧ MemOK mu' w' ∧ mu.le mu' ∧ (∀ b j, b < w.heap.size → mu' b j = mu b j) ∧ Rep mu' (.sl 1 (bs l2)) (.slice p2 l2.length c2) ∧ Rep mu' rv val ∧ Ext (fun _ => False) w w' := by
  have ha2 : Rep mu (.agg [.sl 1 (bs l'), .int .i64 e']) (.agg [.slice p l'.length c, .int .i64 e'].toArray) := .agg _ _ rfl (fun j hj => by
    match j, hj with
    | 0, _ => exact h.rep
    | 1, _ => exact .int _ _)
  refine (hE mu w _ h.mem (argsCons ha2 ha)).mono ?_
  rintro r w' ⟨val, mu', rfl, hx, hle, hm, hag, ⟨gx, hrep, _⟩⟩
  obtain ⟨us, rfl, hlu, hu⟩ := hrep
  match us, hlu with
  | [x, y], _ =>
    have h0 : Rep mu' (.agg [.sl 1 (bs l2), .int .i64 e2]) x := hu 0 (by simp)
    have h1 : Rep mu' rv y := hu 1 (by simp)
    obtain ⟨vs2, rfl, hl2, hc2⟩ := h0.inv_agg
    match vs2, hl2 with
    | [a, b], _ =>
      have e0 : Rep mu' (.sl 1 (bs l2)) a := hc2 0 (by simp)
      have e1 : b = .int .i64 e2 := Rep.inv_int (hc2 1 (by simp))
      subst e1
      obtain ⟨p2, c2, rfl⟩ : ∃ p2 c2, a = .slice p2 l2.length c2 := by
        rcases e0.inv_sl with ⟨⟨pp, cap, rfl, _⟩, hxs⟩ | ⟨bb, off, cap, vals, rfl, _⟩
        · have : l2 = [] := by cases l2 with | nil => rfl | cons a r => simp [bs] at hxs
          subst this
          exact ⟨_, _, rfl⟩
        · exact ⟨_, _, by rw [show (bs l2).length = l2.length by simp]⟩
      exact ⟨p2, c2, y, mu', rfl, hm, hle, hag, e0, h1, hx⟩
/-- The document's reader is another one now. -/
theorem TI.put {w w1 : World} {rb xb : Nat} {mu0 mu mu' : Mem} {l : List Nat} {e : Int} {l' : List Nat} {e' : Int} {p : Option Addr} {c : Nat} (h : TI w rb xb mu0 mu l e l' e' p c) (hx : Ext (fun _ => False) w w1) (hm : MemOK mu' w1) (hle : mu.le mu') (hag : ∀ b j, b < w.heap.size → mu' b j = mu b j)
    {l2 : List Nat} {e2 : Int} {p2 : Option Addr} {c2 : Nat} (hr : Rep mu' (.sl 1 (bs l2)) (.slice p2 l2.length c2)) : TI ((w1.setCell ⟨xb, 0, none⟩ (.slice p2 l2.length c2)).setCell ⟨xb, 1, none⟩ (.int .i64 e2)) rb xb mu0 mu' l e l2 e2 p2 c2 := by
  have hk : Ext (fun k => k = xb) w1 ((w1.setCell ⟨xb, 0, none⟩ (.slice p2 l2.length c2)).setCell ⟨xb, 1, none⟩ (.int .i64 e2)) := (extS _ _ _ _).trans (extS _ _ _ _)
  have hn : ∀ j, mu' xb j = none := fun j => by rw [hag xb j h.xlt]; exact h.xn j
  have h1 := (hx.block xb h.xlt id).trans h.x
  have hrd : HeapAt mu' w1 rb [.sl 1 (bs l), .int .i64 e] := by
    obtain ⟨k0, cc, te, fr, k1, k2, k3, k4⟩ := h.rd
    have hlt := (Array.getElem?_eq_some_iff.1 k1).1
    exact ⟨fun j => by rw [hag rb j hlt]; exact k0 j, cc, te, fr, (hx.block rb hlt id).trans k1, k2, k3, fun j hj => (k4 j hj).mono hle⟩
  refine ⟨memX hm hk (fun b e => by subst e; exact hn), heapKeep hrd hk h.ne, ?_, hr, hn, h.ne, Mem.le_trans h.le hle⟩
  have := blkS (j := 1) (blkS (j := 0) h1 (.slice p2 l2.length c2)) (.int .i64 e2)
  simpa using this
end Go.Proofs.Ytflcdbfcipkhkaa

/- Varnum: New, of an array that is written to afterwards. -/

set_option linter.unusedSimpArgs false
set_option linter.unusedVariables false
set_option maxHeartbeats 4000000
set_option maxRecDepth 1000000
namespace Go.Proofs.Ytflcdbfcipkhkaa
open Go.RowKit
open Go.Av Go.Maps
def vU (l : List Nat) : List Value := l.map fun (n : Nat) => Value.int .u8 (n : Int)
theorem vU_get (l : List Nat) {i : Nat} (hi : i < l.length) : (vU l)[i]? = some (.int .u8 ((l.getD i 0 : Nat) : Int)) := by
  simp [vU, hi, List.getD_eq_getElem?_getD]
theorem bs_get (l : List Nat) {i : Nat} (hi : i < l.length) : ((bs l).getD i .undef) = .int .u8 ((l.getD i 0 : Nat) : Int) := by
  simp [bs, List.getD_eq_getElem?_getD, hi]
theorem rep_u8 {mu mu' : Mem} {n : Int} {v : Value} (h : Rep mu (.int .u8 n) v) : Rep mu' (.int .u8 n) v := by rw [Rep.inv_int h]; exact .int _ _
/-- Of bytes in memory only their own block counts. -/
theorem rep_bytes {mu mu' : Mem} {l : List Nat} {p : Option Addr} {n c : Nat} (h : Rep mu (.sl 1 (bs l)) (.slice p n c)) (hk : ∀ a, p = some a → ∀ j, mu' a.block j = mu a.block j) : Rep mu' (.sl 1 (bs l)) (.slice p n c) := by
  rcases h.inv_sl with ⟨⟨pp, cap, e, hp⟩, hx⟩ | ⟨b, off, cap, vals, e, h1, h2, h3, h4⟩
  · cases e
    rw [hx]
    cases p with
    | none => rw [hp rfl]; exact .slnil 1
    | some a => exact .sle 1 a _
  · cases e
    refine .sl 1 (bs l) b off _ vals h1 h2 (fun i j hi hj => by rw [hk _ rfl]; exact h3 i j hi hj) (fun i j hi hj => ?_)
    have hil : i < l.length := by simpa using hi
    have hj0 : j = 0 := by omega
    subst hj0
    have := h4 i 0 hi hj
    rw [bs_get l hil] at this ⊢
    exact rep_u8 this
/-- An array of one's own, for a while a part of the memory. -/
theorem in_mem {mu : Mem} {w : World} (hm : MemOK mu w) {base : Nat} {v : Value} {l : List Nat} (hb : ∀ b j u, mu b j = some u → b < base) (h : w.ownsRow base 5 1 v l.length (vU l)) :
    ∃ mu1, mu.le mu1 ∧ MemOK mu1 w ∧ Rep mu1 (.sl 1 (bs l)) v ∧ ∀ b j, b < base → mu1 b j = mu b j := by
  rcases h.2 with ⟨h1, h2⟩ | ⟨g, cap, cur, h1, h2, h3, h4, h5, h6, h7⟩
  · have : l = [] := List.eq_nil_of_length_eq_zero h2
    subst this
    exact ⟨mu, Mem.le_refl _, hm, by rw [h1]; exact .slnil 1, fun _ _ _ => rfl⟩
  · have hc : ∀ i, i < l.length → cur[i]? = some (.int .u8 ((l.getD i 0 : Nat) : Int)) := fun i hi => by
      have := vU_get l hi
      rw [← h7, List.getElem?_take_of_lt (by omega), Array.getElem?_toList] at this
      exact this
    refine ⟨fun b j => if b = g then (if j < l.length then cur[j]? else none) else mu b j, fun b j u e => ?_, fun b j u e => ?_, ?_, fun b j hbj => ?_⟩
    · have := hb b j u e
      show (if b = g then _ else _) = _
      rw [if_neg (by omega)]; exact e
    · simp only at e
      split at e
      · rename_i q
        subst q
        split at e
        · rename_i hj
          refine ⟨by simp [World.cell?, h3, e], ?_⟩
          rw [hc j hj] at e
          cases e; rfl
        · cases e
      · exact hm b j u e
    · rw [h1]
      have := Rep.sl (mu := fun b j => if b = g then (if j < l.length then cur[j]? else none) else mu b j) 1 (bs l) g 0 cap (fun i _ => .int .u8 ((l.getD i 0 : Nat) : Int)) (by simpa using h4) (fun x hx => by
        simp only [bs, List.mem_map] at hx; obtain ⟨n, _, rfl⟩ := hx; rfl) (fun i j hi hj => ?_) (fun i j hi hj => ?_)
      · simpa using this
      · have hil : i < l.length := by simpa using hi
        have hj0 : j = 0 := by omega
        subst hj0
        show (if g = g then (if 0 + i * 1 + 0 < l.length then cur[0 + i * 1 + 0]? else none) else _) = _
        rw [if_pos rfl, show 0 + i * 1 + 0 = i by omega, if_pos hil]
        exact hc i hil
      · have hil : i < l.length := by simpa using hi
        have hj0 : j = 0 := by omega
        subst hj0
        rw [bs_get l hil]
        exact .int _ _
    · show (if b = g then _ else _) = _
      rw [if_neg (by omega)]
theorem clone_call {mu : Mem} {w : World} (hm : MemOK mu w) {base : Nat} {v : Value} {l : List Nat} (hb : ∀ b j u, mu b j = some u → b < base) (hbw : base ≤ w.heap.size) (h : w.ownsRow base 5 1 v l.length (vU l)) (hl : l.length ≤ 1000) :
    Calls Try.prog 76 #[v] w fun e w' => ∃ mu' p c, e = .returned (.slice p l.length c) ∧ Ext (fun _ => False) w w' ∧ MemOK mu' w' ∧ mu.le mu' ∧ (∀ b j, b < w.heap.size → mu' b j = mu b j) ∧ Rep mu' (.sl 1 (bs l)) (.slice p l.length c) := by
  obtain ⟨mu1, k1, k2, k3, k4⟩ := in_mem hm hb h
  refine (clone_pure (bs l) (by simp; omega) mu1 w [v] k2 (argsCons k3 argsNil)).mono ?_
  rintro e w' ⟨val, mu', rfl, hx, hle, hm', hag, ⟨gx, hrep, _⟩⟩
  have hle2 : mu.le (fun b j => if b < w.heap.size then mu b j else mu' b j) := fun b j u e => by
    show (if _ then _ else _) = _
    rw [if_pos (hm.lt e)]; exact e
  have hmm : MemOK (fun b j => if b < w.heap.size then mu b j else mu' b j) w' := fun b j u e => by
    simp only at e
    split at e
    · exact hm' b j u (hle _ _ _ (k1 _ _ _ e))
    · exact hm' b j u e
  rcases hrep with ⟨_, rfl⟩ | ⟨b, off, cap, rfl, hr, _, hok, _⟩
  · rename_i hr
    have : l = [] := by
      rcases hr.inv_sl with ⟨_, hx⟩ | ⟨_, _, _, _, e, _⟩
      · cases l with | nil => rfl | cons a r => simp [bs] at hx
      · cases e
    subst this
    exact ⟨_, none, 0, rfl, hx, hmm, hle2, fun b j hbj => if_pos hbj, .slnil 1⟩
  · have hbw2 : ¬ b < w.heap.size := fun e => hok e
    refine ⟨_, _, _, by rw [show (bs l).length = l.length by simp], hx, hmm, hle2, fun b j hbj => if_pos hbj, ?_⟩
    refine rep_bytes (mu := mu') (by rw [← show (bs l).length = l.length by simp]; exact hr) (fun a ha j => ?_)
    cases ha
    exact if_neg hbw2
theorem new_call {mu : Mem} {w : World} (hm : MemOK mu w) {base : Nat} {v : Value} {l : List Nat} (hb : ∀ b j u, mu b j = some u → b < base) (hbw : base ≤ w.heap.size) (h : w.ownsRow base 5 1 v l.length (vU l)) (hl : l.length ≤ 1000) :
    Calls Try.prog 16 #[v] w fun e w' => ∃ rb mu', e = .returned (.pointer (some ⟨rb, 0, none⟩)) ∧ Ext (fun _ => False) w w' ∧ w.heap.size ≤ rb ∧ MemOK mu' w' ∧ mu.le mu' ∧ (∀ b j, b < w.heap.size → mu' b j = mu b j) ∧ HeapAt mu' w' rb [.sl 1 (bs l), .int .i64 0] := by
  have HC := asideI (clone_call hm hb hbw h hl)
  obtain ⟨p0, c0, rfl⟩ : ∃ p c, v = .slice p l.length c := by
    rcases h.2 with ⟨h1, h2⟩ | ⟨g, cap, cur, h1, _⟩
    · rw [h1, h2]; exact ⟨_, _, rfl⟩
    · exact ⟨_, _, h1⟩
  clear hb h
  go_enter Try.func16, Try.ntmps16
  go_wp2_with (first
    | (go_at_call 76; refine HC.out.mono ?_
       rintro e w1 ⟨mu', p, c, rfl, h1, h2, h3, h4, h5⟩
       have H := asideI (And.intro h1 (And.intro h2 (And.intro h3 (And.intro h4 h5))))
       clear h1 h2 h3 h4 h5
       simp only [])
    | go_in)
  go_ret
  obtain ⟨h1, h2, h3, h4, h5⟩ := H.out
  have hn : ∀ j, mu' w1.heap.size j = none := fun j => by
    cases e : mu' w1.heap.size j with
    | none => rfl
    | some u => exact absurd (h2.lt e) (by omega)
  refine ⟨_, mu', rfl, h1.trans (extA _ _), h1.size, memX h2 (extA _ _) (fun _ e => e.elim), h3, h4, hn, _, _, _, by rw [alloc_get, if_pos rfl], .inl rfl, rfl, fun j hj => ?_⟩
  match j, hj with
  | 0, _ => exact h5
  | 1, _ => exact .int _ _
end Go.Proofs.Ytflcdbfcipkhkaa
