import Derived.Test.YtkiimlmlfhmkiaaCvN
import Derived.Test.YtkiimlmlfhmkiaaCvA
import Derived.Test.YtkiimlmlfhmkiaaMCvM

set_option linter.unusedVariables false
set_option linter.unusedSimpArgs false

set_option linter.unusedSimpArgs false
set_option maxHeartbeats 1000000
namespace Go.Proofs.Ytkiimlmlfhmkiaa
open Go.Av

theorem acc10 {acc : List Nat} {v u : Nat} (hu : u < 18446744073709551616) (hacc : acc ++ layN v = layN u) : acc.length + 1 ≤ 10 := by
  have h1 := congrArg List.length hacc
  have h2 := layN_pos v
  have h3 := layN_le10 hu
  simp at h1
  omega

theorem lay_pure (u : Nat) (hu : u < 18446744073709551616) : Pure Try.prog 86 [.int .u64 u] (.own 1 (bs (layN u))) := by
  refine pure_go R0_ok Try.func86 Try.ntmps86 comp86 cres86 (by decide) (by simp) ?_
  simp [ac86, ar86]
  refine awpR_loop (α := Nat × List Nat) (fun p => p.1 < 18446744073709551616 ∧ p.2 ++ layN p.1 = layN u) (fun p => { n := 19, sl := [(0, .sv (.int .u64 p.1)), (3, .own 1 (bs p.2))], bx := [], hp := fun _ => none })
    (fun p => p.1) (u, []) (by simp [hu]) (by simp) ?_
  rintro ⟨v, acc⟩ ⟨hv, hacc⟩
  simp only at hv hacc
  have hlen := acc10 hu hacc
  by_cases h : v < 128
  · have h1 : ¬ (127 : Int) < v := by omega
    have h2 : (v : Int) ≤ 127 := by omega
    rw [layN_small h] at hacc
    simp [h1, h2, w8_nat, ← hacc, bs_append]
    refine ⟨by omega, ?_⟩
    rw [Int.emod_eq_of_lt (by omega) (by omega)]; rfl
  · have h1 : (127 : Int) < v := by omega
    have h2 : ¬ (v : Int) ≤ 127 := by omega
    rw [layN_big h] at hacc
    simp only [awpR_seq, awpR_reg, awpR_cond, awpR_block]
    simp [h1, h2, w8_or128]
    refine ⟨by omega, v / 128, acc ++ [v % 128 + 128], ⟨by omega, by simpa using hacc⟩, by omega, fdiv_nat v 128, by simp [bs_append]; rfl⟩

theorem rbytes_pure (u : Nat) (hu : u < 18446744073709551616) : Pure Try.prog 89 [.int .u64 u] (.own 1 (bs (layN u))) := by
  refine pure_go R0_ok Try.func89 Try.ntmps89 comp89 cres89 (by decide) (by simp) ?_
  simp [ac89, ar89]
  refine awpR_loop (α := Nat × List Nat) (fun p => p.1 < 18446744073709551616 ∧ p.2 ++ layN p.1 = layN u) (fun p => { n := 20, sl := [(0, .sv (.int .u64 p.1)), (3, .own 1 (bs p.2))], bx := [], hp := fun _ => none })
    (fun p => p.1) (u, []) (by simp [hu]) (by simp) ?_
  rintro ⟨v, acc⟩ ⟨hv, hacc⟩
  simp only at hv hacc
  have hlen := acc10 hu hacc
  by_cases h : v < 128
  · have h1 : ¬ (128 : Int) ≤ v := by omega
    have h2 : (v : Int) < 128 := by omega
    rw [layN_small h] at hacc
    simp [h1, h2, w8_nat, ← hacc, bs_append]
    refine ⟨by omega, ?_⟩
    rw [Int.emod_eq_of_lt (by omega) (by omega)]; rfl
  · have h1 : (128 : Int) ≤ v := by omega
    have h2 : ¬ (v : Int) < 128 := by omega
    rw [layN_big h] at hacc
    simp [h1, h2]
    refine ⟨by omega, v / 128, acc ++ [v % 128 + 128], ⟨by omega, by simpa using hacc⟩, by omega, by rw [IntKind.wrap_u64]; omega, ?_⟩
    have ht : (v : Int).tmod 128 = ((v % 128 : Nat) : Int) := tmod_nat v 128
    rw [ht, w8_nat, IntKind.wrap_u8, bs_append]
    congr 2
    simp [bs]; omega

theorem wide_pure (w : Int) : Pure Try.prog 94 [.int .i64 w] (.sv (.int .i64 (wid w))) := by
  refine pure_go R0_ok Try.func94 Try.ntmps94 comp94 cres94 (by decide) (by simp) ?_
  simp [ac94, ar94]
  unfold wid
  (repeat' split) <;> omega

theorem zigzag_pure (n : Int) (h0 : -9223372036854775808 ≤ n) (h1 : n < 9223372036854775808) : Pure Try.prog 87 [.int .i64 n] (.sv (.int .u64 (zig n))) := by
  refine pure_go R0_ok Try.func87 Try.ntmps87 comp87 cres87 (by decide) (by simp) ?_
  simp [ac87, ar87]
  exact zig_xor h0 h1
theorem rzigzag_pure (n : Int) (h0 : -9223372036854775808 ≤ n) (h1 : n < 9223372036854775808) : Pure Try.prog 90 [.int .i64 n] (.sv (.int .u64 (zig n))) := by
  refine pure_go R0_ok Try.func90 Try.ntmps90 comp90 cres90 (by decide) (by simp) ?_
  by_cases h : 0 ≤ n
  · simp [ac90, ar90, h, zig, IntKind.wrap_u64]
    omega
  · simp [ac90, ar90, h, zig, IntKind.wrap_u64, IntKind.wrap_i64]
    omega
theorem zagzig_pure (u : Nat) (hu : u < 18446744073709551616) : Pure Try.prog 103 [.int .u64 u] (.sv (.int .i64 (zag u))) := by
  refine pure_go R0_ok Try.func103 Try.ntmps103 comp103 cres103 (by decide) (by simp) ?_
  simp [ac103, ar103]
  exact zag_xor hu
theorem rzagzig_pure (u : Nat) (hu : u < 18446744073709551616) : Pure Try.prog 105 [.int .u64 u] (.sv (.int .i64 (zag u))) := by
  refine pure_go R0_ok Try.func105 Try.ntmps105 comp105 cres105 (by decide) (by simp) ?_
  by_cases h : (u : Int).tmod 2 = 0
  · simp [ac105, ar105, h, zag, IntKind.wrap_u64, IntKind.wrap_i64]
    rw [show (2 : Int) = ((2 : Nat) : Int) from rfl, tmod_nat] at h
    rw [if_pos (by omega)]; omega
  · simp [ac105, ar105, h, zag, IntKind.wrap_u64, IntKind.wrap_i64]
    rw [show (2 : Int) = ((2 : Nat) : Int) from rfl, tmod_nat] at h
    rw [if_neg (by omega)]; omega
end Go.Proofs.Ytkiimlmlfhmkiaa

set_option linter.unusedSimpArgs false
set_option maxHeartbeats 1000000
namespace Go.Proofs.Ytkiimlmlfhmkiaa
open Go.Av

/-- A byte slice's numbers. -/
def nsOf (xs : List SV) : List Nat := xs.map fun x => match x with | .int _ n => n.toNat | _ => 0
@[simp] theorem nsOf_bs (l : List Nat) : nsOf (bs l) = l := by
  simp [nsOf, bs, Function.comp_def]
def IsBs (xs : List SV) : Prop := xs = bs (nsOf xs) ∧ Bytes (nsOf xs)
theorem isBs_bs {l : List Nat} : IsBs (bs l) ↔ Bytes l := by simp [IsBs]

def I64 (n : Int) : Prop := -9223372036854775808 ≤ n ∧ n < 9223372036854775808
def U64 (n : Int) : Prop := 0 ≤ n ∧ n < 18446744073709551616

def R1 : Orc := { p := fun f l => match f, l with
  | 87, [.int .i64 n] => some (I64 n, .sv (.int .u64 (zig n)))
  | 90, [.int .i64 n] => some (I64 n, .sv (.int .u64 (zig n)))
  | 103, [.int .u64 u] => some (U64 u, .sv (.int .i64 (zag u.toNat)))
  | 105, [.int .u64 u] => some (U64 u, .sv (.int .i64 (zag u.toNat)))
  | 86, [.int .u64 u] => some (U64 u, .own 1 (bs (layN u.toNat)))
  | 89, [.int .u64 u] => some (U64 u, .own 1 (bs (layN u.toNat)))
  | 94, [.int .i64 w] => some (True, .sv (.int .i64 (wid w)))
  | _, _ => none }
theorem R1_ok : R1.ok Try.prog := by
  refine ⟨fun f l c rv h hc => ?_, fun _ _ _ _ _ _ h => (by cases h), fun _ _ _ _ h => (by cases h), fun _ h => (by cases h), fun _ _ _ _ _ _ h => (by cases h), fun _ _ _ _ _ _ _ h => (by cases h)⟩
  simp only [R1] at h
  split at h <;> cases h
  · exact zigzag_pure _ hc.1 hc.2
  · exact rzigzag_pure _ hc.1 hc.2
  · obtain ⟨h0, h1⟩ := hc
    obtain ⟨u, rfl⟩ := Int.eq_ofNat_of_zero_le h0
    exact zagzig_pure u (by omega)
  · obtain ⟨h0, h1⟩ := hc
    obtain ⟨u, rfl⟩ := Int.eq_ofNat_of_zero_le h0
    exact rzagzig_pure u (by omega)
  · obtain ⟨h0, h1⟩ := hc
    obtain ⟨u, rfl⟩ := Int.eq_ofNat_of_zero_le h0
    exact lay_pure u (by omega)
  · obtain ⟨h0, h1⟩ := hc
    obtain ⟨u, rfl⟩ := Int.eq_ofNat_of_zero_le h0
    exact rbytes_pure u (by omega)
  · exact wide_pure _

theorem u64_zig {n : Int} (h : I64 n) : U64 (zig n : Int) := ⟨by omega, by have := zig_lt h.1 h.2; omega⟩

theorem put_pure (n : Int) (h : I64 n) : Pure Try.prog 50 [.int .i64 n] (.own 1 (bs (layN (zig n)))) := by
  refine pure_go R1_ok Try.func50 Try.ntmps50 comp50 cres50 (by decide) (by simp) ?_
  simp [ac50, ar50, R1, h, u64_zig h]
theorem rput_pure (n : Int) (h : I64 n) : Pure Try.prog 55 [.int .i64 n] (.own 1 (bs (layN (zig n)))) := by
  refine pure_go R1_ok Try.func55 Try.ntmps55 comp55 cres55 (by decide) (by simp) ?_
  simp [ac55, ar55, R1, h, u64_zig h]

theorem equal_pure (a b : List Nat) (ha : Bytes a) (hb : Bytes b) : Pure Try.prog 65 [.sl 1 (bs a), .sl 1 (bs b)] (.sv (.bool (decide (a = b)))) := by
  refine pure_go R0_ok Try.func65 Try.ntmps65 comp65 cres65 (by decide) (by simp) ?_
  have := sOf_eq ha hb
  simp [ac65, ar65, bs_str, this]
  exact ⟨fun x hx => bs_byte _ x hx, fun x hx => bs_byte _ x hx⟩

def R1a : Orc := { R1 with arr := fun s => s == 9 }
theorem R1a_ok : R1a.ok Try.prog := ⟨R1_ok.p, R1_ok.e, R1_ok.n, fun _ h => (by cases h), fun _ _ _ _ _ _ h => (by cases h), fun _ _ _ _ _ _ _ h => (by cases h)⟩

theorem wid_le (w : Int) : wid w ≤ 8 := by unfold wid; split <;> (try split) <;> omega

end Go.Proofs.Ytkiimlmlfhmkiaa

set_option linter.unusedSimpArgs false
set_option linter.unusedVariables false
set_option maxHeartbeats 1000000
namespace Go.Proofs.Ytkiimlmlfhmkiaa
open Go.Av

theorem tmod256 (v : Nat) : (v : Int).tmod 256 = ((v % 256 : Nat) : Int) := tmod_nat v 256

theorem unfixed_pure (l : List Nat) (hl : Bytes l) (hn : l.length < 4611686018427387904) : Pure Try.prog 92 [.sl 1 (bs l)] (.sv (.int .u64 (unF l))) := by
  refine pure_go R0_ok Try.func92 Try.ntmps92 comp92 cres92 (by decide) (by simp) ?_
  simp [ac92, ar92]
  refine awpR_loop (α := Nat) (fun i => i ≤ l.length) (fun i => { n := 19, sl := [(3, .sv (.int .u64 (unF (l.take i)))), (6, .sv (.sl 1 (bs l))), (7, .sv (.int .i64 l.length)), (8, .sv (.int .i64 i))], bx := [], hp := fun _ => none })
    (fun i => l.length - i) 0 (by simp) ?_ ?_
  · simp [unF, unL]
  intro i hi
  by_cases hlt : i < l.length
  · have e4 : IntKind.i64.wrap ((i : Int) + 1) = ((i + 1 : Nat) : Int) := by rw [wrap_i64_in (by omega) (by omega)]; omega
    simp [hlt, e4, -Int.natCast_add]
    refine ⟨i + 1, by omega, by omega, ?_, rfl⟩
    rw [shl8_or _ _ (unF_lt _) (hl.get hlt), unF_step l i hlt]
  · have : i = l.length := by omega
    subst this
    simp

theorem runfixed_pure (l : List Nat) (hl : Bytes l) (hn : l.length < 4611686018427387904) : Pure Try.prog 104 [.sl 1 (bs l)] (.sv (.int .u64 (unF l))) := by
  refine pure_go R0_ok Try.func104 Try.ntmps104 comp104 cres104 (by decide) (by simp) ?_
  have e0 : (if IntKind.i64.wrap ((l.length : Int) - 8) > 0 then IntKind.i64.wrap ((l.length : Int) - 8) else 0) = ((l.length - 8 : Nat) : Int) := by
    rw [wrap_i64_in (by omega) (by omega)]; split <;> omega
  simp only [gt_iff_lt] at e0
  simp [ac104, ar104, e0]
  refine awpR_loop (α := Nat) (fun i => l.length - 8 ≤ i ∧ i ≤ l.length) (fun i => { n := 24, sl := [(0, .sv (.sl 1 (bs l))), (3, .sv (.int .u64 (unF ((l.drop (l.length - 8)).take (i - (l.length - 8)))))), (4, .sv (.int .i64 i))], bx := [], hp := fun _ => none })
    (fun i => l.length - i) (l.length - 8) (by omega) ?_ ?_
  · simp [unF, unL]
  rintro i ⟨hi0, hi⟩
  by_cases hlt : i < l.length
  · have e4 : IntKind.i64.wrap ((i : Int) + 1) = ((i + 1 : Nat) : Int) := by rw [wrap_i64_in (by omega) (by omega)]; omega
    simp [hlt, e4, -Int.natCast_add]
    refine ⟨i + 1, by omega, by omega, ?_, rfl⟩
    have hx := unF_step (l.drop (l.length - 8)) (i - (l.length - 8)) (by simp; omega)
    rw [show i + 1 - (l.length - 8) = i - (l.length - 8) + 1 by omega, hx]
    have hy := unF_lt ((l.drop (l.length - 8)).take (i - (l.length - 8)))
    generalize unF ((l.drop (l.length - 8)).take (i - (l.length - 8))) = q at hy ⊢
    have hc := hl.get hlt
    have hz : (l.drop (l.length - 8))[i - (l.length - 8)]'(by simp; omega) = l[i] := by
      rw [List.getElem_drop]; congr 1; omega
    rw [hz, IntKind.wrap_u64, IntKind.wrap_u64, IntKind.wrap_u64]
    omega
  · have : i = l.length := by omega
    subst this
    simp
    rw [List.take_of_length_le (by simp), unF_last8]
end Go.Proofs.Ytkiimlmlfhmkiaa

set_option linter.unusedSimpArgs false
set_option linter.unusedVariables false
set_option maxHeartbeats 1000000
namespace Go.Proofs.Ytkiimlmlfhmkiaa
open Go.Av

def R2 : Orc := { p := fun f l => match f, l with
  | 103, [.int .u64 u] => some (U64 u, .sv (.int .i64 (zag u.toNat)))
  | 105, [.int .u64 u] => some (U64 u, .sv (.int .i64 (zag u.toNat)))
  | 86, [.int .u64 u] => some (U64 u, .own 1 (bs (layN u.toNat)))
  | 89, [.int .u64 u] => some (U64 u, .own 1 (bs (layN u.toNat)))
  | 65, [.sl 1 xs, .sl 1 ys] => some (IsBs xs ∧ IsBs ys, .sv (.bool (decide (nsOf xs = nsOf ys))))
  | _, _ => none }
theorem R2_ok : R2.ok Try.prog := by
  refine ⟨fun f l c rv h hc => ?_, fun _ _ _ _ _ _ h => (by cases h), fun _ _ _ _ h => (by cases h), fun _ h => (by cases h), fun _ _ _ _ _ _ h => (by cases h), fun _ _ _ _ _ _ _ h => (by cases h)⟩
  simp only [R2] at h
  split at h <;> cases h
  · exact R1_ok.p 103 _ _ _ rfl hc
  · exact R1_ok.p 105 _ _ _ rfl hc
  · exact R1_ok.p 86 _ _ _ rfl hc
  · exact R1_ok.p 89 _ _ _ rfl hc
  · obtain ⟨⟨e1, h1⟩, ⟨e2, h2⟩⟩ := hc
    have := equal_pure _ _ h1 h2
    rwa [← e1, ← e2] at this

@[simp] theorem R2_103 (u : Int) : R2.p 103 [.int .u64 u] = some (U64 u, .sv (.int .i64 (zag u.toNat))) := rfl
@[simp] theorem R2_105 (u : Int) : R2.p 105 [.int .u64 u] = some (U64 u, .sv (.int .i64 (zag u.toNat))) := rfl
@[simp] theorem R2_86 (u : Int) : R2.p 86 [.int .u64 u] = some (U64 u, .own 1 (bs (layN u.toNat))) := rfl
@[simp] theorem R2_89 (u : Int) : R2.p 89 [.int .u64 u] = some (U64 u, .own 1 (bs (layN u.toNat))) := rfl
@[simp] theorem R2_65 (xs ys : List SV) : R2.p 65 [.sl 1 xs, .sl 1 ys] = some (IsBs xs ∧ IsBs ys, .sv (.bool (decide (nsOf xs = nsOf ys)))) := rfl

theorem bs_take (l : List Nat) (n : Nat) : (bs l).take n = bs (l.take n) := by simp [bs]
theorem bs_drop (l : List Nat) (n : Nat) : (bs l).drop n = bs (l.drop n) := by simp [bs]

theorem get_pure (l : List Nat) (hl : Bytes l) (hn : l.length < 4611686018427387904) : Pure Try.prog 95 [.sl 1 (bs l)] (.tup [.sv (.int .i64 (getN l).1), .sv (.int .i64 (getN l).2.1), .sv (.int .i64 (getN l).2.2)]) := by
  refine pure_go R2_ok Try.func95 Try.ntmps95 comp95 cres95 (by decide) (by simp) ?_
  have e0 : (if (10 : Int) < l.length then 10 else (l.length : Int)) = ((min l.length 10 : Nat) : Int) := by split <;> omega
  generalize hM : min l.length 10 = M at e0
  simp [ac95, ar95, e0]
  refine awpR_loop (α := Nat) (fun i => i ≤ M ∧ ∀ j (h : j < l.length), j < i → 128 ≤ l[j]) (fun i => { n := 46, sl := [(0, .sv (.sl 1 (bs l))), (5, .sv (.int .u64 (valN (l.take i) % 18446744073709551616 : Nat))), (9, .sv (.int .i64 M)), (10, .sv (.int .i64 i))], bx := [], hp := fun _ => none })
    (fun i => M - i) 0 (by simp) ?_ ?_
  · simp [valN]
  rintro i ⟨hi, hb⟩
  by_cases hlt : i < M
  · have hil : i < l.length := by omega
    have e4 : IntKind.i64.wrap ((i : Int) + 1) = ((i + 1 : Nat) : Int) := by rw [wrap_i64_in (by omega) (by omega)]; omega
    have e7 : IntKind.i64.wrap (7 * (i : Int)) = ((7 * i : Nat) : Int) := by rw [wrap_i64_in (by omega) (by omega)]; omega
    have hb8 := hl.get hil
    have hv := u64_val_step l i hil (by omega)
    have a7 := w8_and127 l[i] hb8
    have a8 := w8_and128 l[i] hb8
    by_cases hc : l[i] < 128
    · have hg := getN_found hil (by omega) hb hc
      rw [if_pos hc] at a8
      generalize hV : valN (l.take (i + 1)) % 18446744073709551616 = V at hv hg
      have hVlt : V < 18446744073709551616 := by rw [← hV]; exact Nat.mod_lt _ (by decide)
      simp [hlt, e4, hil, e7, a7, a8, hv, bs_take, isBs_bs, layN_bytes, hl.take, -Int.natCast_add, -Int.natCast_mul, -Int.natCast_emod]
      refine ⟨⟨⟨by omega, by omega⟩, by omega⟩, fun q => ?_, fun q => ?_⟩
      · rw [if_neg q] at hg; simp [hg]
      · rw [if_pos q] at hg; simp [hg]; exact ⟨by omega, by omega⟩
    · rw [if_neg hc] at a8
      simp [hlt, e4, hil, e7, a7, a8, hv, -Int.natCast_add, -Int.natCast_mul, -Int.natCast_emod]
      refine ⟨i + 1, ⟨by omega, fun j h q => ?_⟩, by omega, rfl, rfl⟩
      by_cases e : j = i
      · subst e; omega
      · exact hb j h (by omega)
  · have : i = M := by omega
    subst this
    have hg := getN_none (l := l) (fun j h q => hb j h (by omega))
    simp
    refine ⟨fun q => ?_, fun q => ?_⟩
    · rw [if_pos (by omega)] at hg; simp [hg]
    · rw [if_neg (by omega)] at hg; simp [hg]
end Go.Proofs.Ytkiimlmlfhmkiaa

set_option linter.unusedSimpArgs false
set_option linter.unusedVariables false
set_option maxHeartbeats 1000000
namespace Go.Proofs.Ytkiimlmlfhmkiaa
open Go.Av

theorem rget_pure (l : List Nat) (hl : Bytes l) (hn : l.length < 4611686018427387904) : Pure Try.prog 97 [.sl 1 (bs l)] (.tup [.sv (.int .i64 (getN l).1), .sv (.int .i64 (getN l).2.1), .sv (.int .i64 (getN l).2.2)]) := by
  refine pure_go R2_ok Try.func97 Try.ntmps97 comp97 cres97 (by decide) (by simp) ?_
  simp [ac97, ar97]
  refine awpR_loop (α := Nat) (fun i => i ≤ l.length ∧ i ≤ 10 ∧ ∀ j (h : j < l.length), j < i → 128 ≤ l[j]) (fun i => { n := 60, sl := [(0, .sv (.sl 1 (bs l))), (5, .sv (.int .i64 i))], bx := [], hp := fun _ => none })
    (fun i => 10 - i) 0 (by simp) ?_ ?_
  · simp
  rintro i ⟨hi, hi10, hb⟩
  have e4 : IntKind.i64.wrap ((i : Int) + 1) = ((i + 1 : Nat) : Int) := by rw [wrap_i64_in (by omega) (by omega)]; omega
  by_cases h10 : i = 10
  · have hg := getN_none (l := l) (fun j h q => hb j h (by omega))
    rw [if_neg (by omega)] at hg
    have h1 : ¬ (i : Int) < 10 := by omega
    have h3 : (i : Int) = 10 := by omega
    by_cases hlt : i < l.length
    · simp [hlt, hg, h1]
      exact fun q => absurd h3 q
    · have : i = l.length := by omega
      subst this
      simp [hg, h1]
      exact h3
  by_cases hend : i = l.length
  · have hg := getN_none (l := l) (fun j h q => hb j h (by omega))
    rw [if_pos (by omega)] at hg
    have h10' : ¬ (i : Int) = 10 := by omega
    subst hend
    simp [hg, h10']
  have hlt : i < l.length := by omega
  have hc8 := hl.get hlt
  by_cases hc' : 128 ≤ l[i]
  · have h1 : (i : Int) < 10 := by omega
    have h2 : (128 : Int) ≤ l[i] := by omega
    simp [hlt, h1, h2, e4, -Int.natCast_add]
    refine ⟨i + 1, ⟨by omega, by omega, fun j h q => ?_⟩, by omega, rfl⟩
    by_cases e : j = i
    · subst e; omega
    · exact hb j h (by omega)
  have hc : l[i] < 128 := by omega
  have h1 : (i : Int) < 10 := by omega
  have h2 : ¬ (128 : Int) ≤ l[i] := by omega
  have h3 : ¬ (i : Int) = 10 := by omega
  have h4 : ¬ (i : Int) = l.length := by omega
  have hg := getN_found hlt (by omega) hb hc
  simp [hlt, h1, h2, h3, h4]
  refine awpR_loop (α := Nat) (fun k => k ≤ i + 1) (fun k => { n := 60, sl := [(0, .sv (.sl 1 (bs l))), (5, .sv (.int .i64 i)), (6, .sv (.int .u64 (valN ((l.take (i + 1)).drop k) % 18446744073709551616 : Nat))), (7, .sv (.int .i64 ((k : Int) - 1)))], bx := [], hp := fun _ => none })
    (fun k => k) (i + 1) (by omega) ?_ ?_
  · simp [valN]
  intro k hk
  by_cases hk0 : k = 0
  · subst hk0
    simp only [List.drop_zero]
    generalize hV : valN (l.take (i + 1)) % 18446744073709551616 = V at hg
    have hVlt : V < 18446744073709551616 := by rw [← hV]; exact Nat.mod_lt _ (by decide)
    have hso := sOf_eq (layN_bytes V) (hl.take (i + 1))
    simp [e4, bs_take, bs_str, hso, -Int.natCast_add]
    refine ⟨⟨⟨⟨⟨by omega, by omega⟩, bs_byte _⟩, by omega⟩, bs_byte _⟩, fun q => ?_, fun q => ?_⟩
    · rw [if_neg q] at hg; simp [hg]
    · rw [if_pos q] at hg; simp [hg]; exact ⟨by omega, by omega⟩
  · have hk1 : 0 ≤ (k : Int) - 1 := by omega
    have hk2 : ((k : Int) - 1).toNat = k - 1 := by omega
    have hk3 : k - 1 < l.length := by omega
    have hk4 : (k : Int) - 1 < l.length := by omega
    have hk5 : ¬ (k : Int) < 1 := by omega
    have hk6 : (1 : Int) ≤ k := by omega
    simp [hk1, hk2, hk3, hk4, hk5, hk6, -Int.natCast_emod]
    refine ⟨k - 1, by omega, by omega, ?_, by rw [wrap_i64_in (by omega) (by omega)]; omega⟩
    have e1 : (l.take (i + 1)).drop (k - 1) = l[k - 1] :: (l.take (i + 1)).drop k := by
      have := List.drop_eq_getElem_cons (l := l.take (i + 1)) (i := k - 1) (by simp; omega)
      rw [this, List.getElem_take, show k - 1 + 1 = k by omega]
    have hc := hl.get hk3
    have e2 : ((l[k - 1] : Nat) : Int).tmod 128 = ((l[k - 1] % 128 : Nat) : Int) := tmod_nat _ 128
    rw [e1, valN, e2, IntKind.wrap_u64, IntKind.wrap_u64, IntKind.wrap_u64]
    generalize valN ((l.take (i + 1)).drop k) = v
    omega
end Go.Proofs.Ytkiimlmlfhmkiaa
