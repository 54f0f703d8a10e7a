import Derived.Test.YtifemhfpcichfaaMZdP

set_option linter.unusedVariables false
set_option linter.unusedSimpArgs false

/- Zone: Append of the document. -/

set_option linter.unusedSimpArgs false
set_option linter.unusedVariables false
set_option maxHeartbeats 8000000
namespace Go.Proofs.Ytifemhfpcichfaa

open Go.Av

/-- A block's text. -/
def btx (bs : List UInt8) : ByteArray := ⟨bs.toArray⟩
def rzapp (r : RZ) (bs : List UInt8) : RZ := ⟨some (bl r.b ++ [btx bs]), IntKind.i64.wrap (r.lo + 1), r.fin⟩
def rafter (q : RDv × Int) (n : Nat) : RDv × Int × Int := if q.2 ≠ 0 then (q.1, 0, q.2) else (q.1, n, 0)
def rappend (d : RDv) (z : Int) (bs : List UInt8) : RDv × Int × Int :=
  if rat d z ≠ 0 then (d, 0, rat d z) else if bs.length ≠ 64 then (d, 0, 2) else if rstate d z = 2 then (d, 0, 15) else if rstate d z = 0 ∧ 14 ≤ ropen d d.z.length then (d, 0, 14)
  else rafter (rstepD d (rput d z.toNat (rzapp (d.z.getD z.toNat rz0) bs))) (bl (d.z.getD z.toNat rz0).b).length
theorem bytes_all (bs : List UInt8) : ∀ x ∈ bytesV bs, isByte x := by
  intro x hx
  obtain ⟨b, _, rfl⟩ := List.mem_map.1 hx
  have := b.toNat_lt
  simp [isByte]
theorem bytes_map (bs : List UInt8) : (bytesV bs).map Go.Av.byteOf = bs := by
  induction bs with
  | nil => rfl
  | cons b r ih => simp [bytesV, Go.Av.byteOf] at ih ⊢; exact ih
theorem bytes_len (bs : List UInt8) : (bytesV bs).length = bs.length := by simp [bytesV]
theorem rappend_pure (d : RDv) (z : Int) (bs : List UInt8) (hl : d.z.length ≤ 1000) (hb : ∀ r ∈ d.z, (bl r.b).length ≤ 1000) : Pure Try.prog 42 [d.sv, .int .i64 z, .sl 1 (bytesV bs)] (.tup [.sv (rappend d z bs).1.sv, .sv (.int .i64 (rappend d z bs).2.1), .sv (.int .i64 (rappend d z bs).2.2)]) := by
  refine pure_go RzB_ok Try.func42 Try.ntmps42 comp42 cres42 (by decide) (by simp [RDv.sv, RDv.cells]) ?_
  obtain ⟨l, n, dn, o, f, k⟩ := d
  simp only at hl hb
  have hlen := bytes_len bs
  have hB1 := bytes_all bs
  have hB2 := bytes_map bs
  generalize bytesV bs = bv at *
  unfold rappend
  have h61 := RzA_61 l n o f z dn k
  rcases rat_cases ⟨l, n, dn, o, f, k⟩ z with h | h | ⟨h, h1, h2, h3⟩
  · rw [h] at h61
    simp [ac42, ar42, RDv.sv, RDv.cells, h, RzB_61, h61, RzB_nofz]
  · rw [h] at h61
    simp [ac42, ar42, RDv.sv, RDv.cells, h, RzB_61, h61, RzB_nofz]
  · rw [h] at h61
    simp only at h1 h3
    by_cases h64 : bs.length = 64
    · have h64i : (bs.length : Int) = 64 := by omega
      have h64b : ((bs.length : Int) == 64) = true := by simp [h64i]
      have h64v : bv.length = 64 := by omega
      have hst := RzA_64 l n o f z dn k
      by_cases s2 : rstate ⟨l, n, dn, o, f, k⟩ z = 2
      · rw [s2] at hst
        simp [ac42, ar42, RDv.sv, RDv.cells, h, RzB_61, h61, hlen, h64, h64i, h64v, RzB_64, hst, s2, RzB_nofz]
      · have s2b : (rstate ⟨l, n, dn, o, f, k⟩ z == 2) = false := by simpa using s2
        have h65 := RzB_65 l n o f dn k
        by_cases s0 : rstate ⟨l, n, dn, o, f, k⟩ z = 0
        · by_cases hop : 14 ≤ ropen ⟨l, n, dn, o, f, k⟩ l.length
          · have hopi : (14 : Int) ≤ (ropen ⟨l, n, dn, o, f, k⟩ l.length : Int) := by omega
            rw [s0] at hst
            simp [ac42, ar42, RDv.sv, RDv.cells, h, RzB_61, h61, hlen, h64, h64i, h64v, RzB_64, hst, s0, h65, hop, hopi, hl, RzB_nofz]
          · have hopi : ¬ (14 : Int) ≤ (ropen ⟨l, n, dn, o, f, k⟩ l.length : Int) := by omega
            rw [s0] at hst
            obtain ⟨i, rfl⟩ : ∃ i : Nat, z = i := ⟨z.toNat, by omega⟩
            have hi : i < l.length := by omega
            rw [show ((i : Nat) : Int).toNat = i by omega]
            have hg := ZL_get l hi
            have hiA : i < (ZL l).length := by simpa using hi
            have hg2 : (ZL l)[i] = (l.getD i rz0).sv := by rw [← hg, List.getElem?_eq_getElem hiA]; rfl
            have hbl : (bl (l.getD i rz0).b).length ≤ 1000 := hb _ (by rw [List.getD_eq_getElem?_getD, List.getElem?_eq_getElem hi]; simp)
            generalize l.getD i rz0 = r at *
            obtain ⟨b, lo, fin⟩ := r
            simp only at hbl
            have hbn : bSV (some (bl b ++ [btx bs])) = .sl 1 ((bl b).map SV.str ++ [.str (btx bs)]) := by simp [bSV]
            have h62 := RzA_62 l n o f i dn k (some (bl b ++ [btx bs])) (IntKind.i64.wrap (lo + 1)) fin
            rw [show ((i : Nat) : Int).toNat = i by omega, hbn] at h62
            have h59 := RzA_59 l (l.set i ⟨some (bl b ++ [btx bs]), IntKind.i64.wrap (lo + 1), fin⟩) n o f n o f dn k dn k
            simp only [rput, rzapp]
            generalize rstepD ⟨l, n, dn, o, f, k⟩ ⟨l.set i ⟨some (bl b ++ [btx bs]), IntKind.i64.wrap (lo + 1), fin⟩, n, dn, o, f, k⟩ = rr at *
            obtain ⟨⟨l', n', dn', o', f', k'⟩, e⟩ := rr
            simp only [RDv.cells] at h59
            have hbt : (⟨(bv.map Go.Av.byteOf).toArray⟩ : ByteArray) = btx bs := by rw [hB2]; rfl
            have ho1 : ((bl b).length : Int) * 16 ≤ 140737488355328 := by omega
            have ho2 : (((bl b).length : Int) + 1) * 16 ≤ 140737488355328 := by omega
            have ho3 : (bl b).length * 16 ≤ 140737488355328 := by omega
            have ho4 : ((bl b).length + 1) * 16 ≤ 140737488355328 := by omega
            clear hB2
            have hw1 : IntKind.i64.wrap (((bl b).length : Int) + 1 - 1) = (bl b).length := by rw [IntKind.wrap_i64]; omega
            by_cases he : e = 0
            · subst he
              rcases b with _ | b
              · simp only [bl, Option.getD_none, List.map_nil, List.nil_append, List.length_nil] at *
                simp [ac42, ar42, RDv.sv, RDv.cells, h, RzB_61, h61, hlen, h64, h64i, h64v, RzB_64, hst, s0, hop, hopi, h65, hl, hi, h2, h3, hg, hg2, RZ.sv, RZ.cells, bSV, RzB_62, h62, RzB_59, h59, hbt, hw1, hB1, ho1, ho2, ho3, ho4, rafter, RzB_nofz]
                all_goals first | exact ⟨hB1, by rw [IntKind.wrap_i64]; omega⟩ | exact hB1
              · simp only [bl, Option.getD_some] at *
                simp [ac42, ar42, RDv.sv, RDv.cells, h, RzB_61, h61, hlen, h64, h64i, h64v, RzB_64, hst, s0, hop, hopi, h65, hl, hi, h2, h3, hg, hg2, RZ.sv, RZ.cells, bSV, RzB_62, h62, RzB_59, h59, hbt, hw1, hB1, ho1, ho2, ho3, ho4, rafter, RzB_nofz]
                all_goals first | exact ⟨hB1, by rw [IntKind.wrap_i64]; omega⟩ | exact hB1
            · have heb : (e == 0) = false := by simpa using he
              rcases b with _ | b
              · simp only [bl, Option.getD_none, List.map_nil, List.nil_append, List.length_nil] at *
                simp [ac42, ar42, RDv.sv, RDv.cells, h, RzB_61, h61, hlen, h64, h64i, h64v, RzB_64, hst, s0, hop, hopi, h65, hl, hi, h2, h3, hg, hg2, RZ.sv, RZ.cells, bSV, RzB_62, h62, RzB_59, h59, hbt, hw1, hB1, ho1, ho2, ho3, ho4, rafter, RzB_nofz, he, heb, bne]
                all_goals first | exact ⟨hB1, by rw [IntKind.wrap_i64]; omega⟩ | exact hB1
              · simp only [bl, Option.getD_some] at *
                simp [ac42, ar42, RDv.sv, RDv.cells, h, RzB_61, h61, hlen, h64, h64i, h64v, RzB_64, hst, s0, hop, hopi, h65, hl, hi, h2, h3, hg, hg2, RZ.sv, RZ.cells, bSV, RzB_62, h62, RzB_59, h59, hbt, hw1, hB1, ho1, ho2, ho3, ho4, rafter, RzB_nofz, he, heb, bne]
                all_goals first | exact ⟨hB1, by rw [IntKind.wrap_i64]; omega⟩ | exact hB1
        · have s0b : (rstate ⟨l, n, dn, o, f, k⟩ z == 0) = false := by simpa using s0
          generalize rstate ⟨l, n, dn, o, f, k⟩ z = st at *
          obtain ⟨i, rfl⟩ : ∃ i : Nat, z = i := ⟨z.toNat, by omega⟩
          have hi : i < l.length := by omega
          rw [show ((i : Nat) : Int).toNat = i by omega]
          have hg := ZL_get l hi
          have hiA : i < (ZL l).length := by simpa using hi
          have hg2 : (ZL l)[i] = (l.getD i rz0).sv := by rw [← hg, List.getElem?_eq_getElem hiA]; rfl
          have hbl : (bl (l.getD i rz0).b).length ≤ 1000 := hb _ (by rw [List.getD_eq_getElem?_getD, List.getElem?_eq_getElem hi]; simp)
          generalize l.getD i rz0 = r at *
          obtain ⟨b, lo, fin⟩ := r
          simp only at hbl
          have hbn : bSV (some (bl b ++ [btx bs])) = .sl 1 ((bl b).map SV.str ++ [.str (btx bs)]) := by simp [bSV]
          have h62 := RzA_62 l n o f i dn k (some (bl b ++ [btx bs])) (IntKind.i64.wrap (lo + 1)) fin
          rw [show ((i : Nat) : Int).toNat = i by omega, hbn] at h62
          have h59 := RzA_59 l (l.set i ⟨some (bl b ++ [btx bs]), IntKind.i64.wrap (lo + 1), fin⟩) n o f n o f dn k dn k
          simp only [rput, rzapp]
          generalize rstepD ⟨l, n, dn, o, f, k⟩ ⟨l.set i ⟨some (bl b ++ [btx bs]), IntKind.i64.wrap (lo + 1), fin⟩, n, dn, o, f, k⟩ = rr at *
          obtain ⟨⟨l', n', dn', o', f', k'⟩, e⟩ := rr
          simp only [RDv.cells] at h59
          have hbt : (⟨(bv.map Go.Av.byteOf).toArray⟩ : ByteArray) = btx bs := by rw [hB2]; rfl
          have ho1 : ((bl b).length : Int) * 16 ≤ 140737488355328 := by omega
          have ho2 : (((bl b).length : Int) + 1) * 16 ≤ 140737488355328 := by omega
          have ho3 : (bl b).length * 16 ≤ 140737488355328 := by omega
          have ho4 : ((bl b).length + 1) * 16 ≤ 140737488355328 := by omega
          clear hB2
          have hw1 : IntKind.i64.wrap (((bl b).length : Int) + 1 - 1) = (bl b).length := by rw [IntKind.wrap_i64]; omega
          by_cases he : e = 0
          · subst he
            rcases b with _ | b
            · simp only [bl, Option.getD_none, List.map_nil, List.nil_append, List.length_nil] at *
              simp [ac42, ar42, RDv.sv, RDv.cells, h, RzB_61, h61, hlen, h64, h64i, h64v, RzB_64, hst, s0, s0b, s2, s2b, h65, hl, hi, h2, h3, hg, hg2, RZ.sv, RZ.cells, bSV, RzB_62, h62, RzB_59, h59, hbt, hw1, hB1, ho1, ho2, ho3, ho4, rafter, RzB_nofz]
              all_goals first | exact ⟨hB1, by rw [IntKind.wrap_i64]; omega⟩ | exact hB1
            · simp only [bl, Option.getD_some] at *
              simp [ac42, ar42, RDv.sv, RDv.cells, h, RzB_61, h61, hlen, h64, h64i, h64v, RzB_64, hst, s0, s0b, s2, s2b, h65, hl, hi, h2, h3, hg, hg2, RZ.sv, RZ.cells, bSV, RzB_62, h62, RzB_59, h59, hbt, hw1, hB1, ho1, ho2, ho3, ho4, rafter, RzB_nofz]
              all_goals first | exact ⟨hB1, by rw [IntKind.wrap_i64]; omega⟩ | exact hB1
          · have heb : (e == 0) = false := by simpa using he
            rcases b with _ | b
            · simp only [bl, Option.getD_none, List.map_nil, List.nil_append, List.length_nil] at *
              simp [ac42, ar42, RDv.sv, RDv.cells, h, RzB_61, h61, hlen, h64, h64i, h64v, RzB_64, hst, s0, s0b, s2, s2b, h65, hl, hi, h2, h3, hg, hg2, RZ.sv, RZ.cells, bSV, RzB_62, h62, RzB_59, h59, hbt, hw1, hB1, ho1, ho2, ho3, ho4, rafter, RzB_nofz, he, heb, bne]
              all_goals first | exact ⟨hB1, by rw [IntKind.wrap_i64]; omega⟩ | exact hB1
            · simp only [bl, Option.getD_some] at *
              simp [ac42, ar42, RDv.sv, RDv.cells, h, RzB_61, h61, hlen, h64, h64i, h64v, RzB_64, hst, s0, s0b, s2, s2b, h65, hl, hi, h2, h3, hg, hg2, RZ.sv, RZ.cells, bSV, RzB_62, h62, RzB_59, h59, hbt, hw1, hB1, ho1, ho2, ho3, ho4, rafter, RzB_nofz, he, heb, bne]
              all_goals first | exact ⟨hB1, by rw [IntKind.wrap_i64]; omega⟩ | exact hB1
    · have h64i : ¬ (bs.length : Int) = 64 := by omega
      have h64b : ((bs.length : Int) == 64) = false := by simpa using h64i
      have h64v : ¬ bv.length = 64 := by omega
      have h64w : ((bv.length : Int) == 64) = false := by rw [hlen]; exact h64b
      simp [ac42, ar42, RDv.sv, RDv.cells, h, RzB_61, h61, hlen, h64, h64i, h64b, h64v, h64w, bne, RzB_nofz]
end Go.Proofs.Ytifemhfpcichfaa

/- Zone: Crash of the document. -/

set_option linter.unusedSimpArgs false
set_option linter.unusedVariables false
set_option maxHeartbeats 8000000
namespace Go.Proofs.Ytifemhfpcichfaa

open Go.Av

def rk (r : RZ) (f : Option (List UInt8)) : Int := (rnxt f).1 % (r.lo + 1)
def rkeep (r : RZ) (f : Option (List UInt8)) : Nat := (((bl r.b).length : Int) - r.lo + rk r f).toNat
def rt (f : Option (List UInt8)) : Nat := ((rnxt (rnxt f).2).1 % 64).toNat
/-- A torn block's text. -/
def ttx (t : Nat) (s : ByteArray) : ByteArray := s.extract 0 t ++ ⟨(List.replicate (64 - t) (0 : UInt8)).toArray⟩
def rcz (r : RZ) (f : Option (List UInt8)) : RZ × Option (List UInt8) :=
  if r.lo = 0 then (r, f)
  else if rk r f < r.lo then
    (if rt f = 0 then (⟨some ((bl r.b).take (rkeep r f)), r.lo, r.fin⟩, (rnxt (rnxt f).2).2)
     else (⟨some ((bl r.b).take (rkeep r f) ++ [ttx (rt f) ((bl r.b).getD (rkeep r f) ByteArray.empty)]), r.lo, r.fin⟩, (rnxt (rnxt f).2).2))
  else (⟨some ((bl r.b).take (rkeep r f)), r.lo, r.fin⟩, (rnxt f).2)
def rcTo (l : List RZ) (f : Option (List UInt8)) : Nat → List RZ × Option (List UInt8)
  | 0 => (l, f)
  | i + 1 => ((rcTo l f i).1.set i (rcz ((rcTo l f i).1.getD i rz0) (rcTo l f i).2).1, (rcz ((rcTo l f i).1.getD i rz0) (rcTo l f i).2).2)
def rcrash (d : RDv) (f : Option (List UInt8)) : RDv := { d with z := (rcTo d.z f d.z.length).1.map rsz, down := false, fails := -1, done := false }
theorem rcTo_len (l : List RZ) (f : Option (List UInt8)) : ∀ i, (rcTo l f i).1.length = l.length
  | 0 => rfl
  | i + 1 => by simp [rcTo, rcTo_len l f i]
/-- Zones that may be. -/
def ROk (r : RZ) : Prop := 0 ≤ r.lo ∧ r.lo ≤ (bl r.b).length ∧ (bl r.b).length ≤ 1000 ∧ ∀ s ∈ bl r.b, s.size = 64
theorem rk_rng {r : RZ} (h : ROk r) (f : Option (List UInt8)) : 0 ≤ rk r f ∧ rk r f ≤ r.lo ∧ ((rkeep r f : Nat) : Int) = (bl r.b).length - r.lo + rk r f ∧ rkeep r f ≤ (bl r.b).length := by
  obtain ⟨h1, h2, _⟩ := h
  have h3 := Int.emod_nonneg (rnxt f).1 (show r.lo + 1 ≠ 0 by omega)
  have h4 := Int.emod_lt_of_pos (rnxt f).1 (show 0 < r.lo + 1 by omega)
  have h5 : rk r f = (rnxt f).1 % (r.lo + 1) := rfl
  unfold rkeep
  omega
theorem rt_lt (f : Option (List UInt8)) : rt f < 64 := by
  unfold rt
  have h2 := Int.emod_nonneg (rnxt (rnxt f).2).1 (show (64 : Int) ≠ 0 by omega)
  have h3 := Int.emod_lt_of_pos (rnxt (rnxt f).2).1 (show (0 : Int) < 64 by omega)
  omega
theorem rnxt_rng (f : Option (List UInt8)) : 0 ≤ (rnxt f).1 ∧ (rnxt f).1 < 256 := by
  rcases f with _ | ⟨_ | ⟨b, r⟩⟩
  · simp [rnxt]
  · simp [rnxt]
  · have := b.toNat_lt; simp [rnxt]; omega
theorem ttx_size {t : Nat} {s : ByteArray} (h : s.size = 64) (ht : t ≤ 64) : (ttx t s).size = 64 := by
  have e : (⟨(List.replicate (64 - t) (0 : UInt8)).toArray⟩ : ByteArray).size = 64 - t := by simp [ByteArray.size]
  rw [ttx, ByteArray.size_append, ByteArray.size_extract, e]
  omega
theorem ROk.rcz {r : RZ} (h : ROk r) (f : Option (List UInt8)) : (rcz r f).1.fin = r.fin ∧ (bl (rcz r f).1.b).length ≤ (bl r.b).length ∧ ∀ s ∈ bl (rcz r f).1.b, s.size = 64 := by
  obtain ⟨k1, k2, k3, k4⟩ := rk_rng h f
  obtain ⟨h1, h2, h3, h4⟩ := h
  have ht := rt_lt f
  have htk : ∀ s ∈ (bl r.b).take (rkeep r f), s.size = 64 := fun s hs => h4 s (List.mem_of_mem_take hs)
  unfold Ytifemhfpcichfaa.rcz
  split
  · exact ⟨rfl, Nat.le_refl _, h4⟩
  · split
    · rename_i hlt
      split
      · exact ⟨rfl, by simp [bl]; omega, htk⟩
      · refine ⟨rfl, ?_, ?_⟩
        · simp only [bl, Option.getD_some, List.length_append, List.length_take, List.length_singleton] at *
          omega
        · intro s hs
          simp only [bl, Option.getD_some, List.mem_append, List.mem_singleton] at hs
          rcases hs with hs | rfl
          · exact htk s hs
          · refine ttx_size ?_ (by omega)
            have hk : rkeep r f < (bl r.b).length := by omega
            show ((bl r.b)[rkeep r f]?.getD ByteArray.empty).size = 64
            rw [List.getElem?_eq_getElem hk]
            exact h4 _ (by simp)
    · exact ⟨rfl, by simp [bl]; omega, htk⟩
end Go.Proofs.Ytifemhfpcichfaa

/- Zone: Crash of the document, walked. -/

set_option linter.unusedSimpArgs false
set_option linter.unusedVariables false
set_option maxHeartbeats 8000000
set_option maxRecDepth 100000
namespace Go.Proofs.Ytifemhfpcichfaa

open Go.Av

theorem RzB_arr (n : Nat) : RzB.arr n = false := rfl
theorem rcrash_pure (d : RDv) (ft : Option (List UInt8)) (hl : d.z.length ≤ 1000) (hok : ∀ i, i ≤ d.z.length → ∀ r ∈ ((rcTo d.z ft i).1).drop i, ROk r) : Pure Try.prog 41 [d.sv, fSV ft] (.sv (rcrash d ft).sv) := by
  refine pure_go RzB_ok Try.func41 Try.ntmps41 comp41 cres41 (by decide) (by simp [RDv.sv, RDv.cells]) ?_
  obtain ⟨l, n, dn, o, f, k⟩ := d
  simp only at *
  simp [ac41, ar41, RDv.sv, RDv.cells, RzB_nofz]
  refine awpR_loop (α := Nat) (fun i => i ≤ l.length) (fun i => { n := 89, sl := [(1, .sv (fSV (rcTo l ft i).2)), (2, .lptr 2 0), (4, .lptr 4 0), (5, .sv (.int .i64 i))], bx := [(2, [.sv (.sl 3 (ZL (rcTo l ft i).1)), .sv (.int .i64 n), .sv (.bool dn), .sv (.int .i64 o), .sv (.int .i64 f), .sv (.bool k)]), (4, [.sv .nils, .sv (.int .i64 0), .sv (.bool false), .sv (.int .i64 0), .sv (.int .i64 0), .sv (.bool false)])], hp := fun _ => none })
    (fun i => l.length - i) 0 (by omega) (by cases ft <;> simp [rcTo, fSV]) ?_
  intro i hi
  have hlen := rcTo_len l ft i
  by_cases h : i < l.length
  · have h1 : (i : Int) < l.length := by omega
    have hw : IntKind.i64.wrap ((i : Int) + 1) = ((i + 1 : Nat) : Int) := by rw [IntKind.wrap_i64]; omega
    have hi2 : i < (rcTo l ft i).1.length := by omega
    have hr : ROk ((rcTo l ft i).1.getD i rz0) := hok i hi _ (by
      have e : (rcTo l ft i).1.getD i rz0 = (rcTo l ft i).1[i] := by rw [List.getD_eq_getElem?_getD, List.getElem?_eq_getElem hi2]; rfl
      rw [e, List.drop_eq_getElem_cons hi2]
      exact List.mem_cons_self)
    have hst : rcTo l ft (i + 1) = ((rcTo l ft i).1.set i (rcz ((rcTo l ft i).1.getD i rz0) (rcTo l ft i).2).1, (rcz ((rcTo l ft i).1.getD i rz0) (rcTo l ft i).2).2) := rfl
    generalize rcTo l ft i = s at *
    obtain ⟨m, g⟩ := s
    simp only at *
    have hg := ZL_get m hi2
    have hiA : i < (ZL m).length := by simpa using hi2
    have hg2 : (ZL m)[i] = (m.getD i rz0).sv := by rw [← hg, List.getElem?_eq_getElem hiA]; rfl
    have hself : m.set i (m.getD i rz0) = m := by
      rw [List.getD_eq_getElem?_getD, List.getElem?_eq_getElem hi2]; simp
    generalize m.getD i rz0 = r at *
    obtain ⟨b, lo, fin⟩ := r
    by_cases h0 : lo = 0
    · subst h0
      have hc : rcz ⟨b, 0, fin⟩ g = (⟨b, 0, fin⟩, g) := by simp [rcz]
      rw [hc] at hst
      simp only [hself] at hst
      rcases bSV_cases b with e1 | ⟨xs, e1⟩
      · simp [h1, h, hlen, hg, hg2, RZ.sv, RZ.cells, e1, hw, RzB_nofz]
        refine ⟨i + 1, by omega, by omega, ?_⟩
        rw [hst]
        cases g <;> simp [fSV]
      · simp [h1, h, hlen, hg, hg2, RZ.sv, RZ.cells, e1, hw, RzB_nofz]
        refine ⟨i + 1, by omega, by omega, ?_⟩
        rw [hst]
        cases g <;> simp [fSV]
    · obtain ⟨k1, k2, k3, k4⟩ := rk_rng hr g
      obtain ⟨r1, r2, r3, r4⟩ := hr
      simp only at r1 r2 r3 r4 k1 k2 k3
      have hrn := rnxt_rng g
      obtain _ | b := b
      · simp [bl] at r2; omega
      have h0b : (lo == 0) = false := by simpa using h0
      have h63 := RzB_63 g
      simp only [bl, Option.getD_some] at *
      have hw1 : IntKind.i64.wrap (lo + 1) = lo + 1 := by rw [IntKind.wrap_i64]; omega
      have hw2 : IntKind.i64.wrap ((b.length : Int) - lo) = (b.length : Int) - lo := by rw [IntKind.wrap_i64]; omega
      have hrk : rk ⟨some b, lo, fin⟩ g = (rnxt g).1 % (lo + 1) := rfl
      have hrem : (rnxt g).1.tmod (lo + 1) = rk ⟨some b, lo, fin⟩ g := by rw [Int.tmod_eq_emod_of_nonneg hrn.1, hrk]
      have hw3 : IntKind.i64.wrap ((b.length : Int) - lo + rk ⟨some b, lo, fin⟩ g) = (rkeep ⟨some b, lo, fin⟩ g : Nat) := by rw [k3, IntKind.wrap_i64]; omega
      have hl1 : ¬ lo + 1 = 0 := by omega
      have hk4 : ((rkeep ⟨some b, lo, fin⟩ g : Nat) : Int) ≤ b.length := by omega
      have e1 : bSV (some b) = .sl 1 (b.map SV.str) := rfl
      by_cases hlt : rk ⟨some b, lo, fin⟩ g < lo
      · have h63b := RzB_63 (rnxt g).2
        have hrn2 := rnxt_rng (rnxt g).2
        have hrem2 : (rnxt (rnxt g).2).1.tmod 64 = (rt g : Nat) := by
          rw [Int.tmod_eq_emod_of_nonneg hrn2.1]
          unfold rt
          have := Int.emod_nonneg (rnxt (rnxt g).2).1 (show (64 : Int) ≠ 0 by omega)
          omega
        have htl := rt_lt g
        by_cases ht0 : rt g = 0
        · have hc : rcz ⟨some b, lo, fin⟩ g = (⟨some (b.take (rkeep ⟨some b, lo, fin⟩ g)), lo, fin⟩, (rnxt (rnxt g).2).2) := by simp [rcz, h0, hlt, bl, ht0]
          rw [hc] at hst
          have h62 := RzA_62 m n o f i dn k (some (b.take (rkeep ⟨some b, lo, fin⟩ g))) lo fin
          simp only at hst
          rw [ht0] at hrem2
          generalize rkeep ⟨some b, lo, fin⟩ g = K at *
          generalize rk ⟨some b, lo, fin⟩ g = R at *
          generalize rnxt g = q at *
          obtain ⟨q1, q2⟩ := q
          simp only at *
          generalize rnxt q2 = q3 at *
          obtain ⟨q3, q4⟩ := q3
          simp only [bSV] at *
          simp only [List.map_take] at h62
          simp [h1, h, hlen, hg, hg2, RZ.sv, RZ.cells, bSV, h0, h0b, h63, h63b, hw, hw1, hw2, hw3, hrem, hrem2, hl1, hk4, hlt, RzB_62, h62, hl, RzB_nofz]
          refine ⟨by omega, i + 1, by omega, by omega, ?_⟩
          rw [hst]
          cases q4 <;> simp [fSV, bSV, List.map_take]
        · have hkl : rkeep ⟨some b, lo, fin⟩ g < b.length := by omega
          have hc : rcz ⟨some b, lo, fin⟩ g = (⟨some (b.take (rkeep ⟨some b, lo, fin⟩ g) ++ [ttx (rt g) (b.getD (rkeep ⟨some b, lo, fin⟩ g) ByteArray.empty)]), lo, fin⟩, (rnxt (rnxt g).2).2) := by simp [rcz, h0, hlt, bl, ht0]
          rw [hc] at hst
          have hs64 : (b.getD (rkeep ⟨some b, lo, fin⟩ g) ByteArray.empty).size = 64 := by
            rw [List.getD_eq_getElem?_getD, List.getElem?_eq_getElem hkl]
            exact r4 _ (by simp)
          have h62 := RzA_62 m n o f i dn k (some (b.take (rkeep ⟨some b, lo, fin⟩ g) ++ [ttx (rt g) (b.getD (rkeep ⟨some b, lo, fin⟩ g) ByteArray.empty)])) lo fin
          have hbg : (b.map SV.str)[rkeep ⟨some b, lo, fin⟩ g]?.getD .undef = .str (b.getD (rkeep ⟨some b, lo, fin⟩ g) ByteArray.empty) := by simp [List.getD_eq_getElem?_getD, hkl]
          have hbg2 : b[rkeep ⟨some b, lo, fin⟩ g] = b.getD (rkeep ⟨some b, lo, fin⟩ g) ByteArray.empty := by simp [List.getD_eq_getElem?_getD, hkl]
          have hT0 : (0 : Int) < (rt g : Nat) := by omega
          have hT64 : ((rt g : Nat) : Int) ≤ 64 := by omega
          have hwT : IntKind.i64.wrap (64 - ((rt g : Nat) : Int)) = ((64 - rt g : Nat) : Int) := by rw [IntKind.wrap_i64]; omega
          simp only at hst
          have htx : ttx (rt g) (b.getD (rkeep ⟨some b, lo, fin⟩ g) ByteArray.empty) = (b.getD (rkeep ⟨some b, lo, fin⟩ g) ByteArray.empty).extract 0 (rt g) ++ ⟨(List.replicate (64 - rt g) (0 : UInt8)).toArray⟩ := rfl
          have htx2 : (b.getD (rkeep ⟨some b, lo, fin⟩ g) ByteArray.empty).extract 0 (rt g) ++ (⟨Array.replicate (64 - rt g) (0 : UInt8)⟩ : ByteArray) = ttx (rt g) (b.getD (rkeep ⟨some b, lo, fin⟩ g) ByteArray.empty) := by rw [htx]; simp
          have hsz : (⟨Array.replicate (64 - rt g) (0 : UInt8)⟩ : ByteArray).size = 64 - rt g := by simp [ByteArray.size]
          clear htx
          generalize ttx (rt g) (b.getD (rkeep ⟨some b, lo, fin⟩ g) ByteArray.empty) = X at *
          generalize b.getD (rkeep ⟨some b, lo, fin⟩ g) ByteArray.empty = s0 at *
          generalize rkeep ⟨some b, lo, fin⟩ g = K at *
          generalize rk ⟨some b, lo, fin⟩ g = R at *
          generalize rt g = T at *
          generalize rnxt g = q at *
          obtain ⟨q1, q2⟩ := q
          simp only at *
          generalize rnxt q2 = q3 at *
          obtain ⟨q3, q4⟩ := q3
          simp only [bSV] at *
          simp only [List.map_append, List.map_take, List.map_cons, List.map_nil] at h62
          simp [h1, h, hlen, hg, hg2, RZ.sv, RZ.cells, bSV, h0, h0b, h63, h63b, hw, hw1, hw2, hw3, hrem, hrem2, hl1, hk4, hlt, hkl, hbg2, hs64, hT0, hT64, hwT, ht0, RzB_62, hl, RzB_nofz, RzB_arr, isByte, Go.Av.byteOf, htx2, hsz, h62]
          refine ⟨by omega, fun _ => ⟨by omega, i + 1, by omega, by omega, ?_⟩⟩
          rw [hst]
          cases q4 <;> simp [fSV, bSV, List.map_take]
      · have hc : rcz ⟨some b, lo, fin⟩ g = (⟨some (b.take (rkeep ⟨some b, lo, fin⟩ g)), lo, fin⟩, (rnxt g).2) := by simp [rcz, h0, hlt, bl]
        rw [hc] at hst
        have h62 := RzA_62 m n o f i dn k (some (b.take (rkeep ⟨some b, lo, fin⟩ g))) lo fin
        simp only at hst
        generalize rkeep ⟨some b, lo, fin⟩ g = K at *
        generalize rk ⟨some b, lo, fin⟩ g = R at *
        generalize rnxt g = q at *
        obtain ⟨q1, q2⟩ := q
        simp only [bSV] at *
        simp only [List.map_take] at h62
        simp [h1, h, hlen, hg, hg2, RZ.sv, RZ.cells, bSV, h0, h0b, h63, hw, hw1, hw2, hw3, hrem, hl1, hk4, hlt, RzB_62, h62, hl, RzB_nofz]
        refine ⟨by omega, i + 1, by omega, by omega, ?_⟩
        rw [hst]
        cases q2 <;> simp [fSV, bSV, List.map_take]
  · have h1 : ¬ (i : Int) < l.length := by omega
    obtain rfl : i = l.length := by omega
    have h60 := RzB_60 (rcTo l ft l.length).1 n o (-1) false false
    simp [h1, hlen, rcrash, h60, hl, RzB_nofz]
end Go.Proofs.Ytifemhfpcichfaa

/- Zone: what stays true of the document's device (plain). -/

set_option linter.unusedSimpArgs false
set_option linter.unusedVariables false
set_option maxHeartbeats 8000000
namespace Go.Proofs.Ytifemhfpcichfaa

open Go.Av

/-- A zone of at most B blocks. -/
def RZk (B : Int) (r : RZ) : Prop := 0 ≤ r.lo ∧ r.lo ≤ (bl r.b).length ∧ ((bl r.b).length : Int) ≤ B ∧ ∀ s ∈ bl r.b, s.size = 64
structure RN (L : Nat) (B : Int) (d : RDv) : Prop where
  len : d.z.length = L
  n : d.n = B
  hB : 0 ≤ B ∧ B ≤ 1000
  z : ∀ r ∈ d.z, RZk B r
theorem RZk.ok {B : Int} {r : RZ} (h : RZk B r) (hB : B ≤ 1000) : ROk r := ⟨h.1, h.2.1, by have := h.2.2.1; omega, h.2.2.2⟩
theorem rz0_k {B : Int} (h : 0 ≤ B) : RZk B rz0 := ⟨Int.le_refl _, by simp [rz0, bl], by simp [rz0, bl]; exact h, by simp [rz0, bl]⟩
theorem RN.getD {L : Nat} {B : Int} {d : RDv} (h : RN L B d) (i : Nat) : RZk B (d.z.getD i rz0) := by
  by_cases hi : i < d.z.length
  · rw [List.getD_eq_getElem?_getD, List.getElem?_eq_getElem hi]
    exact h.z _ (by simp)
  · rw [List.getD_eq_getElem?_getD, List.getElem?_eq_none (by omega)]
    exact rz0_k h.hB.1
theorem RN.same {L : Nat} {B : Int} {d e : RDv} (h : RN L B d) (h1 : e.z = d.z) (h2 : e.n = d.n) : RN L B e := ⟨by rw [h1]; exact h.len, by rw [h2]; exact h.n, h.hB, by rw [h1]; exact h.z⟩
theorem RN.step {L : Nat} {B : Int} {d x : RDv} (h : RN L B d) (k : RN L B x) : RN L B (rstepD d x).1 := by
  unfold rstepD
  split
  · split
    · exact k.same rfl rfl
    · exact h.same rfl rfl
  · exact k.same rfl rfl
theorem RN.put {L : Nat} {B : Int} {d : RDv} (h : RN L B d) (i : Nat) {r : RZ} (hr : RZk B r) : RN L B (rput d i r) :=
  ⟨by simp [rput, h.len], h.n, h.hB, fun x hx => by
    rcases List.mem_or_eq_of_mem_set hx with q | q
    · exact h.z x q
    · rw [q]; exact hr⟩
theorem RN.fail {L : Nat} {B : Int} {d : RDv} (h : RN L B d) (a : Int) (b : Bool) : RN L B (rfail d a b).1 := by
  unfold rfail
  split
  · exact h
  · split
    · exact h
    · exact h.same rfl rfl
theorem RN.reset {L : Nat} {B : Int} {d : RDv} (h : RN L B d) (z : Int) : RN L B (rreset d z).1 := by
  unfold rreset
  split
  · exact h
  · exact h.step (h.put _ (rz0_k h.hB.1))
theorem RN.finish {L : Nat} {B : Int} {d : RDv} (h : RN L B d) (z : Int) : RN L B (rfinish d z).1 := by
  unfold rfinish
  split
  · exact h
  · exact h.step (h.put _ (h.getD _))
theorem RN.safe {L : Nat} {B : Int} {d : RDv} (h : RN L B d) : RN L B (rsafeD d) :=
  ⟨by simp [rsafeD, h.len], h.n, h.hB, fun x hx => by
    obtain ⟨r, hr, rfl⟩ := List.mem_map.1 hx
    have := h.z r hr
    exact ⟨Int.le_refl _, by simp [rsz], this.2.2⟩⟩
theorem RN.flush {L : Nat} {B : Int} {d : RDv} (h : RN L B d) : RN L B (rflush d).1 := by
  unfold rflush
  split
  · exact h
  · exact h.step h.safe
theorem RN.append {L : Nat} {B : Int} {d : RDv} (h : RN L B d) (z : Int) (bs : List UInt8) : RN L B (rappend d z bs).1 := by
  unfold rappend
  split
  · exact h
  · rename_i h0
    split
    · exact h
    · rename_i h64
      split
      · exact h
      · rename_i h2
        split
        · exact h
        · have hk : RZk B (rzapp (d.z.getD z.toNat rz0) bs) := by
            have hg := h.getD z.toNat
            have hne : ((bl (d.z.getD z.toNat rz0).b).length : Int) ≠ B := by
              intro e
              apply h2
              have hz : 0 ≤ z ∧ z < d.z.length := by
                rcases rat_cases d z with q | q | ⟨_, _, q1, q2⟩
                · rw [q] at h0; simp at h0
                · rw [q] at h0; simp at h0
                · exact ⟨q1, q2⟩
              unfold rstate
              rw [if_neg (by omega), if_neg (by omega)]
              unfold rsta
              rw [h.n, if_pos e]
              split <;> rfl
            have hB := h.hB
            obtain ⟨g1, g2, g3, g4⟩ := hg
            have hw : IntKind.i64.wrap ((d.z.getD z.toNat rz0).lo + 1) = (d.z.getD z.toNat rz0).lo + 1 := by rw [IntKind.wrap_i64]; omega
            refine ⟨?_, ?_, ?_, ?_⟩
            · simp only [rzapp, hw]; omega
            · simp only [rzapp, hw, bl, Option.getD_some, List.length_append, List.length_singleton] at *; omega
            · simp only [rzapp, bl, Option.getD_some, List.length_append, List.length_singleton] at *; omega
            · intro s hs
              simp only [rzapp, bl, Option.getD_some, List.mem_append, List.mem_singleton] at hs
              rcases hs with hs | rfl
              · exact g4 s hs
              · simp [btx, ByteArray.size]; omega
          have hs := h.step (h.put z.toNat hk)
          unfold rafter
          split
          · exact hs
          · exact hs
theorem rcTo_drop (l : List RZ) (f : Option (List UInt8)) : ∀ i, (rcTo l f i).1.drop i = l.drop i
  | 0 => rfl
  | i + 1 => by
    have ih := rcTo_drop l f i
    simp only [rcTo]
    rw [List.drop_set_of_lt (by omega), ← List.drop_drop (i := 1) (j := i), ← List.drop_drop (i := 1) (j := i), ih]
theorem RN.todo {L : Nat} {B : Int} {d : RDv} (h : RN L B d) (f : Option (List UInt8)) : ∀ i, i ≤ d.z.length → ∀ r ∈ ((rcTo d.z f i).1).drop i, ROk r := fun i _ r hr => by
  rw [rcTo_drop] at hr
  exact (h.z r (List.mem_of_mem_drop hr)).ok h.hB.2
/-- A zone behind a crash, ahead of the sweep of what is loose. -/
def RZc (B : Int) (r : RZ) : Prop := ((bl r.b).length : Int) ≤ B ∧ ∀ s ∈ bl r.b, s.size = 64
theorem rcTo_ok {L : Nat} {B : Int} {d : RDv} (h : RN L B d) (f : Option (List UInt8)) : ∀ i, i ≤ d.z.length → ∀ r ∈ (rcTo d.z f i).1, RZc B r
  | 0, _, r, hr => ⟨(h.z r hr).2.2.1, (h.z r hr).2.2.2⟩
  | i + 1, hi, r, hr => by
    have ih := rcTo_ok h f i (by omega)
    simp only [rcTo] at hr
    rcases List.mem_or_eq_of_mem_set hr with q | q
    · exact ih r q
    · rw [q]
      have hi2 : i < (rcTo d.z f i).1.length := by rw [rcTo_len]; omega
      have hm : (rcTo d.z f i).1.getD i rz0 ∈ (rcTo d.z f i).1.drop i := by
        have e : (rcTo d.z f i).1.getD i rz0 = (rcTo d.z f i).1[i] := by rw [List.getD_eq_getElem?_getD, List.getElem?_eq_getElem hi2]; rfl
        rw [e, List.drop_eq_getElem_cons hi2]
        exact List.mem_cons_self
      have hk : RZk B ((rcTo d.z f i).1.getD i rz0) := by
        rw [rcTo_drop] at hm
        exact h.z _ (List.mem_of_mem_drop hm)
      obtain ⟨_, k2, k3⟩ := (hk.ok h.hB.2).rcz (rcTo d.z f i).2
      have := hk.2.2.1
      exact ⟨by omega, k3⟩
theorem RN.crash {L : Nat} {B : Int} {d : RDv} (h : RN L B d) (f : Option (List UInt8)) : RN L B (rcrash d f) :=
  ⟨by simp [rcrash, rcTo_len, h.len], h.n, h.hB, fun x hx => by
    obtain ⟨r, hr, rfl⟩ := List.mem_map.1 hx
    have := rcTo_ok h f d.z.length (Nat.le_refl _) r hr
    exact ⟨Int.le_refl _, by simp [rsz], this⟩⟩
end Go.Proofs.Ytifemhfpcichfaa

/- Zone: what stays true of a device (plain). -/

set_option linter.unusedSimpArgs false
set_option linter.unusedVariables false
set_option maxHeartbeats 4000000
set_option maxRecDepth 1000000
namespace Go.Proofs.Ytifemhfpcichfaa
open Go.RowKit
open Go.Av Go.Maps

/-- A device of L zones of B blocks, at most m of whose blocks were ever written. -/
structure OkN (L : Nat) (B : Int) (m : Nat) (d : Dv) : Prop where
  ok : OkD 0 d
  len : d.zs.length = L
  nb : d.nb = B
  n : d.n ≤ m
theorem OkN.mono {L : Nat} {B : Int} {m m' : Nat} {d : Dv} (h : OkN L B m d) (k : m ≤ m') : OkN L B m' d := ⟨h.ok, h.len, h.nb, Nat.le_trans h.n k⟩
theorem OkN.tick {L : Nat} {B : Int} {m : Nat} {d : Dv} (h : OkN L B m d) : OkN L B m (tick1 d) := ⟨h.ok.tick, h.len, h.nb, h.n⟩
theorem OkN.step {L : Nat} {B : Int} {m : Nat} {d x : Dv} (h : OkN L B m d) (hx : OkN L B m x) : OkN L B m (stepD d x).1 := by
  refine ⟨h.ok.step hx.ok, ?_, ?_, ?_⟩ <;> unfold stepD
  · split
    · split
      · exact hx.len
      · exact h.len
    · exact hx.len
  · split
    · split
      · exact hx.nb
      · exact h.nb
    · exact hx.nb
  · split
    · split
      · exact hx.n
      · exact h.n
    · exact hx.n
/-- A zone alone is another. -/
theorem OkD.zone {d e : Dv} (h : OkD 0 d) {z : Nat} (hz : z < d.zs.length) {x : Zn} (he : e.zs = d.zs.set z x) (hb : e.nb = d.nb) (hm : IsMap e.D) (hx : 0 ≤ x.wr ∧ x.wr ≤ (zAt d z).wr) (hl : 0 ≤ x.lo ∧ x.lo ≤ x.wr)
    (hD : ∀ m, m < d.zs.length → ∀ i : Nat, (i : Int) < (if m = z then x.wr else (zAt d m).wr) → ∀ bs, BlkIs d m i bs → BlkIs e m i bs) : OkD 0 e := by
  have hg : ∀ m, zAt e m = if m = z then x else zAt d m := fun m => by
    have := zAt_set d z x d.n d.D m hz
    simp only [zAt] at this ⊢
    rw [he]; exact this
  have hll : e.zs.length = d.zs.length := by rw [he]; simp
  have hwz := h.wr z hz
  refine ⟨by rw [hll]; exact h.len, hm, by rw [hb]; exact h.nb, fun m hm => ?_, fun m hkm hm => ?_, fun m hm i hi => ?_⟩
  · rw [hll] at hm; rw [hg m, hb]
    split
    · omega
    · exact h.wr m hm
  · rw [hll] at hm; rw [hg m]
    split
    · exact hl
    · exact h.lo m hkm hm
  · rw [hll] at hm; rw [hg m] at hi
    have hi2 : (i : Int) < (if m = z then x.wr else (zAt d m).wr) := by
      split at hi <;> rename_i q
      · rw [if_pos q]; exact hi
      · rw [if_neg q]; exact hi
    have hi3 : (i : Int) < (zAt d m).wr := by
      split at hi2 <;> rename_i q
      · subst q; omega
      · exact hi2
    obtain ⟨bs, k⟩ := h.b m hm i hi3
    exact ⟨bs, hD m hm i hi2 bs k⟩
theorem OkN.empty {L : Nat} {B : Int} {m : Nat} {d : Dv} (h : OkN L B m d) {z : Nat} (hz : z < d.zs.length) : OkN L B m (emptyD d z) := by
  have hlen := h.ok.len
  have hnb := h.ok.nb
  have hwz := h.ok.wr z hz
  refine ⟨h.ok.zone hz (x := ⟨0, 0, false⟩) rfl rfl (isMap_dels h.ok.isM _ _ _) ⟨Int.le_refl _, hwz.1⟩ ⟨Int.le_refl _, Int.le_refl _⟩ (fun a ha i hi bs k => ⟨?_, k.2⟩), by simp [emptyD]; exact h.len, h.nb, h.n⟩
  have hwa := h.ok.wr a ha
  rw [← k.1]
  have hw2 : (d.zs.getD z z0).wr = (zAt d z).wr := rfl
  have hia : (i : Int) < (zAt d a).wr ∧ a ≠ z := by
    split at hi
    · simp only at hi; omega
    · rename_i q; exact ⟨hi, q⟩
  refine dels_other d.D 0 _ (by omega) (by omega) (by omega) _ (by rw [hw2]; omega) ?_
  rintro ⟨e1, _⟩
  exact hia.2 e1
theorem OkN.fin {L : Nat} {B : Int} {m : Nat} {d : Dv} (h : OkN L B m d) {z : Nat} (hz : z < d.zs.length) : OkN L B m (finZ d z) :=
  ⟨h.ok.zone hz (x := ⟨(zAt d z).wr, (zAt d z).lo, true⟩) rfl rfl h.ok.isM ⟨(h.ok.wr z hz).1, Int.le_refl _⟩ (h.ok.lo z (Nat.zero_le _) hz) (fun _ _ _ _ _ k => k), by simp [finZ]; exact h.len, h.nb, h.n⟩
theorem at_zero {d : Dv} {z : Int} (h : ¬ atD d z ≠ 0) : d.down = false ∧ ∃ i : Nat, z = i ∧ i < d.zs.length ∧ hasZ d z = true := by
  rcases at_cases d z with ⟨_, e⟩ | ⟨_, _, e⟩ | ⟨hd, hz, e⟩
  · rw [e] at h; exact absurd (by simp) h
  · rw [e] at h; exact absurd (by simp) h
  · obtain ⟨h1, h2⟩ := hasZ_iff hz
    exact ⟨hd, z.toNat, by omega, by omega, hz⟩
theorem OkN.flush {L : Nat} {B : Int} {m : Nat} {d : Dv} (h : OkN L B m d) : OkN L B m (flushD d).1 := by
  unfold flushD
  split
  · exact h
  · exact h.step ⟨h.ok.tick.safe, by simp [safeD, tick1]; exact h.len, h.nb, h.n⟩
theorem OkN.reset {L : Nat} {B : Int} {m : Nat} {d : Dv} (h : OkN L B m d) (z : Int) : OkN L B m (resetD d z).1 := by
  unfold resetD
  split
  · exact h
  · rename_i h0
    obtain ⟨_, i, rfl, hi, _⟩ := at_zero h0
    exact h.step (h.tick.empty (by simpa [tick1] using hi))
theorem OkN.finish {L : Nat} {B : Int} {m : Nat} {d : Dv} (h : OkN L B m d) (z : Int) : OkN L B m (finishD d z).1 := by
  unfold finishD
  split
  · exact h
  · rename_i h0
    obtain ⟨_, i, rfl, hi, _⟩ := at_zero h0
    exact h.step (h.tick.fin (by simpa [tick1] using hi))
theorem OkN.fail {L : Nat} {B : Int} {m : Nat} {d : Dv} (h : OkN L B m d) (n : Int) (b : Bool) : OkN L B m (failD d n b).1 := by
  unfold failD
  split
  · exact h
  · split
    · exact h
    · exact ⟨h.ok.same rfl rfl rfl, h.len, h.nb, h.n⟩
theorem OkN.crash {L : Nat} {B : Int} {m : Nat} {d : Dv} (h : OkN L B m d) (fs : List UInt8) : OkN L B (m + L) (crashD d fs) := by
  obtain ⟨h1, h2, h3, _⟩ := crashTo_len (d, fs) d.zs.length
  refine ⟨h.ok.crash fs, ?_, ?_, ?_⟩
  · simp [crashD, safeD]; rw [h1]; exact h.len
  · exact h2.trans h.nb
  · have := h.n
    have := h.len
    show (crashTo (d, fs) d.zs.length).1.n ≤ _
    simp only at h3
    omega
theorem stD_two {d : Dv} {i : Nat} (hi : i < d.zs.length) (h : ¬ stD d i = 2) : (zAt d i).wr ≠ d.nb := fun e => by
  apply h
  unfold stD
  rw [if_pos (by simp [hasZ]; omega), show ((i : Nat) : Int).toNat = i by omega]
  unfold stZ
  rw [if_pos (.inr e)]
theorem OkN.append {L : Nat} {B : Int} {m : Nat} {d : Dv} (h : OkN L B m d) (z : Int) (n : Nat) {bs : List UInt8} (hb : n = 64 → bs.length = 64) : OkN L B (m + 1) (appendD d z n (u8s bs)).1 := by
  have h1 := h.mono (Nat.le_succ m)
  unfold appendD
  split
  · exact h1
  · rename_i h0
    obtain ⟨_, i, rfl, hi, _⟩ := at_zero h0
    rw [show ((i : Nat) : Int).toNat = i by omega]
    split
    · exact h1
    · rename_i h64
      split
      · exact h1
      · rename_i h2
        split
        · exact h1
        · have hne := stD_two hi h2
          have hw := h.ok.wr i hi
          have hl := h.ok.lo i (Nat.zero_le _) hi
          have hP : OkN L B (m + 1) (putD (tick1 d) i (u8s bs)) := by
            refine ⟨h.ok.tick.put (z := i) (bs := bs) (x := ⟨(zAt d i).wr + 1, (zAt d i).lo + 1, (zAt d i).fin⟩) (n := d.n + 1) hi (show (zAt d i).wr < d.nb by omega) (hb (by omega)) rfl (fun _ => ⟨by simp only; omega, by simp only; omega⟩) rfl, ?_, ?_, ?_⟩
            · simp [putD, tick1]; exact h.len
            · exact h.nb
            · have := h.n
              show d.n + 1 ≤ _
              omega
          split
          · exact h1.step hP
          · exact h1.step hP
end Go.Proofs.Ytifemhfpcichfaa

/- Zone: both devices side by side. -/


set_option linter.unusedSimpArgs false
set_option linter.unusedVariables false
set_option maxHeartbeats 4000000
set_option maxRecDepth 1000000
namespace Go.Proofs.Ytifemhfpcichfaa
open Go.RowKit
open Go.Av Go.Maps

/-- Memory without bytes. -/
def strip (mu : Mem) : Mem := fun b j => match mu b j with
  | some (.int .u8 _) => none
  | o => o
theorem strip_of {mu : Mem} {b j : Nat} {v : Value} (h : mu b j = some v) (hv : ∀ n, v ≠ .int .u8 n) : strip mu b j = some v := by
  unfold strip
  rw [h]
  split
  · rename_i n e; cases e; exact absurd rfl (hv n)
  · rfl
theorem strip_le {mu : Mem} {b j : Nat} {v : Value} (h : strip mu b j = some v) : mu b j = some v ∧ ∀ n, v ≠ .int .u8 n := by
  unfold strip at h
  split at h
  · cases h
  · rename_i k
    exact ⟨h, fun n e => k n (by rw [h, e])⟩
theorem strip_none {mu : Mem} {b j : Nat} (h : mu b j = none) : strip mu b j = none := by
  unfold strip; rw [h]
theorem strip_ok {mu : Mem} {w : World} (h : MemOK mu w) : MemOK (strip mu) w := fun b j v hv => h b j v (strip_le hv).1
theorem strip_bSV {mu : Mem} {b : Option (List ByteArray)} {v : Value} (h : Rep mu (bSV b) v) : Rep (strip mu) (bSV b) v ∧ ∀ n, v ≠ .int .u8 n := by
  cases b with
  | none => cases h; exact ⟨.nils, fun n e => by cases e⟩
  | some l =>
    simp only [bSV] at h ⊢
    rcases h.inv_sl with ⟨⟨p, cap, rfl, hp⟩, hx⟩ | ⟨b0, off, cap, vals, rfl, h1, h2, h3, h4⟩
    · rw [hx]
      cases p with
      | none => rw [hp rfl]; exact ⟨.slnil _, fun n e => by cases e⟩
      | some a => exact ⟨.sle _ _ _, fun n e => by cases e⟩
    · refine ⟨.sl _ _ _ _ _ vals h1 h2 (fun i j hi hj => ?_) (fun i j hi hj => ?_), fun n e => by cases e⟩
      all_goals
        have q := h4 i j hi hj
        have hi2 : i < l.length := by simpa using hi
        have e0 : j = 0 := by omega
        subst e0
        rw [show ((l.map SV.str).getD i .undef).cell 0 = .str (l[i]) by simp [List.getD_eq_getElem?_getD, hi2, SV.cell, SV.cells]] at q
      · refine strip_of (h3 i 0 hi hj) (fun n e => ?_)
        rw [q.inv_str] at e
        cases e
      · rw [show ((l.map SV.str).getD i .undef).cell 0 = .str (l[i]) by simp [List.getD_eq_getElem?_getD, hi2, SV.cell, SV.cells], q.inv_str]
        exact .str _
theorem strip_rz {mu : Mem} {z : RZ} {j : Nat} {v : Value} (hj : j < 3) (h : Rep mu (z.sv.cell j) v) : Rep (strip mu) (z.sv.cell j) v ∧ ∀ n, v ≠ .int .u8 n := by
  match j, hj with
  | 0, _ => exact strip_bSV h
  | 1, _ =>
    have := Rep.inv_int (k := .i64) (n := z.lo) h
    subst this
    exact ⟨.int _ _, fun n e => by cases e⟩
  | 2, _ =>
    have := Rep.inv_bool (b := z.fin) h
    subst this
    exact ⟨.bool _, fun n e => by cases e⟩
theorem strip_ZL {mu : Mem} {l : List RZ} {v : Value} (h : Rep mu (.sl 3 (ZL l)) v) : Rep (strip mu) (.sl 3 (ZL l)) v := by
  rcases h.inv_sl with ⟨⟨p, cap, rfl, hp⟩, hx⟩ | ⟨b0, off, cap, vals, rfl, h1, h2, h3, h4⟩
  · rw [hx]
    cases p with
    | none => rw [hp rfl]; exact .slnil _
    | some a => exact .sle _ _ _
  · have hg : ∀ i, i < (ZL l).length → (ZL l).getD i .undef = (l.getD i rz0).sv := fun i hi => by
      rw [List.getD_eq_getElem?_getD]; exact ZL_get l (by simpa using hi)
    refine .sl _ _ _ _ _ vals h1 h2 (fun i j hi hj => ?_) (fun i j hi hj => ?_)
    · have q := h4 i j hi hj
      rw [hg i hi] at q
      exact strip_of (h3 i j hi hj) (strip_rz hj q).2
    · have q := h4 i j hi hj
      rw [hg i hi] at q ⊢
      exact (strip_rz hj q).1
theorem rep_strip {mu : Mem} {r : RDv} {x : Value} (h : Rep mu r.sv x) : Rep (strip mu) r.sv x := by
  obtain ⟨vs, rfl, h1, h2⟩ := Rep.inv_agg h
  refine .agg _ _ h1 (fun j hj => ?_)
  have q := h2 j hj
  have hj6 : j < 6 := hj
  match j, hj6 with
  | 0, _ => exact strip_ZL q
  | 1, _ => rw [Rep.inv_int (k := .i64) (n := r.n) q]; exact .int .i64 r.n
  | 2, _ => rw [Rep.inv_bool (b := r.down) q]; exact .bool r.down
  | 3, _ => rw [Rep.inv_int (k := .i64) (n := r.ops) q]; exact .int .i64 r.ops
  | 4, _ => rw [Rep.inv_int (k := .i64) (n := r.fails) q]; exact .int .i64 r.fails
  | 5, _ => rw [Rep.inv_bool (b := r.done) q]; exact .bool r.done

/-- The document's device, by content, in memory that no call on the device writes to, and that has no bytes. -/
def RefAt (w : World) (N : Nat → Prop) (r : RDv) (x : Value) : Prop := ∃ mu, MemOK mu w ∧ (∀ b j, N b → mu b j = none) ∧ (∀ b j n, mu b j ≠ some (.int .u8 n)) ∧ Rep mu r.sv x
theorem RefAt.keepT {w w' : World} {N : Nat → Prop} {r : RDv} {x : Value} (h : RefAt w N r x) {T : Nat → Prop} (k : Ext T w w') (hT : ∀ b, b < w.heap.size → T b → N b ∨ ∀ j v, w.cell? ⟨b, j, none⟩ = some v → ∃ n, v = .int .u8 n) : RefAt w' N r x := by
  obtain ⟨mu, h1, h2, h4, h3⟩ := h
  refine ⟨mu, fun b j v hv => ?_, h2, h4, h3⟩
  obtain ⟨q1, q2⟩ := h1 b j v hv
  refine ⟨?_, q2⟩
  rw [← q1]
  refine World.cell?_of_block (k.block b (h1.lt hv) (fun e => ?_))
  rcases hT b (h1.lt hv) e with e | e
  · rw [h2 b j e] at hv; cases hv
  · obtain ⟨n, rfl⟩ := e j v q1
    exact h4 b j n hv
theorem RefAt.keep {w w' : World} {N : Nat → Prop} {r : RDv} {x : Value} (h : RefAt w N r x) (k : Ext N w w') : RefAt w' N r x := h.keepT k fun _ _ e => .inl e
theorem RefAt.ext {w w' : World} {N : Nat → Prop} {r : RDv} {x : Value} (h : RefAt w N r x) (k : Ext (fun _ => False) w w') : RefAt w' N r x := h.keep (k.mono fun _ e => e.elim)

/-- Blocks that are not there yet are no part of it. -/
theorem RefAt.fresh {w : World} {N : Nat → Prop} {r : RDv} {x : Value} (h : RefAt w N r x) (k : Nat) : RefAt w (fun b => N b ∨ (w.heap.size ≤ b ∧ b < k)) r x := by
  obtain ⟨mu, h1, h2, h4, h3⟩ := h
  refine ⟨mu, h1, fun b j e => ?_, h4, h3⟩
  rcases e with e | e
  · exact h2 b j e
  · cases hv : mu b j with
    | none => rfl
    | some v => have := h1.lt hv; omega
theorem RefAt.sub {w : World} {N M : Nat → Prop} {r : RDv} {x : Value} (h : RefAt w N r x) (k : ∀ b, M b → N b) : RefAt w M r x := by
  obtain ⟨mu, h1, h2, h4, h3⟩ := h
  exact ⟨mu, h1, fun b j e => h2 b j (k b e), h4, h3⟩

/-- Memory with a row of cells more, which are there already. -/
def addM (mu : Mem) (w : World) (vb off n : Nat) : Mem := fun b j => if b = vb ∧ off ≤ j ∧ j < off + n then w.cell? ⟨b, j, none⟩ else mu b j
theorem addM_ok {mu : Mem} {w : World} (h : MemOK mu w) (vb off : Nat) {cs : List Value} (hr : w.rangeAt vb off cs) (h1 : ∀ v ∈ cs, v.oneCell' = true) : MemOK (addM mu w vb off cs.length) w := by
  intro b j v hv
  unfold addM at hv
  split at hv
  · rename_i k
    obtain ⟨rfl, k1, k2⟩ := k
    have hlt : j - off < cs.length := by omega
    have := hr (j - off) cs[j - off] (by simp [hlt])
    rw [show off + (j - off) = j by omega, hv] at this
    cases this
    exact ⟨hv, h1 _ (by simp)⟩
  · exact h b j v hv
theorem addM_le {mu : Mem} {w : World} (h : MemOK mu w) (vb off n : Nat) : mu.le (addM mu w vb off n) := by
  intro b j v hv
  unfold addM
  split
  · exact (h b j v hv).1
  · exact hv
theorem addM_at {mu : Mem} {w : World} {vb off : Nat} {cs : List Value} (hr : w.rangeAt vb off cs) {j : Nat} (hj : j < cs.length) : addM mu w vb off cs.length vb (off + j) = some cs[j] := by
  unfold addM
  rw [if_pos ⟨rfl, by omega, by omega⟩]
  exact hr j _ (by simp [hj])
theorem addM_rep {mu : Mem} {w : World} {vb off : Nat} {bs : List UInt8} (hr : w.rangeAt vb off (u8s bs)) (cap : Nat) (hc : bs.length ≤ cap) : Rep (addM mu w vb off (u8s bs).length) (.sl 1 (bytesV bs)) (.slice (some ⟨vb, off, none⟩) bs.length cap) := by
  have hl : (u8s bs).length = bs.length := by simp [u8s]
  have hl2 : (bytesV bs).length = bs.length := by simp [bytesV]
  rw [← hl2]
  refine .sl 1 _ vb off cap (fun i j => (u8s bs).getD i Go.undef) (by omega) (fun x hx => ?_) (fun i j hi hj => ?_) (fun i j hi hj => ?_)
  · obtain ⟨b, _, rfl⟩ := List.mem_map.1 hx; rfl
  · have hi2 : i < (u8s bs).length := by omega
    have e0 : j = 0 := by omega
    subst e0
    rw [show off + i * 1 + 0 = off + i by omega, addM_at hr hi2]
    rw [List.getD_eq_getElem?_getD, List.getElem?_eq_getElem hi2]; rfl
  · have hi3 : i < bs.length := by omega
    have e0 : j = 0 := by omega
    subst e0
    rw [show ((bytesV bs).getD i .undef).cell 0 = .int .u8 (bs[i]).toNat by simp [bytesV, List.getD_eq_getElem?_getD, hi3, SV.cell, SV.cells]]
    rw [show (u8s bs).getD i Go.undef = .int .u8 (bs[i]).toNat by simp [u8s, List.getD_eq_getElem?_getD, hi3]]
    exact .int _ _
/-- What a call is given besides the device: its memory may be had for the call. -/
def ArgsOK (w : World) (N : Nat → Prop) (args : List SV) (vs : List Value) : Prop := ∀ mu, MemOK mu w → (∀ b j, N b → mu b j = none) → ∃ mu1, mu.le mu1 ∧ MemOK mu1 w ∧ (∀ b j, N b → mu1 b j = none) ∧ RepArgs mu1 args vs
theorem argsI {w : World} {N : Nat → Prop} (ns : List Int) : ArgsOK w N (ns.map fun n => .int .i64 n) (ns.map fun n => .int .i64 n) := fun mu h1 h2 => ⟨mu, Mem.le_refl _, h1, h2, by simp, fun j hj => by
  have hj2 : j < ns.length := by simpa using hj
  simp [List.getD_eq_getElem?_getD, hj2]
  exact .int _ _⟩
theorem RepArgs.cons {mu : Mem} {a : SV} {v : Value} {args : List SV} {vs : List Value} (h : Rep mu a v) (k : RepArgs mu args vs) : RepArgs mu (a :: args) (v :: vs) := ⟨by simp [k.1], fun j hj => by
  cases j with
  | zero => simpa using h
  | succ j => simpa using k.2 j (by simpa using hj)⟩
theorem RepArgs.mono {mu mu' : Mem} {args : List SV} {vs : List Value} (h : RepArgs mu args vs) (k : mu.le mu') : RepArgs mu' args vs := ⟨h.1, fun j hj => (h.2 j hj).mono k⟩
theorem argsB {w : World} {N : Nat → Prop} {v : Value} {bs : List UInt8} {vb off cap : Nat} (hv : v = .slice (some ⟨vb, off, none⟩) bs.length cap) (hc : bs.length ≤ cap) (hr : w.rangeAt vb off (u8s bs)) (hq : ¬ N vb) (ns : List Int) :
    ArgsOK w N ((ns.map fun n => .int .i64 n) ++ [.sl 1 (bytesV bs)]) ((ns.map fun n => .int .i64 n) ++ [v]) := fun mu h1 h2 => by
  refine ⟨_, addM_le h1 vb off (u8s bs).length, addM_ok h1 vb off hr (u8s_one bs), fun b j e => ?_, ?_⟩
  · unfold addM
    rw [if_neg (fun (k : b = vb ∧ _) => hq (k.1 ▸ e))]
    exact h2 b j e
  · induction ns with
    | nil => exact RepArgs.cons (by rw [hv]; exact addM_rep hr cap hc) ⟨rfl, fun j hj => by simp at hj⟩
    | cons n r ih => exact RepArgs.cons (.int _ _) ih
/-- A call of the document's, beside the device. -/
theorem ref_call {f : FuncId} {w : World} {N : Nat → Prop} {r r' : RDv} {x : Value} {args : List SV} {vs : List Value} {ns : List Int} (hP : Pure Try.prog f (r.sv :: args) (.tup (.sv r'.sv :: ns.map fun n => .sv (.int .i64 n)))) (hr : RefAt w N r x)
    (ha : ArgsOK w N args vs) (hq : ∀ b, N b → b < w.heap.size) :
    Calls Try.prog f (x :: vs).toArray w fun e w' => ∃ x', e = .returned (.tuple (x' :: ns.map fun n => .int .i64 n).toArray) ∧ RefAt w' N r' x' ∧ Ext (fun _ => False) w w' := by
  obtain ⟨mu, h1, h2, h4, h3⟩ := hr
  obtain ⟨mu1, k1, k2, k3, k4⟩ := ha mu h1 h2
  refine (hP mu1 w (x :: vs) k2 (RepArgs.cons (h3.mono k1) k4)).mono ?_
  rintro e w' ⟨val, mu', rfl, hx, _, hm, hb, ⟨gx, hrep, _⟩⟩
  obtain ⟨us, rfl, hl, hu⟩ := hrep
  have hall : ∀ (ns : List Int) (us : List Value), us.length = ns.length → (∀ j, j < ns.length → Rep mu' (.int .i64 (ns.getD j 0)) (us.getD j Go.undef)) → us = ns.map fun n => .int .i64 n := by
    intro ns
    induction ns with
    | nil => intro us hl _; simpa using hl
    | cons n t ih =>
      intro us hl hu
      cases us with
      | nil => simp at hl
      | cons u us =>
        have a0 := hu 0 (by simp)
        simp at a0
        rw [List.map_cons, ← ih us (by simpa using hl) (fun j hj => by simpa using hu (j + 1) (by simpa using hj)), a0.inv_int]
  cases us with
  | nil => simp at hl
  | cons x' us =>
    have e1 : us = ns.map fun n => .int .i64 n := hall ns us (by simpa using hl) (fun j hj => by
      have := hu (j + 1) (by simpa using hj)
      simp [List.getD_eq_getElem?_getD, hj] at this
      simp only [RepR] at this
      simpa [List.getD_eq_getElem?_getD, hj] using this)
    subst e1
    refine ⟨x', rfl, ⟨strip mu', strip_ok hm, fun b j e => strip_none ?_, fun b j n e => (strip_le e).2 n rfl, rep_strip ?_⟩, hx⟩
    · rw [hb b j (hq b e)]; exact k3 b j e
    · exact hu 0 (by simp)
/-- The same of a call that returns the device alone. -/
theorem ref_call1 {f : FuncId} {w : World} {N : Nat → Prop} {r r' : RDv} {x : Value} {args : List SV} {vs : List Value} (hP : Pure Try.prog f (r.sv :: args) (.sv r'.sv)) (hr : RefAt w N r x)
    (ha : ArgsOK w N args vs) (hq : ∀ b, N b → b < w.heap.size) :
    Calls Try.prog f (x :: vs).toArray w fun e w' => ∃ x', e = .returned x' ∧ RefAt w' N r' x' ∧ Ext (fun _ => False) w w' := by
  obtain ⟨mu, h1, h2, h4, h3⟩ := hr
  obtain ⟨mu1, k1, k2, k3, k4⟩ := ha mu h1 h2
  refine (hP mu1 w (x :: vs) k2 (RepArgs.cons (h3.mono k1) k4)).mono ?_
  rintro e w' ⟨val, mu', rfl, hx, _, hm, hb, ⟨gx, hrep, _⟩⟩
  refine ⟨val, rfl, ⟨strip mu', strip_ok hm, fun b j e => strip_none ?_, fun b j n e => (strip_le e).2 n rfl, rep_strip hrep⟩, hx⟩
  rw [hb b j (hq b e)]; exact k3 b j e
end Go.Proofs.Ytifemhfpcichfaa
