import Derived.Test.YtmfkliabjfngmaaMGaB
import Derived.Test.YtmfkliabjfngmaaGgA

set_option linter.unusedVariables false
set_option linter.unusedSimpArgs false

/- Assign: who has which part. -/

set_option linter.unusedSimpArgs false
set_option linter.unusedVariables false
set_option maxHeartbeats 8000000
namespace Go.Proofs.Ytmfkliabjfngmaa

open Go.Av

def eTL (l : List ByteArray) : List SV := [.sl 1 (TL l)]
theorem eTL_inj (a b : List ByteArray) (h : eTL a = eTL b) : a = b := by simp [eTL] at h; exact TL_inj _ _ h
def eI (n : Int) : List SV := [.int .i64 n]
theorem eI_inj (a b : Int) (h : eI a = eI b) : a = b := by simpa [eI] using h
def eI4 (p : Int × Int × Int × Int) : List SV := [.int .i64 p.1, .int .i64 p.2.1, .int .i64 p.2.2.1, .int .i64 p.2.2.2]
theorem eI4_inj (a b : Int × Int × Int × Int) (h : eI4 a = eI4 b) : a = b := by
  simp [eI4] at h
  exact Prod.ext h.1 (Prod.ext h.2.1 (Prod.ext h.2.2.1 h.2.2.2))
noncomputable def RsDp (f : FuncId) (l : List SV) : Option (Prop × LV) :=
  match f with
  | 12 => row eTL (fun a => (a.length ≤ 1000, .sv (.sl 1 (TL (srt a))))) l
  | 13 => row eTL (fun a => (a.length ≤ 1000, .own 1 (TL (srt a)))) l
  | 40 => row eI (fun p => (True, .sv (.int .i64 (manyP p)))) l
  | 41 => row eI4 (fun p => (0 ≤ p.1 ∧ p.1 ≤ 100000 ∧ 0 ≤ p.2.1 ∧ p.2.1 ≤ 1000 ∧ p.2.2.1 ≤ 100000 ∧ 0 ≤ p.2.2.2 ∧ p.2.2.2 ≤ 100000, .own 1 (IL (fromL p.2.1 p.2.2.1 p.2.2.2.toNat p.1)))) l
  | _ => none
noncomputable def RsD (s : Nat) : Orc := { p := RsDp, arr := fun x => x == s }
theorem RsD_ok (s : Nat) : (RsD s).ok Try.prog := by
  refine ⟨fun f l c rv h hc => ?_, fun _ _ _ _ _ _ h => (by cases h), fun _ _ _ _ h => (by cases h), fun _ h => (by cases h), fun _ _ _ _ _ _ h => (by cases h), fun _ _ _ _ _ _ _ h => (by cases h)⟩
  change RsDp f l = _ at h
  unfold RsDp at h
  split at h
  · exact row_ok h hc (fun x hp => sorted_pure x hp)
  · exact row_ok h hc (fun x hp => rsorted x hp)
  · exact row_ok h hc (fun x hp => many_pure x)
  · refine row_ok h hc (fun x hp => ?_)
    obtain ⟨a, b, c, d⟩ := x
    obtain ⟨h1, h2, h3, h4, h5, h6, h7⟩ := hp
    simp only at h1 h2 h3 h4 h5 h6 h7
    obtain ⟨m, rfl⟩ : ∃ m : Nat, d = m := ⟨d.toNat, by omega⟩
    exact from_pure a b c m h1 h2 h3 h4 h5 (by omega)
  · cases h
theorem RsD_12 (s : Nat) (l : List ByteArray) : (RsD s).p 12 [.sl 1 (TL l)] = some (l.length ≤ 1000, .sv (.sl 1 (TL (srt l)))) := row_eq eTL_inj _ l
theorem RsD_13 (s : Nat) (l : List ByteArray) : (RsD s).p 13 [.sl 1 (TL l)] = some (l.length ≤ 1000, .own 1 (TL (srt l))) := row_eq eTL_inj _ l
theorem RsD_40 (s : Nat) (p : Int) : (RsD s).p 40 [.int .i64 p] = some (True, .sv (.int .i64 (manyP p))) := row_eq eI_inj _ p
theorem RsD_41 (s : Nat) (a b c d : Int) : (RsD s).p 41 [.int .i64 a, .int .i64 b, .int .i64 c, .int .i64 d] = some (0 ≤ a ∧ a ≤ 100000 ∧ 0 ≤ b ∧ b ≤ 1000 ∧ c ≤ 100000 ∧ 0 ≤ d ∧ d ≤ 100000, .own 1 (IL (fromL b c d.toNat a))) := row_eq eI4_inj _ (a, b, c, d)

theorem WkR_refl (a : RV) : WkR a a := by
  unfold WkR
  split <;> simp_all
theorem WkRs_refl : ∀ (l : List RV), WkRs l l
  | [] => trivial
  | a :: r => ⟨WkR_refl a, WkRs_refl r⟩
theorem LL_cell (l : List (List Int)) : (LL l).all SV.isCell = true := by simp [LL, SV.isCell]
def upto (a s : Nat) : List Int := (List.range s).map fun i => ((a + i : Nat) : Int)
theorem upto_succ (a s : Nat) : upto a (s + 1) = upto a s ++ [((a + s : Nat) : Int)] := by
  simp [upto, List.range_succ]
@[simp] theorem upto_len (a s : Nat) : (upto a s).length = s := by simp [upto]
def shR (P n k : Nat) : Nat := P / n + if k < P % n then 1 else 0
def atR (P n k : Nat) : Nat := k * (P / n) + min k (P % n)
theorem atR_succ (P n k : Nat) : atR P n (k + 1) = atR P n k + shR P n k := by
  unfold atR shR
  rw [Nat.succ_mul]
  split <;> omega
theorem atR_le {P n k : Nat} (hn : 0 < n) (hk : k ≤ n) : atR P n k ≤ P := by
  unfold atR
  have h1 := Nat.div_add_mod P n
  have h2 : k * (P / n) ≤ n * (P / n) := Nat.mul_le_mul_right _ hk
  omega
theorem atR_end {P n : Nat} (hn : 0 < n) : atR P n n = P := by
  unfold atR
  have h1 := Nat.div_add_mod P n
  have h2 := Nat.mod_lt P hn
  omega
def rowR (P n k : Nat) : List Int := upto (atR P n k) (shR P n k)
def rngL (P n : Nat) : List (List Int) := (List.range n).map (rowR P n)
theorem share_eq {P n k : Nat} (hk : k < n) : (P + n - 1 - k) / n = shR P n k := by
  unfold shR
  have h1 := Nat.div_add_mod P n
  have h2 := Nat.mod_lt P (show 0 < n by omega)
  generalize P / n = q at *
  generalize P % n = r at *
  have : P + n - 1 - k = (r + n - 1 - k) + n * q := by omega
  rw [this, Nat.add_mul_div_left _ _ (by omega)]
  split
  · have : (r + n - 1 - k) / n = 1 := by
      rw [Nat.div_eq_iff (by omega)]
      omega
    omega
  · have : (r + n - 1 - k) / n = 0 := Nat.div_eq_of_lt (by omega)
    omega
def cellsF (f : Nat → List Int) (n : Nat) : List RV := (List.range n).map fun i => .own 1 (IL (f i))
@[simp] theorem cellsF_len (f : Nat → List Int) (n : Nat) : (cellsF f n).length = n := by simp [cellsF]
theorem cellsF_get (f : Nat → List Int) {n k : Nat} (h : k < n) : (cellsF f n)[k]?.getD (.sv .undef) = .own 1 (IL (f k)) := by simp [cellsF, h]
theorem cellsF_set (f g : Nat → List Int) {n k : Nat} {x : List SV} (hx : x = IL (g k)) (h : ∀ i, i < n → i ≠ k → g i = f i) : (cellsF f n).set k (.own 1 x) = cellsF g n := by
  subst hx
  apply List.ext_getElem
  · simp
  · intro i h1 h2
    have hi : i < n := by simpa using h2
    simp only [List.getElem_set, cellsF, List.getElem_map, List.getElem_range]
    split
    · rename_i q; subst q; rfl
    · rename_i q; rw [h i hi (fun z => q z.symm)]
theorem cellsF_share (f : Nat → List Int) (n : Nat) : (cellsF f n).map RV.share = LL ((List.range n).map f) := by
  simp [cellsF, LL, RV.share, Function.comp_def]
theorem cellsF_nils (n : Nat) : ∀ g : Nat → List Int, (∀ i, g i = []) → WkRs (List.replicate n (.sv .nils)) (cellsF g n) := by
  intro g hg
  have : cellsF g n = List.replicate n (.own 1 []) := by
    apply List.ext_getElem
    · simp
    · intro i h1 h2
      simp [cellsF, hg, IL]
  rw [this]
  induction n with
  | zero => trivial
  | succ n ih => exact ⟨rfl, ih (by
      apply List.ext_getElem
      · simp
      · intro i h1 h2
        simp [cellsF, hg, IL])⟩
theorem cellsF_congr {f g : Nat → List Int} {n : Nat} (h : ∀ i, i < n → f i = g i) : cellsF f n = cellsF g n := by
  unfold cellsF
  refine List.map_congr_left fun i hi => ?_
  rw [h i (List.mem_range.1 hi)]
theorem range_pure (l : List ByteArray) (p : Int) (hl : l.length ≤ 1000) : Pure Try.prog 15 [.sl 1 (TL l), .int .i64 p] (.sv (.sl 1 (LL (rngL (manyP p).toNat (srt l).length)))) := by
  have e12 := RsD_12 13 l
  have e40 := RsD_40 13 p
  have hR := RsD_ok 13
  have harr : (RsD 13).arr = fun x => x == 13 := rfl
  have hnofz : (RsD 13).nofz = false := rfl
  generalize RsD 13 = R at *
  refine pure_goF 13 hR Try.func15 Try.ntmps15 comp15 cres15 (by decide) (by simp) ?_
  have hsl := srt_len l
  obtain ⟨n, hn⟩ : ∃ n, n = (srt l).length := ⟨_, rfl⟩
  obtain ⟨hP0, hP1⟩ := manyP_le p
  obtain ⟨P, hP⟩ : ∃ P : Nat, manyP p = P := ⟨(manyP p).toNat, by omega⟩
  rw [hP] at e40
  rw [hP, Int.toNat_natCast, ← hn]
  have hb1 : (n : Int) * 24 ≤ 281474976710656 := by omega
  have hb2 : (n : Int) ≤ 9223372036854775807 := by omega
  simp [ac15, ar15, e12, hl, harr, ← hn, hb1, hb2]
  refine awpR_loop (α := Nat × (Nat → List Int)) (fun q => q.1 ≤ n ∧ ∀ i, i < n → q.2 i = if i < q.1 then rowR P n i else []) (fun q => { n := 47, sl := [(0, .sv (.sl 1 (TL l))), (1, .sv (.int .i64 p)), (5, .lsl 13 1 0 n n), (6, .sv (.int .i64 n)), (7, .sv (.int .i64 (atR P n q.1))), (16, .sv (.int .i64 n)), (17, .sv (.int .i64 q.1))], bx := [(13, cellsF q.2 n)], hp := fun _ => none })
    (fun q => n - q.1) (0, fun _ => []) ⟨by simp, by simp⟩ (by simp [atR]; exact cellsF_nils n _ (fun _ => rfl)) ?_
  rintro ⟨k, f⟩ ⟨hk, hf⟩
  simp only at hk hf
  by_cases h : k < n
  · have hlt : (k : Int) < n := by omega
    have hw := wrap_succ h (show n < 4611686018427387904 by omega)
    have hw1 : IntKind.i64.wrap ((P : Int) + n) = (P : Int) + n := by rw [IntKind.wrap_i64]; omega
    have hw2 : IntKind.i64.wrap ((P : Int) + n - 1) = (P : Int) + n - 1 := by rw [IntKind.wrap_i64]; omega
    have hw3 : IntKind.i64.wrap ((P : Int) + n - 1 - k) = (P : Int) + n - 1 - k := by rw [IntKind.wrap_i64]; omega
    have hsh : ((P : Int) + n - 1 - k).tdiv n = shR P n k := by
      rw [Int.tdiv_eq_ediv_of_nonneg (by omega), ← share_eq h, show ((P : Int) + n - 1 - k) = ((P + n - 1 - k : Nat) : Int) by omega]
      rfl
    have hsl2 : atR P n (k + 1) ≤ P := atR_le (by omega) (by omega)
    have hsuc := atR_succ P n k
    have hw4 : IntKind.i64.wrap (shR P n k : Int) = shR P n k := by rw [IntKind.wrap_i64]; omega
    have hn0 : ¬ (n : Int) = 0 := by omega
    have hn00 : ¬ n = 0 := by omega
    obtain ⟨s, hs⟩ : ∃ s, s = shR P n k := ⟨_, rfl⟩
    obtain ⟨a, haa⟩ : ∃ a, a = atR P n k := ⟨_, rfl⟩
    rw [← hs] at hsh hw4 hsuc
    rw [← haa] at hsuc
    have hrow : rowR P n k = upto a s := by rw [hs, haa]; rfl
    simp [-Bool.exists_bool, hlt, h, e40, hw1, hw2, hw3, hsh, hw4, hn0, hn00, hw, ← haa]
    refine awpR_loop (α := Nat × (Nat → List Int)) (fun q => q.1 ≤ s ∧ ∀ i, i < n → q.2 i = if i < k then rowR P n i else if i = k then upto a q.1 else []) (fun q => { n := 47, sl := [(0, .sv (.sl 1 (TL l))), (1, .sv (.int .i64 p)), (5, .lsl 13 1 0 n n), (6, .sv (.int .i64 n)), (7, .sv (.int .i64 (a + q.1 : Nat))), (16, .sv (.int .i64 n)), (17, .sv (.int .i64 k)), (8, .sv (.int .i64 k)), (29, .sv (.int .i64 s)), (30, .sv (.int .i64 q.1))], bx := [(13, cellsF q.2 n)], hp := fun _ => none })
      (fun q => s - q.1) (0, f) ⟨by simp, fun i hi => ?_⟩ (by simp [WkRs_refl]) ?_
    · simp only
      rw [hf i hi]
      split
      · rfl
      · split <;> rfl
    rintro ⟨j, g⟩ ⟨hj, hg⟩
    simp only at hj hg
    by_cases h2 : j < s
    · have hlt2 : (j : Int) < s := by omega
      have hw5 := wrap_succ h2 (show s < 4611686018427387904 by omega)
      have hw6 : IntKind.i64.wrap (((a + j : Nat) : Int) + 1) = ((a + j + 1 : Nat) : Int) := by rw [IntKind.wrap_i64]; omega
      have hw6' : IntKind.i64.wrap ((a : Int) + j + 1) = (a : Int) + j + 1 := by rw [IntKind.wrap_i64]; omega
      have hgk := hg k h
      rw [if_neg (by omega), if_pos rfl] at hgk
      have hget := cellsF_get g h
      have hgee : (cellsF g n)[k]'(by simpa using h) = .own 1 (IL (g k)) := by rw [← hget, List.getElem?_eq_getElem]; rfl
      have hset := cellsF_set g (fun i => if i = k then upto a (j + 1) else g i) (n := n) (k := k) (x := IL (g k) ++ [.int .i64 ((a : Int) + j)]) (by simp [hgk, upto_succ, IL_app, IL]) (fun i hi hne => by simp [hne])
      have hlen : (g k).length = j := by rw [hgk]; simp
      simp [-Bool.exists_bool, hlt2, h2, hlt, h, hget, hgee, hset, hlen, hw5, hw6, hw6']
      exact ⟨by omega, j + 1, _, ⟨by omega, fun i hi => by
        by_cases q : i = k
        · subst q; simp
        · rw [if_neg q, hg i hi, if_neg q, if_neg q]⟩, by omega, ⟨by omega, by omega⟩, WkRs_refl _⟩
    · obtain rfl : j = s := by omega
      have hlt2 : ¬ ((j : Nat) : Int) < j := by omega
      simp [-Bool.exists_bool, hlt2, hw]
      exact ⟨k + 1, g, ⟨by omega, fun i hi => by
        rw [hg i hi]
        by_cases q : i = k
        · subst q; rw [if_neg (by omega), if_pos rfl, if_pos (by omega), hrow]
        · rw [if_neg q]
          by_cases q2 : i < k
          · rw [if_pos q2, if_pos (by omega)]
          · rw [if_neg q2, if_neg (by omega)]⟩, by omega, ⟨by rw [hsuc]; omega, by omega⟩, WkRs_refl _⟩
  · obtain rfl : k = n := by omega
    have hlt : ¬ ((k : Nat) : Int) < k := by omega
    have hsh := cellsF_share f k
    have hfr : (List.range k).map f = rngL P k := by
      unfold rngL
      refine List.map_congr_left fun i hi => ?_
      have hi' := List.mem_range.1 hi
      rw [hf i hi', if_pos hi']
    rw [hfr] at hsh
    have hlr : (rngL P k).length = k := by simp [rngL]
    have htk : List.take k (LL (rngL P k)) = LL (rngL P k) := List.take_of_length_le (by simp [hlr])
    simp [-Bool.exists_bool, hlt, hsh, hlr, htk]
    intro x hx
    exact List.all_eq_true.1 (LL_cell _) x hx
end Go.Proofs.Ytmfkliabjfngmaa

/- Group: members and groups; small functions. -/



set_option linter.unusedSimpArgs false
set_option linter.unusedVariables false
set_option maxHeartbeats 8000000
namespace Go.Proofs.Ytmfkliabjfngmaa

open Go.Av

structure Mb where
  id : ByteArray
  sn : Int
  sy : Bool
def Mb.cells (m : Mb) : List SV := [.str m.id, .int .i64 m.sn, .bool m.sy]
def Mb.sv (m : Mb) : SV := .agg m.cells
def mb0 : Mb := ⟨⟨#[]⟩, 0, false⟩
theorem Mb.sv_inj (a b : Mb) (h : a.sv = b.sv) : a = b := by
  cases a; cases b
  simp [Mb.sv, Mb.cells] at h
  simp [h.1, h.2.1, h.2.2]
def ML (l : List Mb) : List SV := l.map Mb.sv
@[simp] theorem ML_length (l : List Mb) : (ML l).length = l.length := by simp [ML]
theorem ML_inj (a b : List Mb) (h : ML a = ML b) : a = b := map_inj Mb.sv_inj _ _ h
theorem ML_get (l : List Mb) {i : Nat} (h : i < l.length) : (ML l)[i]?.getD .undef = (l.getD i mb0).sv := by simp [ML, List.getD_eq_getElem?_getD, h]
theorem ML_app (l m : List Mb) : ML (l ++ m) = ML l ++ ML m := by simp [ML]
theorem ML_take (l : List Mb) (n : Nat) : (ML l).take n = ML (l.take n) := by simp [ML]
theorem ML_drop (l : List Mb) (n : Nat) : (ML l).drop n = ML (l.drop n) := by simp [ML]
structure Grp where
  ge : Int
  ph : Int
  ms : List Mb
def Grp.cells (g : Grp) : List SV := [.int .i64 g.ge, .int .u8 g.ph, .sl 3 (ML g.ms)]
def Grp.sv (g : Grp) : SV := .agg g.cells
def grp0 : Grp := ⟨0, 0, []⟩
theorem Grp.sv_inj (a b : Grp) (h : a.sv = b.sv) : a = b := by
  cases a; cases b
  simp [Grp.sv, Grp.cells] at h
  simp [h.1, h.2.1, ML_inj _ _ h.2.2]
/-- Whether a time, and a name, may be. -/
def timeB (n : Int) : Bool := decide (0 ≤ n) && decide (n ≤ 1099511627776)
def nameB (s : ByteArray) : Bool := decide (1 ≤ s.size) && decide (s.size ≤ 32)
theorem time51 (n : Int) : Pure Try.prog 51 [.int .i64 n] (.sv (.bool (timeB n))) := by
  refine pure_go R0_ok Try.func51 Try.ntmps51 comp51 cres51 (by decide) (by simp) ?_
  unfold timeB
  simp [ac51, ar51, R0]
theorem time74 (n : Int) : Pure Try.prog 74 [.int .i64 n] (.sv (.bool (timeB n))) := by
  refine pure_go R0_ok Try.func74 Try.ntmps74 comp74 cres74 (by decide) (by simp) ?_
  unfold timeB
  simp [ac74, ar74, R0]
theorem name73 (s : ByteArray) : Pure Try.prog 73 [.str s] (.sv (.bool (nameB s))) := by
  refine pure_go R0_ok Try.func73 Try.ntmps73 comp73 cres73 (by decide) (by simp) ?_
  unfold nameB
  have h1 : decide ((1 : Int) ≤ s.size) = decide (1 ≤ s.size) := by rw [decide_eq_decide]; omega
  have h2 : decide ((s.size : Int) ≤ 32) = decide (s.size ≤ 32) := by rw [decide_eq_decide]; omega
  simp [ac73, ar73, R0, h1, h2]
theorem isEmpty_empty (s : ByteArray) : s.toList.isEmpty = decide (s = ByteArray.empty) := by
  have h : s = ByteArray.empty ↔ s.toList = [] := by
    rw [ByteArray.toList_eq]
    constructor
    · rintro rfl; rfl
    · intro h; exact bk_inj h
  rw [Bool.eq_iff_iff, decide_eq_true_eq, h]
  simp
theorem name50 (s : ByteArray) : Pure Try.prog 50 [.str s] (.sv (.bool (nameB s))) := by
  refine pure_go R0_ok Try.func50 Try.ntmps50 comp50 cres50 (by decide) (by simp) ?_
  unfold nameB
  have h0 := isEmpty_empty s
  have h1 : decide (1 ≤ s.size) = !decide (s.size = 0) := by rw [← decide_not, decide_eq_decide]; omega
  have h2 : decide ((s.size : Int) ≤ 32) = decide (s.size ≤ 32) := by rw [decide_eq_decide]; omega
  rw [h1]
  simp [ac50, ar50, R0, h0, h2]

/-! ### predicates over members -/
def idxM (p : Mb → Bool) : List Mb → Nat → Int
  | [], _ => -1
  | m :: l, i => if p m = true then i else idxM p l (i + 1)
theorem idxM_drop (p : Mb → Bool) (l : List Mb) {i : Nat} (h : i < l.length) : idxM p (l.drop i) i = if p (l.getD i mb0) = true then (i : Int) else idxM p (l.drop (i + 1)) (i + 1) := by
  rw [List.drop_eq_getElem_cons h, idxM, List.getD_eq_getElem?_getD, List.getElem?_eq_getElem h]
  rfl
open Classical in
noncomputable def RPd (pf : FuncId) (caps : List SV) (p : Mb → Bool) : Orc := {
  p := fun f l => match l with
    | .agg [.str a, .int .i64 b, .bool c] :: cs => if f = pf ∧ cs = caps then some (True, .sv (.bool (p ⟨a, b, c⟩))) else none
    | _ => none
  fv := fun f => f == pf }
theorem RPd_ok {pf : FuncId} {caps : List SV} {p : Mb → Bool} (hf : okFn Try.prog pf) (hp : ∀ r : Mb, Pure Try.prog pf (r.sv :: caps) (.sv (.bool (p r)))) : (RPd pf caps p).ok Try.prog := by
  refine ⟨fun f l c rv h hc => ?_, fun _ _ _ _ _ _ h => (by cases h), fun _ _ _ _ h => (by cases h), fun f h => ?_, fun _ _ _ _ _ _ h => (by cases h), fun _ _ _ _ _ _ _ h => (by cases h)⟩
  · simp only [RPd] at h
    split at h
    · split at h
      · rename_i q
        obtain ⟨rfl, rfl⟩ := q
        cases h
        exact hp ⟨_, _, _⟩
      · cases h
    · cases h
  · have : f = pf := by simpa [RPd] using h
    rw [this]; exact hf
theorem RPd_p (pf : FuncId) (caps : List SV) (p : Mb → Bool) (r : Mb) : (RPd pf caps p).p pf (.agg [.str r.id, .int .i64 r.sn, .bool r.sy] :: caps) = some (True, .sv (.bool (p r))) := by
  simp [RPd]
theorem RPd_fv (pf : FuncId) (caps : List SV) (p : Mb → Bool) : (RPd pf caps p).fv pf = true := by simp [RPd]
theorem idx_pure (pf : FuncId) (caps : List SV) (p : Mb → Bool) (hf : okFn Try.prog pf) (hp : ∀ r : Mb, Pure Try.prog pf (r.sv :: caps) (.sv (.bool (p r)))) (l : List Mb) (hl : l.length < 4611686018427387904) :
    Pure Try.prog 54 [.sl 3 (ML l), .fn pf [] caps] (.sv (.int .i64 (idxM p l 0))) := by
  refine pure_go (RPd_ok hf hp) Try.func54 Try.ntmps54 comp54 cres54 (by decide) (by simp) ?_
  simp [ac54, ar54]
  refine awpR_loop (α := Nat) (fun i => i ≤ l.length ∧ idxM p l 0 = idxM p (l.drop i) i) (fun i => { n := 19, sl := [(0, .sv (.sl 3 (ML l))), (1, .sv (.fn pf [] caps)), (7, .sv (.int .i64 l.length)), (8, .sv (.int .i64 i))], bx := [], hp := fun _ => none })
    (fun i => l.length - i) 0 ⟨by omega, rfl⟩ (by simp) ?_
  rintro i ⟨hi, he⟩
  by_cases h : i < l.length
  · have h1 : (i : Int) < l.length := by omega
    have hw := wrap_succ h hl
    have hg := ML_get l h
    have hiA : i < (ML l).length := by simpa using h
    have hg2 : (ML l)[i] = (l.getD i mb0).sv := by rw [← hg, List.getElem?_eq_getElem hiA]; rfl
    rw [idxM_drop _ _ h] at he
    generalize l.getD i mb0 = r at hg hg2 he
    have hpr := RPd_p pf caps p r
    have hfv := RPd_fv pf caps p
    generalize RPd pf caps p = R at hpr hfv ⊢
    cases hq : p r with
    | true =>
      rw [hq, if_pos rfl] at he
      rw [hq] at hpr
      simp [h1, hg, hg2, h, Mb.sv, Mb.cells, hw, hpr, hfv, he]
    | false =>
      rw [hq, if_neg (by simp)] at he
      rw [hq] at hpr
      simp [h1, hg, hg2, h, Mb.sv, Mb.cells, hw, hpr, hfv]
      exact ⟨i + 1, ⟨by omega, he⟩, by omega, by omega⟩
  · have h1 : ¬ (i : Int) < l.length := by omega
    obtain rfl : i = l.length := by omega
    rw [List.drop_length] at he
    simp [h1, he, idxM]

/-! ### the closures -/
theorem ok55 : okFn Try.prog 55 := ⟨_, Try.func55, rfl, rfl⟩
theorem ok64 : okFn Try.prog 64 := ⟨_, Try.func64, rfl, rfl⟩
theorem ok79 : okFn Try.prog 79 := ⟨_, Try.func79, rfl, rfl⟩
theorem ok83 : okFn Try.prog 83 := ⟨_, Try.func83, rfl, rfl⟩
def strC (s : ByteArray) : SV := .eptr (.agg [.str s]) 0
def intC (n : Int) : SV := .eptr (.agg [.int .i64 n]) 0
theorem gt_lts (a b : ByteArray) : (!(Op.bytesLess a.toList b.toList || a.toList == b.toList)) = lts b a := by
  have h1 := lts_iff a b
  have h2 := lts_iff b a
  have h3 : (a.toList == b.toList) = true ↔ bk a = bk b := by simp [ByteArray.toList_eq, bk]
  unfold lts at *
  rw [Bool.eq_iff_iff, h2]
  simp only [Bool.not_eq_true', Bool.or_eq_false_iff]
  constructor
  · rintro ⟨q1, q2⟩
    rcases Std.lt_trichotomy (bk a) (bk b) with h | h | h
    · rw [h1.2 h] at q1; cases q1
    · rw [h3.2 h] at q2; cases q2
    · exact h
  · intro h
    constructor
    · cases q : Op.bytesLess a.toList b.toList with
      | false => rfl
      | true => exact absurd (List.lt_trans h (h1.1 q)) (List.lt_irrefl _)
    · cases q : (a.toList == b.toList) with
      | false => rfl
      | true => rw [h3.1 q] at h; exact absurd h (List.lt_irrefl _)
theorem eq_id (a b : ByteArray) : (a.toList == b.toList) = decide (a = b) := by
  rw [Bool.eq_iff_iff]
  simp [ByteArray.toList_eq]
  exact ⟨fun h => bk_inj (by unfold bk; rw [h]), fun h => by rw [h]⟩
theorem clo55 (s : ByteArray) (m : Mb) : Pure Try.prog 55 (m.sv :: [strC s]) (.sv (.bool (lts s m.id))) := by
  refine pure_go R0_ok Try.func55 Try.ntmps55 comp55 cres55 (by decide) (by simp) ?_
  have := gt_lts m.id s
  simp only [Bool.not_or] at this
  simp [ac55, ar55, R0, Mb.sv, Mb.cells, strC, this]
theorem clo79 (s : ByteArray) (m : Mb) : Pure Try.prog 79 (m.sv :: [strC s]) (.sv (.bool (decide (m.id = s)))) := by
  refine pure_go R0_ok Try.func79 Try.ntmps79 comp79 cres79 (by decide) (by simp) ?_
  have := eq_id m.id s
  simp [ac79, ar79, R0, Mb.sv, Mb.cells, strC, this]
theorem clo83 (m : Mb) : Pure Try.prog 83 (m.sv :: []) (.sv (.bool (!m.sy))) := by
  refine pure_go R0_ok Try.func83 Try.ntmps83 comp83 cres83 (by decide) (by simp) ?_
  simp [ac83, ar83, R0, Mb.sv, Mb.cells]
/-- Was a member not seen for too long? -/
def lateM (now pat : Int) (m : Mb) : Bool := decide (max 0 pat < IntKind.i64.wrap (now - m.sn))
theorem clo64 (now pat : Int) (m : Mb) : Pure Try.prog 64 (m.sv :: [intC now, intC pat]) (.sv (.bool (lateM now pat m))) := by
  refine pure_go R0_ok Try.func64 Try.ntmps64 comp64 cres64 (by decide) (by simp) ?_
  have h : (if pat > 0 then pat else 0) = max 0 pat := by split <;> omega
  simp [ac64, ar64, R0, Mb.sv, Mb.cells, intC, lateM]
  have h2 : (if 0 < pat then pat else 0) = max 0 pat := by split <;> omega
  rw [h2]
theorem clone_pure (l : List Mb) (hl : l.length ≤ 1000) : Pure Try.prog 58 [.sl 3 (ML l)] (.own 3 (ML l)) := by
  refine pure_go R0_ok Try.func58 Try.ntmps58 comp58 cres58 (by decide) (by simp) ?_
  cases l with
  | nil => simp [ac58, ar58, R0, ML]
  | cons m l =>
    simp at hl
    simp [ac58, ar58, R0, ML, Mb.sv, Mb.cells]
    omega
end Go.Proofs.Ytmfkliabjfngmaa

/- Group: place, phase, Check, Names, Same, light. -/

set_option linter.unusedSimpArgs false
set_option linter.unusedVariables false
set_option maxHeartbeats 8000000
namespace Go.Proofs.Ytmfkliabjfngmaa

open Go.Av

def placeP (id : ByteArray) (l : List Mb) : Int := idxM (fun m => decide (m.id = id)) l 0
def phaseP (l : List Mb) : Int := if l = [] then 0 else if l.any (fun m => !m.sy) = true then 1 else 2
theorem idxM_neg (p : Mb → Bool) : ∀ (l : List Mb) (i : Nat), (0 ≤ idxM p l i ↔ l.any p = true)
  | [], i => by simp [idxM]
  | m :: l, i => by
    rw [idxM]
    by_cases q : p m = true
    · rw [if_pos q]; simp [q]
    · rw [if_neg q, idxM_neg p l (i + 1)]; simp [q]
def eML (l : List Mb) : List SV := [.sl 3 (ML l)]
theorem eML_inj (a b : List Mb) (h : eML a = eML b) : a = b := by simp [eML] at h; exact ML_inj _ _ h
def eMF (pf : FuncId) (l : List Mb) : List SV := [.sl 3 (ML l), .fn pf [] []]
theorem eMF_inj (pf : FuncId) (a b : List Mb) (h : eMF pf a = eMF pf b) : a = b := by simp [eMF] at h; exact ML_inj _ _ h
def eMS (p : List Mb × ByteArray) : List SV := [.sl 3 (ML p.1), .fn 79 [] [strC p.2]]
theorem eMS_inj (a b : List Mb × ByteArray) (h : eMS a = eMS b) : a = b := by simp [eMS, strC] at h; exact Prod.ext (ML_inj _ _ h.1) h.2
/-- The first member that is not synced; then whether there is one. -/
noncomputable def RgA : Orc := { p := fun f l => match f with
    | 54 => row (eMF 83) (fun a => (a.length < 4611686018427387904, .sv (.int .i64 (idxM (fun m => !m.sy) a 0)))) l
    | _ => none }
theorem RgA_ok : RgA.ok Try.prog := by
  refine ⟨fun f l c rv h hc => ?_, fun _ _ _ _ _ _ h => (by cases h), fun _ _ _ _ h => (by cases h), fun _ h => (by cases h), fun _ _ _ _ _ _ h => (by cases h), fun _ _ _ _ _ _ _ h => (by cases h)⟩
  simp only [RgA] at h
  split at h
  · exact row_ok h hc (fun p hp => idx_pure 83 [] _ ok83 clo83 p hp)
  · cases h
theorem RgA_54 (l : List Mb) : RgA.p 54 [.sl 3 (ML l), .fn 83 [] []] = some (l.length < 4611686018427387904, .sv (.int .i64 (idxM (fun m => !m.sy) l 0))) := row_eq (eMF_inj 83) _ l
theorem contains_pure (l : List Mb) (hl : l.length < 4611686018427387904) : Pure Try.prog 82 [.sl 3 (ML l), .fn 83 [] []] (.sv (.bool (l.any fun m => !m.sy))) := by
  have e1 := RgA_54 l
  have hR := RgA_ok
  generalize RgA = R at hR e1
  refine pure_go hR Try.func82 Try.ntmps82 comp82 cres82 (by decide) (by simp) ?_
  have h := idxM_neg (fun m => !m.sy) l 0
  have h2 : decide (0 ≤ idxM (fun m => !m.sy) l 0) = l.any (fun m => !m.sy) := by rw [Bool.eq_iff_iff, decide_eq_true_eq, h]
  generalize idxM (fun m => !m.sy) l 0 = z at *
  generalize (l.any fun m => !m.sy) = y at *
  simp [ac82, ar82, e1, hl, h2]
noncomputable def RgB : Orc := { p := fun f l => match f with
    | 82 => row (eMF 83) (fun a => (a.length < 4611686018427387904, .sv (.bool (a.any fun m => !m.sy)))) l
    | _ => none }
theorem RgB_ok : RgB.ok Try.prog := by
  refine ⟨fun f l c rv h hc => ?_, fun _ _ _ _ _ _ h => (by cases h), fun _ _ _ _ h => (by cases h), fun _ h => (by cases h), fun _ _ _ _ _ _ h => (by cases h), fun _ _ _ _ _ _ _ h => (by cases h)⟩
  simp only [RgB] at h
  split at h
  · exact row_ok h hc (fun p hp => contains_pure p hp)
  · cases h
theorem RgB_82 (l : List Mb) : RgB.p 82 [.sl 3 (ML l), .fn 83 [] []] = some (l.length < 4611686018427387904, .sv (.bool (l.any fun m => !m.sy))) := row_eq (eMF_inj 83) _ l
theorem phase_pure (l : List Mb) (hl : l.length < 4611686018427387904) : Pure Try.prog 65 [.sl 3 (ML l)] (.sv (.int .u8 (phaseP l))) := by
  have e1 := RgB_82 l
  have hR := RgB_ok
  generalize RgB = R at hR e1
  refine pure_go hR Try.func65 Try.ntmps65 comp65 cres65 (by decide) (by simp) ?_
  unfold phaseP
  by_cases h0 : l = []
  · subst h0
    have hL : ML [] = [] := rfl
    simp [ac65, ar65, hL]
  have hn0 : ¬ (l.length : Int) = 0 := fun z => h0 (List.length_eq_zero_iff.1 (by omega))
  have hn1 : ((l.length : Int) == 0) = false := by simpa using hn0
  have hn2 : ¬ l.length = 0 := by omega
  cases q : l.any (fun m => !m.sy) with
  | true =>
    rw [q] at e1
    simp [ac65, ar65, h0, hn0, hn1, hn2, e1, hl]
  | false =>
    rw [q] at e1
    simp [ac65, ar65, h0, hn0, hn1, hn2, e1, hl]
noncomputable def RgC : Orc := { p := fun f l => match f with
    | 54 => row eMS (fun p => (p.1.length < 4611686018427387904, .sv (.int .i64 (placeP p.2 p.1)))) l
    | _ => none }
theorem RgC_ok : RgC.ok Try.prog := by
  refine ⟨fun f l c rv h hc => ?_, fun _ _ _ _ _ _ h => (by cases h), fun _ _ _ _ h => (by cases h), fun _ h => (by cases h), fun _ _ _ _ _ _ h => (by cases h), fun _ _ _ _ _ _ _ h => (by cases h)⟩
  simp only [RgC] at h
  split at h
  · exact row_ok h hc (fun p hp => idx_pure 79 [strC p.2] _ ok79 (clo79 p.2) p.1 hp)
  · cases h
theorem RgC_54 (l : List Mb) (s : ByteArray) : RgC.p 54 [.sl 3 (ML l), .fn 79 [] [.eptr (.agg [.str s]) 0]] = some (l.length < 4611686018427387904, .sv (.int .i64 (placeP s l))) := row_eq eMS_inj _ (l, s)
theorem place_pure (g : Grp) (s : ByteArray) (hl : g.ms.length < 4611686018427387904) : Pure Try.prog 49 [g.sv, .str s] (.sv (.int .i64 (placeP s g.ms))) := by
  have e1 := RgC_54 g.ms s
  have hR := RgC_ok
  have hnf : RgC.nofz = false := rfl
  generalize RgC = R at hR e1 hnf
  refine pure_go hR Try.func49 Try.ntmps49 comp49 cres49 (by decide) (by simp) ?_
  obtain ⟨a, b, l⟩ := g
  simp only at *
  simp [ac49, ar49, Grp.sv, Grp.cells, hnf, e1, hl]
theorem rplace_pure (g : Grp) (s : ByteArray) (hl : g.ms.length < 4611686018427387904) : Pure Try.prog 71 [g.sv, .str s] (.sv (.int .i64 (placeP s g.ms))) := by
  refine pure_go R0_ok Try.func71 Try.ntmps71 comp71 cres71 (by decide) (by simp) ?_
  obtain ⟨a, b, l⟩ := g
  simp only at *
  simp [ac71, ar71, R0, Grp.sv, Grp.cells]
  unfold placeP
  refine awpR_loop (α := Nat) (fun i => i ≤ l.length ∧ idxM (fun m => decide (m.id = s)) l 0 = idxM (fun m => decide (m.id = s)) (l.drop i) i) (fun i => { n := 22, sl := [(1, .sv (.str s)), (2, .lptr 2 0), (5, .sv (.int .i64 i))], bx := [(2, [.sv (.int .i64 a), .sv (.int .u8 b), .sv (.sl 3 (ML l))])], hp := fun _ => none })
    (fun i => l.length - i) 0 ⟨by omega, rfl⟩ (by simp) ?_
  rintro i ⟨hi, he⟩
  by_cases h : i < l.length
  · have h1 : (i : Int) < l.length := by omega
    have hw := wrap_succ h hl
    have hg := ML_get l h
    have hiA : i < (ML l).length := by simpa using h
    have hg2 : (ML l)[i] = (l.getD i mb0).sv := by rw [← hg, List.getElem?_eq_getElem hiA]; rfl
    rw [idxM_drop _ _ h] at he
    generalize l.getD i mb0 = r at hg hg2 he
    have hid := eq_id r.id s
    by_cases hq : r.id = s
    · rw [if_pos (by simpa using hq)] at he
      rw [decide_eq_true hq] at hid
      have hid2 : r.id.toList = s.toList := by simpa using hid
      simp [h1, hg, hg2, h, Mb.sv, Mb.cells, hw, hid, hid2, he]
    · rw [if_neg (by simpa using hq)] at he
      rw [decide_eq_false hq] at hid
      have hid2 : ¬ r.id.toList = s.toList := by simpa using hid
      simp [h1, hg, hg2, h, Mb.sv, Mb.cells, hw, hid, hid2]
      exact ⟨i + 1, ⟨by omega, he⟩, by omega, by omega⟩
  · have h1 : ¬ (i : Int) < l.length := by omega
    obtain rfl : i = l.length := by omega
    rw [List.drop_length] at he
    simp [h1, he, idxM]
/-- All are synced, and some are. -/
def synP (l : List Mb) : Bool := l.all (fun m => m.sy) && decide (0 < l.length)
theorem allM_drop (p : Mb → Bool) (l : List Mb) {i : Nat} (h : i < l.length) : (l.drop i).all p = (p (l.getD i mb0) && (l.drop (i + 1)).all p) := by
  rw [List.drop_eq_getElem_cons h, List.all_cons, List.getD_eq_getElem?_getD, List.getElem?_eq_getElem h]
  rfl
theorem synced_pure (g : Grp) (hl : g.ms.length < 4611686018427387904) : Pure Try.prog 77 [g.sv] (.sv (.bool (synP g.ms))) := by
  refine pure_go R0_ok Try.func77 Try.ntmps77 comp77 cres77 (by decide) (by simp) ?_
  obtain ⟨a, b, l⟩ := g
  simp only at *
  unfold synP
  simp [ac77, ar77, R0, Grp.sv, Grp.cells]
  refine awpR_loop (α := Nat) (fun i => i ≤ l.length ∧ l.all (fun m => m.sy) = (l.drop i).all (fun m => m.sy)) (fun i => { n := 22, sl := [(1, .lptr 1 0), (3, .sv (.int .i64 i))], bx := [(1, [.sv (.int .i64 a), .sv (.int .u8 b), .sv (.sl 3 (ML l))])], hp := fun _ => none })
    (fun i => l.length - i) 0 ⟨by omega, rfl⟩ (by simp) ?_
  rintro i ⟨hi, he⟩
  by_cases h : i < l.length
  · have h1 : (i : Int) < l.length := by omega
    have hw := wrap_succ h hl
    have hg := ML_get l h
    have hiA : i < (ML l).length := by simpa using h
    have hg2 : (ML l)[i] = (l.getD i mb0).sv := by rw [← hg, List.getElem?_eq_getElem hiA]; rfl
    rw [allM_drop _ _ h] at he
    generalize l.getD i mb0 = r at hg hg2 he
    cases hq : r.sy with
    | true =>
      rw [hq, Bool.true_and] at he
      simp [h1, hg, hg2, h, Mb.sv, Mb.cells, hw, hq]
      exact ⟨i + 1, ⟨by omega, by simpa using he⟩, by omega, by omega⟩
    | false =>
      rw [hq, Bool.false_and] at he
      simp [h1, hg, hg2, h, Mb.sv, Mb.cells, hw, hq]
      intro z
      have : l.all (fun m => m.sy) = true := List.all_eq_true.2 (fun x hx => z x hx)
      rw [this] at he; cases he
  · have h1 : ¬ (i : Int) < l.length := by omega
    obtain rfl : i = l.length := by omega
    rw [List.drop_length] at he
    simp [h1]
    rw [List.all_nil] at he
    exact fun _ x hx => by simpa using List.all_eq_true.1 he x hx
/-- The members' names. -/
def namesP (l : List Mb) : List ByteArray := l.map Mb.id
theorem names_snoc {l : List Mb} {i : Nat} (h : i < l.length) : namesP (l.take (i + 1)) = namesP (l.take i) ++ [(l.getD i mb0).id] := by
  unfold namesP
  rw [List.take_succ_eq_append_getElem h, List.getD_eq_getElem?_getD, List.getElem?_eq_getElem h, List.map_append]
  rfl
theorem names_pure (g : Grp) (hl : g.ms.length ≤ 1000) : Pure Try.prog 35 [g.sv] (.own 1 (TL (namesP g.ms))) := by
  refine pure_go R0_ok Try.func35 Try.ntmps35 comp35 cres35 (by decide) (by simp) ?_
  obtain ⟨a, b, l⟩ := g
  simp only at *
  simp [ac35, ar35, R0, Grp.sv, Grp.cells]
  refine awpR_loop (α := Nat) (fun i => i ≤ l.length) (fun i => { n := 20, sl := [(3, .own 1 (TL (namesP (l.take i)))), (7, .sv (.sl 3 (ML l))), (8, .sv (.int .i64 l.length)), (9, .sv (.int .i64 i))], bx := [], hp := fun _ => none })
    (fun i => l.length - i) 0 (by omega) (by simp [namesP, TL]) ?_
  intro i hi
  by_cases h : i < l.length
  · have h1 : (i : Int) < l.length := by omega
    have hw := wrap_succ h (show l.length < 4611686018427387904 by omega)
    have hg := ML_get l h
    have hiA : i < (ML l).length := by simpa using h
    have hg2 : (ML l)[i] = (l.getD i mb0).sv := by rw [← hg, List.getElem?_eq_getElem hiA]; rfl
    have hs := names_snoc h
    have hlen : (namesP (l.take i)).length = i := by simp [namesP]; omega
    generalize l.getD i mb0 = r at *
    generalize namesP (l.take i) = z at *
    simp [h1, hg, hg2, h, Mb.sv, Mb.cells, hw, hlen]
    exact ⟨by omega, i + 1, by omega, by omega, by rw [hs, TL_app]; rfl, by omega⟩
  · have h1 : ¬ (i : Int) < l.length := by omega
    obtain rfl : i = l.length := by omega
    simp [h1]
theorem rnames_pure (g : Grp) (hl : g.ms.length ≤ 1000) : Pure Try.prog 78 [g.sv] (.own 1 (TL (namesP g.ms))) := by
  refine pure_go R0_ok Try.func78 Try.ntmps78 comp78 cres78 (by decide) (by simp) ?_
  obtain ⟨a, b, l⟩ := g
  simp only at *
  simp [ac78, ar78, R0, Grp.sv, Grp.cells]
  refine awpR_loop (α := Nat) (fun i => i ≤ l.length) (fun i => { n := 22, sl := [(1, .lptr 1 0), (3, .own 1 (TL (namesP (l.take i)))), (4, .sv (.int .i64 i))], bx := [(1, [.sv (.int .i64 a), .sv (.int .u8 b), .sv (.sl 3 (ML l))])], hp := fun _ => none })
    (fun i => l.length - i) 0 (by omega) (by simp [namesP, TL]) ?_
  intro i hi
  by_cases h : i < l.length
  · have h1 : (i : Int) < l.length := by omega
    have hw := wrap_succ h (show l.length < 4611686018427387904 by omega)
    have hg := ML_get l h
    have hiA : i < (ML l).length := by simpa using h
    have hg2 : (ML l)[i] = (l.getD i mb0).sv := by rw [← hg, List.getElem?_eq_getElem hiA]; rfl
    have hs := names_snoc h
    have hlen : (namesP (l.take i)).length = i := by simp [namesP]; omega
    generalize l.getD i mb0 = r at *
    generalize namesP (l.take i) = z at *
    simp [h1, hg, hg2, h, Mb.sv, Mb.cells, hw, hlen]
    exact ⟨by omega, i + 1, by omega, by omega, by rw [hs, TL_app]; rfl, by omega⟩
  · have h1 : ¬ (i : Int) < l.length := by omega
    obtain rfl : i = l.length := by omega
    simp [h1]
/-- A group with a list of its own. -/
theorem take_snocM {l : List Mb} {i : Nat} (h : i < l.length) : l.take (i + 1) = l.take i ++ [l.getD i mb0] := by
  rw [List.take_succ_eq_append_getElem h, List.getD_eq_getElem?_getD, List.getElem?_eq_getElem h]; rfl
theorem own_pure (g : Grp) (hl : g.ms.length ≤ 1000) : Pure Try.prog 25 [g.sv] (.sv g.sv) := by
  refine pure_go R0_ok Try.func25 Try.ntmps25 comp25 cres25 (by decide) (by simp) ?_
  obtain ⟨a, b, l⟩ := g
  simp only at *
  simp [ac25, ar25, R0, Grp.sv, Grp.cells]
  refine awpR_loop (α := Nat) (fun i => i ≤ l.length) (fun i => { n := 26, sl := [(1, .lptr 1 0), (2, .lptr 2 0), (3, .own 3 (ML (l.take i))), (4, .sv (.int .i64 i))], bx := [(1, [.sv (.int .i64 a), .sv (.int .u8 b), .sv (.sl 3 (ML l))]), (2, [.sv (.int .i64 0), .sv (.int .u8 0), .sv .nils])], hp := fun _ => none })
    (fun i => l.length - i) 0 (by omega) (by simp [ML]) ?_
  intro i hi
  by_cases h : i < l.length
  · have h1 : (i : Int) < l.length := by omega
    have hw := wrap_succ h (show l.length < 4611686018427387904 by omega)
    have hg := ML_get l h
    have hiA : i < (ML l).length := by simpa using h
    have hg2 : (ML l)[i] = (l.getD i mb0).sv := by rw [← hg, List.getElem?_eq_getElem hiA]; rfl
    have hs := take_snocM h
    have hlen : (l.take i).length = i := by simp; omega
    generalize l.getD i mb0 = r at *
    generalize l.take i = z at *
    simp [h1, hg, hg2, h, Mb.sv, Mb.cells, hw, hlen]
    exact ⟨by omega, i + 1, by omega, by omega, by rw [hs, ML_app]; rfl, by omega⟩
  · have h1 : ¬ (i : Int) < l.length := by omega
    obtain rfl : i = l.length := by omega
    simp [h1]
theorem as_pure (g : Grp) (hl : g.ms.length ≤ 1000) : Pure Try.prog 28 [g.sv] (.sv g.sv) := by
  refine pure_go R0_ok Try.func28 Try.ntmps28 comp28 cres28 (by decide) (by simp) ?_
  obtain ⟨a, b, l⟩ := g
  simp only at *
  simp [ac28, ar28, R0, Grp.sv, Grp.cells]
  refine awpR_loop (α := Nat) (fun i => i ≤ l.length) (fun i => { n := 26, sl := [(1, .lptr 1 0), (2, .lptr 2 0), (3, .own 3 (ML (l.take i))), (4, .sv (.int .i64 i))], bx := [(1, [.sv (.int .i64 a), .sv (.int .u8 b), .sv (.sl 3 (ML l))]), (2, [.sv (.int .i64 0), .sv (.int .u8 0), .sv .nils])], hp := fun _ => none })
    (fun i => l.length - i) 0 (by omega) (by simp [ML]) ?_
  intro i hi
  by_cases h : i < l.length
  · have h1 : (i : Int) < l.length := by omega
    have hw := wrap_succ h (show l.length < 4611686018427387904 by omega)
    have hg := ML_get l h
    have hiA : i < (ML l).length := by simpa using h
    have hg2 : (ML l)[i] = (l.getD i mb0).sv := by rw [← hg, List.getElem?_eq_getElem hiA]; rfl
    have hs := take_snocM h
    have hlen : (l.take i).length = i := by simp; omega
    generalize l.getD i mb0 = r at *
    generalize l.take i = z at *
    simp [h1, hg, hg2, h, Mb.sv, Mb.cells, hw, hlen]
    exact ⟨by omega, i + 1, by omega, by omega, by rw [hs, ML_app]; rfl, by omega⟩
  · have h1 : ¬ (i : Int) < l.length := by omega
    obtain rfl : i = l.length := by omega
    simp [h1]
end Go.Proofs.Ytmfkliabjfngmaa

/- Group: Check, Same, light. -/

set_option linter.unusedSimpArgs false
set_option linter.unusedVariables false
set_option maxHeartbeats 8000000
namespace Go.Proofs.Ytmfkliabjfngmaa

open Go.Av

noncomputable def RgDp (f : FuncId) (l : List SV) : Option (Prop × LV) :=
  match f with
  | 50 => row eStr (fun s => (True, .sv (.bool (nameB s)))) l
  | 73 => row eStr (fun s => (True, .sv (.bool (nameB s)))) l
  | 51 => row eI (fun n => (True, .sv (.bool (timeB n)))) l
  | 74 => row eI (fun n => (True, .sv (.bool (timeB n)))) l
  | 65 => row eML (fun a => (a.length < 4611686018427387904, .sv (.int .u8 (phaseP a)))) l
  | 77 => row (fun g : Grp => [g.sv]) (fun g => (g.ms.length < 4611686018427387904, .sv (.bool (synP g.ms)))) l
  | _ => none
noncomputable def RgD : Orc := { p := RgDp }
theorem eG_inj (a b : Grp) (h : [a.sv] = [b.sv]) : a = b := by simp at h; exact Grp.sv_inj _ _ h
theorem RgD_ok : RgD.ok Try.prog := by
  refine ⟨fun f l c rv h hc => ?_, fun _ _ _ _ _ _ h => (by cases h), fun _ _ _ _ h => (by cases h), fun _ h => (by cases h), fun _ _ _ _ _ _ h => (by cases h), fun _ _ _ _ _ _ _ h => (by cases h)⟩
  change RgDp f l = _ at h
  unfold RgDp at h
  split at h
  · exact row_ok h hc (fun x hp => name50 x)
  · exact row_ok h hc (fun x hp => name73 x)
  · exact row_ok h hc (fun x hp => time51 x)
  · exact row_ok h hc (fun x hp => time74 x)
  · exact row_ok h hc (fun x hp => phase_pure x hp)
  · exact row_ok h hc (fun x hp => synced_pure x hp)
  · cases h
theorem RgD_50 (s : ByteArray) : RgD.p 50 [.str s] = some (True, .sv (.bool (nameB s))) := row_eq eStr_inj _ s
theorem RgD_73 (s : ByteArray) : RgD.p 73 [.str s] = some (True, .sv (.bool (nameB s))) := row_eq eStr_inj _ s
theorem RgD_51 (n : Int) : RgD.p 51 [.int .i64 n] = some (True, .sv (.bool (timeB n))) := row_eq eI_inj _ n
theorem RgD_74 (n : Int) : RgD.p 74 [.int .i64 n] = some (True, .sv (.bool (timeB n))) := row_eq eI_inj _ n
theorem RgD_65 (l : List Mb) : RgD.p 65 [.sl 3 (ML l)] = some (l.length < 4611686018427387904, .sv (.int .u8 (phaseP l))) := row_eq eML_inj _ l
theorem RgD_77 (g : Grp) : RgD.p 77 [.agg [.int .i64 g.ge, .int .u8 g.ph, .sl 3 (ML g.ms)]] = some (g.ms.length < 4611686018427387904, .sv (.bool (synP g.ms))) := row_eq (enc := fun g : Grp => [g.sv]) eG_inj _ g
/-- Is a member such as may not be? -/
def badAt (l : List Mb) (i : Nat) : Bool := !nameB (l.getD i mb0).id || (!timeB (l.getD i mb0).sn || (decide (0 < i) && !lts (l.getD (i - 1) mb0).id (l.getD i mb0).id))
def badM (l : List Mb) : Bool := (List.range l.length).any (badAt l)
theorem badM_at {l : List Mb} {i : Nat} (h : i < l.length) (hb : badAt l i = true) : badM l = true := List.any_eq_true.2 ⟨i, List.mem_range.2 h, hb⟩
theorem badM_no {l : List Mb} (h : ∀ j, j < l.length → badAt l j = false) : badM l = false := by
  cases q : badM l with
  | false => rfl
  | true =>
    obtain ⟨i, hi, hb⟩ := List.any_eq_true.1 q
    rw [h i (List.mem_range.1 hi)] at hb
    cases hb
/-- Whether a group may be. -/
def chkG (g : Grp) : Int := if 16 < g.ms.length ∨ timeB g.ge = false ∨ g.ph ≠ phaseP g.ms ∨ badM g.ms = true then 4 else 0
theorem chk_pure (g : Grp) (hl : g.ms.length < 4611686018427387904) : Pure Try.prog 34 [g.sv] (.sv (.int .i64 (chkG g))) := by
  have e50 := RgD_50
  have e51 := RgD_51
  have e65 := RgD_65 g.ms
  have hR := RgD_ok
  generalize RgD = R at hR e50 e51 e65
  refine pure_go hR Try.func34 Try.ntmps34 comp34 cres34 (by decide) (by simp) ?_
  unfold chkG
  obtain ⟨a, b, l⟩ := g
  simp only at *
  have e51a := e51 a
  by_cases h16 : 16 < l.length
  · have h16' : (16 : Int) < l.length := by omega
    rw [if_pos (.inl h16)]
    simp [ac34, ar34, Grp.sv, Grp.cells, h16, h16', e51a, e65, hl]
  have h16' : ¬ (16 : Int) < l.length := by omega
  cases ht : timeB a with
  | false =>
    rw [ht] at e51a
    rw [if_pos (.inr (.inl rfl))]
    simp [ac34, ar34, Grp.sv, Grp.cells, h16, h16', e51a, e65, hl]
  | true =>
    rw [ht] at e51a
    by_cases hp : b = phaseP l
    case neg =>
      have hpb : (b == phaseP l) = false := by simpa using hp
      rw [if_pos (.inr (.inr (.inl hp)))]
      simp [ac34, ar34, Grp.sv, Grp.cells, h16, h16', e51a, e65, hl, bne, hpb]
    rw [← hp] at e65
    simp [ac34, ar34, Grp.sv, Grp.cells, h16, h16', e51a, e65, hl]
    refine awpR_loop (α := Nat) (fun i => i ≤ l.length ∧ ∀ j, j < i → badAt l j = false) (fun i => { n := 58, sl := [(1, .lptr 1 0), (24, .sv (.sl 3 (ML l))), (25, .sv (.int .i64 l.length)), (26, .sv (.int .i64 i))], bx := [(1, [.sv (.int .i64 a), .sv (.int .u8 b), .sv (.sl 3 (ML l))])], hp := fun _ => none })
      (fun i => l.length - i) 0 ⟨by omega, by simp⟩ (by simp) ?_
    rintro i ⟨hi, he⟩
    by_cases h : i < l.length
    · have h1 : (i : Int) < l.length := by omega
      have hw := wrap_succ h hl
      have hg := ML_get l h
      have hiA : i < (ML l).length := by simpa using h
      have hg2 : (ML l)[i] = (l.getD i mb0).sv := by rw [← hg, List.getElem?_eq_getElem hiA]; rfl
      have hbad : badAt l i = (!nameB (l.getD i mb0).id || (!timeB (l.getD i mb0).sn || (decide (0 < i) && !lts (l.getD (i - 1) mb0).id (l.getD i mb0).id))) := rfl
      have hyes := @badM_at l i h
      have e50 := e50 (l.getD i mb0).id
      have e51 := e51 (l.getD i mb0).sn
      have h3 : i - 1 < l.length := by omega
      have h3' : ((i - 1 : Nat) : Int) < l.length := by omega
      have hg3 := ML_get l h3
      have hg4 : (ML l)[i - 1]'(by simpa using h3) = (l.getD (i - 1) mb0).sv := by rw [← hg3, List.getElem?_eq_getElem]; rfl
      have hwm : IntKind.i64.wrap (-1) = -1 := by decide
      have hstep : badAt l i = false → ∀ j, j < i + 1 → badAt l j = false := fun hb j hj => by
        by_cases q : j = i
        · rw [q]; exact hb
        · exact he j (by omega)
      generalize badAt l i = z at *
      by_cases h0 : 0 < i
      · have h0' : (0 : Int) < i := by omega
        have hw3 : IntKind.i64.wrap ((i : Int) - 1) = ((i - 1 : Nat) : Int) := by rw [IntKind.wrap_i64]; omega
        generalize l.getD i mb0 = r at *
        generalize l.getD (i - 1) mb0 = r0 at *
        have hlt : lts r0.id r.id = Op.bytesLess r0.id.toList r.id.toList := rfl
        rw [hlt] at hbad
        rw [decide_eq_true h0, Bool.true_and] at hbad
        generalize nameB r.id = nb at *
        generalize timeB r.sn = tb at *
        generalize hlb : Op.bytesLess r0.id.toList r.id.toList = lb at *
        subst hbad
        cases nb <;> cases tb <;> cases lb <;> simp at hyes hstep <;> simp [h1, hg, hg2, h, Mb.sv, Mb.cells, hw, e50, e51, h0, h0', hw3, h3, h3', hg3, hg4, hyes, hlb]
        exact ⟨i + 1, ⟨by omega, hstep⟩, by omega, by omega⟩
      · obtain rfl : i = 0 := by omega
        have hwo : IntKind.i64.wrap 1 = 1 := by decide
        generalize l.getD 0 mb0 = r at *
        rw [decide_eq_false h0, Bool.false_and, Bool.or_false] at hbad
        generalize nameB r.id = nb at *
        generalize timeB r.sn = tb at *
        subst hbad
        cases nb <;> cases tb <;> simp at hyes hstep <;> simp [h1, hg, hg2, h, Mb.sv, Mb.cells, hw, hwm, e50, e51, hyes, hwo]
        exact ⟨1, ⟨by omega, by simpa using hstep⟩, by omega, by omega⟩
    · have h1 : ¬ (i : Int) < l.length := by omega
      obtain rfl : i = l.length := by omega
      have hno := badM_no he
      simp [h1, hno]
      exact hp
end Go.Proofs.Ytmfkliabjfngmaa

/- Group: the document's Check; Same; light; the document's turn. -/

set_option linter.unusedSimpArgs false
set_option linter.unusedVariables false
set_option maxHeartbeats 8000000
namespace Go.Proofs.Ytmfkliabjfngmaa

open Go.Av

theorem phase_iff {l : List Mb} {p : Int} (h0 : 0 ≤ p) : (p ≤ 2 ∧ (p = 0 ↔ l.length = 0) ∧ (p = 2 ↔ synP l = true)) ↔ p = phaseP l := by
  unfold phaseP synP
  by_cases hl : l = []
  · subst hl
    simp
    constructor
    · rintro ⟨h1, h2, h3⟩; omega
    · rintro rfl; simp
  · have hl2 : ¬ l.length = 0 := fun z => hl (List.length_eq_zero_iff.1 z)
    have hl3 : 0 < l.length := by omega
    rw [if_neg hl]
    by_cases q : l.any (fun m => !m.sy) = true
    · rw [if_pos q]
      have : l.all (fun m => m.sy) = false := by
        cases z : l.all (fun m => m.sy) with
        | false => rfl
        | true =>
          obtain ⟨m, hm, hs⟩ := List.any_eq_true.1 q
          have := List.all_eq_true.1 z m hm
          rw [this] at hs; cases hs
      rw [this]
      simp [hl2]
      omega
    · rw [if_neg q]
      have : l.all (fun m => m.sy) = true := by
        refine List.all_eq_true.2 fun m hm => ?_
        cases z : m.sy with
        | true => rfl
        | false => exact absurd (List.any_eq_true.2 ⟨m, hm, by simp [z]⟩) q
      rw [this]
      simp [hl2, hl3]
      omega
theorem rchk_pure (g : Grp) (hl : g.ms.length < 4611686018427387904) (hph : 0 ≤ g.ph) : Pure Try.prog 72 [g.sv] (.sv (.int .i64 (chkG g))) := by
  have e73 := RgD_73
  have e74 := RgD_74
  have e77 := RgD_77 g
  have hR := RgD_ok
  generalize RgD = R at hR e73 e74 e77
  refine pure_go hR Try.func72 Try.ntmps72 comp72 cres72 (by decide) (by simp) ?_
  obtain ⟨a, b, l⟩ := g
  simp only at *
  have hpi := @phase_iff l b hph
  have e74a := e74 a
  by_cases h16 : 16 < l.length
  · have h16' : (16 : Int) < l.length := by omega
    have hv : chkG ⟨a, b, l⟩ = 4 := if_pos (.inl h16)
    rw [hv]
    simp [ac72, ar72, Grp.sv, Grp.cells, h16, h16', e74a]
  have h16' : ¬ (16 : Int) < l.length := by omega
  cases ht : timeB a with
  | false =>
    rw [ht] at e74a
    have hv : chkG ⟨a, b, l⟩ = 4 := if_pos (.inr (.inl ht))
    rw [hv]
    simp [ac72, ar72, Grp.sv, Grp.cells, h16, h16', e74a]
  | true =>
    rw [ht] at e74a
    by_cases hb2 : 2 < b
    · have hp : b ≠ phaseP l := fun z => by have := hpi.2 z; omega
      have hv : chkG ⟨a, b, l⟩ = 4 := if_pos (.inr (.inr (.inl hp)))
      rw [hv]
      simp [ac72, ar72, Grp.sv, Grp.cells, h16, h16', e74a, hb2]
    simp [ac72, ar72, Grp.sv, Grp.cells, h16, h16', e74a, hb2]
    refine awpR_loop (α := Nat) (fun i => i ≤ l.length ∧ ∀ j, j < i → badAt l j = false) (fun i => { n := 74, sl := [(1, .lptr 1 0), (3, .sv (.int .i64 i))], bx := [(1, [.sv (.int .i64 a), .sv (.int .u8 b), .sv (.sl 3 (ML l))])], hp := fun _ => none })
      (fun i => l.length - i) 0 ⟨by omega, by simp⟩ (by simp) ?_
    rintro i ⟨hi, he⟩
    by_cases h : i < l.length
    · have h1 : (i : Int) < l.length := by omega
      have hw := wrap_succ h hl
      have hg := ML_get l h
      have hiA : i < (ML l).length := by simpa using h
      have hg2 : (ML l)[i] = (l.getD i mb0).sv := by rw [← hg, List.getElem?_eq_getElem hiA]; rfl
      have hbad : badAt l i = (!nameB (l.getD i mb0).id || (!timeB (l.getD i mb0).sn || (decide (0 < i) && !lts (l.getD (i - 1) mb0).id (l.getD i mb0).id))) := rfl
      have hyes : badAt l i = true → chkG ⟨a, b, l⟩ = 4 := fun z => if_pos (.inr (.inr (.inr (badM_at h z))))
      have e73 := e73 (l.getD i mb0).id
      have e74 := e74 (l.getD i mb0).sn
      have h3 : i - 1 < l.length := by omega
      have h3' : ((i - 1 : Nat) : Int) < l.length := by omega
      have hg3 := ML_get l h3
      have hg4 : (ML l)[i - 1]'(by simpa using h3) = (l.getD (i - 1) mb0).sv := by rw [← hg3, List.getElem?_eq_getElem]; rfl
      have hwm : IntKind.i64.wrap (-1) = -1 := by decide
      have hstep : badAt l i = false → ∀ j, j < i + 1 → badAt l j = false := fun hb j hj => by
        by_cases q : j = i
        · rw [q]; exact hb
        · exact he j (by omega)
      generalize chkG ⟨a, b, l⟩ = rv at *
      generalize badAt l i = z at *
      by_cases h0 : 0 < i
      · have h0' : (0 : Int) < i := by omega
        have hw3 : IntKind.i64.wrap ((i : Int) - 1) = ((i - 1 : Nat) : Int) := by rw [IntKind.wrap_i64]; omega
        generalize l.getD i mb0 = r at *
        generalize l.getD (i - 1) mb0 = r0 at *
        have hlt : lts r0.id r.id = Op.bytesLess r0.id.toList r.id.toList := rfl
        rw [hlt] at hbad
        rw [decide_eq_true h0, Bool.true_and] at hbad
        generalize nameB r.id = nb at *
        generalize timeB r.sn = tb at *
        generalize hlb : Op.bytesLess r0.id.toList r.id.toList = lb at *
        subst hbad
        cases nb <;> cases tb <;> cases lb <;> simp at hyes hstep <;> simp [h1, hg, hg2, h, Mb.sv, Mb.cells, hw, e73, e74, h0, h0', hw3, h3, h3', hg3, hg4, hyes, hlb]
        exact ⟨i + 1, ⟨by omega, hstep⟩, by omega, by omega⟩
      · obtain rfl : i = 0 := by omega
        have hwo : IntKind.i64.wrap 1 = 1 := by decide
        generalize l.getD 0 mb0 = r at *
        rw [decide_eq_false h0, Bool.false_and, Bool.or_false] at hbad
        generalize nameB r.id = nb at *
        generalize timeB r.sn = tb at *
        subst hbad
        cases nb <;> cases tb <;> simp at hyes hstep <;> simp [h1, hg, hg2, h, Mb.sv, Mb.cells, hw, hwm, e73, e74, hyes, hwo]
        exact ⟨1, ⟨by omega, by simpa using hstep⟩, by omega, by omega⟩
    · have h1 : ¬ (i : Int) < l.length := by omega
      obtain rfl : i = l.length := by omega
      have hno := badM_no he
      have hb2' : b ≤ 2 := by omega
      have hval : chkG ⟨a, b, l⟩ = if (b = 0 ↔ l.length = 0) ∧ (b = 2 ↔ synP l = true) then 0 else 4 := by
        unfold chkG
        simp only [hno, h16, ht, false_or, Bool.false_eq_true, or_false, Bool.true_eq_false]
        by_cases q : b = phaseP l
        · rw [if_neg (fun z => z q), if_pos (hpi.2 q).2]
        · rw [if_pos q, if_neg (fun z => q (hpi.1 ⟨hb2', z⟩))]
      rw [hval]
      have hl0 : ((l.length : Int) == 0) = decide (l.length = 0) := by rw [Bool.eq_iff_iff]; simp
      generalize synP l = s at *
      by_cases c0 : b = 0
      · subst c0
        by_cases c1 : l.length = 0
        · cases s <;> simp [h1, e77, hl, c1, hl0]
        · cases s <;> simp [h1, e77, hl, c1, hl0]
      · have c0b : (b == 0) = false := by simpa using c0
        by_cases c1 : l.length = 0
        · cases s <;> simp [h1, e77, hl, c0, c0b, c1, hl0]
        · by_cases c2 : b = 2
          · subst c2
            cases s <;> simp [h1, e77, hl, c1, hl0]
          · have c2b : (b == 2) = false := by simpa using c2
            cases s <;> simp [h1, e77, hl, c0, c0b, c1, c2, c2b, hl0]
end Go.Proofs.Ytmfkliabjfngmaa
