import Derived.Test.YtkiimlmlfhmkiaaCbM
import Derived.Test.YtkiimlmlfhmkiaaCbT
import Derived.Test.YtkiimlmlfhmkiaaAvL3
import Derived.Test.YtkiimlmlfhmkiaaCbN

set_option linter.unusedVariables false
set_option linter.unusedSimpArgs false

/- Batch: all contracts in one oracle. -/



set_option linter.unusedSimpArgs false
set_option linter.unusedVariables false
set_option maxHeartbeats 1000000
namespace Go.Proofs.Ytkiimlmlfhmkiaa
open Go.Av

theorem Rec.sv_inj (a b : Rec) (h : a.sv = b.sv) : a = b := by
  obtain ⟨a1, a2, a3, a4, a5, a6⟩ := a
  obtain ⟨b1, b2, b3, b4, b5, b6⟩ := b
  simpa [Rec.sv, Rec.cells] using h
theorem RL_inj (a b : List Rec) (h : RL a = RL b) : a = b := map_inj Rec.sv_inj _ _ h
theorem bs_inj (a b : List Nat) (h : bs a = bs b) : a = b := by
  have := congrArg nsOf h
  simpa using this
theorem Bat.sv_inj (a b : Bat) (h : a.sv = b.sv) : a = b := by
  obtain ⟨a1, a2, a3, a4, a5, a6⟩ := a
  obtain ⟨b1, b2, b3, b4, b5, b6⟩ := b
  simp [Bat.sv, Bat.cells] at h ⊢
  obtain ⟨h1, h2, h3, h4, h5, h6⟩ := h
  exact ⟨h1, h2, h3, h4, h5, RL_inj _ _ h6⟩
def eB (b : Bat) : List SV := [b.sv]
def eBB (p : Bat × Bat) : List SV := [p.1.sv, p.2.sv]
def eBI (p : Bat × Int) : List SV := [p.1.sv, .int .i64 p.2]
def eL (l : List Nat) : List SV := [.sl 1 (bs l)]
def eRR (p : Rec × Rec) : List SV := [p.1.sv, p.2.sv]
def eRLL (p : List Rec × List Rec) : List SV := [.sl 6 (RL p.1), .sl 6 (RL p.2)]
theorem eB_inj (a b : Bat) (h : eB a = eB b) : a = b := by simp [eB] at h; exact Bat.sv_inj _ _ h
theorem eBB_inj (a b : Bat × Bat) (h : eBB a = eBB b) : a = b := by simp [eBB] at h; exact Prod.ext (Bat.sv_inj _ _ h.1) (Bat.sv_inj _ _ h.2)
theorem eBI_inj (a b : Bat × Int) (h : eBI a = eBI b) : a = b := by simp [eBI] at h; exact Prod.ext (Bat.sv_inj _ _ h.1) h.2
theorem eL_inj (a b : List Nat) (h : eL a = eL b) : a = b := by simp [eL] at h; exact bs_inj _ _ h
theorem eRR_inj (a b : Rec × Rec) (h : eRR a = eRR b) : a = b := by simp [eRR] at h; exact Prod.ext (Rec.sv_inj _ _ h.1) (Rec.sv_inj _ _ h.2)
theorem eRLL_inj (a b : List Rec × List Rec) (h : eRLL a = eRLL b) : a = b := by simp [eRLL] at h; exact Prod.ext (RL_inj _ _ h.1) (RL_inj _ _ h.2)

theorem newest0_pure : Pure Try.prog 43 [.agg [.int .i64 0, .int .i64 0, .int .i64 0, .int .i64 0, .int .i64 0, .nils]] (.sv (.int .i64 (-1))) := by
  have := newest_pure bat0 (by decide)
  intro mu w vs hm ha
  refine this mu w vs hm ⟨ha.1, fun j hj => ?_⟩
  have q := ha.2 j hj
  match j, hj, q with
  | 0, _, q => exact WkCs.rep (l := [.int .i64 0, .int .i64 0, .int .i64 0, .int .i64 0, .int .i64 0, .nils]) (m := bat0.cells) ⟨rfl, rfl, rfl, rfl, rfl, rfl, trivial⟩ q
noncomputable def R4p (f : FuncId) (l : List SV) : Option (Prop × LV) :=
  match f with
  | 29 => row eB (fun b => (True, .sv (.bool (lightB b)))) l
  | 30 => row (fun _ : Unit => []) (fun _ => (Pure Try.prog 30 [] (.sv (.bool true)), .sv (.bool true))) l
  | 31 => row eB (fun b => (b.ok, .tup [.own 1 (bs (putB b)), .sv (.int .i64 (batE b))])) l
  | 32 => row eB (fun b => (b.ok, .tup [.own 1 (bs (putB b)), .sv (.int .i64 (batE b))])) l
  | 33 => row eB (fun b => (b.ok, .sv (.int .i64 (batE b)))) l
  | 38 => row eB (fun b => (b.ok, .sv (.int .i64 (batE b)))) l
  | 34 => row eBB (fun p => (p.1.rs.length < 4611686018427387904, .sv (.bool (batS p.1 p.2)))) l
  | 35 => row eBB (fun p => (p.1.rs.length < 4611686018427387904, .sv (.bool (batS p.1 p.2)))) l
  | 36 => row eL (fun l => (Bytes l ∧ l.length < 140737488355328, .tup [.sv (batG l).1.sv, .sv (.int .i64 (batG l).2)])) l
  | 37 => row eL (fun l => (Bytes l ∧ l.length < 140737488355328, .tup [.sv (batQ l).1.sv, .sv (.int .i64 (batQ l).2)])) l
  | 39 => row eBI (fun p => (p.1.rs.length < 4611686018427387904, .tup [.sv (atR p.1 p.2).1.sv, .sv (.bool (atR p.1 p.2).2)])) l
  | 40 => row eBI (fun p => (p.1.rs.length < 4611686018427387904, .tup [.sv (atR p.1 p.2).1.sv, .sv (.bool (atR p.1 p.2).2)])) l
  | 41 => row eB (fun b => (True, .sv (.int .i64 (IntKind.i64.wrap (b.ba + b.ct))))) l
  | 42 => row eB (fun b => (True, .sv (.int .i64 (IntKind.i64.wrap (b.ba + b.ct))))) l
  | 43 => open Classical in if l = [.agg [.int .i64 0, .int .i64 0, .int .i64 0, .int .i64 0, .int .i64 0, .nils]] then some (True, .sv (.int .i64 (-1))) else row eB (fun b => (b.rs.length < 4611686018427387904, .sv (.int .i64 (newL (-1) b.rs)))) l
  | 44 => row eB (fun b => (b.rs.length < 4611686018427387904, .sv (.int .i64 (newL (-1) b.rs)))) l
  | 45 => row eRR (fun p => (True, .sv (.bool (recS p.1 p.2)))) l
  | 46 => row eRLL (fun p => (p.1.length < 4611686018427387904, .sv (.bool (recsS p.1 p.2)))) l
  | 47 => row eBI (fun p => (p.1.rs.length ≤ 1000, .own 6 (RL (fromR p.1 p.2)))) l
  | 48 => row eBI (fun p => (p.1.rs.length ≤ 1000, .own 6 (RL (fromR p.1 p.2)))) l
  | _ => none
noncomputable def R4 : Orc := { p := R4p }
theorem R4_ok : R4.ok Try.prog := by
  refine ⟨fun f l c rv h hc => ?_, fun _ _ _ _ _ _ h => (by cases h), fun _ _ _ _ h => (by cases h), fun _ h => (by cases h), fun _ _ _ _ _ _ h => (by cases h), fun _ _ _ _ _ _ _ h => (by cases h)⟩
  change R4p f l = _ at h
  unfold R4p at h
  split at h
  · exact row_ok h hc (fun b h => light_bat b)
  · exact row_ok h hc (fun b h => h)
  · exact row_ok h hc (fun b h => put_bat b h)
  · exact row_ok h hc (fun b h => rput_bat b h)
  · exact row_ok h hc (fun b h => check_bat b h)
  · exact row_ok h hc (fun b h => rcheck_bat b h)
  · exact row_ok h hc (fun p h => same_pure p.1 p.2 h)
  · exact row_ok h hc (fun p h => rsame_bat p.1 p.2 h)
  · exact row_ok h hc (fun l h => get_bat l h.1 h.2)
  · exact row_ok h hc (fun l h => rget_bat l h.1 h.2)
  · exact row_ok h hc (fun p h => at_pure p.1 p.2 h)
  · exact row_ok h hc (fun p h => rat_pure p.1 p.2 h)
  · exact row_ok h hc (fun b h => next_pure b)
  · exact row_ok h hc (fun b h => rnext_pure b)
  · split at h
    · rename_i q
      subst q
      cases h
      exact newest0_pure
    · exact row_ok h hc (fun b h => newest_pure b h)
  · exact row_ok h hc (fun b h => rnewest_pure b h)
  · exact row_ok h hc (fun p h => rsame_pure p.1 p.2)
  · exact row_ok h hc (fun p h => sameAll_pure p.1 p.2 h)
  · exact row_ok h hc (fun p h => from_pure p.1 p.2 h)
  · exact row_ok h hc (fun p h => rfrom_pure p.1 p.2 h)
  · cases h
theorem light_len {b : Bat} (h : lightB b = true) : b.rs.length ≤ 40 := by
  simp [lightB] at h
  exact h.1
/-- A batch as it stands in a box. -/
abbrev bsv (b : Bat) : SV := .agg [.int .i64 b.ba, .int .i64 b.ct, .int .i64 b.pr, .int .i64 b.ep, .int .i64 b.sq, .sl 6 (RL b.rs)]
abbrev rsv (r : Rec) : SV := .agg [.int .i64 r.dl, .int .i64 r.tm, .bool r.kd, .str r.key, .bool r.dd, .str r.val]
theorem R4_29 (b : Bat) : R4.p 29 [bsv b] = some (True, .sv (.bool (lightB b))) := row_eq eB_inj _ b
theorem R4_30 : R4.p 30 [] = some (Pure Try.prog 30 [] (.sv (.bool true)), .sv (.bool true)) := row_eq (enc := fun _ : Unit => []) (fun _ _ _ => rfl) _ ()
theorem R4_31 (b : Bat) : R4.p 31 [bsv b] = some (b.ok, .tup [.own 1 (bs (putB b)), .sv (.int .i64 (batE b))]) := row_eq eB_inj _ b
theorem R4_32 (b : Bat) : R4.p 32 [bsv b] = some (b.ok, .tup [.own 1 (bs (putB b)), .sv (.int .i64 (batE b))]) := row_eq eB_inj _ b
theorem R4_33 (b : Bat) : R4.p 33 [bsv b] = some (b.ok, .sv (.int .i64 (batE b))) := row_eq eB_inj _ b
theorem R4_38 (b : Bat) : R4.p 38 [bsv b] = some (b.ok, .sv (.int .i64 (batE b))) := row_eq eB_inj _ b
theorem R4_34 (a b : Bat) : R4.p 34 [bsv a, bsv b] = some (a.rs.length < 4611686018427387904, .sv (.bool (batS a b))) := row_eq eBB_inj _ (a, b)
theorem R4_35 (a b : Bat) : R4.p 35 [bsv a, bsv b] = some (a.rs.length < 4611686018427387904, .sv (.bool (batS a b))) := row_eq eBB_inj _ (a, b)
theorem R4_36 (l : List Nat) : R4.p 36 [.sl 1 (bs l)] = some (Bytes l ∧ l.length < 140737488355328, .tup [.sv (bsv (batG l).1), .sv (.int .i64 (batG l).2)]) := row_eq eL_inj _ l
theorem R4_37 (l : List Nat) : R4.p 37 [.sl 1 (bs l)] = some (Bytes l ∧ l.length < 140737488355328, .tup [.sv (bsv (batQ l).1), .sv (.int .i64 (batQ l).2)]) := row_eq eL_inj _ l
theorem R4_39 (b : Bat) (n : Int) : R4.p 39 [bsv b, .int .i64 n] = some (b.rs.length < 4611686018427387904, .tup [.sv (rsv (atR b n).1), .sv (.bool (atR b n).2)]) := row_eq eBI_inj _ (b, n)
theorem R4_40 (b : Bat) (n : Int) : R4.p 40 [bsv b, .int .i64 n] = some (b.rs.length < 4611686018427387904, .tup [.sv (rsv (atR b n).1), .sv (.bool (atR b n).2)]) := row_eq eBI_inj _ (b, n)
theorem R4_41 (b : Bat) : R4.p 41 [bsv b] = some (True, .sv (.int .i64 (IntKind.i64.wrap (b.ba + b.ct)))) := row_eq eB_inj _ b
theorem R4_42 (b : Bat) : R4.p 42 [bsv b] = some (True, .sv (.int .i64 (IntKind.i64.wrap (b.ba + b.ct)))) := row_eq eB_inj _ b
theorem R4_43 (b : Bat) : R4.p 43 [bsv b] = some (b.rs.length < 4611686018427387904, .sv (.int .i64 (newL (-1) b.rs))) := (if_neg (by simp)).trans (row_eq eB_inj _ b)
theorem R4_43n : R4.p 43 [.agg [.int .i64 0, .int .i64 0, .int .i64 0, .int .i64 0, .int .i64 0, .nils]] = some (True, .sv (.int .i64 (-1))) := if_pos rfl
theorem R4_44 (b : Bat) : R4.p 44 [bsv b] = some (b.rs.length < 4611686018427387904, .sv (.int .i64 (newL (-1) b.rs))) := row_eq eB_inj _ b
theorem R4_45 (r s : Rec) : R4.p 45 [rsv r, rsv s] = some (True, .sv (.bool (recS r s))) := row_eq eRR_inj _ (r, s)
theorem R4_46 (a b : List Rec) : R4.p 46 [.sl 6 (RL a), .sl 6 (RL b)] = some (a.length < 4611686018427387904, .sv (.bool (recsS a b))) := row_eq eRLL_inj _ (a, b)
theorem R4_47 (b : Bat) (n : Int) : R4.p 47 [bsv b, .int .i64 n] = some (b.rs.length ≤ 1000, .own 6 (RL (fromR b n))) := row_eq eBI_inj _ (b, n)
theorem R4_48 (b : Bat) (n : Int) : R4.p 48 [bsv b, .int .i64 n] = some (b.rs.length ≤ 1000, .own 6 (RL (fromR b n))) := row_eq eBI_inj _ (b, n)
end Go.Proofs.Ytkiimlmlfhmkiaa

/- Batch: awake. -/


set_option linter.unusedSimpArgs false
set_option linter.unusedVariables false
set_option maxHeartbeats 4000000
set_option maxRecDepth 100000
namespace Go.Proofs.Ytkiimlmlfhmkiaa
open Go.Av

def wRec : Rec := ⟨0, 0, false, ByteArray.mk #[], false, ByteArray.mk #[118]⟩
def wBat : Bat := ⟨5, 1, 0, 0, 0, [wRec]⟩
theorem wtl1 (x : UInt8) : (ByteArray.mk #[x]).toList = [x] := by rw [ByteArray.toList_eq]
theorem wtl0 : (ByteArray.mk #[]).toList = [] := by rw [ByteArray.toList_eq]
theorem wsz1 (x : UInt8) : (ByteArray.mk #[x]).size = 1 := rfl
theorem wsz0 : (ByteArray.mk #[]).size = 0 := rfl
theorem wrecE : recE wRec = 0 := by simp [recE, wRec, isE, wtl1, wtl0, wsz1, wsz0]
theorem wlay0 : layN 0 = [0] := layN_small (by decide)
theorem wlay2 : layN 2 = [2] := layN_small (by decide)
theorem wlay10 : layN 10 = [10] := layN_small (by decide)
theorem wputR : putR wRec = [0, 0, 0, 2, 118] := by
  rw [putR, if_pos wrecE]
  simp [recP, wRec, wsz1, wsz0, wtl1, bytesNat, show zig 1 = 2 from rfl, show zig 0 = 0 from rfl, wlay0, wlay2]
theorem wbatE : batE wBat = 0 := by
  have h1 : batN wBat = 0 := by simp [batN, wBat]
  have h2 : chkL wBat.ct (-1) wBat.rs = 0 := by simp [wBat, chkL, wrecE]; simp [wRec]
  have h3 : layB wBat = [10, 2, 0, 0, 0, 2, 0, 0, 0, 2, 118] := by
    simp [layB, numsB, hdL, recsB, wBat, wputR, show zig 5 = 10 from rfl, show zig 1 = 2 from rfl, show zig 0 = 0 from rfl, wlay0, wlay2, wlay10]
  simp [batE, h1, h2, h3]
theorem wlayB : layB wBat = [10, 2, 0, 0, 0, 2, 0, 0, 0, 2, 118] := by
  simp [layB, numsB, hdL, recsB, wBat, wputR, show zig 5 = 10 from rfl, show zig 1 = 2 from rfl, show zig 0 = 0 from rfl, wlay0, wlay2, wlay10]
theorem wputB : putB wBat = [10, 2, 0, 0, 0, 2, 0, 0, 0, 2, 118] := by rw [putB, if_pos wbatE, wlayB]
theorem wbatG : batG [10, 2, 0, 0, 0, 2, 0, 0, 0, 2, 118] = (wBat, 0) := by rw [← wlayB]; exact batG_lay wbatE
theorem wat : atW wBat wRec = 5 := rfl
theorem watR : atR wBat 5 = (wRec, true) := by
  have : idxP (fun r => atW wBat r == 5) wBat.rs 0 = 0 := by
    show idxP (fun r => atW wBat r == 5) [wRec] 0 = 0
    simp [idxP, wat]
  simp [atR, this]
  simp [wBat]
theorem wfrom : fromR wBat 6 = [] := by
  show [wRec].filter _ = []
  simp [wat]
theorem wbatS : batS wBat wBat = true := (batS_iff _ _).2 rfl
theorem wok : wBat.ok := by simp [Bat.ok, wBat, I64]
theorem wnew : newL (-1) wBat.rs = 0 := by simp [newL, wBat, wRec]
def wX : List Nat := [10, 2, 0, 0, 0, 2, 0, 0, 0, 2, 118]
theorem wXstr : (bs wX).map Go.Av.byteOf = [10, 2, 0, 0, 0, 2, 0, 0, 0, 2, 118] := rfl
theorem awake_pure : Pure Try.prog 30 [] (.sv (.bool true)) := by
  have e31 := R4_31 wBat
  have e36 := R4_36 wX
  have e39 := R4_39 wBat 5
  have e34 := R4_34 wBat wBat
  have e41 := R4_41 wBat
  have e43 := R4_43 wBat
  have e47 := R4_47 wBat 6
  have e43n := R4_43n
  rw [show putB wBat = wX from wputB, wbatE] at e31
  rw [show batG wX = (wBat, 0) from wbatG] at e36
  rw [watR] at e39
  rw [wbatS] at e34
  rw [wnew] at e43
  rw [wfrom] at e47
  have hok := wok
  have hRL : RL wBat.rs = [.agg [.int .i64 0, .int .i64 0, .bool false, .str (ByteArray.mk #[]), .bool false, .str (ByteArray.mk #[118])]] := rfl
  have hR := R4_ok
  have hnf : R4.nofz = false := rfl
  have hl : wBat.rs.length = 1 := rfl
  have q1 : wBat.ba = 5 := rfl
  have q2 : wBat.ct = 1 := rfl
  have q3 : wBat.pr = 0 := rfl
  have q4 : wBat.ep = 0 := rfl
  have q5 : wBat.sq = 0 := rfl
  have hb : Bytes wX := by simp [Bytes, wX]
  have hxl : wX.length < 140737488355328 := by simp [wX]
  have hxs := wXstr
  have hby := bs_byte wX
  simp only [bsv, rsv, hRL, hl, q1, q2, q3, q4, q5, wRec] at e31 e36 e39 e34 e41 e43 e47
  generalize R4 = R at hR e31 e36 e39 e34 e41 e43 e47 e43n hnf
  generalize wX = X at e31 e36 hb hxl hxs hby
  clear hRL q1 q2 q3 q4 q5 hl
  have hw6 : IntKind.i64.wrap ((5 : Int) + 1) = 6 := rfl
  refine pure_go hR Try.func30 Try.ntmps30 comp30 cres30 (by decide) (by simp) ?_
  simp (maxSteps := 1000000) [ac30, ar30, e31, e36, e39, e34, e41, e43, e43n, e47, hok, hnf, hb, hxl, hxs, hw6]
  exact ⟨hby, rfl⟩
end Go.Proofs.Ytkiimlmlfhmkiaa

/- Batch: what From and Back say, in plain words. -/


set_option linter.unusedSimpArgs false
set_option linter.unusedVariables false
set_option maxHeartbeats 1000000
namespace Go.Proofs.Ytkiimlmlfhmkiaa
open Go.Av

theorem filter_rise {α : Type} (p : α → Bool) (d : α) : ∀ l : List α, (∀ i j, i < j → j < l.length → p (l.getD i d) = true → p (l.getD j d) = true) → ∃ n, n ≤ l.length ∧ l.filter p = l.drop n ∧ ∀ i, i < l.length → (p (l.getD i d) = true ↔ n ≤ i)
  | [], _ => ⟨0, Nat.le_refl _, rfl, fun i hi => by simp at hi⟩
  | x :: l, h => by
    cases hx : p x with
    | true =>
      have hall : ∀ i, i < (x :: l).length → p ((x :: l).getD i d) = true := by
        intro i hi
        cases i with
        | zero => simpa using hx
        | succ i => exact h 0 (i + 1) (by omega) hi (by simpa using hx)
      refine ⟨0, Nat.zero_le _, ?_, fun i hi => ⟨fun _ => Nat.zero_le _, fun _ => hall i hi⟩⟩
      rw [List.drop_zero, List.filter_eq_self]
      intro a ha
      obtain ⟨i, hi, rfl⟩ := List.getElem_of_mem ha
      have := hall i hi
      rwa [List.getD_eq_getElem?_getD, List.getElem?_eq_getElem hi] at this
    | false =>
      obtain ⟨n, h1, h2, h3⟩ := filter_rise p d l (fun i j hij hj q => by
        have := h (i + 1) (j + 1) (by omega) (by simpa using hj) (by simpa using q)
        simpa using this)
      refine ⟨n + 1, by simpa using h1, by simp [hx, h2], fun i hi => ?_⟩
      cases i with
      | zero => simp [hx]
      | succ i => simpa using h3 i (by simpa using hi)
theorem atW_eq {b : Bat} (h : batE b = 0) {i : Nat} (hi : i < b.rs.length) : atW b (b.rs.getD i rec0) = b.ba + (b.rs.getD i rec0).dl ∧ 0 ≤ (b.rs.getD i rec0).dl ∧ (b.rs.getD i rec0).dl < b.ct := by
  obtain ⟨k1, k2, k3⟩ := chkL_spec (batE_chk h) i hi
  obtain ⟨a1, a2, a3, a4, a5, a6, a7, a8, a9, a10⟩ := batE_num h
  refine ⟨?_, by omega, k2⟩
  unfold atW
  rw [wrap_i64_in (by omega) (by omega)]
theorem atW_lt {b : Bat} (h : batE b = 0) {i j : Nat} (hij : i < j) (hj : j < b.rs.length) : atW b (b.rs.getD i rec0) < atW b (b.rs.getD j rec0) := by
  rw [(atW_eq h (Nat.lt_trans hij hj)).1, (atW_eq h hj).1]
  have := (chkL_spec (batE_chk h) j hj).2.2 i hij
  omega
/-- From drops those that stand ahead. -/
theorem from_spec {b : Bat} (h : batE b = 0) (off : Int) : ∃ n, n ≤ b.rs.length ∧ fromR b off = b.rs.drop n ∧ ∀ i, i < b.rs.length → (off ≤ atW b (b.rs.getD i rec0) ↔ n ≤ i) := by
  obtain ⟨n, h1, h2, h3⟩ := filter_rise (fun r => decide (off ≤ atW b r)) rec0 b.rs (fun i j hij hj q => by
    have q1 := of_decide_eq_true q
    have := atW_lt h hij hj
    exact decide_eq_true (by omega))
  exact ⟨n, h1, h2, fun i hi => by simpa using h3 i hi⟩
/-- At finds the first of those. -/
theorem at_spec {b : Bat} (h : batE b = 0) {off : Int} {n : Nat} (hn : n ≤ b.rs.length) (h3 : ∀ i, i < b.rs.length → (off ≤ atW b (b.rs.getD i rec0) ↔ n ≤ i)) :
    (n < b.rs.length ∧ atW b (b.rs.getD n rec0) = off ∧ atR b off = (b.rs.getD n rec0, true)) ∨ ((n < b.rs.length → atW b (b.rs.getD n rec0) ≠ off) ∧ atR b off = (rec0, false)) := by
  rcases idxP_spec (fun r => atW b r == off) b.rs 0 with ⟨e, q⟩ | ⟨k, hk, e, q1, q2⟩
  · refine .inr ⟨fun hlt z => ?_, ?_⟩
    · have hm : b.rs.getD n rec0 ∈ b.rs := by
        rw [List.getD_eq_getElem?_getD, List.getElem?_eq_getElem hlt]
        exact List.getElem_mem _
      have : (atW b (b.rs.getD n rec0) == off) = false := q _ hm
      rw [z] at this
      simp at this
    · unfold atR
      rw [e, if_pos (by decide)]
  · have hat : atW b (b.rs.getD k rec0) = off := by simpa using q1
    have hnk : n ≤ k := (h3 k hk).1 (by omega)
    have hkn : k = n := by
      rcases Nat.lt_or_ge n k with hlt | hge
      · have := (h3 n (by omega)).2 (Nat.le_refl _)
        have := atW_lt h hlt hk
        omega
      · omega
    subst hkn
    refine .inl ⟨hk, hat, ?_⟩
    unfold atR
    rw [e, if_neg (by omega), show ((0 + k : Nat) : Int).toNat = k by omega]
end Go.Proofs.Ytkiimlmlfhmkiaa
