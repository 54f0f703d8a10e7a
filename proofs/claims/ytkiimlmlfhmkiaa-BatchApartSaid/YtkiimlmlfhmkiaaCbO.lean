/- Batch: all contracts in one oracle. -/
import Derived.Test.YtkiimlmlfhmkiaaCbM
import Derived.Test.YtkiimlmlfhmkiaaCbT
import Derived.Test.YtkiimlmlfhmkiaaAvL3

set_option linter.unusedSimpArgs false
set_option linter.unusedVariables false
set_option maxHeartbeats 1000000
namespace Go.Proofs.Ytkiimlmlfhmkiaa
open Go.Av

theorem Rec.sv_inj (a b : Rec) (h : a.sv = b.sv) : a = b := by
  obtain ⟨a1, a2, a3, a4, a5, a6⟩ := a
  obtain ⟨b1, b2, b3, b4, b5, b6⟩ := b
  simpa [Rec.sv, Rec.cells] using h
theorem RL_inj (a b : List Rec) (h : RL a = RL b) : a = b := map_inj Rec.sv_inj _ _ h
theorem bs_inj (a b : List Nat) (h : bs a = bs b) : a = b := by
  have := congrArg nsOf h
  simpa using this
theorem Bat.sv_inj (a b : Bat) (h : a.sv = b.sv) : a = b := by
  obtain ⟨a1, a2, a3, a4, a5, a6⟩ := a
  obtain ⟨b1, b2, b3, b4, b5, b6⟩ := b
  simp [Bat.sv, Bat.cells] at h ⊢
  obtain ⟨h1, h2, h3, h4, h5, h6⟩ := h
  exact ⟨h1, h2, h3, h4, h5, RL_inj _ _ h6⟩
def eB (b : Bat) : List SV := [b.sv]
def eBB (p : Bat × Bat) : List SV := [p.1.sv, p.2.sv]
def eBI (p : Bat × Int) : List SV := [p.1.sv, .int .i64 p.2]
def eL (l : List Nat) : List SV := [.sl 1 (bs l)]
def eRR (p : Rec × Rec) : List SV := [p.1.sv, p.2.sv]
def eRLL (p : List Rec × List Rec) : List SV := [.sl 6 (RL p.1), .sl 6 (RL p.2)]
theorem eB_inj (a b : Bat) (h : eB a = eB b) : a = b := by simp [eB] at h; exact Bat.sv_inj _ _ h
theorem eBB_inj (a b : Bat × Bat) (h : eBB a = eBB b) : a = b := by simp [eBB] at h; exact Prod.ext (Bat.sv_inj _ _ h.1) (Bat.sv_inj _ _ h.2)
theorem eBI_inj (a b : Bat × Int) (h : eBI a = eBI b) : a = b := by simp [eBI] at h; exact Prod.ext (Bat.sv_inj _ _ h.1) h.2
theorem eL_inj (a b : List Nat) (h : eL a = eL b) : a = b := by simp [eL] at h; exact bs_inj _ _ h
theorem eRR_inj (a b : Rec × Rec) (h : eRR a = eRR b) : a = b := by simp [eRR] at h; exact Prod.ext (Rec.sv_inj _ _ h.1) (Rec.sv_inj _ _ h.2)
theorem eRLL_inj (a b : List Rec × List Rec) (h : eRLL a = eRLL b) : a = b := by simp [eRLL] at h; exact Prod.ext (RL_inj _ _ h.1) (RL_inj _ _ h.2)

theorem newest0_pure : Pure Try.prog 43 [.agg [.int .i64 0, .int .i64 0, .int .i64 0, .int .i64 0, .int .i64 0, .nils]] (.sv (.int .i64 (-1))) := by
  have := newest_pure bat0 (by decide)
  intro mu w vs hm ha
  refine this mu w vs hm ⟨ha.1, fun j hj => ?_⟩
  have q := ha.2 j hj
  match j, hj, q with
  | 0, _, q => exact WkCs.rep (l := [.int .i64 0, .int .i64 0, .int .i64 0, .int .i64 0, .int .i64 0, .nils]) (m := bat0.cells) ⟨rfl, rfl, rfl, rfl, rfl, rfl, trivial⟩ q
noncomputable def R4p (f : FuncId) (l : List SV) : Option (Prop × LV) :=
  match f with
  | 29 => row eB (fun b => (True, .sv (.bool (lightB b)))) l
  | 30 => row (fun _ : Unit => []) (fun _ => (Pure Try.prog 30 [] (.sv (.bool true)), .sv (.bool true))) l
  | 31 => row eB (fun b => (b.ok, .tup [.own 1 (bs (putB b)), .sv (.int .i64 (batE b))])) l
  | 32 => row eB (fun b => (b.ok, .tup [.own 1 (bs (putB b)), .sv (.int .i64 (batE b))])) l
  | 33 => row eB (fun b => (b.ok, .sv (.int .i64 (batE b)))) l
  | 38 => row eB (fun b => (b.ok, .sv (.int .i64 (batE b)))) l
  | 34 => row eBB (fun p => (p.1.rs.length < 4611686018427387904, .sv (.bool (batS p.1 p.2)))) l
  | 35 => row eBB (fun p => (p.1.rs.length < 4611686018427387904, .sv (.bool (batS p.1 p.2)))) l
  | 36 => row eL (fun l => (Bytes l ∧ l.length < 140737488355328, .tup [.sv (batG l).1.sv, .sv (.int .i64 (batG l).2)])) l
  | 37 => row eL (fun l => (Bytes l ∧ l.length < 140737488355328, .tup [.sv (batQ l).1.sv, .sv (.int .i64 (batQ l).2)])) l
  | 39 => row eBI (fun p => (p.1.rs.length < 4611686018427387904, .tup [.sv (atR p.1 p.2).1.sv, .sv (.bool (atR p.1 p.2).2)])) l
  | 40 => row eBI (fun p => (p.1.rs.length < 4611686018427387904, .tup [.sv (atR p.1 p.2).1.sv, .sv (.bool (atR p.1 p.2).2)])) l
  | 41 => row eB (fun b => (True, .sv (.int .i64 (IntKind.i64.wrap (b.ba + b.ct))))) l
  | 42 => row eB (fun b => (True, .sv (.int .i64 (IntKind.i64.wrap (b.ba + b.ct))))) l
  | 43 => open Classical in if l = [.agg [.int .i64 0, .int .i64 0, .int .i64 0, .int .i64 0, .int .i64 0, .nils]] then some (True, .sv (.int .i64 (-1))) else row eB (fun b => (b.rs.length < 4611686018427387904, .sv (.int .i64 (newL (-1) b.rs)))) l
  | 44 => row eB (fun b => (b.rs.length < 4611686018427387904, .sv (.int .i64 (newL (-1) b.rs)))) l
  | 45 => row eRR (fun p => (True, .sv (.bool (recS p.1 p.2)))) l
  | 46 => row eRLL (fun p => (p.1.length < 4611686018427387904, .sv (.bool (recsS p.1 p.2)))) l
  | 47 => row eBI (fun p => (p.1.rs.length ≤ 1000, .own 6 (RL (fromR p.1 p.2)))) l
  | 48 => row eBI (fun p => (p.1.rs.length ≤ 1000, .own 6 (RL (fromR p.1 p.2)))) l
  | _ => none
noncomputable def R4 : Orc := { p := R4p }
theorem R4_ok : R4.ok Try.prog := by
  refine ⟨fun f l c rv h hc => ?_, fun _ _ _ _ _ _ h => (by cases h), fun _ _ _ _ h => (by cases h), fun _ h => (by cases h), fun _ _ _ _ _ _ h => (by cases h)⟩
  change R4p f l = _ at h
  unfold R4p at h
  split at h
  · exact row_ok h hc (fun b h => light_bat b)
  · exact row_ok h hc (fun b h => h)
  · exact row_ok h hc (fun b h => put_bat b h)
  · exact row_ok h hc (fun b h => rput_bat b h)
  · exact row_ok h hc (fun b h => check_bat b h)
  · exact row_ok h hc (fun b h => rcheck_bat b h)
  · exact row_ok h hc (fun p h => same_pure p.1 p.2 h)
  · exact row_ok h hc (fun p h => rsame_bat p.1 p.2 h)
  · exact row_ok h hc (fun l h => get_bat l h.1 h.2)
  · exact row_ok h hc (fun l h => rget_bat l h.1 h.2)
  · exact row_ok h hc (fun p h => at_pure p.1 p.2 h)
  · exact row_ok h hc (fun p h => rat_pure p.1 p.2 h)
  · exact row_ok h hc (fun b h => next_pure b)
  · exact row_ok h hc (fun b h => rnext_pure b)
  · split at h
    · rename_i q
      subst q
      cases h
      exact newest0_pure
    · exact row_ok h hc (fun b h => newest_pure b h)
  · exact row_ok h hc (fun b h => rnewest_pure b h)
  · exact row_ok h hc (fun p h => rsame_pure p.1 p.2)
  · exact row_ok h hc (fun p h => sameAll_pure p.1 p.2 h)
  · exact row_ok h hc (fun p h => from_pure p.1 p.2 h)
  · exact row_ok h hc (fun p h => rfrom_pure p.1 p.2 h)
  · cases h
theorem light_len {b : Bat} (h : lightB b = true) : b.rs.length ≤ 40 := by
  simp [lightB] at h
  exact h.1
/-- A batch as it stands in a box. -/
abbrev bsv (b : Bat) : SV := .agg [.int .i64 b.ba, .int .i64 b.ct, .int .i64 b.pr, .int .i64 b.ep, .int .i64 b.sq, .sl 6 (RL b.rs)]
abbrev rsv (r : Rec) : SV := .agg [.int .i64 r.dl, .int .i64 r.tm, .bool r.kd, .str r.key, .bool r.dd, .str r.val]
theorem R4_29 (b : Bat) : R4.p 29 [bsv b] = some (True, .sv (.bool (lightB b))) := row_eq eB_inj _ b
theorem R4_30 : R4.p 30 [] = some (Pure Try.prog 30 [] (.sv (.bool true)), .sv (.bool true)) := row_eq (enc := fun _ : Unit => []) (fun _ _ _ => rfl) _ ()
theorem R4_31 (b : Bat) : R4.p 31 [bsv b] = some (b.ok, .tup [.own 1 (bs (putB b)), .sv (.int .i64 (batE b))]) := row_eq eB_inj _ b
theorem R4_32 (b : Bat) : R4.p 32 [bsv b] = some (b.ok, .tup [.own 1 (bs (putB b)), .sv (.int .i64 (batE b))]) := row_eq eB_inj _ b
theorem R4_33 (b : Bat) : R4.p 33 [bsv b] = some (b.ok, .sv (.int .i64 (batE b))) := row_eq eB_inj _ b
theorem R4_38 (b : Bat) : R4.p 38 [bsv b] = some (b.ok, .sv (.int .i64 (batE b))) := row_eq eB_inj _ b
theorem R4_34 (a b : Bat) : R4.p 34 [bsv a, bsv b] = some (a.rs.length < 4611686018427387904, .sv (.bool (batS a b))) := row_eq eBB_inj _ (a, b)
theorem R4_35 (a b : Bat) : R4.p 35 [bsv a, bsv b] = some (a.rs.length < 4611686018427387904, .sv (.bool (batS a b))) := row_eq eBB_inj _ (a, b)
theorem R4_36 (l : List Nat) : R4.p 36 [.sl 1 (bs l)] = some (Bytes l ∧ l.length < 140737488355328, .tup [.sv (bsv (batG l).1), .sv (.int .i64 (batG l).2)]) := row_eq eL_inj _ l
theorem R4_37 (l : List Nat) : R4.p 37 [.sl 1 (bs l)] = some (Bytes l ∧ l.length < 140737488355328, .tup [.sv (bsv (batQ l).1), .sv (.int .i64 (batQ l).2)]) := row_eq eL_inj _ l
theorem R4_39 (b : Bat) (n : Int) : R4.p 39 [bsv b, .int .i64 n] = some (b.rs.length < 4611686018427387904, .tup [.sv (rsv (atR b n).1), .sv (.bool (atR b n).2)]) := row_eq eBI_inj _ (b, n)
theorem R4_40 (b : Bat) (n : Int) : R4.p 40 [bsv b, .int .i64 n] = some (b.rs.length < 4611686018427387904, .tup [.sv (rsv (atR b n).1), .sv (.bool (atR b n).2)]) := row_eq eBI_inj _ (b, n)
theorem R4_41 (b : Bat) : R4.p 41 [bsv b] = some (True, .sv (.int .i64 (IntKind.i64.wrap (b.ba + b.ct)))) := row_eq eB_inj _ b
theorem R4_42 (b : Bat) : R4.p 42 [bsv b] = some (True, .sv (.int .i64 (IntKind.i64.wrap (b.ba + b.ct)))) := row_eq eB_inj _ b
theorem R4_43 (b : Bat) : R4.p 43 [bsv b] = some (b.rs.length < 4611686018427387904, .sv (.int .i64 (newL (-1) b.rs))) := (if_neg (by simp)).trans (row_eq eB_inj _ b)
theorem R4_43n : R4.p 43 [.agg [.int .i64 0, .int .i64 0, .int .i64 0, .int .i64 0, .int .i64 0, .nils]] = some (True, .sv (.int .i64 (-1))) := if_pos rfl
theorem R4_44 (b : Bat) : R4.p 44 [bsv b] = some (b.rs.length < 4611686018427387904, .sv (.int .i64 (newL (-1) b.rs))) := row_eq eB_inj _ b
theorem R4_45 (r s : Rec) : R4.p 45 [rsv r, rsv s] = some (True, .sv (.bool (recS r s))) := row_eq eRR_inj _ (r, s)
theorem R4_46 (a b : List Rec) : R4.p 46 [.sl 6 (RL a), .sl 6 (RL b)] = some (a.length < 4611686018427387904, .sv (.bool (recsS a b))) := row_eq eRLL_inj _ (a, b)
theorem R4_47 (b : Bat) (n : Int) : R4.p 47 [bsv b, .int .i64 n] = some (b.rs.length ≤ 1000, .own 6 (RL (fromR b n))) := row_eq eBI_inj _ (b, n)
theorem R4_48 (b : Bat) (n : Int) : R4.p 48 [bsv b, .int .i64 n] = some (b.rs.length ≤ 1000, .own 6 (RL (fromR b n))) := row_eq eBI_inj _ (b, n)
end Go.Proofs.Ytkiimlmlfhmkiaa
