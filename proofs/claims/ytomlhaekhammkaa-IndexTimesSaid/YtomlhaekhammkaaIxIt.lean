import Derived.Test.YtomlhaekhammkaaAvRf
import Derived.Test.YtomlhaekhammkaaProg
import Derived.KernelRfl
import Derived.RangeFuncBox
import Derived.WalkKit
import Derived.OwnWalkIn
import Derived.TacticsInMore
import Derived.LoopNIn
import Derived.LoopIn

set_option maxRecDepth 100000
set_option maxHeartbeats 2000000
open Go.RowKit
namespace Go.Proofs.Ytomlhaekhammkaa
open Go.Av
attribute [local go_sem] Oper.semAt_some

theorem back68 (mu : Mem) (len Bs so b off cap : Nat) (vals : Nat → Nat → Value) (hlen : len ≤ 1000000) (hBs : mu Bs so = some (.slice (some ⟨b, off, none⟩) len cap))
    (hv : ∀ i j, i < len → j < 3 → mu b (off + i * 3 + j) = some (vals i j)) :
    IterAt Try.prog mu 68 #[.pointer (some ⟨Bs, so, none⟩)] (fun k => #[.int .i64 ((len : Int) - 1 - k), .agg #[vals (len - 1 - k) 0, vals (len - 1 - k) 1, vals (len - 1 - k) 2]]) len := by
  intro l J Jx W hJm hY h0
  refine callsIn_of_wp Try.func68 rfl trivial ?_ rfl
  simp only [Try.ntmps68, List.size_toArray, List.length_cons, List.length_nil, Nat.reduceAdd, Nat.reduceSub, Array.replicate_succ, Array.replicate_zero, List.push_toArray, List.append_toArray, List.nil_append, List.cons_append]
  have hB0 : W.cell? ⟨Bs, so, none⟩ = some (.slice (some ⟨b, off, none⟩) len cap) := (hJm 0 W h0 _ _ _ hBs).1
  gi_wp2
  gi_loopw [3] (fun i wr => ∃ k : Nat, k ≤ len ∧ i = .int .i64 ((len : Int) - 1 - k) ∧ J k wr)
    (fun i _ => (intOf i + 1).toNat)
  case atStart => exact ⟨0, Nat.zero_le _, by simp, h0⟩
  case round =>
    obtain ⟨k, hk, rfl, hJs⟩ := hrel
    have hcB : wr.cell? ⟨Bs, so, none⟩ = some (.slice (some ⟨b, off, none⟩) len cap) := (hJm k wr hJs _ _ _ hBs).1
    by_cases hlt : k < len
    · have hm : ∀ j, j < 3 → wr.cell? ⟨b, off + (len - 1 - k) * 3 + j, none⟩ = some (vals (len - 1 - k) j) := fun j hj => (hJm k wr hJs _ _ _ (hv (len - 1 - k) j (by omega) hj)).1
      have hm0 : wr.cell? ⟨b, off + (len - 1 - k) * 3, none⟩ = some (vals (len - 1 - k) 0) := by simpa using hm 0 (by omega)
      have hm1 := hm 1 (by omega)
      have hm2 := hm 2 (by omega)
      obtain ⟨fn, tmps, assign, body, hy, hR⟩ := hY k wr hJs hlt
      have hge : (0 : Int) ≤ (len : Int) - 1 - k := by omega
      gi_wp2
      refine ⟨rfl, hR.mono ?_⟩
      rintro e W3 (⟨rfl, hJ3⟩ | ⟨rfl, hJx3⟩)
      · gi_wp2
        go_roundw
        case rel => exact ⟨k + 1, by omega, by simp; omega, hJ3⟩
        case measure => simp [intOf]; omega
      · gi_wp2
        refine bodyPost_ret (results_none rfl _ _ _) rfl ?_
        exact ⟨⟨_, rfl⟩, .inr hJx3⟩
    · obtain rfl : k = len := by omega
      gi_wp2
      go_end0
      exact ⟨⟨_, rfl⟩, .inl hJs⟩

theorem back68_nil (mu : Mem) (Bs so cap : Nat) (p : Option Addr) (encs : Nat → Array Value) (hBs : mu Bs so = some (.slice p 0 cap)) : IterAt Try.prog mu 68 #[.pointer (some ⟨Bs, so, none⟩)] encs 0 := by
  intro l J Jx W hJm hY h0
  refine callsIn_of_wp Try.func68 rfl trivial ?_ rfl
  simp only [Try.ntmps68, List.size_toArray, List.length_cons, List.length_nil, Nat.reduceAdd, Nat.reduceSub, Array.replicate_succ, Array.replicate_zero, List.push_toArray, List.append_toArray, List.nil_append, List.cons_append]
  have hB0 : W.cell? ⟨Bs, so, none⟩ = some (.slice p 0 cap) := (hJm 0 W h0 _ _ _ hBs).1
  gi_wp2
  gi_loopw [3] (fun i wr => i = .int .i64 (-1) ∧ J 0 wr) (fun _ _ => 0)
  case atStart => exact ⟨rfl, h0⟩
  case round =>
    obtain ⟨rfl, hJs⟩ := hrel
    gi_wp2
    go_end0
    exact ⟨⟨_, rfl⟩, .inl hJs⟩

/-- The iterator of a slice that is represented. -/
theorem back68_it {mu : Mem} {xs : List SV} {sv : Value} {Bs so : Nat} (hlen : xs.length ≤ 1000000) (hBs : mu Bs so = some sv) (hr : Rep mu (.sl 3 xs) sv) :
    ∃ vals : Nat → Nat → Value, (∀ i, i < xs.length → (xs.getD i .undef).nc = 3) ∧ (∀ i j, i < xs.length → j < 3 → Rep mu ((xs.getD i .undef).cell j) (vals i j)) ∧
      IterAt Try.prog mu 68 #[.pointer (some ⟨Bs, so, none⟩)] (fun k => #[.int .i64 ((xs.length : Int) - 1 - k), .agg #[vals (xs.length - 1 - k) 0, vals (xs.length - 1 - k) 1, vals (xs.length - 1 - k) 2]]) xs.length := by
  generalize hsv : SV.sl 3 xs = v at hr
  cases hr with
  | slnil sz => cases hsv; exact ⟨fun _ _ => undef, fun i hi => by simp at hi, fun i j hi => by simp at hi, back68_nil mu Bs so 0 none _ hBs⟩
  | sle sz a cap => cases hsv; exact ⟨fun _ _ => undef, fun i hi => by simp at hi, fun i j hi => by simp at hi, back68_nil mu Bs so cap (some a) _ hBs⟩
  | sl sz ys b off cap vals h1 h2 h3 h4 =>
    cases hsv
    refine ⟨vals, fun i hi => ?_, h4, back68 mu xs.length Bs so b off cap vals hlen hBs h3⟩
    rw [List.getD_eq_getElem?_getD, List.getElem?_eq_getElem hi]
    exact h2 _ (List.getElem_mem hi)
  | _ => cases hsv

theorem back73 (mu : Mem) (len Bs so b off cap : Nat) (vals : Nat → Nat → Value) (hlen : len ≤ 1000000) (hBs : mu Bs so = some (.slice (some ⟨b, off, none⟩) len cap))
    (hv : ∀ i j, i < len → j < 4 → mu b (off + i * 4 + j) = some (vals i j)) :
    IterAt Try.prog mu 73 #[.pointer (some ⟨Bs, so, none⟩)] (fun k => #[.int .i64 ((len : Int) - 1 - k), .agg #[vals (len - 1 - k) 0, vals (len - 1 - k) 1, vals (len - 1 - k) 2, vals (len - 1 - k) 3]]) len := by
  intro l J Jx W hJm hY h0
  refine callsIn_of_wp Try.func73 rfl trivial ?_ rfl
  simp only [Try.ntmps73, List.size_toArray, List.length_cons, List.length_nil, Nat.reduceAdd, Nat.reduceSub, Array.replicate_succ, Array.replicate_zero, List.push_toArray, List.append_toArray, List.nil_append, List.cons_append]
  have hB0 : W.cell? ⟨Bs, so, none⟩ = some (.slice (some ⟨b, off, none⟩) len cap) := (hJm 0 W h0 _ _ _ hBs).1
  gi_wp2
  gi_loopw [3] (fun i wr => ∃ k : Nat, k ≤ len ∧ i = .int .i64 ((len : Int) - 1 - k) ∧ J k wr)
    (fun i _ => (intOf i + 1).toNat)
  case atStart => exact ⟨0, Nat.zero_le _, by simp, h0⟩
  case round =>
    obtain ⟨k, hk, rfl, hJs⟩ := hrel
    have hcB : wr.cell? ⟨Bs, so, none⟩ = some (.slice (some ⟨b, off, none⟩) len cap) := (hJm k wr hJs _ _ _ hBs).1
    by_cases hlt : k < len
    · have hm : ∀ j, j < 4 → wr.cell? ⟨b, off + (len - 1 - k) * 4 + j, none⟩ = some (vals (len - 1 - k) j) := fun j hj => (hJm k wr hJs _ _ _ (hv (len - 1 - k) j (by omega) hj)).1
      have hm0 : wr.cell? ⟨b, off + (len - 1 - k) * 4, none⟩ = some (vals (len - 1 - k) 0) := by simpa using hm 0 (by omega)
      have hm1 := hm 1 (by omega)
      have hm2 := hm 2 (by omega)
      have hm3 := hm 3 (by omega)
      obtain ⟨fn, tmps, assign, body, hy, hR⟩ := hY k wr hJs hlt
      have hge : (0 : Int) ≤ (len : Int) - 1 - k := by omega
      gi_wp2
      refine ⟨rfl, hR.mono ?_⟩
      rintro e W3 (⟨rfl, hJ3⟩ | ⟨rfl, hJx3⟩)
      · gi_wp2
        go_roundw
        case rel => exact ⟨k + 1, by omega, by simp; omega, hJ3⟩
        case measure => simp [intOf]; omega
      · gi_wp2
        refine bodyPost_ret (results_none rfl _ _ _) rfl ?_
        exact ⟨⟨_, rfl⟩, .inr hJx3⟩
    · obtain rfl : k = len := by omega
      gi_wp2
      go_end0
      exact ⟨⟨_, rfl⟩, .inl hJs⟩

theorem back73_nil (mu : Mem) (Bs so cap : Nat) (p : Option Addr) (encs : Nat → Array Value) (hBs : mu Bs so = some (.slice p 0 cap)) : IterAt Try.prog mu 73 #[.pointer (some ⟨Bs, so, none⟩)] encs 0 := by
  intro l J Jx W hJm hY h0
  refine callsIn_of_wp Try.func73 rfl trivial ?_ rfl
  simp only [Try.ntmps73, List.size_toArray, List.length_cons, List.length_nil, Nat.reduceAdd, Nat.reduceSub, Array.replicate_succ, Array.replicate_zero, List.push_toArray, List.append_toArray, List.nil_append, List.cons_append]
  have hB0 : W.cell? ⟨Bs, so, none⟩ = some (.slice p 0 cap) := (hJm 0 W h0 _ _ _ hBs).1
  gi_wp2
  gi_loopw [3] (fun i wr => i = .int .i64 (-1) ∧ J 0 wr) (fun _ _ => 0)
  case atStart => exact ⟨rfl, h0⟩
  case round =>
    obtain ⟨rfl, hJs⟩ := hrel
    gi_wp2
    go_end0
    exact ⟨⟨_, rfl⟩, .inl hJs⟩

/-- The iterator of a slice that is represented. -/
theorem back73_it {mu : Mem} {xs : List SV} {sv : Value} {Bs so : Nat} (hlen : xs.length ≤ 1000000) (hBs : mu Bs so = some sv) (hr : Rep mu (.sl 4 xs) sv) :
    ∃ vals : Nat → Nat → Value, (∀ i, i < xs.length → (xs.getD i .undef).nc = 4) ∧ (∀ i j, i < xs.length → j < 4 → Rep mu ((xs.getD i .undef).cell j) (vals i j)) ∧
      IterAt Try.prog mu 73 #[.pointer (some ⟨Bs, so, none⟩)] (fun k => #[.int .i64 ((xs.length : Int) - 1 - k), .agg #[vals (xs.length - 1 - k) 0, vals (xs.length - 1 - k) 1, vals (xs.length - 1 - k) 2, vals (xs.length - 1 - k) 3]]) xs.length := by
  generalize hsv : SV.sl 4 xs = v at hr
  cases hr with
  | slnil sz => cases hsv; exact ⟨fun _ _ => undef, fun i hi => by simp at hi, fun i j hi => by simp at hi, back73_nil mu Bs so 0 none _ hBs⟩
  | sle sz a cap => cases hsv; exact ⟨fun _ _ => undef, fun i hi => by simp at hi, fun i j hi => by simp at hi, back73_nil mu Bs so cap (some a) _ hBs⟩
  | sl sz ys b off cap vals h1 h2 h3 h4 =>
    cases hsv
    refine ⟨vals, fun i hi => ?_, h4, back73 mu xs.length Bs so b off cap vals hlen hBs h3⟩
    rw [List.getD_eq_getElem?_getD, List.getElem?_eq_getElem hi]
    exact h2 _ (List.getElem_mem hi)
  | _ => cases hsv
end Go.Proofs.Ytomlhaekhammkaa
