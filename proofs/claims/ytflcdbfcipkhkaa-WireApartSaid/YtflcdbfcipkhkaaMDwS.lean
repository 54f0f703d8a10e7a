import Derived.Test.YtflcdbfcipkhkaaMDwO
import Derived.Test.YtflcdbfcipkhkaaAvAD
import Derived.Test.YtflcdbfcipkhkaaMDwB

set_option linter.unusedVariables false
set_option linter.unusedSimpArgs false

/- Wire: a response's bytes. -/


set_option linter.unusedSimpArgs false
set_option linter.unusedVariables false
set_option maxHeartbeats 8000000
namespace Go.Proofs.Ytflcdbfcipkhkaa
open Go.Av

def batsB (l : List Bat) : List Nat := (l.map fun b => textB (putB b)).flatten
def txtsB (l : List ByteArray) : List Nat := (l.map textN).flatten
/-- The first batch's error. -/
def batsE : List Bat → Int
  | [] => 0
  | b :: l => if batE b ≠ 0 then batE b else batsE l
def bigP (a : Rsp) : Prop := 64 < a.bts.length ∨ 64 < a.pas.length ∨ 64 < a.nms.length
instance (a : Rsp) : Decidable (bigP a) := by unfold bigP; infer_instance
def kindP (a : Rsp) : Bool := decide (11 < a.kd) && !(a.kd == 255)
/-- What is wrong with a response. -/
def rspE (a : Rsp) : Int := if kindP a = true then 22 else if bigP a then 5 else if a.nms.any isLong = true then 5 else batsE a.bts
def hd4 (a : Rsp) : List Int := [a.er, a.off, a.nx, a.ge]
def rspH1 (a : Rsp) : List Nat := [a.kd.toNat] ++ numsB (hd4 a) ++ flagL a.db ++ layN (zig a.bts.length)
def rspH2 (a : Rsp) : List Nat := rspH1 a ++ batsB a.bts ++ layN (zig a.pas.length)
def rspH3 (a : Rsp) : List Nat := rspH2 a ++ numsB a.pas ++ layN (zig a.nms.length)
def rspL (a : Rsp) : List Nat := rspH3 a ++ txtsB a.nms
def putP (a : Rsp) : List Nat := if rspE a = 0 then rspL a else []
def Rsp.ok (a : Rsp) : Prop := 0 ≤ a.kd ∧ a.kd < 256 ∧ I64 a.er ∧ I64 a.off ∧ I64 a.nx ∧ I64 a.ge ∧ (∀ b ∈ a.bts, b.ok) ∧ ∀ n ∈ a.pas, I64 n
theorem batsB_snoc (l : List Bat) (b : Bat) : batsB (l ++ [b]) = batsB l ++ textB (putB b) := by simp [batsB]
theorem txtsB_snoc (l : List ByteArray) (s : ByteArray) : txtsB (l ++ [s]) = txtsB l ++ textN s := by simp [txtsB]
theorem textB_le {b : List Nat} (h : b.length ≤ 8192) : (textB b).length ≤ 8202 := by
  have h1 := layN_le10 (u := zig b.length) (zig_lt (by omega) (by omega))
  simp only [textB, List.length_append]
  omega
theorem batsB_le : ∀ l : List Bat, (batsB l).length ≤ 8202 * l.length
  | [] => by simp [batsB]
  | b :: l => by
    have h1 := textB_le (putB_le8 b)
    have h2 := batsB_le l
    simp only [batsB, List.map_cons, List.flatten_cons, List.length_append, List.length_cons] at h2 ⊢
    omega
theorem txtsB_le : ∀ {l : List ByteArray}, l.any isLong = false → (txtsB l).length ≤ 265 * l.length
  | [], _ => by simp [txtsB]
  | s :: l, h => by
    simp only [List.any_cons, Bool.or_eq_false_iff] at h
    have h0 : s.size ≤ 255 := by have := h.1; simp only [isLong, decide_eq_false_iff_not] at this; omega
    have h1 := textN_le h0
    have h2 := txtsB_le h.2
    simp only [txtsB, List.map_cons, List.flatten_cons, List.length_append, List.length_cons] at h2 ⊢
    omega
theorem any_take {l : List ByteArray} (h : l.any isLong = false) (i : Nat) : (l.take i).any isLong = false := by
  rw [List.any_eq_false] at h ⊢
  exact fun x hx => h x (List.mem_of_mem_take hx)
theorem batsE_drop (l : List Bat) {i : Nat} (h : i < l.length) : batsE (l.drop i) = if batE (l.getD i bat0) ≠ 0 then batE (l.getD i bat0) else batsE (l.drop (i + 1)) := by
  rw [List.drop_eq_getElem_cons h, batsE]
  simp [List.getD_eq_getElem?_getD, h]
noncomputable def R38p (f : FuncId) (l : List SV) : Option (Prop × LV) :=
  match f with
  | 91 => row eTf (fun l => (l.length < 4611686018427387904, .sv (.bool (l.any isLong)))) l
  | 84 => row eB (fun b => (b.ok, .tup [.own 1 (bs (putB b)), .sv (.int .i64 (batE b))])) l
  | 87 => row eB (fun b => (b.ok, .tup [.own 1 (bs (putB b)), .sv (.int .i64 (batE b))])) l
  | _ => RwDp f l
noncomputable def R38 : Orc := { p := R38p }
theorem R38_ok : R38.ok Try.prog := by
  refine ⟨fun f l c rv h hc => ?_, fun _ _ _ _ _ _ h => (by cases h), fun _ _ _ _ h => (by cases h), fun _ h => (by cases h), fun _ _ _ _ _ _ h => (by cases h), fun _ _ _ _ _ _ _ h => (by cases h)⟩
  change R38p f l = _ at h
  unfold R38p at h
  split at h
  · exact row_ok h hc (fun l hl => anyLong l hl)
  · exact row_ok h hc (fun b hb => put_bat b hb)
  · exact row_ok h hc (fun b hb => rput_bat b hb)
  · exact RwD_ok.p _ _ _ _ h hc
theorem R38_91 (l : List ByteArray) : R38.p 91 [.sl 1 (TL l), .fn 92 [] []] = some (l.length < 4611686018427387904, .sv (.bool (l.any isLong))) := row_eq eTf_inj _ l
theorem R38_84 (b : Bat) : R38.p 84 [bsv b] = some (b.ok, .tup [.own 1 (bs (putB b)), .sv (.int .i64 (batE b))]) := row_eq eB_inj _ b
theorem R38_87 (b : Bat) : R38.p 87 [bsv b] = some (b.ok, .tup [.own 1 (bs (putB b)), .sv (.int .i64 (batE b))]) := row_eq eB_inj _ b
theorem R38_27 (s : ByteArray) : R38.p 27 [.str s] = some (s.size ≤ 140737488355000, .own 1 (bs (textN s))) := row_eq eSt_inj _ s
theorem R38_28 (s : ByteArray) : R38.p 28 [.str s] = some (s.size ≤ 140737488355000, .own 1 (bs (textN s))) := row_eq eSt_inj _ s
theorem R38_71 (n : Int) : R38.p 71 [.int .i64 n] = some (I64 n, .own 1 (bs (layN (zig n)))) := row_eq eN_inj _ n
theorem R38_82 (n : Int) : R38.p 82 [.int .i64 n] = some (I64 n, .own 1 (bs (layN (zig n)))) := row_eq eN_inj _ n
theorem R38_93 (b : Bool) : R38.p 93 [.bool b] = some (True, .own 1 (bs (flagL b))) := row_eq eBo_inj _ b
theorem R38_88 (b : Bool) : R38.p 88 [.bool b] = some (True, .own 1 (bs (flagL b))) := row_eq eBo_inj _ b
theorem mm3c (a b c : Nat) (n : Nat) : ((n : Int) < mmI true (mmI true (a : Int) b) c) ↔ (n < a ∨ n < b ∨ n < c) := by
  simp only [mmI, if_true]
  split <;> split <;> omega
theorem put_rsp (a : Rsp) (ho : a.ok) (hn : a.nms.length < 4611686018427387904) : Pure Try.prog 38 [a.sv] (.tup [.own 1 (bs (putP a)), .sv (.int .i64 (rspE a))]) := by
  have e91 := R38_91 a.nms
  have e84 := R38_84
  have e27 := R38_27
  have e71 := R38_71
  have e93 := R38_93 a.db
  have hR := R38_ok
  have hnf : R38.nofz = false := rfl
  have hm := mm3c a.bts.length a.pas.length a.nms.length 64
  generalize R38 = R at hR e91 e84 e27 e71 e93 hnf
  obtain ⟨o1, o2, o3, o4, o5, o6, o7, o8⟩ := ho
  refine pure_go hR Try.func38 Try.ntmps38 comp38 cres38 (by decide) (by simp) ?_
  simp only [Rsp.sv, Rsp.cells]
  cases h1 : kindP a with
  | true =>
    have hE : rspE a = 22 := if_pos h1
    have hP : putP a = [] := by rw [putP, if_neg (by rw [hE]; decide)]
    rw [hE, hP]
    simp only [kindP, Bool.and_eq_true, decide_eq_true_eq, Bool.not_eq_true', beq_eq_false_iff_ne] at h1
    simp [ac38, ar38, h1.1, h1.2]
  | false =>
  have hkb : (decide (11 < a.kd) && !(a.kd == 255)) = false := h1
  have hkc : 11 < a.kd → a.kd = 255 := fun z => by simpa [kindP, z] using h1
  by_cases h2 : bigP a
  · have hE : rspE a = 5 := by rw [rspE, if_neg (by rw [h1]; decide), if_pos h2]
    have hP : putP a = [] := by rw [putP, if_neg (by rw [hE]; decide)]
    have h2' : (64 : Int) < mmI true (mmI true (a.bts.length : Int) a.pas.length) a.nms.length := hm.2 h2
    rw [hE, hP]
    simp [ac38, ar38, hkb, -mmI, h2']
    exact hkc
  have h2' : ¬ (64 : Int) < mmI true (mmI true (a.bts.length : Int) a.pas.length) a.nms.length := fun z => h2 (hm.1 z)
  cases h3 : a.nms.any isLong with
  | true =>
    have hE : rspE a = 5 := by rw [rspE, if_neg (by rw [h1]; decide), if_neg h2, if_pos h3]
    have hP : putP a = [] := by rw [putP, if_neg (by rw [hE]; decide)]
    rw [hE, hP]
    rw [h3] at e91
    simp [ac38, ar38, hkb, -mmI, h2', e91, hn]
    exact hkc
  | false =>
  rw [h3] at e91
  have hE : rspE a = batsE a.bts := by rw [rspE, if_neg (by rw [h1]; decide), if_neg h2, if_neg (by rw [h3]; decide)]
  have hpp : putP a = if batsE a.bts = 0 then rspL a else [] := by rw [putP, hE]
  rw [hE, hpp]
  clear hE hpp
  simp only [bigP, not_or, Nat.not_lt] at h2
  obtain ⟨n1, n2, n3⟩ := h2
  have hk : [SV.int .u8 a.kd] = bs [a.kd.toNat] := by simp [bs]; omega
  have l4 := numsB_le (l := hd4 a) (fun n hn => by simp [hd4] at hn; rcases hn with rfl | rfl | rfl | rfl <;> assumption)
  have lf := flagL_le a.db
  have lb := layN_le10 (u := zig a.bts.length) (zig_lt (by omega) (by omega))
  have lp := layN_le10 (u := zig a.pas.length) (zig_lt (by omega) (by omega))
  have ln := layN_le10 (u := zig a.nms.length) (zig_lt (by omega) (by omega))
  have i1 : I64 (a.bts.length : Int) := ⟨by omega, by omega⟩
  have i2 : I64 (a.pas.length : Int) := ⟨by omega, by omega⟩
  have i3 : I64 (a.nms.length : Int) := ⟨by omega, by omega⟩
  have lh1 : (rspH1 a).length ≤ 60 := by
    have : (hd4 a).length = 4 := rfl
    simp only [rspH1, List.length_append, List.length_singleton]; omega
  have lbb := batsB_le a.bts
  have lpp := numsB_le (l := a.pas) o8
  have lh2 : (rspH2 a).length ≤ 600000 := by
    simp only [rspH2, List.length_append]; omega
  have lh3 : (rspH3 a).length ≤ 700000 := by
    simp only [rspH3, List.length_append]; omega
  simp [ac38, ar38, hkb, -mmI, h2', e91, hn, hnf]
  refine ⟨fun z1 z2 => absurd (hkc z1) z2, fun _ => ?_⟩
  have hh : ∀ n ∈ hd4 a, I64 n := fun n hn => by simp [hd4] at hn; rcases hn with rfl | rfl | rfl | rfl <;> assumption
  refine awpR_loop (α := Nat) (fun i => i ≤ 4) (fun i => { n := 129, sl := [(1, .lptr 1 0), (4, .own 1 (bs ([a.kd.toNat] ++ numsB ((hd4 a).take i)))), (51, .sv (.agg [.int .i64 a.er, .int .i64 a.off, .int .i64 a.nx, .int .i64 a.ge])), (52, .sv (.int .i64 i))], bx := [(1, prv a)], hp := fun _ => none })
    (fun i => 4 - i) 0 (by omega) (by simp [numsB, hk]) ?_
  intro i hi
  have key : ∀ n L, numsB L ++ layN (zig n) = numsB (L ++ [n]) := fun n L => (numsB_snoc L n).symm
  have q1 := layN_le10 (zig_lt o3.1 o3.2)
  have q2 := layN_le10 (zig_lt o4.1 o4.2)
  have q3 := layN_le10 (zig_lt o5.1 o5.2)
  have q4 := layN_le10 (zig_lt o6.1 o6.2)
  have hi' : i = 0 ∨ i = 1 ∨ i = 2 ∨ i = 3 ∨ i = 4 := by omega
  rcases hi' with rfl | rfl | rfl | rfl | rfl
  · simp [hd4, e71, o3, numsB]
    exact ⟨by omega, 1, by omega, by omega, by simp [bs, numsB], by first | omega | decide⟩
  · simp [hd4, e71, o4, numsB]
    exact ⟨by omega, 2, by omega, by omega, by simp [bs, numsB], by first | omega | decide⟩
  · simp [hd4, e71, o5, numsB]
    exact ⟨by omega, 3, by omega, by omega, by simp [bs, numsB], by first | omega | decide⟩
  · simp [hd4, e71, o6, numsB]
    exact ⟨by omega, 4, by omega, by omega, by simp [bs, numsB], by first | omega | decide⟩
  have ht4 : (hd4 a).take 4 = hd4 a := rfl
  simp [ht4, e93, e71, i1]
  have h44 : (hd4 a).length = 4 := rfl
  rw [h44] at l4
  refine ⟨by omega, by omega, ?_⟩
  refine awpR_loop (α := Nat) (fun i => i ≤ a.bts.length ∧ batsE a.bts = batsE (a.bts.drop i)) (fun i => { n := 129, sl := [(1, .lptr 1 0), (4, .own 1 (bs (rspH1 a ++ batsB (a.bts.take i)))), (72, .sv (.sl 6 (BL a.bts))), (73, .sv (.int .i64 a.bts.length)), (74, .sv (.int .i64 i))], bx := [(1, prv a)], hp := fun _ => none })
    (fun i => a.bts.length - i) 0 ⟨by omega, by simp⟩ (by simp [rspH1, batsB, bs]) ?_
  rintro i ⟨hi, ha⟩
  by_cases h : i < a.bts.length
  · have hlt : (i : Int) < a.bts.length := by omega
    have hw := @wrap_succ i a.bts.length h (by omega)
    have hg1 := BL_get a.bts h
    have e1 : (BL a.bts)[i]'(by simpa using h) = (a.bts.getD i bat0).sv := by rw [← hg1, List.getElem?_eq_getElem]; rfl
    have hbo : (a.bts.getD i bat0).ok := by rw [List.getD_eq_getElem?_getD, List.getElem?_eq_getElem h]; exact o7 _ (List.getElem_mem h)
    have hs : batsB (a.bts.take (i + 1)) = batsB (a.bts.take i) ++ textB (putB (a.bts.getD i bat0)) := by
      rw [List.take_succ_eq_append_getElem h, batsB_snoc, List.getD_eq_getElem?_getD, List.getElem?_eq_getElem h]; rfl
    have hle := batsB_le (a.bts.take i)
    rw [List.length_take] at hle
    rw [batsE_drop a.bts h] at ha
    generalize a.bts.getD i bat0 = x at *
    have e := e84 x
    have hbx := putB_le8 x
    have ht := textN_sOf (putB_bytes x)
    have e2 := e27 (sOf (putB x))
    rw [ht] at e2
    have z4 : (sOf (putB x)).size ≤ 140737488355000 := by rw [sOf_size]; omega
    have z5 := textB_le hbx
    have b1 := bs_byte (putB x)
    have b2 := bs_str (putB x)
    by_cases q : batE x = 0
    · rw [if_neg (by simp [q])] at ha
      rw [q] at e
      generalize putB x = B at *
      simp [hlt, h, hg1, e1, Bat.sv, Bat.cells, e, hbo, b2, e2, z4, hw]
      refine ⟨⟨b1, by omega⟩, i + 1, ⟨by omega, ha⟩, by omega, ?_, by omega⟩
      rw [hs]
      simp [bs]
    · rw [if_pos q] at ha
      rw [ha, if_neg q]
      generalize batE x = E at *
      generalize putB x = B at *
      simp [hlt, h, hg1, e1, Bat.sv, Bat.cells, e, hbo, q]
  · obtain rfl : i = a.bts.length := by omega
    have hlt : ¬ ((a.bts.length : Nat) : Int) < a.bts.length := by omega
    rw [List.drop_length] at ha
    rw [ha, List.take_length]
    have hb0 : batsE [] = 0 := rfl
    rw [hb0, if_pos rfl]
    have h44 : (hd4 a).length = 4 := rfl
    have hbl := batsB_le a.bts
    simp [hlt, e71, i2]
    refine ⟨by omega, ?_⟩
    refine awpR_loop (α := Nat) (fun i => i ≤ a.pas.length) (fun i => { n := 129, sl := [(1, .lptr 1 0), (4, .own 1 (bs (rspH2 a ++ numsB (a.pas.take i)))), (99, .sv (.sl 1 (IL a.pas))), (100, .sv (.int .i64 a.pas.length)), (101, .sv (.int .i64 i))], bx := [(1, prv a)], hp := fun _ => none })
      (fun i => a.pas.length - i) 0 (by omega) (by simp [rspH2, numsB, bs]) ?_
    intro i hi
    by_cases h : i < a.pas.length
    · have hlt : (i : Int) < a.pas.length := by omega
      have hw := @wrap_succ i a.pas.length h (by omega)
      have hg1 := IL_get a.pas h
      have e1 : (IL a.pas)[i]'(by simpa using h) = .int .i64 (a.pas.getD i 0) := by rw [← hg1, List.getElem?_eq_getElem]; rfl
      have hbo : I64 (a.pas.getD i 0) := by rw [List.getD_eq_getElem?_getD, List.getElem?_eq_getElem h]; exact o8 _ (List.getElem_mem h)
      have hs : numsB (a.pas.take (i + 1)) = numsB (a.pas.take i) ++ layN (zig (a.pas.getD i 0)) := by
        rw [List.take_succ_eq_append_getElem h, numsB_snoc, List.getD_eq_getElem?_getD, List.getElem?_eq_getElem h]; rfl
      have hle := numsB_le (l := a.pas.take i) (fun n hn => o8 n (List.mem_of_mem_take hn))
      rw [List.length_take] at hle
      generalize a.pas.getD i 0 = x at *
      have hx := layN_le10 (zig_lt hbo.1 hbo.2)
      have e := e71 x
      simp [hlt, h, hg1, e1, e, hbo, hw]
      refine ⟨by omega, i + 1, by omega, by omega, ?_, by omega⟩
      rw [hs]
      simp [bs]
    · obtain rfl : i = a.pas.length := by omega
      have hlt : ¬ ((a.pas.length : Nat) : Int) < a.pas.length := by omega
      rw [List.take_length]
      simp [hlt, e71, i3]
      refine ⟨by omega, ?_⟩
      refine awpR_loop (α := Nat) (fun i => i ≤ a.nms.length) (fun i => { n := 129, sl := [(1, .lptr 1 0), (4, .own 1 (bs (rspH3 a ++ txtsB (a.nms.take i)))), (117, .sv (.sl 1 (TL a.nms))), (118, .sv (.int .i64 a.nms.length)), (119, .sv (.int .i64 i))], bx := [(1, prv a)], hp := fun _ => none })
        (fun i => a.nms.length - i) 0 (by omega) (by simp [rspH3, txtsB, bs]) ?_
      intro i hi
      by_cases h : i < a.nms.length
      · have hlt : (i : Int) < a.nms.length := by omega
        have hw := @wrap_succ i a.nms.length h (by omega)
        have hg1 := TL_get a.nms h
        have e1 : (TL a.nms)[i]'(by simpa using h) = .str (a.nms.getD i ⟨#[]⟩) := by rw [← hg1, List.getElem?_eq_getElem]; rfl
        have hbo : (a.nms.getD i ⟨#[]⟩).size ≤ 255 := by
          rw [List.getD_eq_getElem?_getD, List.getElem?_eq_getElem h]
          have := List.any_eq_false.1 h3 _ (List.getElem_mem h)
          simp only [isLong, decide_eq_true_eq] at this
          simp only [Option.getD_some]
          omega
        have hs : txtsB (a.nms.take (i + 1)) = txtsB (a.nms.take i) ++ textN (a.nms.getD i ⟨#[]⟩) := by
          rw [List.take_succ_eq_append_getElem h, txtsB_snoc, List.getD_eq_getElem?_getD, List.getElem?_eq_getElem h]; rfl
        have hle := txtsB_le (any_take h3 i)
        rw [List.length_take] at hle
        generalize a.nms.getD i ⟨#[]⟩ = x at *
        have hx := textN_le hbo
        have e := e27 x
        have hbo2 : x.size ≤ 140737488355000 := by omega
        simp [hlt, h, hg1, e1, e, hbo2, hw]
        refine ⟨by omega, i + 1, by omega, by omega, ?_, by omega⟩
        rw [hs]
        simp [bs]
      · obtain rfl : i = a.nms.length := by omega
        have hlt : ¬ ((a.nms.length : Nat) : Int) < a.nms.length := by omega
        rw [List.take_length]
        simp [hlt, rspL]
end Go.Proofs.Ytflcdbfcipkhkaa

/- Wire: what fits a request and a response. -/


set_option linter.unusedSimpArgs false
set_option linter.unusedVariables false
set_option maxHeartbeats 4000000
namespace Go.Proofs.Ytflcdbfcipkhkaa
open Go.Av

/-- Whatever stands for the one stands for the other one. -/
def WkM (a b : SV) : Prop := ∀ (mu : Mem) (v : Value), Rep mu a v → Rep mu b v
theorem WkM.refl (a : SV) : WkM a a := fun _ _ h => h
theorem wkM_C {a b : SV} (h : WkC a b) : WkM a b := fun _ _ hr => h.rep hr
theorem wkM_Cs {l m : List SV} (h : WkCs l m) : WkM (.agg l) (.agg m) := fun _ _ hr => WkCs_rep h hr
theorem wkM_agg {l m : List SV} (hl : l.length = m.length) (h : ∀ j, j < l.length → WkM (l.getD j .undef) (m.getD j .undef)) : WkM (.agg l) (.agg m) := by
  intro mu v hr
  cases hr with
  | agg cs vs h1 h2 => exact .agg m vs (by omega) (fun j hj => h j (by omega) mu _ (h2 j (by omega)))
theorem wkM_nils (z : Nat) : WkM .nils (.sl z []) := fun mu v h => by rw [h.inv_nils]; exact .slnil z
theorem pure_wkM {P : Program} {f : FuncId} {rv : LV} {l m : List SV} (hl : l.length = m.length) (h : ∀ j, j < l.length → WkM (l.getD j .undef) (m.getD j .undef)) (p : Pure P f m rv) : Pure P f l rv :=
  fun mu w vs hm hr => p mu w vs hm ⟨by rw [hr.1]; exact hl, fun j hj => h j (by omega) mu _ (hr.2 j (by omega))⟩
abbrev shB : Sh := .st [.int .i64, .int .i64, .int .i64, .int .i64, .int .i64, .sl (.st [.int .i64, .int .i64, .bool, .str, .bool, .str])]
abbrev shQ : Sh := .st [.int .u8, .str, .int .i64, .int .i64, .bool, .bool, .int .i64, .int .i64, .int .i64, .str, .str, .int .i64, shB]
abbrev shP : Sh := .st [.int .u8, .int .i64, .int .i64, .int .i64, .bool, .int .i64, .sl shB, .sl (.int .i64), .sl .str]
theorem has_batL {l : List SV} (h : shB.has l) : ∃ b : Bat, b.ok ∧ WkCs l b.cells := by
  obtain ⟨b, hb, l', e, hl⟩ := has_bat (v := .agg l) ⟨l, rfl, h⟩
  cases e
  exact ⟨b, hb, hl⟩
theorem has_req {v : SV} (h : shQ.hasV v) : ∃ q : Req, q.ok ∧ WkM v q.sv := by
  simp only [Sh.hasV, Sh.hasL] at h
  obtain ⟨l, rfl, _, _, rfl, ⟨kd, rfl, w1⟩, _, _, rfl, ⟨tp, rfl, _⟩, _, _, rfl, ⟨ix, rfl, w2⟩, _, _, rfl, ⟨pa, rfl, w3⟩, _, _, rfl, ⟨co, rfl⟩, _, _, rfl, ⟨fl, rfl⟩, _, _, rfl, ⟨off, rfl, w4⟩, _, _, rfl, ⟨mo, rfl, w5⟩, _, _, rfl, ⟨ti, rfl, w6⟩,
    _, _, rfl, ⟨gr, rfl, _⟩, _, _, rfl, ⟨me, rfl, _⟩, _, _, rfl, ⟨ge, rfl, w7⟩, bl, _, rfl, hB, rfl⟩ := h
  obtain ⟨b, hb, hl⟩ := has_batL hB
  have k := wfu8 w1
  refine ⟨⟨kd, tp, ix, pa, co, fl, off, mo, ti, gr, me, ge, b⟩, ⟨k.1, k.2, wf64 w2, wf64 w3, wf64 w4, wf64 w5, wf64 w6, wf64 w7, hb⟩, wkM_Cs ?_⟩
  simp only [List.append_nil, List.cons_append, List.nil_append, Req.cells]
  exact ⟨WkC_refl _, WkC_refl _, WkC_refl _, WkC_refl _, WkC_refl _, WkC_refl _, WkC_refl _, WkC_refl _, WkC_refl _, WkC_refl _, WkC_refl _, WkC_refl _, hl⟩
theorem WkCs_len : ∀ {l m : List SV}, WkCs l m → l.length = m.length
  | [], [], _ => rfl
  | a :: l, b :: m, h => by simp [WkCs_len h.2]
  | [], _ :: _, h => h.elim
  | _ :: _, [], h => h.elim
theorem WkCs_get : ∀ {l m : List SV}, WkCs l m → ∀ j, WkC (l.getD j .undef) (m.getD j .undef)
  | [], [], _, j => by simp [WkC]
  | a :: l, b :: m, h, 0 => h.1
  | a :: l, b :: m, h, j + 1 => by simpa using WkCs_get h.2 j
  | [], _ :: _, h, _ => h.elim
  | _ :: _, [], h, _ => h.elim
/-- Batches one by one. -/
def WkBs : List SV → List Bat → Prop
  | [], [] => True
  | x :: xs, b :: l => (∃ c, x = .agg c ∧ WkCs c b.cells) ∧ WkBs xs l
  | _, _ => False
theorem WkBs_len : ∀ {xs : List SV} {l : List Bat}, WkBs xs l → xs.length = l.length
  | [], [], _ => rfl
  | a :: l, b :: m, h => by simp [WkBs_len h.2]
  | [], _ :: _, h => h.elim
  | _ :: _, [], h => h.elim
theorem WkBs_get : ∀ {xs : List SV} {l : List Bat}, WkBs xs l → ∀ i, i < xs.length → ∃ c, xs.getD i .undef = .agg c ∧ WkCs c (l.getD i bat0).cells
  | a :: l, b :: m, h, 0, _ => by obtain ⟨c, h1, h2⟩ := h.1; exact ⟨c, by simpa using h1, by simpa using h2⟩
  | a :: l, b :: m, h, i + 1, hi => by simpa using WkBs_get h.2 i (by simpa using hi)
  | [], [], _, i, hi => by simp at hi
  | [], _ :: _, h, _, _ => h.elim
  | _ :: _, [], h, _, _ => h.elim
theorem wkM_bats {xs : List SV} {l : List Bat} (h : WkBs xs l) : WkM (.sl 6 xs) (.sl 6 (BL l)) := by
  intro mu v hr
  have hlen := WkBs_len h
  rcases hr.inv_sl with ⟨⟨p, cap, e1, e2⟩, e3⟩ | ⟨b, off, cap, vals, rfl, h1, h2, h3, h4⟩
  · subst e3
    have : l = [] := List.length_eq_zero_iff.1 (by simpa using hlen.symm)
    subst this
    exact hr
  · have e : xs.length = (BL l).length := by simp [hlen]
    rw [e]
    refine .sl 6 (BL l) b off cap vals (by omega) (fun x hx => ?_) (fun i j hi hj => h3 i j (by omega) hj) (fun i j hi hj => ?_)
    · simp only [BL, List.mem_map] at hx
      obtain ⟨y, _, rfl⟩ := hx
      rfl
    · have hi' : i < l.length := by simpa using hi
      obtain ⟨c, k1, k2⟩ := WkBs_get h i (by omega)
      have k3 := h4 i j (by omega) hj
      rw [k1] at k3
      rw [show (BL l).getD i .undef = (l.getD i bat0).sv by rw [List.getD_eq_getElem?_getD]; exact BL_get l hi']
      exact (WkCs_get k2 j).rep k3
theorem has_bats : ∀ {xs : List SV}, (∀ x ∈ xs, x = mkE x.cells ∧ shB.has x.cells) → ∃ l : List Bat, (∀ b ∈ l, b.ok) ∧ WkBs xs l
  | [], _ => ⟨[], fun b h => (by cases h), trivial⟩
  | x :: xs, h => by
    obtain ⟨l, hl, hw⟩ := has_bats (xs := xs) (fun y hy => h y (by simp [hy]))
    obtain ⟨he, hx⟩ := h x (by simp)
    obtain ⟨b, hb, hk⟩ := has_batL hx
    refine ⟨b :: l, fun y hy => ?_, ⟨x.cells, ?_, hk⟩, hw⟩
    · rcases List.mem_cons.1 hy with rfl | hy
      · exact hb
      · exact hl y hy
    · have h6 := WkCs_len hk
      have h6' : x.cells.length = 6 := h6
      match hc : x.cells, h6' with
      | [_, _, _, _, _, _], _ => rw [hc] at he; exact he
theorem has_ints : ∀ {xs : List SV}, (∀ x ∈ xs, x = mkE x.cells ∧ (Sh.int .i64).has x.cells) → ∃ l : List Int, xs = IL l ∧ ∀ n ∈ l, I64 n
  | [], _ => ⟨[], rfl, fun n h => by cases h⟩
  | x :: xs, h => by
    obtain ⟨l, rfl, hl⟩ := has_ints (xs := xs) (fun y hy => h y (by simp [hy]))
    obtain ⟨he, n, hn, w⟩ := h x (by simp)
    rw [hn] at he
    refine ⟨n :: l, by rw [he]; rfl, fun y hy => ?_⟩
    rcases List.mem_cons.1 hy with rfl | hy
    · exact wf64 w
    · exact hl y hy
theorem has_txts : ∀ {xs : List SV}, (∀ x ∈ xs, x = mkE x.cells ∧ Sh.str.has x.cells) → ∃ l : List ByteArray, xs = TL l
  | [], _ => ⟨[], rfl⟩
  | x :: xs, h => by
    obtain ⟨l, rfl⟩ := has_txts (xs := xs) (fun y hy => h y (by simp [hy]))
    obtain ⟨he, s, hs, _⟩ := h x (by simp)
    rw [hs] at he
    exact ⟨s :: l, by rw [he]; rfl⟩
theorem has_rspL {l : List SV} (h : shP.has l) : ∃ a : Rsp, a.ok ∧ l.length = 9 ∧ ∀ j, j < 9 → WkM (l.getD j .undef) (a.cells.getD j .undef) := by
  have h' : Sh.hasL [.int .u8, .int .i64, .int .i64, .int .i64, .bool, .int .i64, .sl shB, .sl (.int .i64), .sl .str] l := h
  simp only [Sh.hasL] at h'
  obtain ⟨_, _, rfl, ⟨kd, rfl, w1⟩, _, _, rfl, ⟨er, rfl, w2⟩, _, _, rfl, ⟨off, rfl, w3⟩, _, _, rfl, ⟨nx, rfl, w4⟩, _, _, rfl, ⟨db, rfl⟩, _, _, rfl, ⟨ge, rfl, w5⟩, x, _, rfl, hx, y, _, rfl, hy, z, _, rfl, hz, rfl⟩ := h'
  have k := wfu8 w1
  obtain ⟨x', bts, hxe, hbo, hbw⟩ : ∃ (x' : SV) (bts : List Bat), x = [x'] ∧ (∀ b ∈ bts, b.ok) ∧ WkM x' (.sl 6 (BL bts)) := by
    rcases hx with rfl | ⟨xs, rfl, _, hx⟩
    · exact ⟨.nils, [], rfl, fun b h => (by cases h), wkM_nils 6⟩
    · obtain ⟨l, h1, h2⟩ := has_bats hx
      exact ⟨_, l, rfl, h1, wkM_bats h2⟩
  obtain ⟨y', pas, hye, hpo, hpw⟩ : ∃ (y' : SV) (pas : List Int), y = [y'] ∧ (∀ n ∈ pas, I64 n) ∧ WkM y' (.sl 1 (IL pas)) := by
    rcases hy with rfl | ⟨xs, rfl, _, hx⟩
    · exact ⟨.nils, [], rfl, fun b h => (by cases h), wkM_nils 1⟩
    · obtain ⟨l, rfl, h2⟩ := has_ints hx
      exact ⟨_, l, rfl, h2, WkM.refl _⟩
  obtain ⟨z', nms, hze, hnw⟩ : ∃ (z' : SV) (nms : List ByteArray), z = [z'] ∧ WkM z' (.sl 1 (TL nms)) := by
    rcases hz with rfl | ⟨xs, rfl, _, hx⟩
    · exact ⟨.nils, [], rfl, wkM_nils 1⟩
    · obtain ⟨l, rfl⟩ := has_txts hx
      exact ⟨_, l, rfl, WkM.refl _⟩
  subst hxe hye hze
  refine ⟨⟨kd, er, off, nx, db, ge, bts, pas, nms⟩, ⟨k.1, k.2, wf64 w2, wf64 w3, wf64 w4, wf64 w5, hbo, hpo⟩, rfl, fun j hj => ?_⟩
  match j, hj with
  | 0, _ => exact WkM.refl _
  | 1, _ => exact WkM.refl _
  | 2, _ => exact WkM.refl _
  | 3, _ => exact WkM.refl _
  | 4, _ => exact WkM.refl _
  | 5, _ => exact WkM.refl _
  | 6, _ => exact hbw
  | 7, _ => exact hpw
  | 8, _ => exact hnw
theorem has_rsp {v : SV} (h : shP.hasV v) : ∃ a : Rsp, a.ok ∧ WkM v a.sv := by
  obtain ⟨l, rfl, h⟩ := h
  obtain ⟨a, h1, h2, h3⟩ := has_rspL h
  exact ⟨a, h1, wkM_agg h2 (fun j hj => h3 j (by omega))⟩
theorem has_rsps {v : SV} (h : (Sh.st [shP, shP]).hasV v) : ∃ a b : Rsp, a.ok ∧ b.ok ∧ WkM v (.agg (a.cells ++ b.cells)) := by
  obtain ⟨l, rfl, h⟩ := h
  have h' : Sh.hasL [shP, shP] l := h
  simp only [Sh.hasL] at h'
  obtain ⟨l1, _, rfl, ha, l2, _, rfl, hb, rfl⟩ := h'
  obtain ⟨a, a1, a2, a3⟩ := has_rspL ha
  obtain ⟨b, b1, b2, b3⟩ := has_rspL hb
  refine ⟨a, b, a1, b1, wkM_agg (by simp [a2, b2, Rsp.cells]) (fun j hj => ?_)⟩
  simp only [List.append_nil, List.length_append, a2, b2] at hj
  have ca : a.cells.length = 9 := rfl
  by_cases q : j < 9
  · have := a3 j q
    simp only [List.append_nil, List.getD_eq_getElem?_getD] at this ⊢
    rw [List.getElem?_append_left (by omega), List.getElem?_append_left (by omega)]
    exact this
  · have := b3 (j - 9) (by omega)
    simp only [List.append_nil, List.getD_eq_getElem?_getD] at this ⊢
    rw [List.getElem?_append_right (by omega), List.getElem?_append_right (by omega), a2, ca]
    exact this
theorem has_bysV {v : SV} (h : (Sh.sl (.int .u8)).hasV v) : ∃ l : List Nat, Bytes l ∧ WkM v (.sl 1 (bs l)) := by
  have h' : (Sh.sl (.int .u8)).has [v] := h
  simp only [Sh.has] at h'
  rcases h' with h' | ⟨xs, h', _, hx⟩
  · cases h'
    exact ⟨[], (fun c h => by cases h), wkM_nils 1⟩
  · cases h'
    obtain ⟨l, rfl, hl⟩ := has_bytes (xs := xs) (fun x hm => by have := hx x hm; simp only [Sh.has]; exact this)
    exact ⟨l, hl, WkM.refl _⟩
theorem has_u8 {v : SV} (h : Sh.hasV (.int .u8) v) : ∃ n, v = .int .u8 n ∧ 0 ≤ n ∧ n < 256 := by
  obtain ⟨n, e, w⟩ := (h : (Sh.int .u8).has [v])
  cases e
  exact ⟨n, rfl, wfu8 w⟩
end Go.Proofs.Ytflcdbfcipkhkaa

/- Wire: a field is taken off. -/

set_option linter.unusedSimpArgs false
set_option linter.unusedVariables false
set_option maxHeartbeats 8000000
namespace Go.Proofs.Ytflcdbfcipkhkaa
open Go.Av

def wQ (q : Req) (c : Nat) (n : Int) (s : List Nat) (f : Bool) (b : Bat) : Req :=
  if c = 116 then { q with tp := sOf s } else if c = 105 then { q with ix := n } else if c = 112 then { q with pa := n } else if c = 99 then { q with co := f } else if c = 102 then { q with fl := f }
  else if c = 111 then { q with off := n } else if c = 109 then { q with mo := n } else if c = 119 then { q with ti := n } else if c = 103 then { q with gr := sOf s } else if c = 107 then { q with me := sOf s }
  else if c = 110 then { q with ge := n } else { q with bt := b }
/-- Taking one field off: the request, what is left, and the error. -/
def takeQ (m : Int) (q : Req) (l : List Nat) (e : Int) (c : Nat) : Req × List Nat × Int :=
  if c = 116 ∨ c = 103 ∨ c = 107 then (wQ q c 0 (rText l e 255).1 false bat0, (rText l e 255).2)
  else if c = 99 ∨ c = 102 then (wQ q c 0 [] (((rFixed l e 1).1 : Int) == 1) bat0, (rFixed l e 1).2)
  else if c = 98 then (wQ q c 0 [] false (batG (rText l e m).1).1, (rText l e m).2)
  else (wQ q c (rNum l e).1 [] false bat0, (rNum l e).2)
theorem rText_spec {l : List Nat} (hl : Bytes l) (e m : Int) : Bytes (rText l e m).1 ∧ Bytes (rText l e m).2.1 ∧ (rText l e m).1.length ≤ l.length ∧ (rText l e m).2.1.length ≤ l.length := by
  have h1 := rNum_bytes hl e
  have h2 := rNum_le l e
  unfold rText
  generalize rNum l e = N at h1 h2 ⊢
  obtain ⟨n, l', e'⟩ := N
  simp only at h1 h2 ⊢
  generalize (if m > 0 then m else 0) = M
  split
  · split
    · exact ⟨fun c h => (by cases h), h1, by simp, h2⟩
    · have a := rTake_bytes h1 e' n
      have b := rTake_bytes2 h1 e' n
      have c := rTake_le l' e' n
      have d := rTake_le2 l' e' n
      exact ⟨a, b, by omega, by omega⟩
  · exact ⟨fun c h => (by cases h), h1, by simp, h2⟩
abbrev rcv (l : List Nat) (e : Int) : List RV := [.sv (.sl 1 (bs l)), .sv (.int .i64 e)]
noncomputable def R97 : Orc := {
  p := fun f l => match f with
    | 102 => row (fun l : List Nat => [.sl 1 (bs l)]) (fun l => (Bytes l ∧ l.length < 140737488355328, .tup [.sv (batG l).1.sv, .sv (.int .i64 (batG l).2)])) l
    | _ => none
  e := fun f cells l => match f, cells, l with
    | 18, [.sl 1 xs, .int .i64 e], [] => some (IsBs xs ∧ xs.length < 4611686018427387904, .sv (.int .i64 (rNum (nsOf xs) e).1), [.sl 1 (bs (rNum (nsOf xs) e).2.1), .int .i64 (rNum (nsOf xs) e).2.2])
    | 20, [.sl 1 xs, .int .i64 e], [.int .i64 w] => some (IsBs xs ∧ xs.length < 4611686018427387904, .sv (.int .u64 (rFixed (nsOf xs) e w).1), [.sl 1 (bs (rFixed (nsOf xs) e w).2.1), .int .i64 (rFixed (nsOf xs) e w).2.2])
    | 22, [.sl 1 xs, .int .i64 e], [.int .i64 m] => some (IsBs xs ∧ xs.length < 4611686018427387904, .sv (.str (sOf (rText (nsOf xs) e m).1)), [.sl 1 (bs (rText (nsOf xs) e m).2.1), .int .i64 (rText (nsOf xs) e m).2.2])
    | _, _, _ => none }
theorem R97_ok : R97.ok Try.prog := by
  refine ⟨fun f l c rv h hc => ?_, fun f cells l c rv cells' h hc => ?_, fun _ _ _ _ h => (by cases h), fun _ h => (by cases h), fun _ _ _ _ _ _ h => (by cases h), fun _ _ _ _ _ _ _ h => (by cases h)⟩
  · simp only [R97] at h
    split at h
    · exact row_ok h hc (fun l hl => get_bat l hl.1 hl.2)
    · cases h
  · simp only [R97] at h
    split at h <;> cases h
    · rename_i xs e
      obtain ⟨⟨e1, h1⟩, h2⟩ := hc
      have := num_eff (nsOf xs) e h1 (by rw [e1] at h2; simpa using h2)
      rwa [← e1] at this
    · rename_i xs e w
      obtain ⟨⟨e1, h1⟩, h2⟩ := hc
      have := rfix_eff (nsOf xs) e w h1 (by rw [e1] at h2; simpa using h2)
      rwa [← e1] at this
    · rename_i xs e m
      obtain ⟨⟨e1, h1⟩, h2⟩ := hc
      have := rtext_eff (nsOf xs) e m h1 (by rw [e1] at h2; simpa using h2)
      rwa [← e1] at this
theorem R97_102 (l : List Nat) : R97.p 102 [.sl 1 (bs l)] = some (Bytes l ∧ l.length < 140737488355328, .tup [.sv (bsv (batG l).1), .sv (.int .i64 (batG l).2)]) := row_eq (enc := fun l : List Nat => [.sl 1 (bs l)]) (fun a b h => by simp at h; exact bs_inj h) _ l
theorem R97_18 (l : List Nat) (e : Int) : R97.e 18 [.sl 1 (bs l), .int .i64 e] [] = some (IsBs (bs l) ∧ (bs l).length < 4611686018427387904, .sv (.int .i64 (rNum l e).1), [.sl 1 (bs (rNum l e).2.1), .int .i64 (rNum l e).2.2]) := by
  show some (IsBs (bs l) ∧ (bs l).length < 4611686018427387904, LV.sv (.int .i64 (rNum (nsOf (bs l)) e).1), [SV.sl 1 (bs (rNum (nsOf (bs l)) e).2.1), .int .i64 (rNum (nsOf (bs l)) e).2.2]) = _
  rw [nsOf_bs]
theorem R97_20 (l : List Nat) (e w : Int) : R97.e 20 [.sl 1 (bs l), .int .i64 e] [.int .i64 w] = some (IsBs (bs l) ∧ (bs l).length < 4611686018427387904, .sv (.int .u64 (rFixed l e w).1), [.sl 1 (bs (rFixed l e w).2.1), .int .i64 (rFixed l e w).2.2]) := by
  show some (IsBs (bs l) ∧ (bs l).length < 4611686018427387904, LV.sv (.int .u64 (rFixed (nsOf (bs l)) e w).1), [SV.sl 1 (bs (rFixed (nsOf (bs l)) e w).2.1), .int .i64 (rFixed (nsOf (bs l)) e w).2.2]) = _
  rw [nsOf_bs]
theorem R97_22 (l : List Nat) (e m : Int) : R97.e 22 [.sl 1 (bs l), .int .i64 e] [.int .i64 m] = some (IsBs (bs l) ∧ (bs l).length < 4611686018427387904, .sv (.str (sOf (rText l e m).1)), [.sl 1 (bs (rText l e m).2.1), .int .i64 (rText l e m).2.2]) := by
  show some (IsBs (bs l) ∧ (bs l).length < 4611686018427387904, LV.sv (.str (sOf (rText (nsOf (bs l)) e m).1)), [SV.sl 1 (bs (rText (nsOf (bs l)) e m).2.1), .int .i64 (rText (nsOf (bs l)) e m).2.2]) = _
  rw [nsOf_bs]
theorem bytesV_sOf {l : List Nat} (h : Bytes l) : bytesV (sOf l).data.toList = bs l := by
  rw [bytesV_eq]
  congr 1
  unfold sOf
  simp only [List.map_map]
  conv => rhs; rw [← List.map_id l]
  apply List.map_congr_left
  intro c hc
  have := h c hc
  simp; omega
theorem take_req (s t : Nat) (hst : s ≠ t) (q : Req) (l : List Nat) (e : Int) (c : Nat) (hc : isLet c) (hb : Bytes l) (hl : l.length < 100000000) :
    EffB Try.prog 97 [(s, rcv l e), (t, qrv q)] [.c (.bp s 0), .c (.bp t 0), .v (.int .i32 (c : Int))] (.tup [])
      [(s, rcv (takeQ 8192 q l e c).2.1 (takeQ 8192 q l e c).2.2), (t, qrv (takeQ 8192 q l e c).1)] := by
  have hts : t ≠ s := fun z => hst z.symm
  have e18 := R97_18 l e
  have e20 := R97_20 l e 1
  have e22 := R97_22 l e
  have e102 := R97_102
  have hR := R97_ok
  have hib : IsBs (bs l) := isBs_bs.2 hb
  generalize R97 = R at hR e18 e20 e22 e102
  have hl2 : l.length < 4611686018427387904 := by omega
  refine effB_go hR Try.func97 Try.ntmps97 comp97 cres97 (by decide) (by simp) rfl (by simp [hst, hts]) ?_
  rcases hc with rfl | rfl | rfl | rfl | rfl | rfl | rfl | rfl | rfl | rfl | rfl | rfl
  case inr.inr.inr.inr.inr.inr.inr.inr.inr.inr.inr =>
    obtain ⟨t1, t2, t3, t4⟩ := rText_spec hb e 8192
    have e1 := e22 8192
    have e2 := e102 (rText l e 8192).1
    have e3 := bytesV_sOf t1
    have e4 := sOf_size (rText l e 8192).1
    have e5 : (rText l e 8192).1.length < 140737488355328 := by omega
    have e6 : ((rText l e 8192).1.length : Int) ≤ 140737488355328 := by omega
    simp [ac97, ar97, takeQ, wQ, hst, hts, e1, e2, e3, e4, e5, e6, hib, hl2, t1]
    omega
  all_goals
    simp [ac97, ar97, takeQ, wQ, hst, hts, e18, e20, e22, hib, hl2]
end Go.Proofs.Ytflcdbfcipkhkaa

/- Wire: lists are taken off. -/


set_option linter.unusedSimpArgs false
set_option linter.unusedVariables false
set_option maxHeartbeats 8000000
namespace Go.Proofs.Ytflcdbfcipkhkaa
open Go.Av

def stB (m : Int) (l : List Nat) (e : Int) : Bat × List Nat × Int := ((batG (rText l e m).1).1, (rText l e m).2)
def stT (l : List Nat) (e : Int) : ByteArray × List Nat × Int := (sOf (rText l e 255).1, (rText l e 255).2)
/-- So many steps. -/
def itr {α : Type} (stp : List Nat → Int → α × List Nat × Int) (l : List Nat) (e : Int) : Nat → List α × List Nat × Int
  | 0 => ([], l, e)
  | i + 1 => ((itr stp l e i).1 ++ [(stp (itr stp l e i).2.1 (itr stp l e i).2.2).1], (stp (itr stp l e i).2.1 (itr stp l e i).2.2).2)
def cntN (n : Int) : Nat := if n < 0 then 0 else if 65 < n then 65 else n.toNat
def eachT {α : Type} (stp : List Nat → Int → α × List Nat × Int) (l : List Nat) (e : Int) : List α × List Nat × Int := itr stp (rNum l e).2.1 (rNum l e).2.2 (cntN (rNum l e).1)
theorem cntN_mm (n : Int) : minmaxV false (.int .i64 n) (.int .i64 65) = some (True, .sv (.int .i64 (if 65 < n then 65 else n))) ∧ minmaxV true (.int .i64 0) (.int .i64 (if 65 < n then 65 else n)) = some (True, .sv (.int .i64 (cntN n))) := by
  refine ⟨by simp [minmaxV], ?_⟩
  simp only [minmaxV, cntN, if_true, Option.some.injEq, Prod.mk.injEq, true_and, LV.sv.injEq, SV.int.injEq]
  by_cases h1 : 65 < n
  · have h2 : ¬ n < 0 := by omega
    simp [h1, h2]
  · by_cases h2 : n < 0
    · have h3 : ¬ n > 0 := by omega
      simp [h1, h2, h3]
    · by_cases h3 : n > 0
      · simp [h1, h2, h3]; omega
      · simp [h1, h2, h3]; omega
theorem cntN_le (n : Int) : cntN n ≤ 65 := by unfold cntN; split; omega; split <;> omega
/-- What a step keeps. -/
def Kp {α : Type} (stp : List Nat → Int → α × List Nat × Int) : Prop := ∀ l e, Bytes l → Bytes (stp l e).2.1 ∧ (stp l e).2.1.length ≤ l.length
theorem kpB (m : Int) : Kp (stB m) := fun l e h => ⟨(rText_spec h e m).2.1, (rText_spec h e m).2.2.2⟩
theorem kpT : Kp stT := fun l e h => ⟨(rText_spec h e 255).2.1, (rText_spec h e 255).2.2.2⟩
theorem kpN : Kp rNum := fun l e h => ⟨rNum_bytes h e, rNum_le l e⟩
theorem itr_kp {α : Type} {stp : List Nat → Int → α × List Nat × Int} (k : Kp stp) {l : List Nat} (e : Int) (h : Bytes l) : ∀ i, Bytes (itr stp l e i).2.1 ∧ (itr stp l e i).2.1.length ≤ l.length
  | 0 => ⟨h, Nat.le_refl _⟩
  | i + 1 => by
    obtain ⟨h1, h2⟩ := itr_kp k e h i
    obtain ⟨k1, k2⟩ := k _ (itr stp l e i).2.2 h1
    exact ⟨k1, Nat.le_trans k2 h2⟩
theorem itr_len {α : Type} (stp : List Nat → Int → α × List Nat × Int) (l : List Nat) (e : Int) : ∀ i, (itr stp l e i).1.length = i
  | 0 => rfl
  | i + 1 => by rw [itr]; simp [itr_len stp l e i]
theorem eachT_kp {α : Type} {stp : List Nat → Int → α × List Nat × Int} (k : Kp stp) {l : List Nat} (e : Int) (h : Bytes l) : Bytes (eachT stp l e).2.1 ∧ (eachT stp l e).2.1.length ≤ l.length ∧ (eachT stp l e).1.length ≤ 65 := by
  have h1 := itr_kp k (rNum l e).2.2 (rNum_bytes h e) (cntN (rNum l e).1)
  have h2 := rNum_le l e
  refine ⟨h1.1, Nat.le_trans h1.2 h2, ?_⟩
  unfold eachT
  rw [itr_len]
  exact cntN_le _
/-! ### one step, by closures -/
theorem bat_step (s : Nat) (l : List Nat) (e : Int) (hb : Bytes l) (hl : l.length < 100000000) :
    EffB Try.prog 101 [(s, rcv l e)] [.c (.pp s 0)] (.sv (stB 8192 l e).1.sv) [(s, rcv (stB 8192 l e).2.1 (stB 8192 l e).2.2)] := by
  have e22 := R97_22 l e 8192
  have hR := R97_ok
  have hib : IsBs (bs l) := isBs_bs.2 hb
  obtain ⟨t1, t2, t3, t4⟩ := rText_spec hb e 8192
  have e2 := R97_102 (rText l e 8192).1
  generalize R97 = R at hR e22 e2
  have hl2 : l.length < 4611686018427387904 := by omega
  have e3 := bytesV_sOf t1
  have e4 := sOf_size (rText l e 8192).1
  have e5 : (rText l e 8192).1.length < 140737488355328 := by omega
  have e6 : ((rText l e 8192).1.length : Int) ≤ 140737488355328 := by omega
  have e7 : (rText l e 8192).1.length ≤ 140737488355328 := by omega
  refine effB_go hR Try.func101 Try.ntmps101 comp101 cres101 (by decide) (by simp) rfl (by simp) ?_
  have x1 : ¬ 12 + s = 1 := by omega
  have x2 : ¬ 1 = 12 + s := by omega
  have x3 : ¬ 12 + s = 2 := by omega
  have x4 : ¬ 2 = 12 + s := by omega
  simp [ac101, ar101, stB, x1, x2, x3, x4, e22, e2, e3, e4, e5, e6, e7, hib, hl2, t1, Bat.sv, Bat.cells]
theorem txt_step (s : Nat) (l : List Nat) (e : Int) (hb : Bytes l) (hl : l.length < 100000000) :
    EffB Try.prog 105 [(s, rcv l e)] [.c (.pp s 0)] (.sv (.str (stT l e).1)) [(s, rcv (stT l e).2.1 (stT l e).2.2)] := by
  have e22 := R97_22 l e 255
  have hR := R97_ok
  have hib : IsBs (bs l) := isBs_bs.2 hb
  generalize R97 = R at hR e22
  have hl2 : l.length < 4611686018427387904 := by omega
  refine effB_go hR Try.func105 Try.ntmps105 comp105 cres105 (by decide) (by simp) rfl (by simp) ?_
  have x1 : ¬ 4 + s = 1 := by omega
  simp [ac105, ar105, stT, e22, hib, hl2]
theorem num_step (s : Nat) (l : List Nat) (e : Int) (hb : Bytes l) (hl : l.length < 100000000) :
    EffB Try.prog 18 [(s, rcv l e)] [.c (.bp s 0)] (.sv (.int .i64 (rNum l e).1)) [(s, rcv (rNum l e).2.1 (rNum l e).2.2)] := by
  have hk := getN_k l
  have hl2 : l.length < 4611686018427387904 := by omega
  refine effB_go RR_ok Try.func18 Try.ntmps18 comp18 cres18 (by decide) (by simp) rfl (by simp) ?_
  by_cases h : e = 0
  · simp [ac18, ar18, h, rNum, isBs_bs, hb, hl2, hk, bs_drop]
    rw [List.take_of_length_le (by simp)]
  · simp [ac18, ar18, h, rNum]
theorem ok101 : okFn Try.prog 101 := ⟨_, Try.func101, rfl, rfl⟩
theorem ok105 : okFn Try.prog 105 := ⟨_, Try.func105, rfl, rfl⟩
theorem ok18 : okFn Try.prog 18 := ⟨_, Try.func18, rfl, rfl⟩
/-! ### many steps -/
noncomputable def RV1b (f : FuncId) (l : List BA) (look : Nat → Option (List RV)) : Option (Prop × List (Nat × List RV) × LV × List (Nat × List RV)) :=
  match f, l with
  | 101, [.c (.pp s 0)] => match look s with
    | some [.sv (.sl 1 xs), .sv (.int .i64 e)] => some (IsBs xs ∧ xs.length < 100000000, [(s, [.sv (.sl 1 xs), .sv (.int .i64 e)])], .sv (stB 8192 (nsOf xs) e).1.sv, [(s, rcv (stB 8192 (nsOf xs) e).2.1 (stB 8192 (nsOf xs) e).2.2)])
    | _ => none
  | 105, [.c (.pp s 0)] => match look s with
    | some [.sv (.sl 1 xs), .sv (.int .i64 e)] => some (IsBs xs ∧ xs.length < 100000000, [(s, [.sv (.sl 1 xs), .sv (.int .i64 e)])], .sv (.str (stT (nsOf xs) e).1), [(s, rcv (stT (nsOf xs) e).2.1 (stT (nsOf xs) e).2.2)])
    | _ => none
  | 18, [.c (.bp s 0)] => match look s with
    | some [.sv (.sl 1 xs), .sv (.int .i64 e)] => some (IsBs xs ∧ xs.length < 100000000, [(s, [.sv (.sl 1 xs), .sv (.int .i64 e)])], .sv (.int .i64 (rNum (nsOf xs) e).1), [(s, rcv (rNum (nsOf xs) e).2.1 (rNum (nsOf xs) e).2.2)])
    | _ => none
  | _, _ => none
noncomputable def RV1 : Orc := { p := fun _ _ => none, e := R97.e, fv := fun f => f == 101 || f == 105 || f == 18, b := RV1b }
theorem RV1_ok : RV1.ok Try.prog := by
  refine ⟨fun _ _ _ _ h => (by cases h), R97_ok.e, fun _ _ _ _ h => (by cases h), fun f h => ?_, fun _ _ _ _ _ _ h => (by cases h), fun f l look c bxs rv bxs' h hc => ?_⟩
  · have : (f = 101 ∨ f = 105) ∨ f = 18 := by simpa [RV1] using h
    rcases this with (rfl | rfl) | rfl
    · exact ok101
    · exact ok105
    · exact ok18
  · change RV1b f l look = _ at h
    unfold RV1b at h
    split at h
    · split at h
      · rename_i s _ xs e _
        simp only [Option.some.injEq, Prod.mk.injEq] at h
        obtain ⟨rfl, rfl, rfl, rfl⟩ := h
        obtain ⟨⟨h1, h1b⟩, h2⟩ := hc
        have := bat_step s (nsOf xs) e h1b (by rw [h1] at h2; simpa using h2)
        simp only [rcv] at this ⊢
        rw [← h1] at this
        exact this
      · cases h
    · split at h
      · rename_i s _ xs e _
        simp only [Option.some.injEq, Prod.mk.injEq] at h
        obtain ⟨rfl, rfl, rfl, rfl⟩ := h
        obtain ⟨⟨h1, h1b⟩, h2⟩ := hc
        have := txt_step s (nsOf xs) e h1b (by rw [h1] at h2; simpa using h2)
        simp only [rcv] at this ⊢
        rw [← h1] at this
        exact this
      · cases h
    · split at h
      · rename_i s _ xs e _
        simp only [Option.some.injEq, Prod.mk.injEq] at h
        obtain ⟨rfl, rfl, rfl, rfl⟩ := h
        obtain ⟨⟨h1, h1b⟩, h2⟩ := hc
        have := num_step s (nsOf xs) e h1b (by rw [h1] at h2; simpa using h2)
        simp only [rcv] at this ⊢
        rw [← h1] at this
        exact this
      · cases h
    · cases h
theorem RV1_101 (s : Nat) (l : List Nat) (e : Int) (look : Nat → Option (List RV)) (h : look s = some (rcv l e)) : RV1.b 101 [.c (.pp s 0)] look = some (IsBs (bs l) ∧ (bs l).length < 100000000, [(s, rcv l e)], .sv (bsv (stB 8192 l e).1), [(s, rcv (stB 8192 l e).2.1 (stB 8192 l e).2.2)]) := by
  show RV1b 101 [.c (.pp s 0)] look = _
  unfold RV1b
  simp only [h, nsOf_bs]
  rfl
theorem RV1_105 (s : Nat) (l : List Nat) (e : Int) (look : Nat → Option (List RV)) (h : look s = some (rcv l e)) : RV1.b 105 [.c (.pp s 0)] look = some (IsBs (bs l) ∧ (bs l).length < 100000000, [(s, rcv l e)], .sv (.str (stT l e).1), [(s, rcv (stT l e).2.1 (stT l e).2.2)]) := by
  show RV1b 105 [.c (.pp s 0)] look = _
  unfold RV1b
  simp only [h, nsOf_bs]
theorem RV1_18 (s : Nat) (l : List Nat) (e : Int) (look : Nat → Option (List RV)) (h : look s = some (rcv l e)) : RV1.b 18 [.c (.bp s 0)] look = some (IsBs (bs l) ∧ (bs l).length < 100000000, [(s, rcv l e)], .sv (.int .i64 (rNum l e).1), [(s, rcv (rNum l e).2.1 (rNum l e).2.2)]) := by
  show RV1b 18 [.c (.bp s 0)] look = _
  unfold RV1b
  simp only [h, nsOf_bs]
theorem each_bat (s : Nat) (l : List Nat) (e : Int) (hb : Bytes l) (hl : l.length < 100000000) :
    EffB Try.prog 100 [(s, rcv l e)] [.c (.bp s 0), .f 101 0 [.pp s 0]] (.own 6 (BL (eachT (stB 8192) l e).1)) [(s, rcv (eachT (stB 8192) l e).2.1 (eachT (stB 8192) l e).2.2)] := by
  have e18 := R97_18 l e
  have e1 := RV1_101
  have hre : RV1.e = R97.e := rfl
  have hf1 : RV1.fv 101 = true := rfl
  have hnf : RV1.nofz = false := rfl
  have hR := RV1_ok
  have hib : IsBs (bs l) := isBs_bs.2 hb
  have hl2 : l.length < 4611686018427387904 := by omega
  rw [← hre] at e18
  generalize RV1 = R at hR e18 e1 hf1 hnf
  obtain ⟨c1, c2⟩ := cntN_mm (rNum l e).1
  have c3 := cntN_le (rNum l e).1
  have hkp := fun i => itr_kp (kpB 8192) (rNum l e).2.2 (rNum_bytes hb e) i
  have hln := fun i => itr_len (stB 8192) (rNum l e).2.1 (rNum l e).2.2 i
  have hll := rNum_le l e
  unfold eachT
  generalize rNum l e = N at *
  obtain ⟨n, l0, e0⟩ := N
  simp only at *
  generalize cntN n = C at *
  refine effB_go hR Try.func100 Try.ntmps100 comp100 cres100 (by decide) (by simp) rfl (by simp) ?_
  simp [ac100, ar100, -minmaxV, e18, hib, hl2, c1, c2, hnf]
  refine awpR_loop (α := Nat) (fun i => i ≤ C) (fun i => { n := 19, sl := [(1, .clo 101 0 [.pp (19 + s) 0]), (5, .own 6 (BL (itr (stB 8192) l0 e0 i).1)), (9, .sv (.int .i64 C)), (10, .sv (.int .i64 i))], bx := [(19 + s, rcv (itr (stB 8192) l0 e0 i).2.1 (itr (stB 8192) l0 e0 i).2.2)], hp := fun _ => none })
    (fun i => C - i) 0 (by omega) (by simp [itr, BL]) ?_
  intro i hi
  obtain ⟨k1, k2⟩ := hkp i
  have k3 := hln i
  by_cases h : i < C
  · have hlt : (i : Int) < C := by omega
    have hw := @wrap_succ i C h (by omega)
    have hs : itr (stB 8192) l0 e0 (i + 1) = ((itr (stB 8192) l0 e0 i).1 ++ [((stB 8192) (itr (stB 8192) l0 e0 i).2.1 (itr (stB 8192) l0 e0 i).2.2).1], ((stB 8192) (itr (stB 8192) l0 e0 i).2.1 (itr (stB 8192) l0 e0 i).2.2).2) := rfl
    generalize itr (stB 8192) l0 e0 i = X at *
    obtain ⟨acc, l1, e1'⟩ := X
    simp only at *
    have e2 := e1 (19 + s) l1 e1'
    have hib1 : IsBs (bs l1) := isBs_bs.2 k1
    have hl1 : l1.length < 100000000 := by omega
    simp [hlt, hf1, e2, hib1, hl1, hw, k3]
    refine ⟨by omega, i + 1, by omega, by omega, ?_⟩
    rw [hs]
    simp [BL, Bat.sv, Bat.cells]
    try omega
  · obtain rfl : i = C := by omega
    have hlt : ¬ (i : Int) < i := by omega
    simp [hlt]
theorem each_num (s : Nat) (l : List Nat) (e : Int) (hb : Bytes l) (hl : l.length < 100000000) :
    EffB Try.prog 103 [(s, rcv l e)] [.c (.bp s 0), .f 18 1 [.bp s 0]] (.own 1 (IL (eachT rNum l e).1)) [(s, rcv (eachT rNum l e).2.1 (eachT rNum l e).2.2)] := by
  have e18 := R97_18 l e
  have e1 := RV1_18
  have hre : RV1.e = R97.e := rfl
  have hf1 : RV1.fv 18 = true := rfl
  have hnf : RV1.nofz = false := rfl
  have hR := RV1_ok
  have hib : IsBs (bs l) := isBs_bs.2 hb
  have hl2 : l.length < 4611686018427387904 := by omega
  rw [← hre] at e18
  generalize RV1 = R at hR e18 e1 hf1 hnf
  obtain ⟨c1, c2⟩ := cntN_mm (rNum l e).1
  have c3 := cntN_le (rNum l e).1
  have hkp := fun i => itr_kp kpN (rNum l e).2.2 (rNum_bytes hb e) i
  have hln := fun i => itr_len rNum (rNum l e).2.1 (rNum l e).2.2 i
  have hll := rNum_le l e
  unfold eachT
  generalize rNum l e = N at *
  obtain ⟨n, l0, e0⟩ := N
  simp only at *
  generalize cntN n = C at *
  refine effB_go hR Try.func103 Try.ntmps103 comp103 cres103 (by decide) (by simp) rfl (by simp) ?_
  simp [ac103, ar103, -minmaxV, e18, hib, hl2, c1, c2, hnf]
  refine awpR_loop (α := Nat) (fun i => i ≤ C) (fun i => { n := 19, sl := [(1, .clo 18 1 [.bp (19 + s) 0]), (5, .own 1 (IL (itr rNum l0 e0 i).1)), (9, .sv (.int .i64 C)), (10, .sv (.int .i64 i))], bx := [(19 + s, rcv (itr rNum l0 e0 i).2.1 (itr rNum l0 e0 i).2.2)], hp := fun _ => none })
    (fun i => C - i) 0 (by omega) (by simp [itr, IL]) ?_
  intro i hi
  obtain ⟨k1, k2⟩ := hkp i
  have k3 := hln i
  by_cases h : i < C
  · have hlt : (i : Int) < C := by omega
    have hw := @wrap_succ i C h (by omega)
    have hs : itr rNum l0 e0 (i + 1) = ((itr rNum l0 e0 i).1 ++ [(rNum (itr rNum l0 e0 i).2.1 (itr rNum l0 e0 i).2.2).1], (rNum (itr rNum l0 e0 i).2.1 (itr rNum l0 e0 i).2.2).2) := rfl
    generalize itr rNum l0 e0 i = X at *
    obtain ⟨acc, l1, e1'⟩ := X
    simp only at *
    have e2 := e1 (19 + s) l1 e1'
    have hib1 : IsBs (bs l1) := isBs_bs.2 k1
    have hl1 : l1.length < 100000000 := by omega
    simp [hlt, hf1, e2, hib1, hl1, hw, k3]
    refine ⟨by omega, i + 1, by omega, by omega, ?_⟩
    rw [hs]
    simp [IL, Bat.sv, Bat.cells]
    try omega
  · obtain rfl : i = C := by omega
    have hlt : ¬ (i : Int) < i := by omega
    simp [hlt]
theorem each_txt (s : Nat) (l : List Nat) (e : Int) (hb : Bytes l) (hl : l.length < 100000000) :
    EffB Try.prog 104 [(s, rcv l e)] [.c (.bp s 0), .f 105 0 [.pp s 0]] (.own 1 (TL (eachT stT l e).1)) [(s, rcv (eachT stT l e).2.1 (eachT stT l e).2.2)] := by
  have e18 := R97_18 l e
  have e1 := RV1_105
  have hre : RV1.e = R97.e := rfl
  have hf1 : RV1.fv 105 = true := rfl
  have hnf : RV1.nofz = false := rfl
  have hR := RV1_ok
  have hib : IsBs (bs l) := isBs_bs.2 hb
  have hl2 : l.length < 4611686018427387904 := by omega
  rw [← hre] at e18
  generalize RV1 = R at hR e18 e1 hf1 hnf
  obtain ⟨c1, c2⟩ := cntN_mm (rNum l e).1
  have c3 := cntN_le (rNum l e).1
  have hkp := fun i => itr_kp kpT (rNum l e).2.2 (rNum_bytes hb e) i
  have hln := fun i => itr_len stT (rNum l e).2.1 (rNum l e).2.2 i
  have hll := rNum_le l e
  unfold eachT
  generalize rNum l e = N at *
  obtain ⟨n, l0, e0⟩ := N
  simp only at *
  generalize cntN n = C at *
  refine effB_go hR Try.func104 Try.ntmps104 comp104 cres104 (by decide) (by simp) rfl (by simp) ?_
  simp [ac104, ar104, -minmaxV, e18, hib, hl2, c1, c2, hnf]
  refine awpR_loop (α := Nat) (fun i => i ≤ C) (fun i => { n := 19, sl := [(1, .clo 105 0 [.pp (19 + s) 0]), (5, .own 1 (TL (itr stT l0 e0 i).1)), (9, .sv (.int .i64 C)), (10, .sv (.int .i64 i))], bx := [(19 + s, rcv (itr stT l0 e0 i).2.1 (itr stT l0 e0 i).2.2)], hp := fun _ => none })
    (fun i => C - i) 0 (by omega) (by simp [itr, TL]) ?_
  intro i hi
  obtain ⟨k1, k2⟩ := hkp i
  have k3 := hln i
  by_cases h : i < C
  · have hlt : (i : Int) < C := by omega
    have hw := @wrap_succ i C h (by omega)
    have hs : itr stT l0 e0 (i + 1) = ((itr stT l0 e0 i).1 ++ [(stT (itr stT l0 e0 i).2.1 (itr stT l0 e0 i).2.2).1], (stT (itr stT l0 e0 i).2.1 (itr stT l0 e0 i).2.2).2) := rfl
    generalize itr stT l0 e0 i = X at *
    obtain ⟨acc, l1, e1'⟩ := X
    simp only at *
    have e2 := e1 (19 + s) l1 e1'
    have hib1 : IsBs (bs l1) := isBs_bs.2 k1
    have hl1 : l1.length < 100000000 := by omega
    simp [hlt, hf1, e2, hib1, hl1, hw, k3]
    refine ⟨by omega, i + 1, by omega, by omega, ?_⟩
    rw [hs]
    simp [TL, Bat.sv, Bat.cells]
    try omega
  · obtain rfl : i = C := by omega
    have hlt : ¬ (i : Int) < i := by omega
    simp [hlt]
end Go.Proofs.Ytflcdbfcipkhkaa

/- Wire: GetRequest. -/

set_option linter.unusedSimpArgs false
set_option linter.unusedVariables false
set_option maxHeartbeats 8000000
namespace Go.Proofs.Ytflcdbfcipkhkaa
open Go.Av

/-- Fields taken off, one behind the other. -/
def foldT (m : Int) : List Nat → Req → List Nat → Int → Req × List Nat × Int
  | [], q, l, e => (q, l, e)
  | c :: r, q, l, e => foldT m r (takeQ m q l e c).1 (takeQ m q l e c).2.1 (takeQ m q l e c).2.2
theorem foldT_snoc (m : Int) (c : Nat) : ∀ (r : List Nat) (q : Req) (l : List Nat) (e : Int), foldT m (r ++ [c]) q l e = takeQ m (foldT m r q l e).1 (foldT m r q l e).2.1 (foldT m r q l e).2.2 c
  | [], q, l, e => rfl
  | d :: r, q, l, e => by rw [List.cons_append, foldT, foldT, foldT_snoc m c r]
def kdOfL (l : List Nat) : Int := ((rFixed l 0 1).1 : Nat)
def readQ (m : Int) (l : List Nat) : Req := (foldT m (usesN (kdOfL l)) (kReq (kdOfL l)) (rFixed l 0 1).2.1 (rFixed l 0 1).2.2).1
def finQ (l : List Nat) (q : Req) : Req × Int := if reqE q = 0 ∧ putQ q = l then (q, 0) else (kReq 0, 4)
def getR (m : Int) (l : List Nat) : Req × Int := finQ l (readQ m l)
theorem bat0_ok : bat0.ok := ⟨⟨by decide, by decide⟩, ⟨by decide, by decide⟩, ⟨by decide, by decide⟩, ⟨by decide, by decide⟩, ⟨by decide, by decide⟩⟩
theorem batE_ok {b : Bat} (h : batE b = 0) : b.ok := by
  have h1 := batE_num h
  exact ⟨⟨by omega, by omega⟩, ⟨by omega, by omega⟩, ⟨by omega, by omega⟩, ⟨by omega, by omega⟩, ⟨by omega, by omega⟩⟩
theorem batG_ok (l : List Nat) : (batG l).1.ok ∧ (batG l).1.rs.length ≤ 32 := by
  rcases batG_cases l with h | ⟨b, h1, h2, h3⟩
  · rw [h]; exact ⟨bat0_ok, by decide⟩
  · rw [h3]; exact ⟨batE_ok h1, by have := batE_len h1; simp only; omega⟩
/-- What a request that is read may be. -/
def rdOk (q : Req) : Prop := q.ok ∧ q.bt.rs.length ≤ 32
theorem wQ_ok {q : Req} (h : rdOk q) (c : Nat) {n : Int} (hn : I64 n) (s : List Nat) (f : Bool) {b : Bat} (hb : b.ok ∧ b.rs.length ≤ 32) : rdOk (wQ q c n s f b) := by
  have m : ∀ {p : Prop} [Decidable p] {x y : Req}, rdOk x → rdOk y → rdOk (if p then x else y) := by
    intro p _ x y h1 h2
    by_cases z : p
    · rw [if_pos z]; exact h1
    · rw [if_neg z]; exact h2
  obtain ⟨⟨o1, o2, o3, o4, o5, o6, o7, o8, o9⟩, hr⟩ := h
  unfold wQ
  exact m ⟨⟨o1, o2, o3, o4, o5, o6, o7, o8, o9⟩, hr⟩ (m ⟨⟨o1, o2, hn, o4, o5, o6, o7, o8, o9⟩, hr⟩ (m ⟨⟨o1, o2, o3, hn, o5, o6, o7, o8, o9⟩, hr⟩ (m ⟨⟨o1, o2, o3, o4, o5, o6, o7, o8, o9⟩, hr⟩ (m ⟨⟨o1, o2, o3, o4, o5, o6, o7, o8, o9⟩, hr⟩
    (m ⟨⟨o1, o2, o3, o4, hn, o6, o7, o8, o9⟩, hr⟩ (m ⟨⟨o1, o2, o3, o4, o5, hn, o7, o8, o9⟩, hr⟩ (m ⟨⟨o1, o2, o3, o4, o5, o6, hn, o8, o9⟩, hr⟩ (m ⟨⟨o1, o2, o3, o4, o5, o6, o7, o8, o9⟩, hr⟩ (m ⟨⟨o1, o2, o3, o4, o5, o6, o7, o8, o9⟩, hr⟩
    (m ⟨⟨o1, o2, o3, o4, o5, o6, o7, hn, o9⟩, hr⟩ ⟨⟨o1, o2, o3, o4, o5, o6, o7, o8, hb.1⟩, hb.2⟩))))))))))
theorem takeQ_ok {q : Req} (h : rdOk q) {l : List Nat} (hl : Bytes l) (m e : Int) (c : Nat) : rdOk (takeQ m q l e c).1 ∧ Bytes (takeQ m q l e c).2.1 ∧ (takeQ m q l e c).2.1.length ≤ l.length := by
  have z0 : I64 0 := ⟨by decide, by decide⟩
  have b0 : bat0.ok ∧ bat0.rs.length ≤ 32 := ⟨bat0_ok, by decide⟩
  unfold takeQ
  split
  · obtain ⟨t1, t2, t3, t4⟩ := rText_spec hl e 255
    exact ⟨wQ_ok h c z0 _ _ b0, t2, t4⟩
  split
  · exact ⟨wQ_ok h c z0 _ _ b0, rFixed_bytes hl e 1, rFixed_le l e 1⟩
  split
  · obtain ⟨t1, t2, t3, t4⟩ := rText_spec hl e m
    exact ⟨wQ_ok h c z0 _ _ (batG_ok _), t2, t4⟩
  · exact ⟨wQ_ok h c (rNum_in l e) _ _ b0, rNum_bytes hl e, rNum_le l e⟩
theorem foldT_ok (m : Int) : ∀ (r : List Nat) {q : Req} {l : List Nat} {e : Int}, rdOk q → Bytes l → rdOk (foldT m r q l e).1 ∧ Bytes (foldT m r q l e).2.1 ∧ (foldT m r q l e).2.1.length ≤ l.length
  | [], q, l, e, h, hl => ⟨h, hl, Nat.le_refl _⟩
  | c :: r, q, l, e, h, hl => by
    obtain ⟨h1, h2, h3⟩ := takeQ_ok h hl m e c
    obtain ⟨k1, k2, k3⟩ := foldT_ok m r (e := (takeQ m q l e c).2.2) h1 h2
    exact ⟨k1, k2, Nat.le_trans k3 h3⟩
theorem kReq_ok {k : Int} (h0 : 0 ≤ k) (h1 : k < 256) : rdOk (kReq k) := by
  have z0 : I64 0 := ⟨by decide, by decide⟩
  exact ⟨⟨h0, h1, z0, z0, z0, z0, z0, z0, bat0_ok⟩, by show (0 : Nat) ≤ 32; decide⟩
theorem kdOfL_in {l : List Nat} (hb : Bytes l) : 0 ≤ kdOfL l ∧ kdOfL l < 256 := by
  have := rFixed1_lt l hb 0
  unfold kdOfL
  omega
theorem readQ_ok (m : Int) {l : List Nat} (hb : Bytes l) : rdOk (readQ m l) := by
  obtain ⟨h0, h1⟩ := kdOfL_in hb
  exact (foldT_ok m _ (kReq_ok h0 h1) (rFixed_bytes hb 0 1)).1
end Go.Proofs.Ytflcdbfcipkhkaa
