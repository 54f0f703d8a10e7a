import Derived.Test.YtflcdbfcipkhkaaMDwK
import Derived.Test.YtflcdbfcipkhkaaMDvF

set_option linter.unusedVariables false
set_option linter.unusedSimpArgs false

/- Wire: the answer's GetRequest, walked; what is laid is read back. -/


set_option linter.unusedSimpArgs false
set_option linter.unusedVariables false
set_option maxHeartbeats 8000000
namespace Go.Proofs.Ytflcdbfcipkhkaa
open Go.Av

def eFd (p : (List Nat × Int) × Req × Nat) : List SV := [rdv p.1.1 p.1.2, p.2.1.sv, .int .u8 (p.2.2 : Int)]
theorem eFd_inj (a b : (List Nat × Int) × Req × Nat) (h : eFd a = eFd b) : a = b := by
  simp only [eFd, List.cons.injEq, SV.agg.injEq, SV.int.injEq, SV.sl.injEq, true_and, and_true] at h
  obtain ⟨⟨h1, h2⟩, h3, h4⟩ := h
  exact Prod.ext (Prod.ext (bs_inj h1) h2) (Prod.ext (Req.sv_inj _ _ h3) (by omega))
noncomputable def R43p (f : FuncId) (l : List SV) : Option (Prop × LV) :=
  match f with
  | 36 => row eInt (fun k => (0 ≤ k, .sv (.str (usesS k)))) l
  | 32 => row eQ (fun q => (q.ok ∧ q.bt.rs.length < 4611686018427387904, .tup [.own 1 (bs (putQ q)), .sv (.int .i64 (reqE q))])) l
  | 99 => row eFd (fun p => (isLet p.2.2 ∧ Bytes p.1.1 ∧ p.1.1.length < 100000000, .tup [.sv (rdv (takeQ 1073741824 p.2.1 p.1.1 p.1.2 p.2.2).2.1 (takeQ 1073741824 p.2.1 p.1.1 p.1.2 p.2.2).2.2), .sv (takeQ 1073741824 p.2.1 p.1.1 p.1.2 p.2.2).1.sv])) l
  | _ => R99p f l
noncomputable def R43 : Orc := { p := R43p }
theorem R43_ok : R43.ok Try.prog := by
  refine ⟨fun f l c rv h hc => ?_, fun _ _ _ _ _ _ h => (by cases h), fun _ _ _ _ h => (by cases h), fun _ h => (by cases h), fun _ _ _ _ _ _ h => (by cases h), fun _ _ _ _ _ _ _ h => (by cases h)⟩
  change R43p f l = _ at h
  unfold R43p at h
  split at h
  · exact row_ok h hc (fun k hk => ruses_pure k hk)
  · exact row_ok h hc (fun q hq => rput_req q hq.1 hq.2)
  · exact row_ok h hc (fun p hp => rfield_pure p.2.1 p.1.1 p.1.2 p.2.2 hp.1 hp.2.1 hp.2.2)
  · exact R99_ok.p _ _ _ _ h hc
theorem R43_36 (k : Int) : R43.p 36 [.int .u8 k] = some (0 ≤ k, .sv (.str (usesS k))) := row_eq eInt_inj _ k
theorem R43_32 (q : Req) : R43.p 32 [qsv q] = some (q.ok ∧ q.bt.rs.length < 4611686018427387904, .tup [.own 1 (bs (putQ q)), .sv (.int .i64 (reqE q))]) := row_eq eQ_inj _ q
theorem R43_19 (l : List Nat) (e w : Int) : R43.p 19 [rdv l e, .int .i64 w] = some (Bytes l ∧ l.length < 4611686018427387904, .tup [.sv (rdv (rFixed l e w).2.1 (rFixed l e w).2.2), .sv (.int .u64 (rFixed l e w).1)]) := row_eq eRdI_inj _ ((l, e), w)
theorem R43_99 (l : List Nat) (e : Int) (q : Req) (c : Nat) : R43.p 99 [rdv l e, qsv q, .int .u8 (c : Int)] = some (isLet c ∧ Bytes l ∧ l.length < 100000000, .tup [.sv (rdv (takeQ 1073741824 q l e c).2.1 (takeQ 1073741824 q l e c).2.2), .sv (qsv (takeQ 1073741824 q l e c).1)]) := row_eq eFd_inj _ ((l, e), q, c)
theorem rget_req (l : List Nat) (hb : Bytes l) (hl : l.length < 100000000) : Pure Try.prog 43 [.sl 1 (bs l)] (.tup [.sv (getR 1073741824 l).1.sv, .sv (.int .i64 (getR 1073741824 l).2)]) := by
  have e36 := R43_36 (kdOfL l)
  have e32 := R43_32 (readQ 1073741824 l)
  have e19 := R43_19 l 0 1
  have e99 := R43_99
  have hnf : R43.nofz = false := rfl
  have hR := R43_ok
  generalize R43 = R at hR e36 e32 e19 e99 hnf
  have hro := readQ_ok 1073741824 hb
  have hpb := putQ_bytes hro
  obtain ⟨k0, k1⟩ := kdOfL_in hb
  have hb0 := rFixed_bytes hb 0 1
  have hl0 := rFixed_le l 0 1
  have hlt := uses_lt (kdOfL l)
  have hlen := uses_len (kdOfL l)
  have hll : ∀ c ∈ usesN (kdOfL l), isLet c := fun c h => uses_let h
  have hq0 := (kReq_ok k0 k1)
  have hfo := fun r => @foldT_ok 1073741824 r (kReq (kdOfL l)) (rFixed l 0 1).2.1 (rFixed l 0 1).2.2 hq0 hb0
  have hread : readQ 1073741824 l = (foldT 1073741824 (usesN (kdOfL l)) (kReq (kdOfL l)) (rFixed l 0 1).2.1 (rFixed l 0 1).2.2).1 := rfl
  have hku : IntKind.u8.wrap (((rFixed l 0 1).1 : Nat) : Int) = kdOfL l := by rw [IntKind.wrap_u8]; unfold kdOfL at *; omega
  unfold usesS at e36
  unfold getR finQ
  have ro := hro.1
  have rl := hro.2
  have rl2 : (readQ 1073741824 l).bt.rs.length < 4611686018427387904 := by omega
  have hsb := bs_str (putQ (readQ 1073741824 l))
  have hsl := bs_str l
  have hbb1 := bs_byte (putQ (readQ 1073741824 l))
  have hbb2 := bs_byte l
  have hse := sOf_eq hpb hb
  generalize hQ : readQ 1073741824 l = Q at *
  generalize kdOfL l = k at *
  generalize usesN k = u at *
  have zl2 : l.length < 4611686018427387904 := by omega
  generalize hF : rFixed l 0 1 = F at *
  obtain ⟨kn, l0, e0⟩ := F
  simp only at hb0 hl0 hfo hread hku e19
  refine pure_go hR Try.func43 Try.ntmps43 comp43 cres43 (by decide) (by simp) ?_
  simp [ac43, ar43, e19, hb, zl2, hku, e36, k0, hnf]
  refine awpR_loop (α := Nat) (fun i => i ≤ u.length) (fun i => { n := 54, sl := [(0, .sv (.sl 1 (bs l))), (2, .lptr 2 0), (4, .lptr 4 0), (6, .lptr 6 0), (7, .sv (.str (sOf u))), (8, .sv (.int .i64 i))], bx := [(6, qrv (foldT 1073741824 (u.take i) (kReq k) l0 e0).1), (4, rcv (foldT 1073741824 (u.take i) (kReq k) l0 e0).2.1 (foldT 1073741824 (u.take i) (kReq k) l0 e0).2.2), (2, qrv (kReq 0))], hp := fun _ => none })
    (fun i => u.length - i) 0 (by omega) (by simp [foldT, kReq, bat0, RL_nil]) ?_
  intro i hi
  obtain ⟨f1, f2, f3⟩ := hfo (u.take i)
  have hsz := sOf_size u
  by_cases h : i < u.length
  · have hcm : u.getD i 0 ∈ u := by rw [List.getD_eq_getElem?_getD, List.getElem?_eq_getElem h]; exact List.getElem_mem h
    have hc := hll _ hcm
    have hx := hlt _ hcm
    have hs1 : foldT 1073741824 (u.take (i + 1)) (kReq k) l0 e0 = takeQ 1073741824 (foldT 1073741824 (u.take i) (kReq k) l0 e0).1 (foldT 1073741824 (u.take i) (kReq k) l0 e0).2.1 (foldT 1073741824 (u.take i) (kReq k) l0 e0).2.2 (u.getD i 0) := by
      rw [List.take_succ_eq_append_getElem h, foldT_snoc, List.getD_eq_getElem?_getD, List.getElem?_eq_getElem h]; rfl
    have hB : (sOf u).data.toList.getD i 0 = UInt8.ofNat (u.getD i 0) := by simp [sOf, List.getD_eq_getElem?_getD, h]
    have hltI : (i : Int) < (sOf u).size := by omega
    have hw : IntKind.i64.wrap ((i : Int) + 1) = ((i + 1 : Nat) : Int) := by rw [IntKind.wrap_i64]; omega
    have hsz2 : i < (sOf u).data.size := by have := hsz; simp only [ByteArray.size] at this; omega
    generalize u.getD i 0 = c at hc hcm hs1 hB hx
    have hg : (sOf u).data[i]?.getD 0 = UInt8.ofNat c := by rw [← hB, List.getD_eq_getElem?_getD, Array.getElem?_toList]
    have hg2 : (sOf u)[i] = UInt8.ofNat c := by rw [← hg, Array.getElem?_eq_getElem hsz2]; rfl
    have hct : (c : Int) % 256 = c := by omega
    generalize foldT 1073741824 (u.take i) (kReq k) l0 e0 = X at *
    obtain ⟨q1, l1, e1⟩ := X
    simp only at f1 f2 f3 hs1
    have e := e99 l1 e1 q1 c
    have hl1 : l1.length < 100000000 := by omega
    simp [hltI, hg, hg2, hct, e, hc, f2, hl1, hw]
    refine ⟨i + 1, by omega, by omega, by omega, ?_⟩
    rw [hs1]
    simp
  · obtain rfl : i = u.length := by omega
    have hltI : ¬ ((u.length : Nat) : Int) < (sOf u).size := by omega
    rw [List.take_length] at *
    generalize (foldT 1073741824 u (kReq k) l0 e0).2.1 = la at *
    generalize (foldT 1073741824 u (kReq k) l0 e0).2.2 = ea at *
    rw [← hread] at *
    clear hfo e99
    by_cases hE : reqE Q = 0
    · rw [hE] at e32
      by_cases hP : putQ Q = l
      · rw [if_pos ⟨hE, hP⟩]
        simp [hltI, e32, ro, rl2, hsb, hsl, hP, Req.sv, Req.cells]
        try exact ⟨hbb1, hbb2⟩
        try exact hbb2
      · rw [if_neg (fun z => hP z.2)]
        generalize putQ Q = B at *
        have hne : ((sOf B).toList == (sOf l).toList) = false := by rw [hse]; simp [hP]
        simp [hltI, e32, ro, rl2, hsb, hsl, hne, Req.sv, Req.cells, kReq, bat0, RL_nil]
        try exact ⟨hbb1, hbb2⟩
    · rw [if_neg (fun z => hE z.1)]
      generalize reqE Q = E at e32 hE
      generalize putQ Q = B at *
      simp [hltI, e32, ro, rl2, hE, hsb, hsl, Req.sv, Req.cells, kReq, bat0, RL_nil]
end Go.Proofs.Ytflcdbfcipkhkaa

/- Wire: what is laid of a request is read back. -/


set_option linter.unusedSimpArgs false
set_option linter.unusedVariables false
set_option maxHeartbeats 8000000
namespace Go.Proofs.Ytflcdbfcipkhkaa
open Go.Av

/-- A field of one request put into another one. -/
def cpQ (q : Req) (X : Req) (c : Nat) : Req :=
  if c = 116 then { X with tp := q.tp } else if c = 105 then { X with ix := q.ix } else if c = 112 then { X with pa := q.pa } else if c = 99 then { X with co := q.co } else if c = 102 then { X with fl := q.fl }
  else if c = 111 then { X with off := q.off } else if c = 109 then { X with mo := q.mo } else if c = 119 then { X with ti := q.ti } else if c = 103 then { X with gr := q.gr } else if c = 107 then { X with me := q.me }
  else if c = 110 then { X with ge := q.ge } else { X with bt := q.bt }
theorem reqE_zero {q : Req} (h : reqE q = 0) : q.kd ≤ 11 ∧ alienB q = false ∧ ¬ longQ q ∧ (q.kd = 3 → batE (bt0 q) = 0 ∧ q.bt.ba = 0) := by
  unfold reqE at h
  by_cases h1 : 11 < q.kd
  · rw [if_pos h1] at h; cases h
  rw [if_neg h1] at h
  by_cases h2 : alienB q = true
  · rw [if_pos h2] at h; cases h
  rw [if_neg h2] at h
  by_cases h3 : longQ q
  · rw [if_pos h3] at h; cases h
  rw [if_neg h3] at h
  refine ⟨by omega, by simpa using h2, h3, fun h4 => ?_⟩
  rw [if_pos h4] at h
  by_cases h5 : batE (bt0 q) = 0
  · rw [if_neg (by simp [h5])] at h
    by_cases h6 : q.bt.ba = 0
    · exact ⟨h5, h6⟩
    · rw [if_pos h6] at h; cases h
  · rw [if_pos h5] at h; exact absurd h h5
theorem sOf_bn (s : ByteArray) : sOf (bytesNat s) = s := sOf_bytesNat s
theorem text_lay (s : ByteArray) (hs : s.size ≤ 255) (m : Int) (hm : 255 ≤ m) (t : List Nat) : rText (textN s ++ t) 0 m = (bytesNat s, t, 0) := by
  unfold textN
  rw [List.append_assoc]
  exact rText_lay s m ⟨by omega, by omega⟩ (by omega) t
theorem textB_lay {b : List Nat} (hb : Bytes b) (hl : b.length ≤ 8192) (m : Int) (hm : 8192 ≤ m) (t : List Nat) : rText (textB b ++ t) 0 m = (b, t, 0) := by
  rw [← textN_sOf hb]
  unfold textN
  rw [List.append_assoc]
  have hz := sOf_size b
  have := rText_lay (sOf b) m ⟨by omega, by omega⟩ (by omega) t
  rw [this]
  have : bytesNat (sOf b) = b := by
    unfold bytesNat sOf
    simp only [List.map_map]
    conv => rhs; rw [← List.map_id b]
    apply List.map_congr_left
    intro c hc
    have := hb c hc
    simp; omega
  rw [this]
theorem flag_lay (b : Bool) (t : List Nat) : ∃ n, rFixed (flagL b ++ t) 0 1 = (n, t, 0) ∧ (((n : Nat) : Int) == 1) = b := by
  cases b with
  | true => exact ⟨1, rFixed_1 1 (by decide) t, rfl⟩
  | false => exact ⟨0, rFixed_1 0 (by decide) t, rfl⟩
theorem take_lay {q : Req} (ho : q.ok) (hl : ¬ longQ q) (m : Int) (hm : 8192 ≤ m) (X : Req) (c : Nat) (hc : isLet c) (hb : c = 98 → batE (bt0 q) = 0 ∧ q.bt.ba = 0 ∧ q.kd = 3) (t : List Nat) :
    takeQ m X (fieldL q (bodyQ q) c ++ t) 0 c = (cpQ q X c, t, 0) := by
  obtain ⟨o1, o2, o3, o4, o5, o6, o7, o8, o9⟩ := ho
  unfold longQ at hl
  have t1 := text_lay q.tp (by omega) 255 (by omega) t
  have t2 := text_lay q.gr (by omega) 255 (by omega) t
  have t3 := text_lay q.me (by omega) 255 (by omega) t
  have n1 := rNum_lay o3 t
  have n2 := rNum_lay o4 t
  have n3 := rNum_lay o5 t
  have n4 := rNum_lay o6 t
  have n5 := rNum_lay o7 t
  have n6 := rNum_lay o8 t
  obtain ⟨x1, f1, g1⟩ := flag_lay q.co t
  obtain ⟨x2, f2, g2⟩ := flag_lay q.fl t
  rcases hc with rfl | rfl | rfl | rfl | rfl | rfl | rfl | rfl | rfl | rfl | rfl | rfl
  case inr.inr.inr.inr.inr.inr.inr.inr.inr.inr.inr =>
    obtain ⟨b1, b2, b3⟩ := hb rfl
    have hbd : bodyQ q = layB (bt0 q) := by rw [bodyQ, if_pos b3, putB, if_pos b1]
    have hy := textB_lay (bodyQ_bytes q) (bodyQ_le q) m hm t
    have hg : (batG (bodyQ q)).1 = q.bt := by
      rw [hbd, batG_lay b1]
      exact Bat.ext' b2.symm rfl rfl rfl rfl rfl
    simp [takeQ, fieldL, cpQ, wQ, hy, hg]
  all_goals simp [takeQ, fieldL, cpQ, wQ, t1, t2, t3, n1, n2, n3, n4, n5, n6, f1, f2, g1, g2, sOf_bn]
theorem foldT_lay {q : Req} (ho : q.ok) (hl : ¬ longQ q) (m : Int) (hm : 8192 ≤ m) (t : List Nat) : ∀ (u : List Nat) (X : Req), (∀ c ∈ u, isLet c) → (98 ∈ u → batE (bt0 q) = 0 ∧ q.bt.ba = 0 ∧ q.kd = 3) →
    foldT m u X (catF q (bodyQ q) u ++ t) 0 = (u.foldl (cpQ q) X, t, 0)
  | [], X, _, _ => by simp [foldT, catF]
  | c :: u, X, h1, h2 => by
    have e : catF q (bodyQ q) (c :: u) ++ t = fieldL q (bodyQ q) c ++ (catF q (bodyQ q) u ++ t) := by simp [catF]
    rw [e, foldT, take_lay ho hl m hm X c (h1 c (by simp)) (fun z => h2 (by simp [z])) _]
    simp only [List.foldl_cons]
    exact foldT_lay ho hl m hm t u _ (fun d hd => h1 d (by simp [hd])) (fun z => h2 (by simp [z]))
theorem cp_all {q : Req} (h0 : 0 ≤ q.kd) (h1 : q.kd ≤ 11) (ha : alienB q = false) : (usesN q.kd).foldl (cpQ q) (kReq q.kd) = q := by
  have ha' : (usesN q.kd).foldl zeroQ q = kReq q.kd := by
    unfold alienB at ha
    rw [← reqS_iff]
    simpa using ha
  obtain ⟨k, tp, ix, pa, co, fl, off, mo, ti, gr, me, ge, bt⟩ := q
  simp only at h0 h1 ha' ⊢
  rcases kind_cases k h0 with rfl | rfl | rfl | rfl | rfl | rfl | rfl | rfl | rfl | rfl | rfl | rfl | h
  case inr.inr.inr.inr.inr.inr.inr.inr.inr.inr.inr.inr => omega
  all_goals
    simp [usesN, zeroQ, kReq, cpQ, Req.mk.injEq] at ha' ⊢
    try grind
theorem readQ_lay {q : Req} (ho : q.ok) (hE : reqE q = 0) (m : Int) (hm : 8192 ≤ m) (t : List Nat) : readQ m (reqL q ++ t) = q := by
  obtain ⟨e1, e2, e3, e4⟩ := reqE_zero hE
  have o1 := ho.1
  have o2 := ho.2.1
  have hF : rFixed (reqL q ++ t) 0 1 = (q.kd.toNat, catF q (bodyQ q) (usesN q.kd) ++ t, 0) := by
    unfold reqL
    simp only [List.append_assoc, List.singleton_append]
    exact rFixed_1 _ (by omega) _
  have hk : kdOfL (reqL q ++ t) = q.kd := by unfold kdOfL; rw [hF]; simp only; omega
  unfold readQ
  rw [hk, hF]
  simp only
  rw [foldT_lay ho e3 m hm t _ _ (fun c h => uses_let h) (fun z => by have := uses_98 z; exact ⟨(e4 this).1, (e4 this).2, this⟩)]
  exact cp_all o1 e1 e2
theorem putQ_eq {q : Req} (h : reqE q = 0) : putQ q = reqL q := if_pos h
theorem getR_lay {q : Req} (ho : q.ok) (hE : reqE q = 0) (m : Int) (hm : 8192 ≤ m) : getR m (reqL q) = (q, 0) := by
  have := readQ_lay ho hE m hm []
  rw [List.append_nil] at this
  unfold getR finQ
  rw [this]
  exact if_pos ⟨hE, putQ_eq hE⟩
theorem getR_cases (m : Int) {l : List Nat} (hb : Bytes l) : getR m l = (kReq 0, 4) ∨ ∃ q : Req, rdOk q ∧ reqE q = 0 ∧ reqL q = l ∧ getR m l = (q, 0) := by
  have h1 := readQ_ok m hb
  unfold getR finQ
  by_cases h : reqE (readQ m l) = 0 ∧ putQ (readQ m l) = l
  · exact .inr ⟨_, h1, h.1, by rw [← putQ_eq h.1]; exact h.2, if_pos h⟩
  · exact .inl (if_neg h)
theorem getR_eq {l : List Nat} (hb : Bytes l) : getR 1073741824 l = getR 8192 l := by
  rcases getR_cases 8192 hb with h | ⟨q, h1, h2, h3, h4⟩
  · rcases getR_cases 1073741824 hb with k | ⟨q, k1, k2, k3, k4⟩
    · rw [h, k]
    · rw [← k3, getR_lay k1.1 k2 8192 (by decide)] at h
      have := congrArg Prod.snd h
      simp at this
  · rw [h4, ← h3]
    exact getR_lay h1.1 h2 _ (by decide)
theorem req_prefix {a b : Req} (ha : a.ok) (hb : b.ok) (ea : reqE a = 0) (eb : reqE b = 0) {t : List Nat} (h : reqL b = reqL a ++ t) : a = b := by
  have h1 := readQ_lay ha ea 8192 (by decide) t
  have h2 := readQ_lay hb eb 8192 (by decide) []
  rw [List.append_nil, h, h1] at h2
  exact h2
theorem reqL_bytes {q : Req} (h : q.ok) (hr : q.bt.rs.length ≤ 32 ∨ True) (hE : reqE q = 0) : Bytes (reqL q) := by
  obtain ⟨o1, o2, o3, o4, o5, o6, o7, o8, o9⟩ := h
  have hf : ∀ c, Bytes (fieldL q (bodyQ q) c) := by
    intro c
    have m : ∀ {p : Prop} [Decidable p] {x y : List Nat}, Bytes x → Bytes y → Bytes (if p then x else y) := by
      intro p _ x y h1 h2
      by_cases z : p
      · rw [if_pos z]; exact h1
      · rw [if_neg z]; exact h2
    have t : ∀ s, Bytes (textN s) := fun s => Bytes.append lay_bytes (bytesNat_bytes s)
    have f : ∀ b, Bytes (flagL b) := fun b x hx => by cases b <;> simp [flagL] at hx <;> omega
    unfold fieldL
    exact m (t _) (m lay_bytes (m lay_bytes (m (f _) (m (f _) (m lay_bytes (m lay_bytes (m lay_bytes (m (t _) (m (t _) (m lay_bytes (Bytes.append lay_bytes (bodyQ_bytes q))))))))))))
  unfold reqL
  refine Bytes.append (fun x hx => by simp at hx; omega) ?_
  intro x hx
  simp only [catF, List.mem_flatten, List.mem_map] at hx
  obtain ⟨y, ⟨c, _, rfl⟩, hy⟩ := hx
  exact hf c x hy
theorem reqL_pos (q : Req) : 1 ≤ (reqL q).length := by simp [reqL]
theorem getR_more {q : Req} (ho : q.ok) (hE : reqE q = 0) (c : Nat) (hc : c < 256) : getR 8192 (reqL q ++ [c]) = (kReq 0, 4) := by
  have hb : Bytes (reqL q ++ [c]) := Bytes.append (reqL_bytes ho (.inr trivial) hE) (fun x hx => by simp at hx; omega)
  rcases getR_cases 8192 hb with k | ⟨a, k0, k1, k2, k3⟩
  · exact k
  · have := req_prefix ho k0.1 hE k1 k2
    subst this
    have := congrArg List.length k2
    simp at this
theorem getR_less {q : Req} (ho : q.ok) (hE : reqE q = 0) : getR 8192 (reqL q).dropLast = (kReq 0, 4) := by
  have hb : Bytes (reqL q).dropLast := fun x hx => reqL_bytes ho (.inr trivial) hE x (List.dropLast_subset _ hx)
  rcases getR_cases 8192 hb with k | ⟨a, k0, k1, k2, k3⟩
  · exact k
  · have hne : reqL q ≠ [] := fun z => by have := reqL_pos q; rw [z] at this; simp at this
    have e : reqL q = reqL a ++ [(reqL q).getLast hne] := by rw [k2]; exact (List.dropLast_concat_getLast hne).symm
    have := req_prefix k0.1 ho k1 hE e
    subst this
    have := congrArg List.length e
    simp at this
theorem reqL_len {q : Req} (ho : q.ok) (hE : reqE q = 0) : (reqL q).length ≤ 100000 := by
  have h1 := catF_le ho (reqE_zero hE).2.2.1 (bodyQ_le q) (usesN q.kd)
  have h2 := uses_len q.kd
  simp only [reqL, List.length_append, List.length_singleton]
  omega
end Go.Proofs.Ytflcdbfcipkhkaa

/- Wire: what is laid of a response is read back. -/


set_option linter.unusedSimpArgs false
set_option linter.unusedVariables false
set_option maxHeartbeats 8000000
namespace Go.Proofs.Ytflcdbfcipkhkaa
open Go.Av

theorem itr_lay {α : Type} {stp : List Nat → Int → α × List Nat × Int} {b : α → List Nat} (t : List Nat) (xs : List α) (h : ∀ x ∈ xs, ∀ t, stp (b x ++ t) 0 = (x, t, 0)) :
    ∀ i, i ≤ xs.length → itr stp ((xs.map b).flatten ++ t) 0 i = (xs.take i, ((xs.drop i).map b).flatten ++ t, 0)
  | 0, _ => by simp [itr]
  | i + 1, hi => by
    have hi' : i < xs.length := by omega
    rw [itr, itr_lay t xs h i (by omega)]
    simp only
    rw [List.drop_eq_getElem_cons hi', List.map_cons, List.flatten_cons, List.append_assoc, h _ (List.getElem_mem hi')]
    simp only [List.take_succ_eq_append_getElem hi']
theorem whl_lay {α : Type} {stp : List Nat → Int → α × List Nat × Int} {b : α → List Nat} (t : List Nat) : ∀ (xs : List α) (f i : Nat) (acc : List α), (∀ x ∈ xs, ∀ t, stp (b x ++ t) 0 = (x, t, 0)) → i + xs.length ≤ 65 → xs.length < f →
    whl stp ((i + xs.length : Nat) : Int) f i acc ((xs.map b).flatten ++ t) 0 = (acc ++ xs, t, 0)
  | [], f, i, acc, h, h1, h2 => by
    cases f with
    | zero => simp at h2
    | succ f =>
      rw [whl, if_neg (by simp)]
      simp
  | x :: xs, f, i, acc, h, h1, h2 => by
    cases f with
    | zero => simp at h2
    | succ f =>
      simp only [List.length_cons] at h1 h2
      rw [whl, if_pos ⟨by simp only [List.length_cons]; omega, by omega, rfl⟩]
      rw [List.map_cons, List.flatten_cons, List.append_assoc, h x (by simp)]
      simp only
      have := whl_lay t xs f (i + 1) (acc ++ [x]) (fun y hy => h y (by simp [hy])) (by omega) (by omega)
      rw [show i + (x :: xs).length = i + 1 + xs.length by simp; omega, this]
      simp
theorem batsE_zero : ∀ {l : List Bat}, batsE l = 0 → ∀ b ∈ l, batE b = 0
  | [], _, b, hb => by cases hb
  | c :: l, h, b, hb => by
    rw [batsE] at h
    by_cases hc : batE c = 0
    · rw [if_neg (by simp [hc])] at h
      rcases List.mem_cons.1 hb with rfl | hb
      · exact hc
      · exact batsE_zero h b hb
    · rw [if_pos hc] at h; exact absurd h hc
theorem rspE_zero {a : Rsp} (h : rspE a = 0) : ¬ bigP a ∧ a.nms.any isLong = false ∧ ∀ b ∈ a.bts, batE b = 0 := by
  unfold rspE at h
  by_cases h1 : kindP a = true
  · rw [if_pos h1] at h; cases h
  rw [if_neg h1] at h
  by_cases h2 : bigP a
  · rw [if_pos h2] at h; cases h
  rw [if_neg h2] at h
  by_cases h3 : a.nms.any isLong = true
  · rw [if_pos h3] at h; cases h
  rw [if_neg h3] at h
  exact ⟨h2, by simpa using h3, batsE_zero h⟩
theorem stB_lay {b : Bat} (h : batE b = 0) (m : Int) (hm : 8192 ≤ m) (t : List Nat) : stB m (textB (putB b) ++ t) 0 = (b, t, 0) := by
  unfold stB
  rw [textB_lay (putB_bytes b) (putB_le8 b) m hm t]
  have : putB b = layB b := by rw [putB, if_pos h]
  simp only [this, batG_lay h]
theorem stT_lay {s : ByteArray} (h : s.size ≤ 255) (t : List Nat) : stT (textN s ++ t) 0 = (s, t, 0) := by
  unfold stT
  rw [text_lay s h 255 (by omega) t]
  simp only [sOf_bn]
theorem each_lay {α : Type} {stp : List Nat → Int → α × List Nat × Int} {b : α → List Nat} (t : List Nat) (xs : List α) (h : ∀ x ∈ xs, ∀ t, stp (b x ++ t) 0 = (x, t, 0)) (hl : xs.length ≤ 64) :
    eachT stp (layN (zig xs.length) ++ ((xs.map b).flatten ++ t)) 0 = (xs, t, 0) ∧ eachW stp (layN (zig xs.length) ++ ((xs.map b).flatten ++ t)) 0 = (xs, t, 0) := by
  have hn := rNum_lay (n := (xs.length : Int)) ⟨by omega, by omega⟩ ((xs.map b).flatten ++ t)
  constructor
  · unfold eachT
    rw [hn]
    have hc : cntN (xs.length : Int) = xs.length := by unfold cntN; rw [if_neg (by omega), if_neg (by omega)]; omega
    simp only [hc]
    rw [itr_lay t xs h xs.length (Nat.le_refl _)]
    simp
  · unfold eachW
    rw [hn]
    simp only
    have := whl_lay t xs 66 0 [] h (by omega) (by omega)
    rw [Nat.zero_add] at this
    rw [this]
    simp
theorem rspL_split (a : Rsp) (t : List Nat) : rspL a ++ t = a.kd.toNat :: (layN (zig a.er) ++ (layN (zig a.off) ++ (layN (zig a.nx) ++ (layN (zig a.ge) ++ (flagL a.db ++ (layN (zig a.bts.length) ++ (batsB a.bts ++
    (layN (zig a.pas.length) ++ (numsB a.pas ++ (layN (zig a.nms.length) ++ (txtsB a.nms ++ t))))))))))) := by
  simp [rspL, rspH3, rspH2, rspH1, hd4, numsB]
theorem rd_lay {a : Rsp} (ho : a.ok) (hE : rspE a = 0) (t : List Nat) : rdP 8192 (rspL a ++ t) = a ∧ rdW (rspL a ++ t) = a := by
  obtain ⟨e1, e2, e3⟩ := rspE_zero hE
  obtain ⟨o1, o2, o3, o4, o5, o6, o7, o8⟩ := ho
  simp only [bigP, not_or, Nat.not_lt] at e1
  obtain ⟨n1, n2, n3⟩ := e1
  have ht : ∀ s ∈ a.nms, s.size ≤ 255 := fun s hs => by
    have := List.any_eq_false.1 e2 s hs
    simp only [isLong, decide_eq_true_eq] at this
    omega
  have hk : ((a.kd.toNat : Nat) : Int) = a.kd := by omega
  have f1 := rFixed_1 a.kd.toNat (by omega) (layN (zig a.er) ++ (layN (zig a.off) ++ (layN (zig a.nx) ++ (layN (zig a.ge) ++ (flagL a.db ++ (layN (zig a.bts.length) ++ (batsB a.bts ++
    (layN (zig a.pas.length) ++ (numsB a.pas ++ (layN (zig a.nms.length) ++ (txtsB a.nms ++ t)))))))))))
  obtain ⟨x, f2, g2⟩ := flag_lay a.db (layN (zig a.bts.length) ++ (batsB a.bts ++ (layN (zig a.pas.length) ++ (numsB a.pas ++ (layN (zig a.nms.length) ++ (txtsB a.nms ++ t))))))
  have b8 := (each_lay (stp := stB 8192) (b := fun b => textB (putB b)) (layN (zig a.pas.length) ++ (numsB a.pas ++ (layN (zig a.nms.length) ++ (txtsB a.nms ++ t)))) a.bts (fun b hb t => stB_lay (e3 b hb) 8192 (by decide) t) n1).1
  have bW := (each_lay (stp := stB 1073741824) (b := fun b => textB (putB b)) (layN (zig a.pas.length) ++ (numsB a.pas ++ (layN (zig a.nms.length) ++ (txtsB a.nms ++ t)))) a.bts (fun b hb t => stB_lay (e3 b hb) 1073741824 (by decide) t) n1).2
  obtain ⟨p8, pW⟩ := each_lay (stp := rNum) (b := fun n => layN (zig n)) (layN (zig a.nms.length) ++ (txtsB a.nms ++ t)) a.pas (fun n hn t => rNum_lay (o8 n hn) t) n2
  obtain ⟨t8, tW⟩ := each_lay (stp := stT) (b := textN) t a.nms (fun s hs t => stT_lay (ht s hs) t) n3
  rw [rspL_split]
  unfold rdP rdW
  simp only [batsB, numsB, txtsB] at *
  constructor
  · simp only [f1, rNum_lay o3, rNum_lay o4, rNum_lay o5, rNum_lay o6, f2, g2, b8, p8, t8, hk]
  · simp only [f1, rNum_lay o3, rNum_lay o4, rNum_lay o5, rNum_lay o6, f2, g2, bW, pW, tW, hk]
def getP (l : List Nat) : Rsp × Int := finP l (rdP 8192 l)
theorem putP_eq {a : Rsp} (h : rspE a = 0) : putP a = rspL a := if_pos h
theorem getP_lay {a : Rsp} (ho : a.ok) (hE : rspE a = 0) : getP (rspL a) = (a, 0) ∧ finP (rspL a) (rdW (rspL a)) = (a, 0) := by
  obtain ⟨h1, h2⟩ := rd_lay ho hE []
  rw [List.append_nil] at h1 h2
  unfold getP finP
  rw [h1, h2]
  exact ⟨if_pos ⟨hE, putP_eq hE⟩, if_pos ⟨hE, putP_eq hE⟩⟩
theorem finP_cases (l : List Nat) (a : Rsp) : finP l a = (rsp0, 4) ∨ rspE a = 0 ∧ rspL a = l ∧ finP l a = (a, 0) := by
  unfold finP
  by_cases h : rspE a = 0 ∧ putP a = l
  · exact .inr ⟨h.1, by rw [← putP_eq h.1]; exact h.2, if_pos h⟩
  · exact .inl (if_neg h)
theorem rdW_ok {l : List Nat} (hb : Bytes l) : (rdW l).ok ∧ (rdW l).bts.length ≤ 66 ∧ (∀ b ∈ (rdW l).bts, b.rs.length ≤ 32) ∧ (rdW l).pas.length ≤ 66 ∧ (rdW l).nms.length ≤ 66 := by
  have hk := kdOfL_in hb
  have B0 := rFixed_bytes hb 0 1
  have B1 := rNum_bytes B0 (rFixed l 0 1).2.2
  have B2 := rNum_bytes B1 (rNum (rFixed l 0 1).2.1 (rFixed l 0 1).2.2).2.2
  generalize hF1 : rFixed l 0 1 = F1 at *
  generalize hN1 : rNum F1.2.1 F1.2.2 = N1 at *
  generalize hN2 : rNum N1.2.1 N1.2.2 = N2 at *
  have B3 := rNum_bytes B2 N2.2.2
  generalize hN3 : rNum N2.2.1 N2.2.2 = N3 at *
  have B4 := rNum_bytes B3 N3.2.2
  generalize hN4 : rNum N3.2.1 N3.2.2 = N4 at *
  have B5 := rFixed_bytes B4 N4.2.2 1
  generalize hF2 : rFixed N4.2.1 N4.2.2 1 = F2 at *
  obtain ⟨a1, a2, a3, a4⟩ := eachW_kp (kpB 1073741824) (p := fun x : Bat => x.ok ∧ x.rs.length ≤ 32) (fun l e => batG_ok _) F2.2.2 B5
  generalize hX1 : eachW (stB 1073741824) F2.2.1 F2.2.2 = X1 at *
  obtain ⟨b1, b2, b3, b4⟩ := eachW_kp kpN (p := fun n : Int => I64 n) (fun l e => rNum_in l e) X1.2.2 a1
  generalize hX2 : eachW rNum X1.2.1 X1.2.2 = X2 at *
  obtain ⟨c1, c2, c3, c4⟩ := eachW_kp kpT (p := fun _ => True) (fun l e => trivial) X2.2.2 b1
  generalize hX3 : eachW stT X2.2.1 X2.2.2 = X3 at *
  have he : rdW l = ⟨(F1.1 : Nat), N1.1, N2.1, N3.1, (F2.1 : Int) == 1, N4.1, X1.1, X2.1, X3.1⟩ := by
    unfold rdW
    simp only [hF1, hN1, hN2, hN3, hN4, hF2, hX1, hX2, hX3]
  rw [he]
  have hk1 : (F1.1 : Int) = kdOfL l := by unfold kdOfL; rw [hF1]
  refine ⟨⟨by simp only; omega, by simp only; omega, ?_, ?_, ?_, ?_, fun b hb => (a4 b hb).1, b4⟩, a3, fun b hb => (a4 b hb).2, b3, c3⟩
  · rw [← hN1]; exact rNum_in _ _
  · rw [← hN2]; exact rNum_in _ _
  · rw [← hN3]; exact rNum_in _ _
  · rw [← hN4]; exact rNum_in _ _
theorem getP_eq {l : List Nat} (hb : Bytes l) : finP l (rdW l) = getP l := by
  rcases finP_cases l (rdP 8192 l) with h | ⟨h1, h2, h3⟩
  · rcases finP_cases l (rdW l) with k | ⟨k1, k2, k3⟩
    · rw [getP, h, k]
    · have := (getP_lay (rdW_ok hb).1 k1).1
      rw [k2] at this
      rw [getP, h] at this
      have := congrArg Prod.snd this
      simp at this
  · have := (getP_lay (rdP_ok 8192 hb).1 h1).2
    rw [h2] at this
    rw [getP, h3, this]
theorem getP_cases {l : List Nat} (hb : Bytes l) : getP l = (rsp0, 4) ∨ ∃ a : Rsp, rdOkP a ∧ rspE a = 0 ∧ rspL a = l ∧ getP l = (a, 0) := by
  rcases finP_cases l (rdP 8192 l) with h | ⟨h1, h2, h3⟩
  · exact .inl h
  · exact .inr ⟨_, rdP_ok 8192 hb, h1, h2, h3⟩
theorem rsp_prefix {a b : Rsp} (ha : a.ok) (hb : b.ok) (ea : rspE a = 0) (eb : rspE b = 0) {t : List Nat} (h : rspL b = rspL a ++ t) : a = b := by
  have h1 := (rd_lay ha ea t).1
  have h2 := (rd_lay hb eb []).1
  rw [List.append_nil, h, h1] at h2
  exact h2
theorem rspL_pos (a : Rsp) : 1 ≤ (rspL a).length := by simp [rspL, rspH3, rspH2, rspH1]
theorem getP_more {a : Rsp} (ho : a.ok) (hE : rspE a = 0) (c : Nat) (hc : c < 256) : getP (rspL a ++ [c]) = (rsp0, 4) := by
  have hb : Bytes (rspL a ++ [c]) := Bytes.append (rspL_bytes ho) (fun x hx => by simp at hx; omega)
  rcases getP_cases hb with k | ⟨b, k0, k1, k2, k3⟩
  · exact k
  · have := rsp_prefix ho k0.1 hE k1 k2
    subst this
    have := congrArg List.length k2
    simp at this
theorem getP_less {a : Rsp} (ho : a.ok) (hE : rspE a = 0) : getP (rspL a).dropLast = (rsp0, 4) := by
  have hb : Bytes (rspL a).dropLast := fun x hx => rspL_bytes ho x (List.dropLast_subset _ hx)
  rcases getP_cases hb with k | ⟨b, k0, k1, k2, k3⟩
  · exact k
  · have hne : rspL a ≠ [] := fun z => by have := rspL_pos a; rw [z] at this; simp at this
    have e : rspL a = rspL b ++ [(rspL a).getLast hne] := by rw [k2]; exact (List.dropLast_concat_getLast hne).symm
    have := rsp_prefix k0.1 ho k1 hE e
    subst this
    have := congrArg List.length e
    simp at this
theorem rspL_len {a : Rsp} (ho : a.ok) (hE : rspE a = 0) : (rspL a).length ≤ 800000 := by
  obtain ⟨e1, e2, e3⟩ := rspE_zero hE
  obtain ⟨o1, o2, o3, o4, o5, o6, o7, o8⟩ := ho
  simp only [bigP, not_or, Nat.not_lt] at e1
  obtain ⟨n1, n2, n3⟩ := e1
  have l4 := numsB_le (l := hd4 a) (fun n hn => by simp [hd4] at hn; rcases hn with rfl | rfl | rfl | rfl <;> assumption)
  have h44 : (hd4 a).length = 4 := rfl
  have lf := flagL_le a.db
  have lb := layN_le10 (u := zig a.bts.length) (zig_lt (by omega) (by omega))
  have lp := layN_le10 (u := zig a.pas.length) (zig_lt (by omega) (by omega))
  have ln := layN_le10 (u := zig a.nms.length) (zig_lt (by omega) (by omega))
  have lbb := batsB_le a.bts
  have lpp := numsB_le (l := a.pas) o8
  have lnn := txtsB_le e2
  simp only [rspL, rspH3, rspH2, rspH1, List.length_append, List.length_singleton]
  omega
end Go.Proofs.Ytflcdbfcipkhkaa
