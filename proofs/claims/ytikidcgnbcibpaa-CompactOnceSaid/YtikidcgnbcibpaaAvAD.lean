import Derived.Test.YtikidcgnbcibpaaAvAC
import Derived.WalkKit
import Derived.ProofKit
import Derived.OpenShut
import Derived.JoinedCond
import Derived.WideKeyArgs
import Derived.ChangeSame

set_option linter.unusedVariables false
set_option linter.unusedSimpArgs false
namespace Go.Av
open Go.ChangeShapes Go.WideShapes Go.ChangeAt Go.RowKit
variable {P : Program} {H : Type} {enc : TypeId × Value → H} {W : World}

def Sh.hasV (sh : Sh) (v : SV) : Prop := match sh with
  | .st fs => ∃ l, v = .agg l ∧ Sh.hasL fs l
  | s => s.has [v]
def hasVs : List Sh → List SV → Prop
  | [], l => l = []
  | s :: r, l => ∃ v l', l = v :: l' ∧ s.hasV v ∧ hasVs r l'

def shapesOf (P : Program) (n : Nat) : List TypeId → Option (List Sh)
  | [] => some []
  | t :: ts => match shapeOf P n t, shapesOf P n ts with
    | some s, some l => some (s :: l)
    | _, _ => none

theorem shapeOf_st {n : Nat} {t : TypeId} {sh : Sh} (h : shapeOf P n t = some sh) : (∃ fs, sh = .st fs) ↔ (∃ fs, P.underlying t = some (.struct fs)) ∨ (∃ m e, P.underlying t = some (.array m e)) := by
  cases n with
  | zero => cases h
  | succ n =>
    simp only [shapeOf] at h
    split at h <;> rename_i ht <;> (try rw [ht])
    · cases h; simp
    · cases h; simp
    · cases h; simp
    · split at h
      · split at h
        · cases h; simp
        · cases h
      · cases h
    · split at h
      · split at h
        · cases h; simp
        · cases h
      · cases h
    · split at h
      · split at h
        · cases h; simp
        · cases h
      · cases h
    · split at h
      · split at h
        · cases h; simp
        · cases h
      · cases h
    · cases h

theorem arg_rep {base : Nat} {sp : Nat → Bool} {held : Bool} {t : TypeId} {v : Value} {d : DataW H} {ps : List MemPlace} {n b : Nat} {sh : Sh} (h : DataW.Trod enc P W base sp held t v d ps) (hs : shapeOf P n t = some sh)
    (hok : Value.okWide P W .any b t v) : ∃ sv, Rep (mem0 W) sv v ∧ sh.hasV sv := by
  obtain ⟨fuel, hf⟩ := h
  obtain ⟨svs, h1, h2, h3, h4⟩ := trod_has n t sh hs fuel _ _ hf
  by_cases q : ∃ fs, sh = .st fs
  · have hag : ∃ cs, v = .agg cs := by
      rcases (shapeOf_st hs).1 q with ⟨fs, e⟩ | ⟨m, e', e⟩
      · unfold Value.okWide at hok; rw [e] at hok; obtain ⟨cs, hv, _⟩ := hok; exact ⟨cs, hv⟩
      · unfold Value.okWide at hok; rw [e] at hok; obtain ⟨cs, hv, _⟩ := hok; exact ⟨cs, hv⟩
    obtain ⟨fs, rfl⟩ := q
    obtain ⟨cs, rfl⟩ := hag
    refine ⟨.agg svs, ?_, svs, rfl, by simpa only [Sh.has] using h3⟩
    have := Rep.agg (mu := mem0 W) svs cs.toList (by simpa [Value.cells] using h1.1.symm) (fun j hj => by
      have := (h1.2 j (by rw [← h1.1]; exact hj)).1
      simpa [Value.cells] using this)
    simpa using this
  · have hna : ∀ cs, v ≠ .agg cs := by
      intro cs e
      subst e
      unfold Value.okWide at hok
      split at hok
      · rename_i e; exact q ((shapeOf_st hs).2 (.inl ⟨_, e⟩))
      · rename_i e; exact q ((shapeOf_st hs).2 (.inr ⟨_, _, e⟩))
      · unfold Cell.okWide at hok
        split at hok <;> try (rename_i e1 e2; cases e2; done)
        unfold Cell.ok at hok
        split at hok <;> first | (rename_i e1 e2; cases e2; done) | exact hok
    have hc : v.cells.toList = [v] := by
      cases v <;> first | rfl | (exact absurd rfl (hna _))
    rw [hc] at h1
    have hl : svs.length = 1 := by simpa using h1.1
    obtain ⟨sv, rfl⟩ : ∃ sv, svs = [sv] := by
      match svs, hl with
      | [sv], _ => exact ⟨sv, rfl⟩
    refine ⟨sv, (h1.2 0 (by simp)).1, ?_⟩
    cases sh <;> first | (exact absurd ⟨_, rfl⟩ q) | exact h3

theorem args_rep {base : Nat} {sp : Nat → Bool} {held : Bool} {n b : Nat} : ∀ {ts : List TypeId} {vs : List Value} {ds : List (DataW H)} {ps : List MemPlace} {shs : List Sh}, shapesOf P n ts = some shs → DataW.TrodAll enc P W base sp held ts vs ds ps →
    (∀ (j : Nat) t v, ts[j]? = some t → vs[j]? = some v → Value.okWide P W .any b t v) → ∃ svs, RepArgs (mem0 W) svs vs ∧ hasVs shs svs ∧ ds.length = shs.length
  | [], [], [], ps, shs, h1, h2, h3 => by cases h1; exact ⟨[], ⟨rfl, fun j hj => by simp at hj⟩, rfl, rfl⟩
  | t :: ts, v :: vs, d :: ds, ps, shs, h1, h2, h3 => by
    simp only [shapesOf] at h1
    split at h1
    case h_2 => cases h1
    rename_i s l hs hl
    cases h1
    obtain ⟨p, q, k1, k2, rfl⟩ := h2
    obtain ⟨sv, e1, e2⟩ := arg_rep k1 hs (h3 0 t v rfl rfl)
    obtain ⟨svs, e3, e4, e5⟩ := args_rep hl k2 (fun j t v ht hv => h3 (j + 1) t v (by simpa using ht) (by simpa using hv))
    refine ⟨sv :: svs, ⟨by simp [e3.1], fun j hj => ?_⟩, ⟨sv, svs, rfl, e2, e4⟩, by simp [e5]⟩
    cases j with
    | zero => exact e1
    | succ j => simpa using e3.2 j (by simpa using hj)
  | [], _ :: _, ds, ps, shs, h1, h2, h3 => by cases ds <;> exact h2.elim
  | [], [], _ :: _, ps, shs, h1, h2, h3 => h2.elim
  | _ :: _, [], ds, ps, shs, h1, h2, h3 => by cases ds <;> exact h2.elim
  | _ :: _, _ :: _, [], ps, shs, h1, h2, h3 => h2.elim

theorem trodAll_stays {sp' : Nat → Bool} {W' : World} (hl : laidOutB P = true) : ∀ {ts : List TypeId} {vs : List Value} {ds : List (DataW H)} {ps : List MemPlace}, (∀ t ∈ ts, P.readableRec t = true ∧ t < P.types.size) →
    DataW.TrodAll enc P W 0 (fun _ => true) true ts vs ds ps → (∀ p ∈ ps, W.sameAt W' p) → (∀ p ∈ ps, sp' p.block = true) → DataW.TrodAll enc P W' 0 sp' true ts vs ds ps
  | [], [], [], ps, h1, h2, h3, h4 => h2
  | t :: ts, v :: vs, d :: ds, ps, h1, h2, h3, h4 => by
    obtain ⟨p, q, k1, k2, rfl⟩ := h2
    obtain ⟨r1, r2⟩ := h1 t (by simp)
    exact ⟨p, q, WideElems.Trod_stays hl r1 r2 k1 (fun x hx => h3 x (by simp [hx])) (fun x hx => h4 x (by simp [hx])),
      trodAll_stays hl (fun t ht => h1 t (by simp [ht])) k2 (fun x hx => h3 x (by simp [hx])) (fun x hx => h4 x (by simp [hx])), rfl⟩
  | [], _ :: _, ds, ps, h1, h2, h3, h4 => by cases ds <;> exact h2.elim
  | [], [], _ :: _, ps, h1, h2, h3, h4 => h2.elim
  | _ :: _, [], ds, ps, h1, h2, h3, h4 => by cases ds <;> exact h2.elim
  | _ :: _, _ :: _, [], ps, h1, h2, h3, h4 => h2.elim

theorem ext_same {W W' : World} (h : Ext (fun _ => False) W W') {p : MemPlace} (hp : p.block < W.heap.size) : W.sameAt W' p := by
  cases p with
  | cell b off =>
    show W'.cell? ⟨b, off, none⟩ = W.cell? ⟨b, off, none⟩
    unfold World.cell?
    rw [h.block b hp (fun f => f)]
  | map b => exact h.block b hp (fun f => f)

theorem ext_kept {W W' : World} (h : Ext (fun _ => False) W W') (may : MemPlace → Prop) : W.keptBut W' may := by
  refine ⟨h.os, h.output, fun i hi => ?_⟩
  rw [h.block i hi (fun f => f)]
  split <;> simp_all

/-- What a law's contract gives to its row. -/
theorem law_contract {f : FuncId} {fn : Func} {s : ChangeSpec} {n tb : Nat} {shs : List Sh} (hsh : shapesOf P n fn.params.toList = some shs) (hpure : ∀ svs, hasVs shs svs → Pure P f svs (.sv (.bool true)))
    (hrt : fn.resultTypes = #[tb]) (hb : P.underlying tb = some .bool) (hl : laidOutB P = true) (hts : ∀ t ∈ fn.params.toList, P.readableRec t = true ∧ t < P.types.size)
    (hspec : ∀ ds : List (DataW H), ds.length = shs.length → s.fn H ds = { results := [.lit (.bool true)], args := ds }) (hvars : s.vars = [])
    (base : Nat) (args : Array Value) (ds gs : List (DataW H)) (before : List MemPlace)
    (hval : ∀ (j : Nat) t v, fn.params[j]? = some t → args[j]? = some v → Value.okWide P W .any base t v)
    (hW : DataW.Whole enc P fn.params.toList s.vars false W args.toList ds gs before) :
    Calls P f args W fun e W' => ∃ v, e = .returned v ∧ s.post enc P fn false true false false W args v W' := by
  have hW' := hW
  have hlt := hW.lt
  obtain ⟨p, q, hA, hV, rfl, hfz, hnd⟩ := hW
  obtain ⟨svs, e1, e2, e3⟩ := args_rep hsh hA (fun j t v ht hv => hval j t v (by simpa using ht) (by simpa using hv))
  have hgs : gs = [] ∧ q = [] := by
    rw [hvars] at hV
    cases gs with
    | nil => exact ⟨rfl, hV⟩
    | cons _ _ => exact hV.elim
  obtain ⟨rfl, rfl⟩ := hgs
  have hcall := hpure svs e2 (mem0 W) W args.toList (mem0_ok W) e1
  rw [show args.toList.toArray = args by simp] at hcall
  refine Calls.mono hcall fun e W' he => ?_
  obtain ⟨val, mu', hret, hx, _, _, _, x, hr, _⟩ := he
  subst hret
  have hval' : val = .bool true := Rep.inv_bool hr
  subst hval'
  refine ⟨_, rfl, ?_⟩
  have hsp := hspec ds e3
  have hlt' : ∀ x ∈ p, x.block < W.heap.size := fun x hx => hlt x (by simp [hx])
  have hold : ∀ x ∈ p, decide (x.block < W.heap.size) = true := fun x hx' => by simpa using hlt' x hx'
  refine ⟨ds, [], p ++ [], [], p, [], hW', ?_, ?_, ?_, ext_kept hx _, fun q => by cases q⟩
  · rw [List.append_nil, hsp, hrt]
    exact trodAll_cons_mk (p := []) (p' := []) ⟨1, by simp [DataW.trod, Value.cells, hb]⟩ trodAll_mk0
  · rw [List.append_nil, hsp]
    exact trodAll_stays hl hts hA (fun x hx' => ext_same hx (hlt' x hx')) (fun x hx' => hold x hx')
  · rw [List.append_nil, hsp, hvars]; rfl
end Go.Av
