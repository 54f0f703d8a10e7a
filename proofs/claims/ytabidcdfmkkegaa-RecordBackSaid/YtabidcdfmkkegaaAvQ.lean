import Derived.Test.YtabidcdfmkkegaaAvP
set_option linter.unusedSimpArgs false
namespace Go.Av
variable {P : Program} {w0 : World} {mu0 : Mem} {T : Nat → Prop} {g g' : Gh} {st st' : St} {a : Act} {w w' : World}

def RepArgs (mu : Mem) (args : List SV) (vs : List Value) : Prop := vs.length = args.length ∧ ∀ j, j < args.length → Rep mu (args.getD j .undef) (vs.getD j Go.undef)

/-- A call's result, of its own. -/
def RetRep (B : Nat) (mu : Mem) (w : World) (rv : LV) (val : Value) : Prop :=
  ∃ x : Nat → Option Place, RepL { mu := mu, x := x, bx := fun _ => none, B := B } w 0 rv val ∧ ∀ b p, x b = some p → b < w.heap.size

/-- A call that computes alone: whatever the memory, it returns this, and leaves what was there. -/
def Pure (P : Program) (f : FuncId) (args : List SV) (rv : LV) : Prop :=
  ∀ (mu : Mem) (w : World) (vs : List Value), MemOK mu w → RepArgs mu args vs →
    Calls P f vs.toArray w fun e w' => ∃ val mu', e = .returned val ∧ Ext (fun _ => False) w w' ∧ mu.le mu' ∧ MemOK mu' w' ∧ (∀ b j, b < w.heap.size → mu' b j = mu b j) ∧ RetRep w.heap.size mu' w' rv val

/-- A call with a pointer to one object: it returns this, and leaves that in the object, and all else as it was. -/
def Eff1 (P : Program) (f : FuncId) (cells : List SV) (args : List SV) (rv : LV) (cells' : List SV) : Prop :=
  ∀ (mu : Mem) (w : World) (b : Nat) (vs : List Value), MemOK mu w → HeapAt mu w b cells → RepArgs mu args vs →
    Calls P f (.pointer (some ⟨b, 0, none⟩) :: vs).toArray w fun e w' => ∃ val mu', e = .returned val ∧ Ext (fun k => k = b) w w' ∧ mu.le mu' ∧ MemOK mu' w' ∧ (∀ b' j, b' < w.heap.size → mu' b' j = mu b' j) ∧
      HeapAt mu' w' b cells' ∧ RetRep w.heap.size mu' w' rv val

/-- A call that returns a new object. -/
def PureN (P : Program) (f : FuncId) (args : List SV) (cells : List SV) : Prop :=
  ∀ (mu : Mem) (w : World) (vs : List Value), MemOK mu w → RepArgs mu args vs →
    Calls P f vs.toArray w fun e w' => ∃ b mu', e = .returned (.pointer (some ⟨b, 0, none⟩)) ∧ Ext (fun _ => False) w w' ∧ mu.le mu' ∧ MemOK mu' w' ∧ (∀ b j, b < w.heap.size → mu' b j = mu b j) ∧
      w.heap.size ≤ b ∧ HeapAt mu' w' b cells

def noL (d : Nat) (l : List (Nat × LV)) : Prop := ∀ p ∈ l, p.2.isL d = false

def AK.plain : AK → Bool
  | .take _ | .mark _ | .ext _ _ | .app _ _ _ _ | .appS _ _ | .box _ _ | .alloc _ | .store _ _ _ | .takeLoad _ | .call _ _ | .callE _ _ _ | .callN _ _ => false
  | _ => true

def gdv (gu : Option (Nat × Bool)) (g : Bool) (lv : LV) : LV := match gu with
  | none => lv
  | some _ => .gd g lv

def St.putS (st : St) (d : Nat) (lv : LV) : St := { st with sl := (d, lv) :: st.sl }

def storeV (st : St) (p : LV) (vs : List SV) : Option (Prop × St) :=
  match p with
  | .lptr s off => match lkb st.bx s with
    | some cells => some (off + vs.length ≤ cells.length, updBox st s (setR cells off vs))
    | none => none
  | _ => none

/-- One operation, on abstract states. -/
def AStep (P : Program) (st : St) (o : AOp) (K : St → Prop) : Prop :=
  match o.k with
  | .box n x => o.guard = none ∧ ∃ d, o.dst = some d ∧ (d < st.n ∧ d ≠ 0) ∧ noL d st.sl ∧ match rd st x with
    | some (g, v) => g = true ∧ v.nc = n ∧ v.known = true ∧ K { st with sl := (d, .lptr d 0) :: st.sl, bx := (d, v.cells.map .sv) :: st.bx }
    | none => False
  | .alloc zero => o.guard = none ∧ ∃ d, o.dst = some d ∧ (d < st.n ∧ d ≠ 0) ∧ noL d st.sl ∧ K { st with sl := (d, .lptr d 0) :: st.sl, bx := (d, zero.map .sv) :: st.bx }
  | .store n x v => o.guard = none ∧ o.dst = none ∧ match rdl st x, rd st v with
    | (g1, p), some (g2, u) => g1 = true ∧ g2 = true ∧ u.nc = n ∧ u.cells.all SV.isCell = true ∧ match storeV st p u.cells with
      | some (c, st') => c ∧ K st'
      | none => False
    | _, none => False
  | .call f args => ∃ d, o.dst = some d ∧ d < st.n ∧ match gOf st o.guard, evList st args with
    | some g, some (c, l) => ∃ rv, (g = true → c ∧ Pure P f l rv) ∧ K (st.putS d (gdv o.guard g rv))
    | _, _ => False
  | .callE f x args => ∃ d, o.dst = some d ∧ d < st.n ∧ match gOf st o.guard, rdl st x, evList st args with
    | some g, (gx, .lptr s 0), some (c, l) => match lkb st.bx s with
      | some cells => ∃ rv cells', (g = true → gx = true ∧ c ∧ Eff1 P f (cells.map RV.share) l rv cells') ∧ K { st with sl := (d, gdv o.guard g rv) :: st.sl, bx := (s, cond g (cells'.map .sv) cells) :: st.bx }
      | none => False
    | some g, (gx, .sv v), some (c, l) => ∃ rv, (g = true → gx = true ∧ c ∧ Pure P f (v :: l) rv) ∧ K (st.putS d (gdv o.guard g rv))
    | _, _, _ => False
  | .callN f args => o.guard = none ∧ ∃ d, o.dst = some d ∧ (d < st.n ∧ d ≠ 0) ∧ noL d st.sl ∧ match evList st args with
    | some (c, l) => c ∧ ∃ cells, PureN P f l cells ∧ K { st with sl := (d, .lptr d 0) :: st.sl, bx := (d, cells.map .sv) :: st.bx }
    | none => False
  | .takeLoad _ => False
  | .mks sz bytes zero l => (o.guard = none ∧ sz = 1 ∧ ∃ d, o.dst = some d ∧ (d < st.n ∧ d ≠ 0) ∧ noL d st.sl ∧ match rd st l, zero with
    | some (g, .int _ n), [z] => (g = true ∧ 0 ≤ n ∧ n * bytes ≤ 281474976710656 ∧ n ≤ 9223372036854775807) ∧ K { st with sl := (d, .lsl d 1 0 n.toNat n.toNat) :: st.sl, bx := (d, List.replicate n.toNat (.sv z)) :: st.bx }
    | _, _ => False) ∨ ∃ d, o.dst = some d ∧ d < st.n ∧ match gOf st o.guard, ev st (.mks sz bytes zero l) with
    | some g, some (c, lv) => (g = true → c) ∧ K (st.putS d (gdv o.guard g lv))
    | some false, none => K (st.putS d (.gd false (.sv .undef)))
    | _, _ => False
  | k => ∃ d, o.dst = some d ∧ d < st.n ∧ match gOf st o.guard, ev st k with
    | some g, some (c, lv) => (g = true → c) ∧ K ((dgr st k).putS d (gdv o.guard g lv))
    | some false, none => K (st.putS d (.gd false (.sv .undef)))
    | _, _ => False

/-! ### what an operation is, abstractly -/
def info2 (P : Program) (t : TypeId) : Option (Nat × Nat) := (P.info? t).map fun i => (i.size, i.bytes)

def compParts (P : Program) (fs : Array Field) : List (Nat × Operand) → Option (List (Nat × Nat × AO))
  | [] => some []
  | (i, x) :: r => match fs[i]?, compO x, compParts P fs r with
    | some f, some o, some l => some ((f.offset, P.cellsOf f.type, o) :: l)
    | _, _, _ => none
def compElems : List (Nat × Operand) → Option (List (Nat × AO))
  | [] => some []
  | (i, x) :: r => match compO x, compElems r with
    | some o, some l => some ((i, o) :: l)
    | _, _ => none
def compArgs : List Operand → Option (List AO)
  | [] => some []
  | x :: r => match compO x, compArgs r with
    | some o, some l => some (o :: l)
    | _, _ => none

def isCellType (P : Program) (t : TypeId) : Bool := ldk P t == some none

/-- Does it return one pointer, and stand unguarded? -/
def retPtr (P : Program) (fn : Func) : Bool := match fn.resultTypes.toList.map P.underlying with
  | [some (.pointer _)] => true
  | _ => false

def compK (P : Program) (tk : Bool) (o : Oper) : Option AK :=
  match o.op with
  | .move x => match tk, x with
    | true, .tmp s => some (.take s)
    | _, _ => (compO x).map .mv
  | .assign x => match x with
    | .tmp s => some (.take s)
    | _ => (compO x).map .mv
  | .pick x y z => match compO x, compO y, compO z with
    | some a, some b, some c => some (.pick a b c)
    | _, _, _ => none
  | .binOp op t x y _ => match P.underlying t, compO x, compO y with
    | some (.int _), some a, some b => some (.bin op a b)
    | some .string, some a, some b => some (.bin op a b)
    | some .bool, some a, some b => (match op with
      | .eql => some (.beq false a b)
      | .neq => some (.beq true a b)
      | _ => none)
    | some (.struct _), some a, some b => (match eqTy P 100 t, op with
      | some ks, .eql => if P.eqGuardType P.depth t = false then some (.eqs ks false a b) else none
      | some ks, .neq => if P.eqGuardType P.depth t = false then some (.eqs ks true a b) else none
      | _, _ => none)
    | some (.array _ _), some a, some b => (match eqTy P 100 t, op with
      | some ks, .eql => if P.eqGuardType P.depth t = false then some (.eqs ks false a b) else none
      | some ks, .neq => if P.eqGuardType P.depth t = false then some (.eqs ks true a b) else none
      | _, _ => none)
    | some (.pointer _), some a, some (.c .nilp) => (match op with
      | .eql => some (.eqn false false a)
      | .neq => some (.eqn false true a)
      | _ => none)
    | some (.slice _), some a, some (.c .nils) => (match op with
      | .eql => some (.eqn true false a)
      | .neq => some (.eqn true true a)
      | _ => none)
    | _, _, _ => none
  | .unOp op _ x => (compO x).map (.una op)
  | .convert s d x => match P.underlying s, P.underlying d, compO x with
    | some (.int _), some (.int k), some a => some (.conv k a)
    | some (.slice e), some .string, some a => match P.underlying e with
      | some (.int .u8) => some (.b2s a)
      | _ => none
    | some .string, some (.slice e), some a => match P.underlying e with
      | some (.int .u8) => some (.s2b a)
      | _ => none
    | some (.slice e), some (.slice _), some (.t z) => match P.underlying e with
      | some (.int .u8) => if s = d then some (.mark z) else none
      | _ => none
    | _, _, _ => none
  | .fieldAddr t x f => match P.underlying t, compO x with
    | some (.struct fs), some a => match fs[f]? with
      | some fd => match P.info? fd.type with
        | some i => if i.size = 0 then none else some (.faddr a fd.offset)
        | none => none
      | none => none
    | _, _ => none
  | .field t x f => match P.underlying t, compO x with
    | some (.struct fs), some a => match fs[f]? with
      | some fd => (ldk P fd.type).map (.fld a fd.offset)
      | none => none
    | _, _ => none
  | .indexAddr t x y => match P.underlying t, compO x, compO y with
    | some (.slice e), some a, some b => (P.info? e).map fun i => .iaddr i.size a b
    | some (.array n e), some a, some b => (P.info? e).map fun i => .iaddrA n i.size a b
    | _, _, _ => none
  | .index t x y => match P.underlying t, compO x, compO y with
    | some .string, some a, some b => some (.idx a b)
    | _, _, _ => none
  | .load t x => match ldk P t, compO x with
    | some n, some a => some (.load n a)
    | _, _ => none
  | .store t x v => match P.info? t, compO x, compO v with
    | some i, some a, some b => some (.store i.size a b)
    | _, _, _ => none
  | .nilCheck x => (compO x).map .nilc
  | .box t x => match P.info? t, compO x with
    | some i, some a => some (.box i.size a)
    | _, _ => none
  | .alloc t => (zeroV P t).map .alloc
  | .build t ps => match P.underlying t, zeroV P t with
    | some (.struct fs), some z => if fs.toList.all (fun f => (P.info? f.type).isSome) then (compParts P fs ps.toList).map (.build z) else none
    | _, _ => none
  | .buildSlice t n ps => match P.underlying t with
    | some (.slice e) => match P.info? e, zeroV P e with
      | some i, some z => if i.size ≠ 0 ∧ n * i.size ≤ 2 ^ 24 ∧ z.length = i.size ∧ z.all SV.isCell = true then (compElems ps.toList).map (.bsl i.size n z) else none
      | _, _ => none
    | _ => none
  | .makeSlice t l c => match P.underlying t, l, c with
    | some (.slice e), .tmp s, .tmp s' => match P.info? e, zeroV P e with
      | some i, some z => if s = s' ∧ i.size ≠ 0 ∧ z.length = i.size ∧ z.all SV.isCell = true then some (.mks i.size i.bytes z (.t s)) else none
      | _, _ => none
    | _, _, _ => none
  | .extract (.tmp s) i => some (if tk then .ext s i else .extS s i)
  | .slice t x lo hi none => match strT P t, compO x with
    | some b, some a =>
      match (match P.underlying t with | some (.slice e) => (P.info? e).map (·.size) | _ => some 0), (match lo with | none => some none | some y => (compO y).map some), (match hi with | none => some none | some y => (compO y).map some) with
      | some z, some l, some h => some (.slc b z a l h)
      | _, _, _ => none
    | _, _ => none
  | .call { callee := .builtin .len, args := xs, argTypes := ts } => match xs.toList, ts[0]? with
    | [x], some t => match strT P t, compO x with
      | some b, some a => some (.len b a)
      | _, _ => none
    | _, _ => none
  | .call { callee := .builtin .min, args := xs, .. } => match xs.toList with
    | [x, y] => match compO x, compO y with
      | some a, some b => some (.minmax false a b)
      | _, _ => none
    | _ => none
  | .call { callee := .builtin .max, args := xs, .. } => match xs.toList with
    | [x, y] => match compO x, compO y with
      | some a, some b => some (.minmax true a b)
      | _, _ => none
    | _ => none
  | .call { callee := .builtin .append, args := xs, argTypes := ts } => match xs.toList, ts.toList with
    | [.tmp s, y], [t, tx] => match P.underlying t, P.underlying tx, compO y with
      | some (.slice e), some dx, some b => match P.info? e with
        | some i => match i.zero with
          | some z => if z.cells.size = i.size ∧ i.bytes ≠ 0 then match dx with
            | .slice _ => some (.app i.size i.bytes s b)
            | .string => if i.size = 1 ∧ i.bytes = 1 then some (.appS s b) else none
            | _ => none
            else none
          | none => none
        | none => none
      | _, _, _ => none
    | _, _ => none
  | .call { callee := .value (.func f), args := xs, argTypes := ts } => match P.funcs[f]? with
    | some fn => if fn.body.isSome ∧ (fn.name == "runtime.NumGoroutine") = false then (match (compArgs xs.toList) with
      | some (x :: l) => (match ts[0]?.bind P.underlying with
        | some (.pointer _) => some (.callE f x l)
        | _ => if retPtr P fn then some (.callN f (x :: l)) else some (.call f (x :: l)))
      | some [] => if retPtr P fn then some (.callN f []) else some (.call f [])
      | none => none) else none
    | none => none
  | _ => none
end Go.Av
