import Derived.Test.YtabidcdfmkkegaaAvB
namespace Go.Av

inductive AO where
  | t (s : Nat)
  | c (v : SV)
  deriving Inhabited

inductive AK where
  | mv (o : AO)
  | take (s : Nat)
  | mark (s : Nat)
  | pick (c a b : AO)
  | bin (op : BinOp) (x y : AO)
  | una (op : UnOp) (x : AO)
  | eqn (sl neg : Bool) (x : AO)
  | beq (neg : Bool) (x y : AO)
  | eqs (ks : List Nat) (neg : Bool) (x y : AO)
  | conv (k : IntKind) (x : AO)
  | b2s (x : AO)
  | s2b (x : AO)
  | len (str : Bool) (x : AO)
  | minmax (mx : Bool) (x y : AO)
  | slc (str : Bool) (sz : Nat) (x : AO) (lo hi : Option AO)
  | slc3 (sz : Nat) (x : AO) (lo : Option AO) (hi : AO)
  | faddr (x : AO) (off : Nat)
  | fld (x : AO) (off : Nat) (n : Option Nat)
  | iaddr (sz : Nat) (x i : AO)
  | iaddrA (len sz : Nat) (x i : AO)
  | idx (x i : AO)
  | ext (s i : Nat)
  | extS (s i : Nat)
  | mkfn (f : FuncId) (first caps : List AO)
  | nilc (x : AO)
  | load (n : Option Nat) (x : AO)
  | takeLoad (x : AO)
  | build (zero : List SV) (parts : List (Nat × Nat × AO))
  | bsl (sz n : Nat) (zero : List SV) (parts : List (Nat × AO))
  | app (sz bytes : Nat) (s : Nat) (y : AO)
  | appS (s : Nat) (y : AO)
  | mks (sz bytes : Nat) (zero : List SV) (l : AO)
  | box (n : Nat) (x : AO)
  | alloc (zero : List SV)
  | store (n : Nat) (x v : AO)
  | call (f : FuncId) (args : List AO)
  | callE (f : FuncId) (x : AO) (args : List AO)
  | callN (f : FuncId) (args : List AO)
  deriving Inhabited

structure AOp where
  dst : Option Nat
  guard : Option (Nat × Bool)
  k : AK
  deriving Inhabited

/-- A value and the condition under which it is known. -/
def LV.gv : LV → Bool × LV
  | .gd g v => (g && v.gv.1, v.gv.2)
  | v => (true, v)

def rdl (st : St) : AO → Bool × LV
  | .t s => (lk st.sl s).gv
  | .c v => (true, .sv v)

def LV.sh? : LV → Option SV
  | .sv v => some v
  | .own sz xs => some (.sl sz xs)
  | _ => none

def rd (st : St) (o : AO) : Option (Bool × SV) := (rdl st o).2.sh?.map fun v => ((rdl st o).1, v)

def gOf (st : St) : Option (Nat × Bool) → Option Bool
  | none => some true
  | some (s, want) => match (lk st.sl s).gv with
    | (g, .sv (.bool b)) => some (g && (b == want))
    | _ => none

/-- What is asked, and what comes out. -/
abbrev Ev := Option (Prop × LV)

def ev1 (st : St) (x : AO) (f : SV → Ev) : Ev :=
  match rd st x with
  | some (g, v) => match f v with
    | some (c, r) => some (g = true ∧ c, r)
    | none => none
  | none => none
def ev2 (st : St) (x y : AO) (f : SV → SV → Ev) : Ev := ev1 st x fun v => ev1 st y fun u => f v u

def binV (op : BinOp) : SV → SV → Ev
  | .int k a, .int k' b =>
    match op with
    | .shl => some (0 ≤ b, .sv (.int k (k.wrap (a * 2 ^ min b.toNat k.bits))))
    | .shr => some (0 ≤ b, .sv (.int k (a.fdiv (2 ^ min b.toNat k.bits))))
    | .add => if k = k' then some (True, .sv (.int k (k.wrap (a + b)))) else none
    | .sub => if k = k' then some (True, .sv (.int k (k.wrap (a - b)))) else none
    | .mul => if k = k' then some (True, .sv (.int k (k.wrap (a * b)))) else none
    | .quo => if k = k' then some (b ≠ 0, .sv (.int k (k.wrap (a.tdiv b)))) else none
    | .rem => if k = k' then some (b ≠ 0, .sv (.int k (a.tmod b))) else none
    | .and => if k = k' then some (True, .sv (.int k (k.wrap (BitVec.ofInt k.bits a &&& BitVec.ofInt k.bits b).toNat))) else none
    | .or => if k = k' then some (True, .sv (.int k (k.wrap (BitVec.ofInt k.bits a ||| BitVec.ofInt k.bits b).toNat))) else none
    | .xor => if k = k' then some (True, .sv (.int k (k.wrap (BitVec.ofInt k.bits a ^^^ BitVec.ofInt k.bits b).toNat))) else none
    | .andNot => none
    | .eql => if k = k' then some (True, .sv (.bool (a == b))) else none
    | .neq => if k = k' then some (True, .sv (.bool (a != b))) else none
    | .lss => if k = k' then some (True, .sv (.bool (a < b))) else none
    | .leq => if k = k' then some (True, .sv (.bool (a ≤ b))) else none
    | .gtr => if k = k' then some (True, .sv (.bool (a > b))) else none
    | .geq => if k = k' then some (True, .sv (.bool (a ≥ b))) else none
  | .str a, .str b =>
    match op with
    | .add => some (((a.size + b.size : Nat) : Int) ≤ 9223372036854775807, .sv (.str (a ++ b)))
    | .eql => some (True, .sv (.bool (a.toList == b.toList)))
    | .neq => some (True, .sv (.bool (!(a.toList == b.toList))))
    | .lss => some (True, .sv (.bool (Op.bytesLess a.toList b.toList)))
    | .leq => some (True, .sv (.bool (Op.bytesLess a.toList b.toList || a.toList == b.toList)))
    | .gtr => some (True, .sv (.bool (!(Op.bytesLess a.toList b.toList || a.toList == b.toList))))
    | .geq => some (True, .sv (.bool (!(Op.bytesLess a.toList b.toList))))
    | _ => none
  | _, _ => none

def unaV (op : UnOp) : SV → Ev
  | .bool b => match op with | .not => some (True, .sv (.bool (!b))) | _ => none
  | .int k n => match op with
    | .neg => some (True, .sv (.int k (k.wrap (0 - n))))
    | .xor => some (True, .sv (.int k (k.wrap (BitVec.ofInt k.bits (if k.signed then -1 else k.max) ^^^ BitVec.ofInt k.bits n).toNat)))
    | _ => none
  | _ => none

def lenV : Bool → SV → Ev
  | true, .str s => some (True, .sv (.int .i64 s.size))
  | false, .nils => some (True, .sv (.int .i64 0))
  | false, .sl _ xs => some (True, .sv (.int .i64 xs.length))
  | _, _ => none

def minmaxV (mx : Bool) : SV → SV → Ev
  | .int k a, .int k' b => if k = k' then some (True, .sv (.int k (if mx then (if b > a then b else a) else (if b < a then b else a)))) else none
  | _, _ => none

/-- The part of a value's cells. -/
def partV (cs : List SV) (off : Nat) : Option Nat → SV
  | none => cs.getD off .undef
  | some n => .agg ((cs.drop off).take n)

def faddrV (off : Nat) : LV → Ev
  | .lptr s o => some (True, .lptr s (o + off))
  | .sv (.ptr b o) => some (True, .sv (.ptr b (o + off)))
  | .sv (.eptr e k) => some (True, .sv (.eptr e (k + off)))
  | _ => none

def iaddrV (sz : Nat) : SV → SV → Ev
  | .sl z xs, .int _ i => if z = sz then some (0 ≤ i ∧ i < xs.length, .sv (.eptr (xs.getD i.toNat .undef) 0)) else none
  | _, _ => none

def iaddrAV (len sz : Nat) (p : LV) : SV → Ev
  | .int _ i => match p with
    | .lptr s o => some (0 ≤ i ∧ i < len, .lptr s (o + i.toNat * sz))
    | .sv (.ptr b o) => some (0 ≤ i ∧ i < len, .sv (.ptr b (o + i.toNat * sz)))
    | .sv (.eptr e k) => some (0 ≤ i ∧ i < len, .sv (.eptr e (k + i.toNat * sz)))
    | _ => none
  | _ => none

def idxV : SV → SV → Ev
  | .str s, .int _ i => some (0 ≤ i ∧ i < s.size, .sv (.int .u8 (s.data.toList.getD i.toNat 0).toNat))
  | _, _ => none

def optI (st : St) (d : Int) : Option AO → Option (Bool × Int)
  | none => some (true, d)
  | some o => match rd st o with
    | some (g, .int _ i) => some (g, i)
    | _ => none

def slcV (sz' : Nat) (lo hi : Int) : SV → Ev
  | .str s => some (0 ≤ lo ∧ lo ≤ hi ∧ hi ≤ s.size, .sv (.str (s.extract lo.toNat hi.toNat)))
  | .sl sz xs => if sz = sz' then some (0 ≤ lo ∧ lo ≤ hi ∧ hi ≤ xs.length, .sv (.sl sz ((xs.drop lo.toNat).take (hi.toNat - lo.toNat)))) else none
  | .nils => some (lo = 0 ∧ hi = 0, .sv .nils)
  | _ => none

def loadV (st : St) (n : Option Nat) : LV → Ev
  | .lptr s o => match lkb st.bx s with
    | some cells => some (o + n.getD 1 ≤ cells.length, .sv (partV (cells.map RV.share) o n))
    | none => none
  | .sv (.ptr b o) => match st.hp b with
    | some cells => some (o + n.getD 1 ≤ cells.length, .sv (partV cells o n))
    | none => none
  | .sv (.eptr e k) => some (k + n.getD 1 ≤ e.nc, .sv (partV e.cells k n))
  | _ => none

def setL : List SV → Nat → List SV → List SV
  | cells, _, [] => cells
  | cells, off, v :: vs => setL (cells.set off v) (off + 1) vs
/-- Laying parts over cells. -/
def layV : List SV → List (Nat × List SV) → List SV
  | cells, [] => cells
  | cells, (off, vs) :: r => layV (setL cells off vs) r

def SV.known : SV → Bool
  | .undef => false
  | _ => true

def evParts (st : St) : List (Nat × Nat × AO) → Option (Prop × List (Nat × List SV))
  | [] => some (True, [])
  | (off, sz, o) :: r => match rd st o, evParts st r with
    | some (g, v), some (c, l) => some (g = true ∧ v.nc = sz ∧ v.known = true ∧ c, (off, v.cells) :: l)
    | _, _ => none

def evList (st : St) : List AO → Option (Prop × List SV)
  | [] => some (True, [])
  | o :: r => match rd st o, evList st r with
    | some (g, v), some (c, l) => some (g = true ∧ c, v :: l)
    | _, _ => none

def elemOf (sz : Nat) (cs : List SV) : SV := if sz = 1 then cs.getD 0 .undef else .agg cs

def setParts (xs : List SV) : List (Nat × SV) → List SV
  | [] => xs
  | (i, v) :: r => setParts (xs.set i v) r

def evElems (st : St) (sz : Nat) : List (Nat × AO) → Option (Prop × List (Nat × SV))
  | [] => some (True, [])
  | (i, o) :: r => match rd st o, evElems st sz r with
    | some (g, v), some (c, l) => some (g = true ∧ v.nc = sz ∧ v.cells.all SV.isCell = true ∧ c, (i, v) :: l)
    | _, _ => none

def bytesV (l : List UInt8) : List SV := l.map fun b => .int .u8 b.toNat
def byteOf : SV → UInt8
  | .int _ n => UInt8.ofNat n.toNat
  | _ => 0
def isByte : SV → Prop
  | .int .u8 _ => True
  | _ => False

/-- A slot's slice, to be appended to. -/
def asOwn (sz : Nat) : LV → Option (List SV)
  | .own z xs => if z = sz then some xs else none
  | .sv .nils => some []
  | _ => none
def elems? (sz : Nat) : SV → Option (List SV)
  | .sl z xs => if z = sz then some xs else none
  | .nils => some []
  | _ => none

/-- Compared with nil. -/
def eqnV (sl neg : Bool) : LV → Option LV
  | .lptr _ _ => if sl then none else some (.sv (.bool neg))
  | .lsl _ _ _ _ _ => if sl then some (.sv (.bool neg)) else none
  | .own _ (_ :: _) => if sl then some (.sv (.bool neg)) else none
  | .own _ [] => if sl then some (.sv .anyb) else none
  | .sv (.ptr _ _) => if sl then none else some (.sv (.bool neg))
  | .sv (.eptr _ _) => if sl then none else some (.sv (.bool neg))
  | .sv .nilp => if sl then none else some (.sv (.bool (!neg)))
  | .sv .nils => if sl then some (.sv (.bool (!neg))) else none
  | .sv (.sl _ (_ :: _)) => if sl then some (.sv (.bool neg)) else none
  | .sv (.sl _ []) => if sl then some (.sv .anyb) else none
  | _ => none
def beqV (neg : Bool) : SV → SV → Ev
  | .bool a, .bool b => some (True, .sv (.bool ((a == b) != neg)))
  | _, _ => none

/-- Cells compared, one by one. -/
def eqC : List SV → List SV → Option Bool
  | [], [] => some true
  | .int k a :: r, .int k' b :: s => if k = k' then (eqC r s).map fun q => (a == b) && q else none
  | .bool a :: r, .bool b :: s => (eqC r s).map fun q => (a == b) && q
  | .str a :: r, .str b :: s => (eqC r s).map fun q => (a.toList == b.toList) && q
  | _, _ => none

def kdOf : SV → Nat
  | .bool _ => 0
  | .int _ _ => 1
  | .str _ => 2
  | _ => 3
def eqsV (ks : List Nat) (neg : Bool) : SV → SV → Ev
  | .agg cs, .agg ds => match eqC cs ds with
    | some b => some (cs.map kdOf = ks ∧ ds.map kdOf = ks, .sv (.bool (b != neg)))
    | none => none
  | _, _ => none

/-- What a quiet operation yields. -/
def ev (st : St) : AK → Ev
  | .mv o => match rdl st o with
    | (g, .sv v) => some (g = true, .sv v)
    | (g, .own sz xs) => some (g = true, .sv (.sl sz xs))
    | (g, .tup vs) => some (g = true, .sv (.tup (vs.map RV.share)))
    | (g, .lptr s o) => some (g = true, .lptr s o)
    | (g, .lsl s z o n cap) => some (g = true, .lsl s z o n cap)
    | _ => none
  | .take s => match (lk st.sl s).gv with
    | (g, .sv v) => some (g = true, .sv v)
    | (g, .own sz xs) => some (g = true, .own sz xs)
    | (g, .tup vs) => some (g = true, .tup vs)
    | (g, .lptr s o) => some (g = true, .lptr s o)
    | (g, .lsl s z o n cap) => some (g = true, .lsl s z o n cap)
    | _ => none
  | .mark s => match (lk st.sl s).gv with
    | (g, .own 1 (x :: xs)) => some (g = true, .own 1 (x :: xs))
    | _ => none
  | .pick c a b => match rd st c, rd st a, rd st b with
    | some (gc, .bool p), some (ga, .bool x), some (gb, .bool y) => some (gc = true ∧ (p = true → ga = true) ∧ (p = false → gb = true), .sv (.bool (cond p x y)))
    | some (gc, .bool p), some (_, .undef), some (gb, .bool y) => some (gc = true ∧ p = false ∧ gb = true, .sv (.bool y))
    | some (gc, .bool p), some (ga, .bool x), some (_, .undef) => some (gc = true ∧ p = true ∧ ga = true, .sv (.bool x))
    | _, _, _ => none
  | .bin op x y => ev2 st x y (binV op)
  | .una op x => ev1 st x (unaV op)
  | .eqn sl neg x => match rdl st x with
    | (g, p) => match eqnV sl neg p with
      | some r => some (g = true, r)
      | none => none
  | .beq neg x y => ev2 st x y (beqV neg)
  | .eqs ks neg x y => ev2 st x y (eqsV ks neg)
  | .conv k x => ev1 st x fun | .int _ n => some (True, .sv (.int k (k.wrap n))) | _ => none
  | .len str x => match rdl st x with
    | (g, .lsl _ _ _ n _) => if str then none else some (g = true, .sv (.int .i64 n))
    | _ => ev1 st x (lenV str)
  | .minmax mx x y => ev2 st x y (minmaxV mx)
  | .slc str sz x lo hi => ev1 st x fun v => match lenV str v with
    | some (_, .sv (.int _ n)) => match optI st 0 lo, optI st n hi with
      | some (g1, l), some (g2, h) => match slcV sz l h v with
        | some (c, r) => some (g1 = true ∧ g2 = true ∧ c, r)
        | none => none
      | _, _ => none
    | _ => none
  | .slc3 sz x lo hi => ev1 st x fun v => match optI st 0 lo, optI st 0 (some hi) with
    | some (g1, l), some (g2, h) => match v with
      | .sl z xs => if z = sz then some (g1 = true ∧ g2 = true ∧ 0 ≤ l ∧ l ≤ h ∧ h ≤ xs.length, .own sz ((xs.drop l.toNat).take (h.toNat - l.toNat))) else none
      | .nils => some (g1 = true ∧ g2 = true ∧ l = 0 ∧ h = 0, .own sz [])
      | _ => none
    | _, _ => none
  | .faddr x off => match rdl st x with
    | (g, p) => match faddrV off p with
      | some (c, r) => some (g = true ∧ c, r)
      | none => none
  | .iaddr sz x i => match rdl st x with
    | (g, .lsl s z o n _) => ev1 st i fun | .int _ j => if z = sz then some (g = true ∧ 0 ≤ j ∧ j < n, .lptr s (o + j.toNat * sz)) else none | _ => none
    | _ => ev2 st x i (iaddrV sz)
  | .iaddrA len sz x i => match rdl st x with
    | (g, p) => ev1 st i fun v => match iaddrAV len sz p v with
      | some (c, r) => some (g = true ∧ c, r)
      | none => none
  | .idx x i => ev2 st x i idxV
  | .fld x off n => ev1 st x fun | .agg cs => some (off + n.getD 1 ≤ cs.length, .sv (partV cs off n)) | _ => none
  | .ext s i => match (lk st.sl s).gv with
    | (g, .tup vs) => some (g = true ∧ i < vs.length, (vs.getD i (.sv .undef)).lv)
    | (g, .sv (.tup vs)) => some (g = true ∧ i < vs.length, .sv (vs.getD i .undef))
    | _ => none
  | .extS s i => match (lk st.sl s).gv with
    | (g, .tup vs) => some (g = true ∧ i < vs.length, .sv (vs.getD i (.sv .undef)).share)
    | (g, .sv (.tup vs)) => some (g = true ∧ i < vs.length, .sv (vs.getD i .undef))
    | _ => none
  | .nilc x => match rdl st x with
    | (g, .lptr s o) => some (g = true, .lptr s o)
    | (g, .sv (.ptr b o)) => some (g = true, .sv (.ptr b o))
    | (g, .sv (.eptr e k)) => some (g = true, .sv (.eptr e k))
    | _ => none
  | .load n x => match rdl st x with
    | (g, p) => match loadV st n p with
      | some (c, r) => some (g = true ∧ c, r)
      | none => none
  | .build zero parts => match evParts st parts with
    | some (c, l) => some (c ∧ (∀ p ∈ l, p.1 + p.2.length ≤ zero.length), .sv (.agg (layV zero l)))
    | none => none
  | .bsl sz n zero parts => match evElems st sz parts with
    | some (c, l) => some (c ∧ (∀ p ∈ l, p.1 < n), .own sz (setParts (List.replicate n (elemOf sz zero)) l))
    | none => none
  | .app sz bytes s y => match asOwn sz (lk st.sl s).gv.2, rd st y with
    | some xs, some (g, v) => match elems? sz v with
      | some ys => some ((lk st.sl s).gv.1 = true ∧ g = true ∧ (xs.length + ys.length) * bytes ≤ 140737488355328, .own sz (xs ++ ys))
      | none => none
    | _, _ => none
  | .appS s y => match asOwn 1 (lk st.sl s).gv.2, rd st y with
    | some xs, some (g, .str t) => some ((lk st.sl s).gv.1 = true ∧ g = true ∧ (xs.length + t.size) * 1 ≤ 140737488355328, .own 1 (xs ++ bytesV t.data.toList))
    | _, _ => none
  | .mks sz bytes zero l => ev1 st l fun | .int _ n => some (0 ≤ n ∧ n * bytes ≤ 281474976710656 ∧ n ≤ 9223372036854775807, .own sz (List.replicate n.toNat (elemOf sz zero))) | _ => none
  | .b2s x => ev1 st x fun v => match elems? 1 v with
    | some xs => some (∀ x ∈ xs, isByte x, .sv (.str ⟨(xs.map byteOf).toArray⟩))
    | none => none
  | .s2b x => ev1 st x fun | .str t => some (t.size ≤ 140737488355328, .own 1 (bytesV t.data.toList)) | _ => none
  | _ => none
end Go.Av
