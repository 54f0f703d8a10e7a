/-
  No cell of these rows narrows 'for every input' (looked for: loops, veiled, ifaces, maps, wideKeys, modest, calm, conditions, laid).
  DERIVED. THE GIVEN ROWS OF THIS SEAT. 10 by the template 'for every input the law returns true; each argument reads behind the call as it read before'; 0 by the template 'total and deterministic' (their statements: YtabidcdfmkkegaaTotals.lean).
  GIVEN WITH THE SEED: the statements are not yours to turn. If you find one false, say at which input.
  Laid BY PROGRAM, IN A SANDBOX (cutbox-rows.mjs): the forced cells as the released guide's own fill.sh prints them over the translation ee7593df1f8379d2… (all of the seat's roots in one cut). By AI agents, Wed Nov 11 2026. No macro, syntax, notation, axiom, sorry.
-/
import Derived.Test.YtabidcdfmkkegaaChecked
import GoSem.Claim
import GoSem.ClaimJoined
import GoSem.ClaimMapViews
import Derived.JoinedTies
import Derived.KernelRfl
namespace Go.Proofs.Ytabidcdfmkkegaa
/- THE CELL 'sum', in the pinned program and in every row, IS THE sha256 OF THE DUMP (.gsa) THAT YtabidcdfmkkegaaProg.lean LOADS. Nothing in Lean hashes anything: it is a label: what it is worth is what the hold of that sum in a sandbox is worth. -/
noncomputable def Try.pinned : Pinned := { name := "ytabidcdfmkkegaa", sum := "ee7593df1f8379d297e0198afaf3aa644641a2276a326ba88a92a38d67333b54", checked := Try.checked }
namespace Rows
def none {H : Type} : Left H := { results := [], args := [] }

/-- 'bilanderlaw01.VarnumZigs': WHATEVER THE INPUT: true; the input reads as it did. -/
def varnumZigsSpec : ChangeSpec := { name := "varnumZigs", fn := fun _ => fun
  | [d1, d2] => { results := [.lit (.bool true)], args := [d1, d2] }
  | _ => none }
def varnumZigsRow : OpenClaim := { program := "ytabidcdfmkkegaa", sum := "ee7593df1f8379d297e0198afaf3aa644641a2276a326ba88a92a38d67333b54", func := "bilander/bilanderlaw01.VarnumZigs", spec := "varnumZigs", apart := false }
def VarnumZigsSaid : Prop := varnumZigsRow.holds Try.pinned (OpenSpec.ofChange varnumZigsSpec)

/-- ITS FALSE NEIGHBOUR: 'it returns false'. Refute it at one input. -/
def varnumZigsWrong : ChangeSpec := { name := "varnumZigs", fn := fun _ => fun
  | [d1, d2] => { results := [.lit (.bool false)], args := [d1, d2] }
  | _ => none }
def VarnumZigsWrongFalsely : Prop := varnumZigsRow.holds Try.pinned (OpenSpec.ofChange varnumZigsWrong)

/-- 'bilanderlaw01.VarnumPuts': WHATEVER THE INPUT: true; the input reads as it did. -/
def varnumPutsSpec : ChangeSpec := { name := "varnumPuts", fn := fun _ => fun
  | [d1, d2, d3] => { results := [.lit (.bool true)], args := [d1, d2, d3] }
  | _ => none }
def varnumPutsRow : OpenClaim := { program := "ytabidcdfmkkegaa", sum := "ee7593df1f8379d297e0198afaf3aa644641a2276a326ba88a92a38d67333b54", func := "bilander/bilanderlaw01.VarnumPuts", spec := "varnumPuts", apart := false }
def VarnumPutsSaid : Prop := varnumPutsRow.holds Try.pinned (OpenSpec.ofChange varnumPutsSpec)

/-- ITS FALSE NEIGHBOUR: 'it returns false'. Refute it at one input. -/
def varnumPutsWrong : ChangeSpec := { name := "varnumPuts", fn := fun _ => fun
  | [d1, d2, d3] => { results := [.lit (.bool false)], args := [d1, d2, d3] }
  | _ => none }
def VarnumPutsWrongFalsely : Prop := varnumPutsRow.holds Try.pinned (OpenSpec.ofChange varnumPutsWrong)

/-- 'bilanderlaw01.VarnumGets': WHATEVER THE INPUT: true; the input reads as it did. -/
def varnumGetsSpec : ChangeSpec := { name := "varnumGets", fn := fun _ => fun
  | [d] => { results := [.lit (.bool true)], args := [d] }
  | _ => none }
def varnumGetsRow : OpenClaim := { program := "ytabidcdfmkkegaa", sum := "ee7593df1f8379d297e0198afaf3aa644641a2276a326ba88a92a38d67333b54", func := "bilander/bilanderlaw01.VarnumGets", spec := "varnumGets", apart := false }
def VarnumGetsSaid : Prop := varnumGetsRow.holds Try.pinned (OpenSpec.ofChange varnumGetsSpec)

/-- ITS FALSE NEIGHBOUR: 'it returns false'. Refute it at one input. -/
def varnumGetsWrong : ChangeSpec := { name := "varnumGets", fn := fun _ => fun
  | [d] => { results := [.lit (.bool false)], args := [d] }
  | _ => none }
def VarnumGetsWrongFalsely : Prop := varnumGetsRow.holds Try.pinned (OpenSpec.ofChange varnumGetsWrong)

/-- 'bilanderlaw01.VarnumBack': WHATEVER THE INPUT: true; the input reads as it did. -/
def varnumBackSpec : ChangeSpec := { name := "varnumBack", fn := fun _ => fun
  | [d1, d2] => { results := [.lit (.bool true)], args := [d1, d2] }
  | _ => none }
def varnumBackRow : OpenClaim := { program := "ytabidcdfmkkegaa", sum := "ee7593df1f8379d297e0198afaf3aa644641a2276a326ba88a92a38d67333b54", func := "bilander/bilanderlaw01.VarnumBack", spec := "varnumBack", apart := false }
def VarnumBackSaid : Prop := varnumBackRow.holds Try.pinned (OpenSpec.ofChange varnumBackSpec)

/-- ITS FALSE NEIGHBOUR: 'it returns false'. Refute it at one input. -/
def varnumBackWrong : ChangeSpec := { name := "varnumBack", fn := fun _ => fun
  | [d1, d2] => { results := [.lit (.bool false)], args := [d1, d2] }
  | _ => none }
def VarnumBackWrongFalsely : Prop := varnumBackRow.holds Try.pinned (OpenSpec.ofChange varnumBackWrong)

/-- 'bilanderlaw01.VarnumWidth': WHATEVER THE INPUT: true; the input reads as it did. -/
def varnumWidthSpec : ChangeSpec := { name := "varnumWidth", fn := fun _ => fun
  | [d1, d2] => { results := [.lit (.bool true)], args := [d1, d2] }
  | _ => none }
def varnumWidthRow : OpenClaim := { program := "ytabidcdfmkkegaa", sum := "ee7593df1f8379d297e0198afaf3aa644641a2276a326ba88a92a38d67333b54", func := "bilander/bilanderlaw01.VarnumWidth", spec := "varnumWidth", apart := false }
def VarnumWidthSaid : Prop := varnumWidthRow.holds Try.pinned (OpenSpec.ofChange varnumWidthSpec)

/-- ITS FALSE NEIGHBOUR: 'it returns false'. Refute it at one input. -/
def varnumWidthWrong : ChangeSpec := { name := "varnumWidth", fn := fun _ => fun
  | [d1, d2] => { results := [.lit (.bool false)], args := [d1, d2] }
  | _ => none }
def VarnumWidthWrongFalsely : Prop := varnumWidthRow.holds Try.pinned (OpenSpec.ofChange varnumWidthWrong)

/-- 'bilanderlaw01.VarnumTakes': WHATEVER THE INPUT: true; the input reads as it did. -/
def varnumTakesSpec : ChangeSpec := { name := "varnumTakes", fn := fun _ => fun
  | [d1, d2, d3] => { results := [.lit (.bool true)], args := [d1, d2, d3] }
  | _ => none }
def varnumTakesRow : OpenClaim := { program := "ytabidcdfmkkegaa", sum := "ee7593df1f8379d297e0198afaf3aa644641a2276a326ba88a92a38d67333b54", func := "bilander/bilanderlaw01.VarnumTakes", spec := "varnumTakes", apart := false }
def VarnumTakesSaid : Prop := varnumTakesRow.holds Try.pinned (OpenSpec.ofChange varnumTakesSpec)

/-- ITS FALSE NEIGHBOUR: 'it returns false'. Refute it at one input. -/
def varnumTakesWrong : ChangeSpec := { name := "varnumTakes", fn := fun _ => fun
  | [d1, d2, d3] => { results := [.lit (.bool false)], args := [d1, d2, d3] }
  | _ => none }
def VarnumTakesWrongFalsely : Prop := varnumTakesRow.holds Try.pinned (OpenSpec.ofChange varnumTakesWrong)

/-- 'bilanderlaw03.RecordPuts': WHATEVER THE INPUT: true; the input reads as it did. -/
def recordPutsSpec : ChangeSpec := { name := "recordPuts", fn := fun _ => fun
  | [d1, d2] => { results := [.lit (.bool true)], args := [d1, d2] }
  | _ => none }
def recordPutsRow : OpenClaim := { program := "ytabidcdfmkkegaa", sum := "ee7593df1f8379d297e0198afaf3aa644641a2276a326ba88a92a38d67333b54", func := "bilander/bilanderlaw03.RecordPuts", spec := "recordPuts", apart := false }
def RecordPutsSaid : Prop := recordPutsRow.holds Try.pinned (OpenSpec.ofChange recordPutsSpec)

/-- ITS FALSE NEIGHBOUR: 'it returns false'. Refute it at one input. -/
def recordPutsWrong : ChangeSpec := { name := "recordPuts", fn := fun _ => fun
  | [d1, d2] => { results := [.lit (.bool false)], args := [d1, d2] }
  | _ => none }
def RecordPutsWrongFalsely : Prop := recordPutsRow.holds Try.pinned (OpenSpec.ofChange recordPutsWrong)

/-- 'bilanderlaw03.RecordApart': WHATEVER THE INPUT: true; the input reads as it did. -/
def recordApartSpec : ChangeSpec := { name := "recordApart", fn := fun _ => fun
  | [d1, d2] => { results := [.lit (.bool true)], args := [d1, d2] }
  | _ => none }
def recordApartRow : OpenClaim := { program := "ytabidcdfmkkegaa", sum := "ee7593df1f8379d297e0198afaf3aa644641a2276a326ba88a92a38d67333b54", func := "bilander/bilanderlaw03.RecordApart", spec := "recordApart", apart := false }
def RecordApartSaid : Prop := recordApartRow.holds Try.pinned (OpenSpec.ofChange recordApartSpec)

/-- ITS FALSE NEIGHBOUR: 'it returns false'. Refute it at one input. -/
def recordApartWrong : ChangeSpec := { name := "recordApart", fn := fun _ => fun
  | [d1, d2] => { results := [.lit (.bool false)], args := [d1, d2] }
  | _ => none }
def RecordApartWrongFalsely : Prop := recordApartRow.holds Try.pinned (OpenSpec.ofChange recordApartWrong)

/-- 'bilanderlaw03.RecordGets': WHATEVER THE INPUT: true; the input reads as it did. -/
def recordGetsSpec : ChangeSpec := { name := "recordGets", fn := fun _ => fun
  | [d] => { results := [.lit (.bool true)], args := [d] }
  | _ => none }
def recordGetsRow : OpenClaim := { program := "ytabidcdfmkkegaa", sum := "ee7593df1f8379d297e0198afaf3aa644641a2276a326ba88a92a38d67333b54", func := "bilander/bilanderlaw03.RecordGets", spec := "recordGets", apart := false }
def RecordGetsSaid : Prop := recordGetsRow.holds Try.pinned (OpenSpec.ofChange recordGetsSpec)

/-- ITS FALSE NEIGHBOUR: 'it returns false'. Refute it at one input. -/
def recordGetsWrong : ChangeSpec := { name := "recordGets", fn := fun _ => fun
  | [d] => { results := [.lit (.bool false)], args := [d] }
  | _ => none }
def RecordGetsWrongFalsely : Prop := recordGetsRow.holds Try.pinned (OpenSpec.ofChange recordGetsWrong)

/-- 'bilanderlaw03.RecordBack': WHATEVER THE INPUT: true; the input reads as it did. -/
def recordBackSpec : ChangeSpec := { name := "recordBack", fn := fun _ => fun
  | [d1, d2] => { results := [.lit (.bool true)], args := [d1, d2] }
  | _ => none }
def recordBackRow : OpenClaim := { program := "ytabidcdfmkkegaa", sum := "ee7593df1f8379d297e0198afaf3aa644641a2276a326ba88a92a38d67333b54", func := "bilander/bilanderlaw03.RecordBack", spec := "recordBack", apart := false }
def RecordBackSaid : Prop := recordBackRow.holds Try.pinned (OpenSpec.ofChange recordBackSpec)

/-- ITS FALSE NEIGHBOUR: 'it returns false'. Refute it at one input. -/
def recordBackWrong : ChangeSpec := { name := "recordBack", fn := fun _ => fun
  | [d1, d2] => { results := [.lit (.bool false)], args := [d1, d2] }
  | _ => none }
def RecordBackWrongFalsely : Prop := recordBackRow.holds Try.pinned (OpenSpec.ofChange recordBackWrong)

/- THE SECOND FORM. 'bulk': how many values and letters a reading holds, each counted each time it is reached (what is shared counts as often as it is met; a slice's spare places count too). A statement '..UptoSaid' is the law's where the arguments, and the package variables that the reading takes, are together of bulk at most 1048576: NARROWER than '..Said'. Prove '..Said' where nothing that the law and all that it calls make is longer than what came in: it says more and counts as full. Else prove '..UptoSaid'. A law counts once. -/
mutual
def uptoBulk {H : Type} : DataW H → Nat
  | .lit (.string bytes) => bytes.length + 1
  | .lit _ => 1
  | .nil => 1
  | .ptr d => uptoBulk d + 1
  | .slice elems spare => uptoBulkAll elems + uptoBulkAll spare + 1
  | .agg parts => uptoBulkAll parts + 1
  | .iface _ d => uptoBulk d + 1
  | .map entries => uptoBulkEntries entries + 1
  | .held _ => 1
def uptoBulkAll {H : Type} : List (DataW H) → Nat
  | [] => 0
  | d :: r => uptoBulk d + uptoBulkAll r
def uptoBulkEntries {H : Type} : List (Lit × DataW H) → Nat
  | [] => 0
  | x :: r => uptoBulkEntry x + uptoBulkEntries r
def uptoBulkEntry {H : Type} : Lit × DataW H → Nat
  | (.string bytes, d) => bytes.length + uptoBulk d + 1
  | (_, d) => uptoBulk d + 1
 end
def uptoSmall : (H : Type) → List (DataW H) → Bool := fun _ ds => decide (uptoBulkAll ds ≤ 1048576)
def OpenSpec.upto (s : _root_.Go.ChangeSpec) : _root_.Go.OpenSpec := { _root_.Go.OpenSpec.ofChange s with cond := some uptoSmall }

/-- 'bilanderlaw01.VarnumZigs', WHERE WHAT IT READS IS OF BULK AT MOST 1048576: true; the input reads as it did. -/
def varnumZigsUptoRow : OpenClaim := { program := "ytabidcdfmkkegaa", sum := "ee7593df1f8379d297e0198afaf3aa644641a2276a326ba88a92a38d67333b54", func := "bilander/bilanderlaw01.VarnumZigs", spec := "varnumZigs", apart := false, narrowed := true }
def VarnumZigsUptoSaid : Prop := varnumZigsUptoRow.holds Try.pinned (OpenSpec.upto varnumZigsSpec)

/-- 'bilanderlaw01.VarnumPuts', WHERE WHAT IT READS IS OF BULK AT MOST 1048576: true; the input reads as it did. -/
def varnumPutsUptoRow : OpenClaim := { program := "ytabidcdfmkkegaa", sum := "ee7593df1f8379d297e0198afaf3aa644641a2276a326ba88a92a38d67333b54", func := "bilander/bilanderlaw01.VarnumPuts", spec := "varnumPuts", apart := false, narrowed := true }
def VarnumPutsUptoSaid : Prop := varnumPutsUptoRow.holds Try.pinned (OpenSpec.upto varnumPutsSpec)

/-- 'bilanderlaw01.VarnumGets', WHERE WHAT IT READS IS OF BULK AT MOST 1048576: true; the input reads as it did. -/
def varnumGetsUptoRow : OpenClaim := { program := "ytabidcdfmkkegaa", sum := "ee7593df1f8379d297e0198afaf3aa644641a2276a326ba88a92a38d67333b54", func := "bilander/bilanderlaw01.VarnumGets", spec := "varnumGets", apart := false, narrowed := true }
def VarnumGetsUptoSaid : Prop := varnumGetsUptoRow.holds Try.pinned (OpenSpec.upto varnumGetsSpec)

/-- 'bilanderlaw01.VarnumBack', WHERE WHAT IT READS IS OF BULK AT MOST 1048576: true; the input reads as it did. -/
def varnumBackUptoRow : OpenClaim := { program := "ytabidcdfmkkegaa", sum := "ee7593df1f8379d297e0198afaf3aa644641a2276a326ba88a92a38d67333b54", func := "bilander/bilanderlaw01.VarnumBack", spec := "varnumBack", apart := false, narrowed := true }
def VarnumBackUptoSaid : Prop := varnumBackUptoRow.holds Try.pinned (OpenSpec.upto varnumBackSpec)

/-- 'bilanderlaw01.VarnumWidth', WHERE WHAT IT READS IS OF BULK AT MOST 1048576: true; the input reads as it did. -/
def varnumWidthUptoRow : OpenClaim := { program := "ytabidcdfmkkegaa", sum := "ee7593df1f8379d297e0198afaf3aa644641a2276a326ba88a92a38d67333b54", func := "bilander/bilanderlaw01.VarnumWidth", spec := "varnumWidth", apart := false, narrowed := true }
def VarnumWidthUptoSaid : Prop := varnumWidthUptoRow.holds Try.pinned (OpenSpec.upto varnumWidthSpec)

/-- 'bilanderlaw01.VarnumTakes', WHERE WHAT IT READS IS OF BULK AT MOST 1048576: true; the input reads as it did. -/
def varnumTakesUptoRow : OpenClaim := { program := "ytabidcdfmkkegaa", sum := "ee7593df1f8379d297e0198afaf3aa644641a2276a326ba88a92a38d67333b54", func := "bilander/bilanderlaw01.VarnumTakes", spec := "varnumTakes", apart := false, narrowed := true }
def VarnumTakesUptoSaid : Prop := varnumTakesUptoRow.holds Try.pinned (OpenSpec.upto varnumTakesSpec)

/-- 'bilanderlaw03.RecordPuts', WHERE WHAT IT READS IS OF BULK AT MOST 1048576: true; the input reads as it did. -/
def recordPutsUptoRow : OpenClaim := { program := "ytabidcdfmkkegaa", sum := "ee7593df1f8379d297e0198afaf3aa644641a2276a326ba88a92a38d67333b54", func := "bilander/bilanderlaw03.RecordPuts", spec := "recordPuts", apart := false, narrowed := true }
def RecordPutsUptoSaid : Prop := recordPutsUptoRow.holds Try.pinned (OpenSpec.upto recordPutsSpec)

/-- 'bilanderlaw03.RecordApart', WHERE WHAT IT READS IS OF BULK AT MOST 1048576: true; the input reads as it did. -/
def recordApartUptoRow : OpenClaim := { program := "ytabidcdfmkkegaa", sum := "ee7593df1f8379d297e0198afaf3aa644641a2276a326ba88a92a38d67333b54", func := "bilander/bilanderlaw03.RecordApart", spec := "recordApart", apart := false, narrowed := true }
def RecordApartUptoSaid : Prop := recordApartUptoRow.holds Try.pinned (OpenSpec.upto recordApartSpec)

/-- 'bilanderlaw03.RecordGets', WHERE WHAT IT READS IS OF BULK AT MOST 1048576: true; the input reads as it did. -/
def recordGetsUptoRow : OpenClaim := { program := "ytabidcdfmkkegaa", sum := "ee7593df1f8379d297e0198afaf3aa644641a2276a326ba88a92a38d67333b54", func := "bilander/bilanderlaw03.RecordGets", spec := "recordGets", apart := false, narrowed := true }
def RecordGetsUptoSaid : Prop := recordGetsUptoRow.holds Try.pinned (OpenSpec.upto recordGetsSpec)

/-- 'bilanderlaw03.RecordBack', WHERE WHAT IT READS IS OF BULK AT MOST 1048576: true; the input reads as it did. -/
def recordBackUptoRow : OpenClaim := { program := "ytabidcdfmkkegaa", sum := "ee7593df1f8379d297e0198afaf3aa644641a2276a326ba88a92a38d67333b54", func := "bilander/bilanderlaw03.RecordBack", spec := "recordBack", apart := false, narrowed := true }
def RecordBackUptoSaid : Prop := recordBackUptoRow.holds Try.pinned (OpenSpec.upto recordBackSpec)

end Rows
end Go.Proofs.Ytabidcdfmkkegaa
