/-
  No cell of these rows narrows 'for every input' (looked for: loops, veiled, ifaces, maps, wideKeys, modest, calm, conditions, laid).
  DERIVED. THE GIVEN ROWS OF THIS SEAT. 11 by the template 'for every input the law returns true; each argument reads behind the call as it read before'; 0 by the template 'total and deterministic' (their statements: YtkiimlmlfhmkiaaTotals.lean).
  GIVEN WITH THE SEED: the statements are not yours to turn. If you find one false, say at which input.
  Laid BY PROGRAM, IN A SANDBOX (cutbox-rows.mjs): the forced cells as the released guide's own fill.sh prints them over the translation 86d929454d775c00… (all of the seat's roots in one cut). By AI agents, Wed Nov 11 2026. No macro, syntax, notation, axiom, sorry.
-/
import Derived.Test.YtkiimlmlfhmkiaaChecked
import GoSem.Claim
import GoSem.ClaimJoined
import GoSem.ClaimMapViews
import Derived.JoinedTies
import Derived.KernelRfl
namespace Go.Proofs.Ytkiimlmlfhmkiaa
/- THE CELL 'sum', in the pinned program and in every row, IS THE sha256 OF THE DUMP (.gsa) THAT YtkiimlmlfhmkiaaProg.lean LOADS. Nothing in Lean hashes anything: it is a label: what it is worth is what the hold of that sum in a sandbox is worth. -/
noncomputable def Try.pinned : Pinned := { name := "ytkiimlmlfhmkiaa", sum := "86d929454d775c006a4a13ab763c0381f9e42d1cb42343903a67e51450b0dc46", checked := Try.checked }
namespace Rows
def none {H : Type} : Left H := { results := [], args := [] }

/-- 'bilanderlaw08.MetaPuts': WHATEVER THE INPUT: true; the input reads as it did. -/
def metaPutsSpec : ChangeSpec := { name := "metaPuts", fn := fun _ => fun
  | [d1, d2, d3] => { results := [.lit (.bool true)], args := [d1, d2, d3] }
  | _ => none }
def metaPutsRow : OpenClaim := { program := "ytkiimlmlfhmkiaa", sum := "86d929454d775c006a4a13ab763c0381f9e42d1cb42343903a67e51450b0dc46", func := "bilander/bilanderlaw08.MetaPuts", spec := "metaPuts", unfollowed := true, recurses := true, apart := false }
def MetaPutsSaid : Prop := metaPutsRow.holds Try.pinned (OpenSpec.ofChange metaPutsSpec)

/-- ITS FALSE NEIGHBOUR: 'it returns false'. Refute it at one input. -/
def metaPutsWrong : ChangeSpec := { name := "metaPuts", fn := fun _ => fun
  | [d1, d2, d3] => { results := [.lit (.bool false)], args := [d1, d2, d3] }
  | _ => none }
def MetaPutsWrongFalsely : Prop := metaPutsRow.holds Try.pinned (OpenSpec.ofChange metaPutsWrong)

/-- 'bilanderlaw08.MetaGets': WHATEVER THE INPUT: true; the input reads as it did. -/
def metaGetsSpec : ChangeSpec := { name := "metaGets", fn := fun _ => fun
  | [d1, d2] => { results := [.lit (.bool true)], args := [d1, d2] }
  | _ => none }
def metaGetsRow : OpenClaim := { program := "ytkiimlmlfhmkiaa", sum := "86d929454d775c006a4a13ab763c0381f9e42d1cb42343903a67e51450b0dc46", func := "bilander/bilanderlaw08.MetaGets", spec := "metaGets", unfollowed := true, recurses := true, apart := false }
def MetaGetsSaid : Prop := metaGetsRow.holds Try.pinned (OpenSpec.ofChange metaGetsSpec)

/-- ITS FALSE NEIGHBOUR: 'it returns false'. Refute it at one input. -/
def metaGetsWrong : ChangeSpec := { name := "metaGets", fn := fun _ => fun
  | [d1, d2] => { results := [.lit (.bool false)], args := [d1, d2] }
  | _ => none }
def MetaGetsWrongFalsely : Prop := metaGetsRow.holds Try.pinned (OpenSpec.ofChange metaGetsWrong)

/-- 'bilanderlaw08.MetaAll': WHATEVER THE INPUT: true; the input reads as it did. -/
def metaAllSpec : ChangeSpec := { name := "metaAll", fn := fun _ => fun
  | [d1, d2] => { results := [.lit (.bool true)], args := [d1, d2] }
  | _ => none }
def metaAllRow : OpenClaim := { program := "ytkiimlmlfhmkiaa", sum := "86d929454d775c006a4a13ab763c0381f9e42d1cb42343903a67e51450b0dc46", func := "bilander/bilanderlaw08.MetaAll", spec := "metaAll", unfollowed := true, recurses := true, apart := false }
def MetaAllSaid : Prop := metaAllRow.holds Try.pinned (OpenSpec.ofChange metaAllSpec)

/-- ITS FALSE NEIGHBOUR: 'it returns false'. Refute it at one input. -/
def metaAllWrong : ChangeSpec := { name := "metaAll", fn := fun _ => fun
  | [d1, d2] => { results := [.lit (.bool false)], args := [d1, d2] }
  | _ => none }
def MetaAllWrongFalsely : Prop := metaAllRow.holds Try.pinned (OpenSpec.ofChange metaAllWrong)

/-- 'bilanderlaw08.MetaBack': WHATEVER THE INPUT: true; the input reads as it did. -/
def metaBackSpec : ChangeSpec := { name := "metaBack", fn := fun _ => fun
  | [d1, d2] => { results := [.lit (.bool true)], args := [d1, d2] }
  | _ => none }
def metaBackRow : OpenClaim := { program := "ytkiimlmlfhmkiaa", sum := "86d929454d775c006a4a13ab763c0381f9e42d1cb42343903a67e51450b0dc46", func := "bilander/bilanderlaw08.MetaBack", spec := "metaBack", unfollowed := true, recurses := true, apart := false }
def MetaBackSaid : Prop := metaBackRow.holds Try.pinned (OpenSpec.ofChange metaBackSpec)

/-- ITS FALSE NEIGHBOUR: 'it returns false'. Refute it at one input. -/
def metaBackWrong : ChangeSpec := { name := "metaBack", fn := fun _ => fun
  | [d1, d2] => { results := [.lit (.bool false)], args := [d1, d2] }
  | _ => none }
def MetaBackWrongFalsely : Prop := metaBackRow.holds Try.pinned (OpenSpec.ofChange metaBackWrong)

/-- 'bilanderlaw08.MetaApart': WHATEVER THE INPUT: true; the input reads as it did. -/
def metaApartSpec : ChangeSpec := { name := "metaApart", fn := fun _ => fun
  | [d1, d2] => { results := [.lit (.bool true)], args := [d1, d2] }
  | _ => none }
def metaApartRow : OpenClaim := { program := "ytkiimlmlfhmkiaa", sum := "86d929454d775c006a4a13ab763c0381f9e42d1cb42343903a67e51450b0dc46", func := "bilander/bilanderlaw08.MetaApart", spec := "metaApart", unfollowed := true, recurses := true, apart := false }
def MetaApartSaid : Prop := metaApartRow.holds Try.pinned (OpenSpec.ofChange metaApartSpec)

/-- ITS FALSE NEIGHBOUR: 'it returns false'. Refute it at one input. -/
def metaApartWrong : ChangeSpec := { name := "metaApart", fn := fun _ => fun
  | [d1, d2] => { results := [.lit (.bool false)], args := [d1, d2] }
  | _ => none }
def MetaApartWrongFalsely : Prop := metaApartRow.holds Try.pinned (OpenSpec.ofChange metaApartWrong)

/-- 'bilanderlaw04.BatchPuts': WHATEVER THE INPUT: true; the input reads as it did. -/
def batchPutsSpec : ChangeSpec := { name := "batchPuts", fn := fun _ => fun
  | [d1, d2] => { results := [.lit (.bool true)], args := [d1, d2] }
  | _ => none }
def batchPutsRow : OpenClaim := { program := "ytkiimlmlfhmkiaa", sum := "86d929454d775c006a4a13ab763c0381f9e42d1cb42343903a67e51450b0dc46", func := "bilander/bilanderlaw04.BatchPuts", spec := "batchPuts", unfollowed := true, recurses := true, apart := false }
def BatchPutsSaid : Prop := batchPutsRow.holds Try.pinned (OpenSpec.ofChange batchPutsSpec)

/-- ITS FALSE NEIGHBOUR: 'it returns false'. Refute it at one input. -/
def batchPutsWrong : ChangeSpec := { name := "batchPuts", fn := fun _ => fun
  | [d1, d2] => { results := [.lit (.bool false)], args := [d1, d2] }
  | _ => none }
def BatchPutsWrongFalsely : Prop := batchPutsRow.holds Try.pinned (OpenSpec.ofChange batchPutsWrong)

/-- 'bilanderlaw04.BatchGets': WHATEVER THE INPUT: true; the input reads as it did. -/
def batchGetsSpec : ChangeSpec := { name := "batchGets", fn := fun _ => fun
  | [d] => { results := [.lit (.bool true)], args := [d] }
  | _ => none }
def batchGetsRow : OpenClaim := { program := "ytkiimlmlfhmkiaa", sum := "86d929454d775c006a4a13ab763c0381f9e42d1cb42343903a67e51450b0dc46", func := "bilander/bilanderlaw04.BatchGets", spec := "batchGets", unfollowed := true, recurses := true, apart := false }
def BatchGetsSaid : Prop := batchGetsRow.holds Try.pinned (OpenSpec.ofChange batchGetsSpec)

/-- ITS FALSE NEIGHBOUR: 'it returns false'. Refute it at one input. -/
def batchGetsWrong : ChangeSpec := { name := "batchGets", fn := fun _ => fun
  | [d] => { results := [.lit (.bool false)], args := [d] }
  | _ => none }
def BatchGetsWrongFalsely : Prop := batchGetsRow.holds Try.pinned (OpenSpec.ofChange batchGetsWrong)

/-- 'bilanderlaw04.BatchLooks': WHATEVER THE INPUT: true; the input reads as it did. -/
def batchLooksSpec : ChangeSpec := { name := "batchLooks", fn := fun _ => fun
  | [d1, d2] => { results := [.lit (.bool true)], args := [d1, d2] }
  | _ => none }
def batchLooksRow : OpenClaim := { program := "ytkiimlmlfhmkiaa", sum := "86d929454d775c006a4a13ab763c0381f9e42d1cb42343903a67e51450b0dc46", func := "bilander/bilanderlaw04.BatchLooks", spec := "batchLooks", unfollowed := true, recurses := true, apart := false }
def BatchLooksSaid : Prop := batchLooksRow.holds Try.pinned (OpenSpec.ofChange batchLooksSpec)

/-- ITS FALSE NEIGHBOUR: 'it returns false'. Refute it at one input. -/
def batchLooksWrong : ChangeSpec := { name := "batchLooks", fn := fun _ => fun
  | [d1, d2] => { results := [.lit (.bool false)], args := [d1, d2] }
  | _ => none }
def BatchLooksWrongFalsely : Prop := batchLooksRow.holds Try.pinned (OpenSpec.ofChange batchLooksWrong)

/-- 'bilanderlaw04.BatchBack': WHATEVER THE INPUT: true; the input reads as it did. -/
def batchBackSpec : ChangeSpec := { name := "batchBack", fn := fun _ => fun
  | [d] => { results := [.lit (.bool true)], args := [d] }
  | _ => none }
def batchBackRow : OpenClaim := { program := "ytkiimlmlfhmkiaa", sum := "86d929454d775c006a4a13ab763c0381f9e42d1cb42343903a67e51450b0dc46", func := "bilander/bilanderlaw04.BatchBack", spec := "batchBack", unfollowed := true, recurses := true, apart := false }
def BatchBackSaid : Prop := batchBackRow.holds Try.pinned (OpenSpec.ofChange batchBackSpec)

/-- ITS FALSE NEIGHBOUR: 'it returns false'. Refute it at one input. -/
def batchBackWrong : ChangeSpec := { name := "batchBack", fn := fun _ => fun
  | [d] => { results := [.lit (.bool false)], args := [d] }
  | _ => none }
def BatchBackWrongFalsely : Prop := batchBackRow.holds Try.pinned (OpenSpec.ofChange batchBackWrong)

/-- 'bilanderlaw04.BatchFrom': WHATEVER THE INPUT: true; the input reads as it did. -/
def batchFromSpec : ChangeSpec := { name := "batchFrom", fn := fun _ => fun
  | [d1, d2] => { results := [.lit (.bool true)], args := [d1, d2] }
  | _ => none }
def batchFromRow : OpenClaim := { program := "ytkiimlmlfhmkiaa", sum := "86d929454d775c006a4a13ab763c0381f9e42d1cb42343903a67e51450b0dc46", func := "bilander/bilanderlaw04.BatchFrom", spec := "batchFrom", unfollowed := true, recurses := true, apart := false }
def BatchFromSaid : Prop := batchFromRow.holds Try.pinned (OpenSpec.ofChange batchFromSpec)

/-- ITS FALSE NEIGHBOUR: 'it returns false'. Refute it at one input. -/
def batchFromWrong : ChangeSpec := { name := "batchFrom", fn := fun _ => fun
  | [d1, d2] => { results := [.lit (.bool false)], args := [d1, d2] }
  | _ => none }
def BatchFromWrongFalsely : Prop := batchFromRow.holds Try.pinned (OpenSpec.ofChange batchFromWrong)

/-- 'bilanderlaw04.BatchApart': WHATEVER THE INPUT: true; the input reads as it did. -/
def batchApartSpec : ChangeSpec := { name := "batchApart", fn := fun _ => fun
  | [d1, d2] => { results := [.lit (.bool true)], args := [d1, d2] }
  | _ => none }
def batchApartRow : OpenClaim := { program := "ytkiimlmlfhmkiaa", sum := "86d929454d775c006a4a13ab763c0381f9e42d1cb42343903a67e51450b0dc46", func := "bilander/bilanderlaw04.BatchApart", spec := "batchApart", unfollowed := true, recurses := true, apart := false }
def BatchApartSaid : Prop := batchApartRow.holds Try.pinned (OpenSpec.ofChange batchApartSpec)

/-- ITS FALSE NEIGHBOUR: 'it returns false'. Refute it at one input. -/
def batchApartWrong : ChangeSpec := { name := "batchApart", fn := fun _ => fun
  | [d1, d2] => { results := [.lit (.bool false)], args := [d1, d2] }
  | _ => none }
def BatchApartWrongFalsely : Prop := batchApartRow.holds Try.pinned (OpenSpec.ofChange batchApartWrong)

/- THE SECOND FORM. 'bulk': how many values and letters a reading holds, each counted each time it is reached (what is shared counts as often as it is met; a slice's spare places count too). A statement '..UptoSaid' is the law's where the arguments, and the package variables that the reading takes, are together of bulk at most 1048576: NARROWER than '..Said'. Prove '..Said' where nothing that the law and all that it calls make is longer than what came in: it says more and counts as full. Else prove '..UptoSaid'. A law counts once. -/
mutual
def uptoBulk {H : Type} : DataW H → Nat
  | .lit (.string bytes) => bytes.length + 1
  | .lit _ => 1
  | .nil => 1
  | .ptr d => uptoBulk d + 1
  | .slice elems spare => uptoBulkAll elems + uptoBulkAll spare + 1
  | .agg parts => uptoBulkAll parts + 1
  | .iface _ d => uptoBulk d + 1
  | .map entries => uptoBulkEntries entries + 1
  | .held _ => 1
def uptoBulkAll {H : Type} : List (DataW H) → Nat
  | [] => 0
  | d :: r => uptoBulk d + uptoBulkAll r
def uptoBulkEntries {H : Type} : List (Lit × DataW H) → Nat
  | [] => 0
  | x :: r => uptoBulkEntry x + uptoBulkEntries r
def uptoBulkEntry {H : Type} : Lit × DataW H → Nat
  | (.string bytes, d) => bytes.length + uptoBulk d + 1
  | (_, d) => uptoBulk d + 1
 end
def uptoSmall : (H : Type) → List (DataW H) → Bool := fun _ ds => decide (uptoBulkAll ds ≤ 1048576)
def OpenSpec.upto (s : _root_.Go.ChangeSpec) : _root_.Go.OpenSpec := { _root_.Go.OpenSpec.ofChange s with cond := some uptoSmall }

/-- 'bilanderlaw08.MetaPuts', WHERE WHAT IT READS IS OF BULK AT MOST 1048576: true; the input reads as it did. -/
def metaPutsUptoRow : OpenClaim := { program := "ytkiimlmlfhmkiaa", sum := "86d929454d775c006a4a13ab763c0381f9e42d1cb42343903a67e51450b0dc46", func := "bilander/bilanderlaw08.MetaPuts", spec := "metaPuts", unfollowed := true, recurses := true, apart := false, narrowed := true }
def MetaPutsUptoSaid : Prop := metaPutsUptoRow.holds Try.pinned (OpenSpec.upto metaPutsSpec)

/-- 'bilanderlaw08.MetaGets', WHERE WHAT IT READS IS OF BULK AT MOST 1048576: true; the input reads as it did. -/
def metaGetsUptoRow : OpenClaim := { program := "ytkiimlmlfhmkiaa", sum := "86d929454d775c006a4a13ab763c0381f9e42d1cb42343903a67e51450b0dc46", func := "bilander/bilanderlaw08.MetaGets", spec := "metaGets", unfollowed := true, recurses := true, apart := false, narrowed := true }
def MetaGetsUptoSaid : Prop := metaGetsUptoRow.holds Try.pinned (OpenSpec.upto metaGetsSpec)

/-- 'bilanderlaw08.MetaAll', WHERE WHAT IT READS IS OF BULK AT MOST 1048576: true; the input reads as it did. -/
def metaAllUptoRow : OpenClaim := { program := "ytkiimlmlfhmkiaa", sum := "86d929454d775c006a4a13ab763c0381f9e42d1cb42343903a67e51450b0dc46", func := "bilander/bilanderlaw08.MetaAll", spec := "metaAll", unfollowed := true, recurses := true, apart := false, narrowed := true }
def MetaAllUptoSaid : Prop := metaAllUptoRow.holds Try.pinned (OpenSpec.upto metaAllSpec)

/-- 'bilanderlaw08.MetaBack', WHERE WHAT IT READS IS OF BULK AT MOST 1048576: true; the input reads as it did. -/
def metaBackUptoRow : OpenClaim := { program := "ytkiimlmlfhmkiaa", sum := "86d929454d775c006a4a13ab763c0381f9e42d1cb42343903a67e51450b0dc46", func := "bilander/bilanderlaw08.MetaBack", spec := "metaBack", unfollowed := true, recurses := true, apart := false, narrowed := true }
def MetaBackUptoSaid : Prop := metaBackUptoRow.holds Try.pinned (OpenSpec.upto metaBackSpec)

/-- 'bilanderlaw08.MetaApart', WHERE WHAT IT READS IS OF BULK AT MOST 1048576: true; the input reads as it did. -/
def metaApartUptoRow : OpenClaim := { program := "ytkiimlmlfhmkiaa", sum := "86d929454d775c006a4a13ab763c0381f9e42d1cb42343903a67e51450b0dc46", func := "bilander/bilanderlaw08.MetaApart", spec := "metaApart", unfollowed := true, recurses := true, apart := false, narrowed := true }
def MetaApartUptoSaid : Prop := metaApartUptoRow.holds Try.pinned (OpenSpec.upto metaApartSpec)

/-- 'bilanderlaw04.BatchPuts', WHERE WHAT IT READS IS OF BULK AT MOST 1048576: true; the input reads as it did. -/
def batchPutsUptoRow : OpenClaim := { program := "ytkiimlmlfhmkiaa", sum := "86d929454d775c006a4a13ab763c0381f9e42d1cb42343903a67e51450b0dc46", func := "bilander/bilanderlaw04.BatchPuts", spec := "batchPuts", unfollowed := true, recurses := true, apart := false, narrowed := true }
def BatchPutsUptoSaid : Prop := batchPutsUptoRow.holds Try.pinned (OpenSpec.upto batchPutsSpec)

/-- 'bilanderlaw04.BatchGets', WHERE WHAT IT READS IS OF BULK AT MOST 1048576: true; the input reads as it did. -/
def batchGetsUptoRow : OpenClaim := { program := "ytkiimlmlfhmkiaa", sum := "86d929454d775c006a4a13ab763c0381f9e42d1cb42343903a67e51450b0dc46", func := "bilander/bilanderlaw04.BatchGets", spec := "batchGets", unfollowed := true, recurses := true, apart := false, narrowed := true }
def BatchGetsUptoSaid : Prop := batchGetsUptoRow.holds Try.pinned (OpenSpec.upto batchGetsSpec)

/-- 'bilanderlaw04.BatchLooks', WHERE WHAT IT READS IS OF BULK AT MOST 1048576: true; the input reads as it did. -/
def batchLooksUptoRow : OpenClaim := { program := "ytkiimlmlfhmkiaa", sum := "86d929454d775c006a4a13ab763c0381f9e42d1cb42343903a67e51450b0dc46", func := "bilander/bilanderlaw04.BatchLooks", spec := "batchLooks", unfollowed := true, recurses := true, apart := false, narrowed := true }
def BatchLooksUptoSaid : Prop := batchLooksUptoRow.holds Try.pinned (OpenSpec.upto batchLooksSpec)

/-- 'bilanderlaw04.BatchBack', WHERE WHAT IT READS IS OF BULK AT MOST 1048576: true; the input reads as it did. -/
def batchBackUptoRow : OpenClaim := { program := "ytkiimlmlfhmkiaa", sum := "86d929454d775c006a4a13ab763c0381f9e42d1cb42343903a67e51450b0dc46", func := "bilander/bilanderlaw04.BatchBack", spec := "batchBack", unfollowed := true, recurses := true, apart := false, narrowed := true }
def BatchBackUptoSaid : Prop := batchBackUptoRow.holds Try.pinned (OpenSpec.upto batchBackSpec)

/-- 'bilanderlaw04.BatchFrom', WHERE WHAT IT READS IS OF BULK AT MOST 1048576: true; the input reads as it did. -/
def batchFromUptoRow : OpenClaim := { program := "ytkiimlmlfhmkiaa", sum := "86d929454d775c006a4a13ab763c0381f9e42d1cb42343903a67e51450b0dc46", func := "bilander/bilanderlaw04.BatchFrom", spec := "batchFrom", unfollowed := true, recurses := true, apart := false, narrowed := true }
def BatchFromUptoSaid : Prop := batchFromUptoRow.holds Try.pinned (OpenSpec.upto batchFromSpec)

/-- 'bilanderlaw04.BatchApart', WHERE WHAT IT READS IS OF BULK AT MOST 1048576: true; the input reads as it did. -/
def batchApartUptoRow : OpenClaim := { program := "ytkiimlmlfhmkiaa", sum := "86d929454d775c006a4a13ab763c0381f9e42d1cb42343903a67e51450b0dc46", func := "bilander/bilanderlaw04.BatchApart", spec := "batchApart", unfollowed := true, recurses := true, apart := false, narrowed := true }
def BatchApartUptoSaid : Prop := batchApartUptoRow.holds Try.pinned (OpenSpec.upto batchApartSpec)

end Rows
end Go.Proofs.Ytkiimlmlfhmkiaa
