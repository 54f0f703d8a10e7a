/-
  No cell of these rows narrows 'for every input' (looked for: loops, veiled, ifaces, maps, wideKeys, modest, calm, conditions, laid).
  DERIVED. THE GIVEN ROWS OF THIS SEAT. 12 by the template 'for every input the law returns true; each argument reads behind the call as it read before'; 0 by the template 'total and deterministic' (their statements: YtflcdbfcipkhkaaTotals.lean).
  GIVEN WITH THE SEED: the statements are not yours to turn. If you find one false, say at which input.
  Laid BY PROGRAM, IN A SANDBOX (cutbox-rows.mjs): the forced cells as the released guide's own fill.sh prints them over the translation 8c4b166b29824fa3… (all of the seat's roots in one cut). By AI agents, Wed Nov 11 2026. No macro, syntax, notation, axiom, sorry.
-/
import Derived.Test.YtflcdbfcipkhkaaChecked
import GoSem.Claim
import GoSem.ClaimJoined
import GoSem.ClaimMapViews
import Derived.JoinedTies
import Derived.KernelRfl
namespace Go.Proofs.Ytflcdbfcipkhkaa
/- THE CELL 'sum', in the pinned program and in every row, IS THE sha256 OF THE DUMP (.gsa) THAT YtflcdbfcipkhkaaProg.lean LOADS. Nothing in Lean hashes anything: it is a label: what it is worth is what the hold of that sum in a sandbox is worth. -/
noncomputable def Try.pinned : Pinned := { name := "ytflcdbfcipkhkaa", sum := "8c4b166b29824fa3b0ba2e472efd51624a43f5e3157d3b762c0ec0f0cfeeab14", checked := Try.checked }
namespace Rows
def none {H : Type} : Left H := { results := [], args := [] }

/-- 'bilanderlaw01.VarnumTakes': WHATEVER THE INPUT: true; the input reads as it did. -/
def varnumTakesSpec : ChangeSpec := { name := "varnumTakes", fn := fun _ => fun
  | [d1, d2, d3] => { results := [.lit (.bool true)], args := [d1, d2, d3] }
  | _ => none }
def varnumTakesRow : OpenClaim := { program := "ytflcdbfcipkhkaa", sum := "8c4b166b29824fa3b0ba2e472efd51624a43f5e3157d3b762c0ec0f0cfeeab14", func := "bilander/bilanderlaw01.VarnumTakes", spec := "varnumTakes", apart := false }
def VarnumTakesSaid : Prop := varnumTakesRow.holds Try.pinned (OpenSpec.ofChange varnumTakesSpec)

/-- ITS FALSE NEIGHBOUR: 'it returns false'. Refute it at one input. -/
def varnumTakesWrong : ChangeSpec := { name := "varnumTakes", fn := fun _ => fun
  | [d1, d2, d3] => { results := [.lit (.bool false)], args := [d1, d2, d3] }
  | _ => none }
def VarnumTakesWrongFalsely : Prop := varnumTakesRow.holds Try.pinned (OpenSpec.ofChange varnumTakesWrong)

/-- 'bilanderlaw22.WireAsks': WHATEVER THE INPUT: true; the input reads as it did. -/
def wireAsksSpec : ChangeSpec := { name := "wireAsks", fn := fun _ => fun
  | [d1, d2, d3] => { results := [.lit (.bool true)], args := [d1, d2, d3] }
  | _ => none }
def wireAsksRow : OpenClaim := { program := "ytflcdbfcipkhkaa", sum := "8c4b166b29824fa3b0ba2e472efd51624a43f5e3157d3b762c0ec0f0cfeeab14", func := "bilander/bilanderlaw22.WireAsks", spec := "wireAsks", unfollowed := true, recurses := true, apart := false }
def WireAsksSaid : Prop := wireAsksRow.holds Try.pinned (OpenSpec.ofChange wireAsksSpec)

/-- ITS FALSE NEIGHBOUR: 'it returns false'. Refute it at one input. -/
def wireAsksWrong : ChangeSpec := { name := "wireAsks", fn := fun _ => fun
  | [d1, d2, d3] => { results := [.lit (.bool false)], args := [d1, d2, d3] }
  | _ => none }
def WireAsksWrongFalsely : Prop := wireAsksRow.holds Try.pinned (OpenSpec.ofChange wireAsksWrong)

/-- 'bilanderlaw22.WireAnswers': WHATEVER THE INPUT: true; the input reads as it did. -/
def wireAnswersSpec : ChangeSpec := { name := "wireAnswers", fn := fun _ => fun
  | [d1, d2] => { results := [.lit (.bool true)], args := [d1, d2] }
  | _ => none }
def wireAnswersRow : OpenClaim := { program := "ytflcdbfcipkhkaa", sum := "8c4b166b29824fa3b0ba2e472efd51624a43f5e3157d3b762c0ec0f0cfeeab14", func := "bilander/bilanderlaw22.WireAnswers", spec := "wireAnswers", unfollowed := true, recurses := true, apart := false }
def WireAnswersSaid : Prop := wireAnswersRow.holds Try.pinned (OpenSpec.ofChange wireAnswersSpec)

/-- ITS FALSE NEIGHBOUR: 'it returns false'. Refute it at one input. -/
def wireAnswersWrong : ChangeSpec := { name := "wireAnswers", fn := fun _ => fun
  | [d1, d2] => { results := [.lit (.bool false)], args := [d1, d2] }
  | _ => none }
def WireAnswersWrongFalsely : Prop := wireAnswersRow.holds Try.pinned (OpenSpec.ofChange wireAnswersWrong)

/-- 'bilanderlaw22.WireReads': WHATEVER THE INPUT: true; the input reads as it did. -/
def wireReadsSpec : ChangeSpec := { name := "wireReads", fn := fun _ => fun
  | [d1, d2] => { results := [.lit (.bool true)], args := [d1, d2] }
  | _ => none }
def wireReadsRow : OpenClaim := { program := "ytflcdbfcipkhkaa", sum := "8c4b166b29824fa3b0ba2e472efd51624a43f5e3157d3b762c0ec0f0cfeeab14", func := "bilander/bilanderlaw22.WireReads", spec := "wireReads", unfollowed := true, recurses := true, apart := false }
def WireReadsSaid : Prop := wireReadsRow.holds Try.pinned (OpenSpec.ofChange wireReadsSpec)

/-- ITS FALSE NEIGHBOUR: 'it returns false'. Refute it at one input. -/
def wireReadsWrong : ChangeSpec := { name := "wireReads", fn := fun _ => fun
  | [d1, d2] => { results := [.lit (.bool false)], args := [d1, d2] }
  | _ => none }
def WireReadsWrongFalsely : Prop := wireReadsRow.holds Try.pinned (OpenSpec.ofChange wireReadsWrong)

/-- 'bilanderlaw22.WireBack': WHATEVER THE INPUT: true; the input reads as it did. -/
def wireBackSpec : ChangeSpec := { name := "wireBack", fn := fun _ => fun
  | [d1, d2] => { results := [.lit (.bool true)], args := [d1, d2] }
  | _ => none }
def wireBackRow : OpenClaim := { program := "ytflcdbfcipkhkaa", sum := "8c4b166b29824fa3b0ba2e472efd51624a43f5e3157d3b762c0ec0f0cfeeab14", func := "bilander/bilanderlaw22.WireBack", spec := "wireBack", unfollowed := true, recurses := true, apart := false }
def WireBackSaid : Prop := wireBackRow.holds Try.pinned (OpenSpec.ofChange wireBackSpec)

/-- ITS FALSE NEIGHBOUR: 'it returns false'. Refute it at one input. -/
def wireBackWrong : ChangeSpec := { name := "wireBack", fn := fun _ => fun
  | [d1, d2] => { results := [.lit (.bool false)], args := [d1, d2] }
  | _ => none }
def WireBackWrongFalsely : Prop := wireBackRow.holds Try.pinned (OpenSpec.ofChange wireBackWrong)

/-- 'bilanderlaw22.WireApart': WHATEVER THE INPUT: true; the input reads as it did. -/
def wireApartSpec : ChangeSpec := { name := "wireApart", fn := fun _ => fun
  | [d1, d2, d3] => { results := [.lit (.bool true)], args := [d1, d2, d3] }
  | _ => none }
def wireApartRow : OpenClaim := { program := "ytflcdbfcipkhkaa", sum := "8c4b166b29824fa3b0ba2e472efd51624a43f5e3157d3b762c0ec0f0cfeeab14", func := "bilander/bilanderlaw22.WireApart", spec := "wireApart", unfollowed := true, recurses := true, apart := false }
def WireApartSaid : Prop := wireApartRow.holds Try.pinned (OpenSpec.ofChange wireApartSpec)

/-- ITS FALSE NEIGHBOUR: 'it returns false'. Refute it at one input. -/
def wireApartWrong : ChangeSpec := { name := "wireApart", fn := fun _ => fun
  | [d1, d2, d3] => { results := [.lit (.bool false)], args := [d1, d2, d3] }
  | _ => none }
def WireApartWrongFalsely : Prop := wireApartRow.holds Try.pinned (OpenSpec.ofChange wireApartWrong)

/-- 'bilanderlaw14.SegmentFetches': WHATEVER THE INPUT: true; the input reads as it did. -/
def segmentFetchesSpec : ChangeSpec := { name := "segmentFetches", fn := fun _ => fun
  | [d1, d2, d3] => { results := [.lit (.bool true)], args := [d1, d2, d3] }
  | _ => none }
def segmentFetchesRow : OpenClaim := { program := "ytflcdbfcipkhkaa", sum := "8c4b166b29824fa3b0ba2e472efd51624a43f5e3157d3b762c0ec0f0cfeeab14", func := "bilander/bilanderlaw14.SegmentFetches", spec := "segmentFetches", unfollowed := true, recurses := true, apart := false }
def SegmentFetchesSaid : Prop := segmentFetchesRow.holds Try.pinned (OpenSpec.ofChange segmentFetchesSpec)

/-- ITS FALSE NEIGHBOUR: 'it returns false'. Refute it at one input. -/
def segmentFetchesWrong : ChangeSpec := { name := "segmentFetches", fn := fun _ => fun
  | [d1, d2, d3] => { results := [.lit (.bool false)], args := [d1, d2, d3] }
  | _ => none }
def SegmentFetchesWrongFalsely : Prop := segmentFetchesRow.holds Try.pinned (OpenSpec.ofChange segmentFetchesWrong)

/-- 'bilanderlaw14.SegmentLooks': WHATEVER THE INPUT: true; the input reads as it did. -/
def segmentLooksSpec : ChangeSpec := { name := "segmentLooks", fn := fun _ => fun
  | [d1, d2, d3] => { results := [.lit (.bool true)], args := [d1, d2, d3] }
  | _ => none }
def segmentLooksRow : OpenClaim := { program := "ytflcdbfcipkhkaa", sum := "8c4b166b29824fa3b0ba2e472efd51624a43f5e3157d3b762c0ec0f0cfeeab14", func := "bilander/bilanderlaw14.SegmentLooks", spec := "segmentLooks", unfollowed := true, recurses := true, apart := false }
def SegmentLooksSaid : Prop := segmentLooksRow.holds Try.pinned (OpenSpec.ofChange segmentLooksSpec)

/-- ITS FALSE NEIGHBOUR: 'it returns false'. Refute it at one input. -/
def segmentLooksWrong : ChangeSpec := { name := "segmentLooks", fn := fun _ => fun
  | [d1, d2, d3] => { results := [.lit (.bool false)], args := [d1, d2, d3] }
  | _ => none }
def SegmentLooksWrongFalsely : Prop := segmentLooksRow.holds Try.pinned (OpenSpec.ofChange segmentLooksWrong)

/-- 'bilanderlaw14.SegmentMay': WHATEVER THE INPUT: true; the input reads as it did. -/
def segmentMaySpec : ChangeSpec := { name := "segmentMay", fn := fun _ => fun
  | [d1, d2] => { results := [.lit (.bool true)], args := [d1, d2] }
  | _ => none }
def segmentMayRow : OpenClaim := { program := "ytflcdbfcipkhkaa", sum := "8c4b166b29824fa3b0ba2e472efd51624a43f5e3157d3b762c0ec0f0cfeeab14", func := "bilander/bilanderlaw14.SegmentMay", spec := "segmentMay", unfollowed := true, recurses := true, apart := false }
def SegmentMaySaid : Prop := segmentMayRow.holds Try.pinned (OpenSpec.ofChange segmentMaySpec)

/-- ITS FALSE NEIGHBOUR: 'it returns false'. Refute it at one input. -/
def segmentMayWrong : ChangeSpec := { name := "segmentMay", fn := fun _ => fun
  | [d1, d2] => { results := [.lit (.bool false)], args := [d1, d2] }
  | _ => none }
def SegmentMayWrongFalsely : Prop := segmentMayRow.holds Try.pinned (OpenSpec.ofChange segmentMayWrong)

/-- 'bilanderlaw14.SegmentAll': WHATEVER THE INPUT: true; the input reads as it did. -/
def segmentAllSpec : ChangeSpec := { name := "segmentAll", fn := fun _ => fun
  | [d] => { results := [.lit (.bool true)], args := [d] }
  | _ => none }
def segmentAllRow : OpenClaim := { program := "ytflcdbfcipkhkaa", sum := "8c4b166b29824fa3b0ba2e472efd51624a43f5e3157d3b762c0ec0f0cfeeab14", func := "bilander/bilanderlaw14.SegmentAll", spec := "segmentAll", unfollowed := true, recurses := true, apart := false }
def SegmentAllSaid : Prop := segmentAllRow.holds Try.pinned (OpenSpec.ofChange segmentAllSpec)

/-- ITS FALSE NEIGHBOUR: 'it returns false'. Refute it at one input. -/
def segmentAllWrong : ChangeSpec := { name := "segmentAll", fn := fun _ => fun
  | [d] => { results := [.lit (.bool false)], args := [d] }
  | _ => none }
def SegmentAllWrongFalsely : Prop := segmentAllRow.holds Try.pinned (OpenSpec.ofChange segmentAllWrong)

/-- 'bilanderlaw14.SegmentTimes': WHATEVER THE INPUT: true; the input reads as it did. -/
def segmentTimesSpec : ChangeSpec := { name := "segmentTimes", fn := fun _ => fun
  | [d1, d2] => { results := [.lit (.bool true)], args := [d1, d2] }
  | _ => none }
def segmentTimesRow : OpenClaim := { program := "ytflcdbfcipkhkaa", sum := "8c4b166b29824fa3b0ba2e472efd51624a43f5e3157d3b762c0ec0f0cfeeab14", func := "bilander/bilanderlaw14.SegmentTimes", spec := "segmentTimes", unfollowed := true, recurses := true, apart := false }
def SegmentTimesSaid : Prop := segmentTimesRow.holds Try.pinned (OpenSpec.ofChange segmentTimesSpec)

/-- ITS FALSE NEIGHBOUR: 'it returns false'. Refute it at one input. -/
def segmentTimesWrong : ChangeSpec := { name := "segmentTimes", fn := fun _ => fun
  | [d1, d2] => { results := [.lit (.bool false)], args := [d1, d2] }
  | _ => none }
def SegmentTimesWrongFalsely : Prop := segmentTimesRow.holds Try.pinned (OpenSpec.ofChange segmentTimesWrong)

/-- 'bilanderlaw14.SegmentFew': WHATEVER THE INPUT: true; the input reads as it did. -/
def segmentFewSpec : ChangeSpec := { name := "segmentFew", fn := fun _ => fun
  | [d1, d2, d3] => { results := [.lit (.bool true)], args := [d1, d2, d3] }
  | _ => none }
def segmentFewRow : OpenClaim := { program := "ytflcdbfcipkhkaa", sum := "8c4b166b29824fa3b0ba2e472efd51624a43f5e3157d3b762c0ec0f0cfeeab14", func := "bilander/bilanderlaw14.SegmentFew", spec := "segmentFew", unfollowed := true, recurses := true, apart := false }
def SegmentFewSaid : Prop := segmentFewRow.holds Try.pinned (OpenSpec.ofChange segmentFewSpec)

/-- ITS FALSE NEIGHBOUR: 'it returns false'. Refute it at one input. -/
def segmentFewWrong : ChangeSpec := { name := "segmentFew", fn := fun _ => fun
  | [d1, d2, d3] => { results := [.lit (.bool false)], args := [d1, d2, d3] }
  | _ => none }
def SegmentFewWrongFalsely : Prop := segmentFewRow.holds Try.pinned (OpenSpec.ofChange segmentFewWrong)

/- THE SECOND FORM. 'bulk': how many values and letters a reading holds, each counted each time it is reached (what is shared counts as often as it is met; a slice's spare places count too). A statement '..UptoSaid' is the law's where the arguments, and the package variables that the reading takes, are together of bulk at most 1048576: NARROWER than '..Said'. Prove '..Said' where nothing that the law and all that it calls make is longer than what came in: it says more and counts as full. Else prove '..UptoSaid'. A law counts once. -/
mutual
def uptoBulk {H : Type} : DataW H → Nat
  | .lit (.string bytes) => bytes.length + 1
  | .lit _ => 1
  | .nil => 1
  | .ptr d => uptoBulk d + 1
  | .slice elems spare => uptoBulkAll elems + uptoBulkAll spare + 1
  | .agg parts => uptoBulkAll parts + 1
  | .iface _ d => uptoBulk d + 1
  | .map entries => uptoBulkEntries entries + 1
  | .held _ => 1
def uptoBulkAll {H : Type} : List (DataW H) → Nat
  | [] => 0
  | d :: r => uptoBulk d + uptoBulkAll r
def uptoBulkEntries {H : Type} : List (Lit × DataW H) → Nat
  | [] => 0
  | x :: r => uptoBulkEntry x + uptoBulkEntries r
def uptoBulkEntry {H : Type} : Lit × DataW H → Nat
  | (.string bytes, d) => bytes.length + uptoBulk d + 1
  | (_, d) => uptoBulk d + 1
 end
def uptoSmall : (H : Type) → List (DataW H) → Bool := fun _ ds => decide (uptoBulkAll ds ≤ 1048576)
def OpenSpec.upto (s : _root_.Go.ChangeSpec) : _root_.Go.OpenSpec := { _root_.Go.OpenSpec.ofChange s with cond := some uptoSmall }

/-- 'bilanderlaw01.VarnumTakes', WHERE WHAT IT READS IS OF BULK AT MOST 1048576: true; the input reads as it did. -/
def varnumTakesUptoRow : OpenClaim := { program := "ytflcdbfcipkhkaa", sum := "8c4b166b29824fa3b0ba2e472efd51624a43f5e3157d3b762c0ec0f0cfeeab14", func := "bilander/bilanderlaw01.VarnumTakes", spec := "varnumTakes", apart := false, narrowed := true }
def VarnumTakesUptoSaid : Prop := varnumTakesUptoRow.holds Try.pinned (OpenSpec.upto varnumTakesSpec)

/-- 'bilanderlaw22.WireAsks', WHERE WHAT IT READS IS OF BULK AT MOST 1048576: true; the input reads as it did. -/
def wireAsksUptoRow : OpenClaim := { program := "ytflcdbfcipkhkaa", sum := "8c4b166b29824fa3b0ba2e472efd51624a43f5e3157d3b762c0ec0f0cfeeab14", func := "bilander/bilanderlaw22.WireAsks", spec := "wireAsks", unfollowed := true, recurses := true, apart := false, narrowed := true }
def WireAsksUptoSaid : Prop := wireAsksUptoRow.holds Try.pinned (OpenSpec.upto wireAsksSpec)

/-- 'bilanderlaw22.WireAnswers', WHERE WHAT IT READS IS OF BULK AT MOST 1048576: true; the input reads as it did. -/
def wireAnswersUptoRow : OpenClaim := { program := "ytflcdbfcipkhkaa", sum := "8c4b166b29824fa3b0ba2e472efd51624a43f5e3157d3b762c0ec0f0cfeeab14", func := "bilander/bilanderlaw22.WireAnswers", spec := "wireAnswers", unfollowed := true, recurses := true, apart := false, narrowed := true }
def WireAnswersUptoSaid : Prop := wireAnswersUptoRow.holds Try.pinned (OpenSpec.upto wireAnswersSpec)

/-- 'bilanderlaw22.WireReads', WHERE WHAT IT READS IS OF BULK AT MOST 1048576: true; the input reads as it did. -/
def wireReadsUptoRow : OpenClaim := { program := "ytflcdbfcipkhkaa", sum := "8c4b166b29824fa3b0ba2e472efd51624a43f5e3157d3b762c0ec0f0cfeeab14", func := "bilander/bilanderlaw22.WireReads", spec := "wireReads", unfollowed := true, recurses := true, apart := false, narrowed := true }
def WireReadsUptoSaid : Prop := wireReadsUptoRow.holds Try.pinned (OpenSpec.upto wireReadsSpec)

/-- 'bilanderlaw22.WireBack', WHERE WHAT IT READS IS OF BULK AT MOST 1048576: true; the input reads as it did. -/
def wireBackUptoRow : OpenClaim := { program := "ytflcdbfcipkhkaa", sum := "8c4b166b29824fa3b0ba2e472efd51624a43f5e3157d3b762c0ec0f0cfeeab14", func := "bilander/bilanderlaw22.WireBack", spec := "wireBack", unfollowed := true, recurses := true, apart := false, narrowed := true }
def WireBackUptoSaid : Prop := wireBackUptoRow.holds Try.pinned (OpenSpec.upto wireBackSpec)

/-- 'bilanderlaw22.WireApart', WHERE WHAT IT READS IS OF BULK AT MOST 1048576: true; the input reads as it did. -/
def wireApartUptoRow : OpenClaim := { program := "ytflcdbfcipkhkaa", sum := "8c4b166b29824fa3b0ba2e472efd51624a43f5e3157d3b762c0ec0f0cfeeab14", func := "bilander/bilanderlaw22.WireApart", spec := "wireApart", unfollowed := true, recurses := true, apart := false, narrowed := true }
def WireApartUptoSaid : Prop := wireApartUptoRow.holds Try.pinned (OpenSpec.upto wireApartSpec)

/-- 'bilanderlaw14.SegmentFetches', WHERE WHAT IT READS IS OF BULK AT MOST 1048576: true; the input reads as it did. -/
def segmentFetchesUptoRow : OpenClaim := { program := "ytflcdbfcipkhkaa", sum := "8c4b166b29824fa3b0ba2e472efd51624a43f5e3157d3b762c0ec0f0cfeeab14", func := "bilander/bilanderlaw14.SegmentFetches", spec := "segmentFetches", unfollowed := true, recurses := true, apart := false, narrowed := true }
def SegmentFetchesUptoSaid : Prop := segmentFetchesUptoRow.holds Try.pinned (OpenSpec.upto segmentFetchesSpec)

/-- 'bilanderlaw14.SegmentLooks', WHERE WHAT IT READS IS OF BULK AT MOST 1048576: true; the input reads as it did. -/
def segmentLooksUptoRow : OpenClaim := { program := "ytflcdbfcipkhkaa", sum := "8c4b166b29824fa3b0ba2e472efd51624a43f5e3157d3b762c0ec0f0cfeeab14", func := "bilander/bilanderlaw14.SegmentLooks", spec := "segmentLooks", unfollowed := true, recurses := true, apart := false, narrowed := true }
def SegmentLooksUptoSaid : Prop := segmentLooksUptoRow.holds Try.pinned (OpenSpec.upto segmentLooksSpec)

/-- 'bilanderlaw14.SegmentMay', WHERE WHAT IT READS IS OF BULK AT MOST 1048576: true; the input reads as it did. -/
def segmentMayUptoRow : OpenClaim := { program := "ytflcdbfcipkhkaa", sum := "8c4b166b29824fa3b0ba2e472efd51624a43f5e3157d3b762c0ec0f0cfeeab14", func := "bilander/bilanderlaw14.SegmentMay", spec := "segmentMay", unfollowed := true, recurses := true, apart := false, narrowed := true }
def SegmentMayUptoSaid : Prop := segmentMayUptoRow.holds Try.pinned (OpenSpec.upto segmentMaySpec)

/-- 'bilanderlaw14.SegmentAll', WHERE WHAT IT READS IS OF BULK AT MOST 1048576: true; the input reads as it did. -/
def segmentAllUptoRow : OpenClaim := { program := "ytflcdbfcipkhkaa", sum := "8c4b166b29824fa3b0ba2e472efd51624a43f5e3157d3b762c0ec0f0cfeeab14", func := "bilander/bilanderlaw14.SegmentAll", spec := "segmentAll", unfollowed := true, recurses := true, apart := false, narrowed := true }
def SegmentAllUptoSaid : Prop := segmentAllUptoRow.holds Try.pinned (OpenSpec.upto segmentAllSpec)

/-- 'bilanderlaw14.SegmentTimes', WHERE WHAT IT READS IS OF BULK AT MOST 1048576: true; the input reads as it did. -/
def segmentTimesUptoRow : OpenClaim := { program := "ytflcdbfcipkhkaa", sum := "8c4b166b29824fa3b0ba2e472efd51624a43f5e3157d3b762c0ec0f0cfeeab14", func := "bilander/bilanderlaw14.SegmentTimes", spec := "segmentTimes", unfollowed := true, recurses := true, apart := false, narrowed := true }
def SegmentTimesUptoSaid : Prop := segmentTimesUptoRow.holds Try.pinned (OpenSpec.upto segmentTimesSpec)

/-- 'bilanderlaw14.SegmentFew', WHERE WHAT IT READS IS OF BULK AT MOST 1048576: true; the input reads as it did. -/
def segmentFewUptoRow : OpenClaim := { program := "ytflcdbfcipkhkaa", sum := "8c4b166b29824fa3b0ba2e472efd51624a43f5e3157d3b762c0ec0f0cfeeab14", func := "bilander/bilanderlaw14.SegmentFew", spec := "segmentFew", unfollowed := true, recurses := true, apart := false, narrowed := true }
def SegmentFewUptoSaid : Prop := segmentFewUptoRow.holds Try.pinned (OpenSpec.upto segmentFewSpec)

end Rows
end Go.Proofs.Ytflcdbfcipkhkaa
