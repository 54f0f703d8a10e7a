/-
  No cell of these rows narrows 'for every input' (looked for: loops, veiled, ifaces, maps, wideKeys, modest, calm, conditions, laid).
  DERIVED. THE GIVEN ROWS OF THIS SEAT. 10 by the template 'for every input the law returns true; each argument reads behind the call as it read before'; 0 by the template 'total and deterministic' (their statements: YtomlhaekhammkaaTotals.lean).
  GIVEN WITH THE SEED: the statements are not yours to turn. If you find one false, say at which input.
  Laid BY PROGRAM, IN A SANDBOX (cutbox-rows.mjs): the forced cells as the released guide's own fill.sh prints them over the translation aef6c751c197fb91… (all of the seat's roots in one cut). By AI agents, Wed Nov 11 2026. No macro, syntax, notation, axiom, sorry.
-/
import Derived.Test.YtomlhaekhammkaaChecked
import GoSem.Claim
import GoSem.ClaimJoined
import GoSem.ClaimMapViews
import Derived.JoinedTies
import Derived.KernelRfl
namespace Go.Proofs.Ytomlhaekhammkaa
/- THE CELL 'sum', in the pinned program and in every row, IS THE sha256 OF THE DUMP (.gsa) THAT YtomlhaekhammkaaProg.lean LOADS. Nothing in Lean hashes anything: it is a label: what it is worth is what the hold of that sum in a sandbox is worth. -/
noncomputable def Try.pinned : Pinned := { name := "ytomlhaekhammkaa", sum := "aef6c751c197fb917e7eadb319553f62966d999846747f1c653b1513835ea9e7", checked := Try.checked }
namespace Rows
def none {H : Type} : Left H := { results := [], args := [] }

/-- 'bilanderlaw16.RetainStays': WHATEVER THE INPUT: true; the input reads as it did. -/
def retainStaysSpec : ChangeSpec := { name := "retainStays", fn := fun _ => fun
  | [d1, d2, d3] => { results := [.lit (.bool true)], args := [d1, d2, d3] }
  | _ => none }
def retainStaysRow : OpenClaim := { program := "ytomlhaekhammkaa", sum := "aef6c751c197fb917e7eadb319553f62966d999846747f1c653b1513835ea9e7", func := "bilander/bilanderlaw16.RetainStays", spec := "retainStays", unfollowed := true, recurses := true, apart := false }
def RetainStaysSaid : Prop := retainStaysRow.holds Try.pinned (OpenSpec.ofChange retainStaysSpec)

/-- ITS FALSE NEIGHBOUR: 'it returns false'. Refute it at one input. -/
def retainStaysWrong : ChangeSpec := { name := "retainStays", fn := fun _ => fun
  | [d1, d2, d3] => { results := [.lit (.bool false)], args := [d1, d2, d3] }
  | _ => none }
def RetainStaysWrongFalsely : Prop := retainStaysRow.holds Try.pinned (OpenSpec.ofChange retainStaysWrong)

/-- 'bilanderlaw16.RetainAgain': WHATEVER THE INPUT: true; the input reads as it did. -/
def retainAgainSpec : ChangeSpec := { name := "retainAgain", fn := fun _ => fun
  | [d1, d2, d3] => { results := [.lit (.bool true)], args := [d1, d2, d3] }
  | _ => none }
def retainAgainRow : OpenClaim := { program := "ytomlhaekhammkaa", sum := "aef6c751c197fb917e7eadb319553f62966d999846747f1c653b1513835ea9e7", func := "bilander/bilanderlaw16.RetainAgain", spec := "retainAgain", unfollowed := true, recurses := true, apart := false }
def RetainAgainSaid : Prop := retainAgainRow.holds Try.pinned (OpenSpec.ofChange retainAgainSpec)

/-- ITS FALSE NEIGHBOUR: 'it returns false'. Refute it at one input. -/
def retainAgainWrong : ChangeSpec := { name := "retainAgain", fn := fun _ => fun
  | [d1, d2, d3] => { results := [.lit (.bool false)], args := [d1, d2, d3] }
  | _ => none }
def RetainAgainWrongFalsely : Prop := retainAgainRow.holds Try.pinned (OpenSpec.ofChange retainAgainWrong)

/-- 'bilanderlaw17.CompactKeeps': WHATEVER THE INPUT: true; the input reads as it did. -/
def compactKeepsSpec : ChangeSpec := { name := "compactKeeps", fn := fun _ => fun
  | [d1, d2, d3] => { results := [.lit (.bool true)], args := [d1, d2, d3] }
  | _ => none }
def compactKeepsRow : OpenClaim := { program := "ytomlhaekhammkaa", sum := "aef6c751c197fb917e7eadb319553f62966d999846747f1c653b1513835ea9e7", func := "bilander/bilanderlaw17.CompactKeeps", spec := "compactKeeps", unfollowed := true, recurses := true, apart := false }
def CompactKeepsSaid : Prop := compactKeepsRow.holds Try.pinned (OpenSpec.ofChange compactKeepsSpec)

/-- ITS FALSE NEIGHBOUR: 'it returns false'. Refute it at one input. -/
def compactKeepsWrong : ChangeSpec := { name := "compactKeeps", fn := fun _ => fun
  | [d1, d2, d3] => { results := [.lit (.bool false)], args := [d1, d2, d3] }
  | _ => none }
def CompactKeepsWrongFalsely : Prop := compactKeepsRow.holds Try.pinned (OpenSpec.ofChange compactKeepsWrong)

/-- 'bilanderlaw17.CompactStays': WHATEVER THE INPUT: true; the input reads as it did. -/
def compactStaysSpec : ChangeSpec := { name := "compactStays", fn := fun _ => fun
  | [d1, d2, d3] => { results := [.lit (.bool true)], args := [d1, d2, d3] }
  | _ => none }
def compactStaysRow : OpenClaim := { program := "ytomlhaekhammkaa", sum := "aef6c751c197fb917e7eadb319553f62966d999846747f1c653b1513835ea9e7", func := "bilander/bilanderlaw17.CompactStays", spec := "compactStays", unfollowed := true, recurses := true, apart := false }
def CompactStaysSaid : Prop := compactStaysRow.holds Try.pinned (OpenSpec.ofChange compactStaysSpec)

/-- ITS FALSE NEIGHBOUR: 'it returns false'. Refute it at one input. -/
def compactStaysWrong : ChangeSpec := { name := "compactStays", fn := fun _ => fun
  | [d1, d2, d3] => { results := [.lit (.bool false)], args := [d1, d2, d3] }
  | _ => none }
def CompactStaysWrongFalsely : Prop := compactStaysRow.holds Try.pinned (OpenSpec.ofChange compactStaysWrong)

/-- 'bilanderlaw12.IndexAdds': WHATEVER THE INPUT: true; the input reads as it did. -/
def indexAddsSpec : ChangeSpec := { name := "indexAdds", fn := fun _ => fun
  | [d1, d2, d3] => { results := [.lit (.bool true)], args := [d1, d2, d3] }
  | _ => none }
def indexAddsRow : OpenClaim := { program := "ytomlhaekhammkaa", sum := "aef6c751c197fb917e7eadb319553f62966d999846747f1c653b1513835ea9e7", func := "bilander/bilanderlaw12.IndexAdds", spec := "indexAdds", unfollowed := true, recurses := true, apart := false }
def IndexAddsSaid : Prop := indexAddsRow.holds Try.pinned (OpenSpec.ofChange indexAddsSpec)

/-- ITS FALSE NEIGHBOUR: 'it returns false'. Refute it at one input. -/
def indexAddsWrong : ChangeSpec := { name := "indexAdds", fn := fun _ => fun
  | [d1, d2, d3] => { results := [.lit (.bool false)], args := [d1, d2, d3] }
  | _ => none }
def IndexAddsWrongFalsely : Prop := indexAddsRow.holds Try.pinned (OpenSpec.ofChange indexAddsWrong)

/-- 'bilanderlaw12.IndexFinds': WHATEVER THE INPUT: true; the input reads as it did. -/
def indexFindsSpec : ChangeSpec := { name := "indexFinds", fn := fun _ => fun
  | [d1, d2, d3] => { results := [.lit (.bool true)], args := [d1, d2, d3] }
  | _ => none }
def indexFindsRow : OpenClaim := { program := "ytomlhaekhammkaa", sum := "aef6c751c197fb917e7eadb319553f62966d999846747f1c653b1513835ea9e7", func := "bilander/bilanderlaw12.IndexFinds", spec := "indexFinds", unfollowed := true, recurses := true, apart := false }
def IndexFindsSaid : Prop := indexFindsRow.holds Try.pinned (OpenSpec.ofChange indexFindsSpec)

/-- ITS FALSE NEIGHBOUR: 'it returns false'. Refute it at one input. -/
def indexFindsWrong : ChangeSpec := { name := "indexFinds", fn := fun _ => fun
  | [d1, d2, d3] => { results := [.lit (.bool false)], args := [d1, d2, d3] }
  | _ => none }
def IndexFindsWrongFalsely : Prop := indexFindsRow.holds Try.pinned (OpenSpec.ofChange indexFindsWrong)

/-- 'bilanderlaw12.IndexNear': WHATEVER THE INPUT: true; the input reads as it did. -/
def indexNearSpec : ChangeSpec := { name := "indexNear", fn := fun _ => fun
  | [d1, d2, d3] => { results := [.lit (.bool true)], args := [d1, d2, d3] }
  | _ => none }
def indexNearRow : OpenClaim := { program := "ytomlhaekhammkaa", sum := "aef6c751c197fb917e7eadb319553f62966d999846747f1c653b1513835ea9e7", func := "bilander/bilanderlaw12.IndexNear", spec := "indexNear", unfollowed := true, recurses := true, apart := false }
def IndexNearSaid : Prop := indexNearRow.holds Try.pinned (OpenSpec.ofChange indexNearSpec)

/-- ITS FALSE NEIGHBOUR: 'it returns false'. Refute it at one input. -/
def indexNearWrong : ChangeSpec := { name := "indexNear", fn := fun _ => fun
  | [d1, d2, d3] => { results := [.lit (.bool false)], args := [d1, d2, d3] }
  | _ => none }
def IndexNearWrongFalsely : Prop := indexNearRow.holds Try.pinned (OpenSpec.ofChange indexNearWrong)

/-- 'bilanderlaw12.IndexTimes': WHATEVER THE INPUT: true; the input reads as it did. -/
def indexTimesSpec : ChangeSpec := { name := "indexTimes", fn := fun _ => fun
  | [d1, d2, d3] => { results := [.lit (.bool true)], args := [d1, d2, d3] }
  | _ => none }
def indexTimesRow : OpenClaim := { program := "ytomlhaekhammkaa", sum := "aef6c751c197fb917e7eadb319553f62966d999846747f1c653b1513835ea9e7", func := "bilander/bilanderlaw12.IndexTimes", spec := "indexTimes", unfollowed := true, recurses := true, apart := false }
def IndexTimesSaid : Prop := indexTimesRow.holds Try.pinned (OpenSpec.ofChange indexTimesSpec)

/-- ITS FALSE NEIGHBOUR: 'it returns false'. Refute it at one input. -/
def indexTimesWrong : ChangeSpec := { name := "indexTimes", fn := fun _ => fun
  | [d1, d2, d3] => { results := [.lit (.bool false)], args := [d1, d2, d3] }
  | _ => none }
def IndexTimesWrongFalsely : Prop := indexTimesRow.holds Try.pinned (OpenSpec.ofChange indexTimesWrong)

/-- 'bilanderlaw12.IndexGrows': WHATEVER THE INPUT: true; the input reads as it did. -/
def indexGrowsSpec : ChangeSpec := { name := "indexGrows", fn := fun _ => fun
  | [d1, d2, d3] => { results := [.lit (.bool true)], args := [d1, d2, d3] }
  | _ => none }
def indexGrowsRow : OpenClaim := { program := "ytomlhaekhammkaa", sum := "aef6c751c197fb917e7eadb319553f62966d999846747f1c653b1513835ea9e7", func := "bilander/bilanderlaw12.IndexGrows", spec := "indexGrows", unfollowed := true, recurses := true, apart := false }
def IndexGrowsSaid : Prop := indexGrowsRow.holds Try.pinned (OpenSpec.ofChange indexGrowsSpec)

/-- ITS FALSE NEIGHBOUR: 'it returns false'. Refute it at one input. -/
def indexGrowsWrong : ChangeSpec := { name := "indexGrows", fn := fun _ => fun
  | [d1, d2, d3] => { results := [.lit (.bool false)], args := [d1, d2, d3] }
  | _ => none }
def IndexGrowsWrongFalsely : Prop := indexGrowsRow.holds Try.pinned (OpenSpec.ofChange indexGrowsWrong)

/-- 'bilanderlaw17.CompactOnce': WHATEVER THE INPUT: true; the input reads as it did. -/
def compactOnceSpec : ChangeSpec := { name := "compactOnce", fn := fun _ => fun
  | [d1, d2, d3] => { results := [.lit (.bool true)], args := [d1, d2, d3] }
  | _ => none }
def compactOnceRow : OpenClaim := { program := "ytomlhaekhammkaa", sum := "aef6c751c197fb917e7eadb319553f62966d999846747f1c653b1513835ea9e7", func := "bilander/bilanderlaw17.CompactOnce", spec := "compactOnce", unfollowed := true, recurses := true, apart := false }
def CompactOnceSaid : Prop := compactOnceRow.holds Try.pinned (OpenSpec.ofChange compactOnceSpec)

/-- ITS FALSE NEIGHBOUR: 'it returns false'. Refute it at one input. -/
def compactOnceWrong : ChangeSpec := { name := "compactOnce", fn := fun _ => fun
  | [d1, d2, d3] => { results := [.lit (.bool false)], args := [d1, d2, d3] }
  | _ => none }
def CompactOnceWrongFalsely : Prop := compactOnceRow.holds Try.pinned (OpenSpec.ofChange compactOnceWrong)

/- THE SECOND FORM. 'bulk': how many values and letters a reading holds, each counted each time it is reached (what is shared counts as often as it is met; a slice's spare places count too). A statement '..UptoSaid' is the law's where the arguments, and the package variables that the reading takes, are together of bulk at most 1048576: NARROWER than '..Said'. Prove '..Said' where nothing that the law and all that it calls make is longer than what came in: it says more and counts as full. Else prove '..UptoSaid'. A law counts once. -/
mutual
def uptoBulk {H : Type} : DataW H → Nat
  | .lit (.string bytes) => bytes.length + 1
  | .lit _ => 1
  | .nil => 1
  | .ptr d => uptoBulk d + 1
  | .slice elems spare => uptoBulkAll elems + uptoBulkAll spare + 1
  | .agg parts => uptoBulkAll parts + 1
  | .iface _ d => uptoBulk d + 1
  | .map entries => uptoBulkEntries entries + 1
  | .held _ => 1
def uptoBulkAll {H : Type} : List (DataW H) → Nat
  | [] => 0
  | d :: r => uptoBulk d + uptoBulkAll r
def uptoBulkEntries {H : Type} : List (Lit × DataW H) → Nat
  | [] => 0
  | x :: r => uptoBulkEntry x + uptoBulkEntries r
def uptoBulkEntry {H : Type} : Lit × DataW H → Nat
  | (.string bytes, d) => bytes.length + uptoBulk d + 1
  | (_, d) => uptoBulk d + 1
 end
def uptoSmall : (H : Type) → List (DataW H) → Bool := fun _ ds => decide (uptoBulkAll ds ≤ 1048576)
def OpenSpec.upto (s : _root_.Go.ChangeSpec) : _root_.Go.OpenSpec := { _root_.Go.OpenSpec.ofChange s with cond := some uptoSmall }

/-- 'bilanderlaw16.RetainStays', WHERE WHAT IT READS IS OF BULK AT MOST 1048576: true; the input reads as it did. -/
def retainStaysUptoRow : OpenClaim := { program := "ytomlhaekhammkaa", sum := "aef6c751c197fb917e7eadb319553f62966d999846747f1c653b1513835ea9e7", func := "bilander/bilanderlaw16.RetainStays", spec := "retainStays", unfollowed := true, recurses := true, apart := false, narrowed := true }
def RetainStaysUptoSaid : Prop := retainStaysUptoRow.holds Try.pinned (OpenSpec.upto retainStaysSpec)

/-- 'bilanderlaw16.RetainAgain', WHERE WHAT IT READS IS OF BULK AT MOST 1048576: true; the input reads as it did. -/
def retainAgainUptoRow : OpenClaim := { program := "ytomlhaekhammkaa", sum := "aef6c751c197fb917e7eadb319553f62966d999846747f1c653b1513835ea9e7", func := "bilander/bilanderlaw16.RetainAgain", spec := "retainAgain", unfollowed := true, recurses := true, apart := false, narrowed := true }
def RetainAgainUptoSaid : Prop := retainAgainUptoRow.holds Try.pinned (OpenSpec.upto retainAgainSpec)

/-- 'bilanderlaw17.CompactKeeps', WHERE WHAT IT READS IS OF BULK AT MOST 1048576: true; the input reads as it did. -/
def compactKeepsUptoRow : OpenClaim := { program := "ytomlhaekhammkaa", sum := "aef6c751c197fb917e7eadb319553f62966d999846747f1c653b1513835ea9e7", func := "bilander/bilanderlaw17.CompactKeeps", spec := "compactKeeps", unfollowed := true, recurses := true, apart := false, narrowed := true }
def CompactKeepsUptoSaid : Prop := compactKeepsUptoRow.holds Try.pinned (OpenSpec.upto compactKeepsSpec)

/-- 'bilanderlaw17.CompactStays', WHERE WHAT IT READS IS OF BULK AT MOST 1048576: true; the input reads as it did. -/
def compactStaysUptoRow : OpenClaim := { program := "ytomlhaekhammkaa", sum := "aef6c751c197fb917e7eadb319553f62966d999846747f1c653b1513835ea9e7", func := "bilander/bilanderlaw17.CompactStays", spec := "compactStays", unfollowed := true, recurses := true, apart := false, narrowed := true }
def CompactStaysUptoSaid : Prop := compactStaysUptoRow.holds Try.pinned (OpenSpec.upto compactStaysSpec)

/-- 'bilanderlaw12.IndexAdds', WHERE WHAT IT READS IS OF BULK AT MOST 1048576: true; the input reads as it did. -/
def indexAddsUptoRow : OpenClaim := { program := "ytomlhaekhammkaa", sum := "aef6c751c197fb917e7eadb319553f62966d999846747f1c653b1513835ea9e7", func := "bilander/bilanderlaw12.IndexAdds", spec := "indexAdds", unfollowed := true, recurses := true, apart := false, narrowed := true }
def IndexAddsUptoSaid : Prop := indexAddsUptoRow.holds Try.pinned (OpenSpec.upto indexAddsSpec)

/-- 'bilanderlaw12.IndexFinds', WHERE WHAT IT READS IS OF BULK AT MOST 1048576: true; the input reads as it did. -/
def indexFindsUptoRow : OpenClaim := { program := "ytomlhaekhammkaa", sum := "aef6c751c197fb917e7eadb319553f62966d999846747f1c653b1513835ea9e7", func := "bilander/bilanderlaw12.IndexFinds", spec := "indexFinds", unfollowed := true, recurses := true, apart := false, narrowed := true }
def IndexFindsUptoSaid : Prop := indexFindsUptoRow.holds Try.pinned (OpenSpec.upto indexFindsSpec)

/-- 'bilanderlaw12.IndexNear', WHERE WHAT IT READS IS OF BULK AT MOST 1048576: true; the input reads as it did. -/
def indexNearUptoRow : OpenClaim := { program := "ytomlhaekhammkaa", sum := "aef6c751c197fb917e7eadb319553f62966d999846747f1c653b1513835ea9e7", func := "bilander/bilanderlaw12.IndexNear", spec := "indexNear", unfollowed := true, recurses := true, apart := false, narrowed := true }
def IndexNearUptoSaid : Prop := indexNearUptoRow.holds Try.pinned (OpenSpec.upto indexNearSpec)

/-- 'bilanderlaw12.IndexTimes', WHERE WHAT IT READS IS OF BULK AT MOST 1048576: true; the input reads as it did. -/
def indexTimesUptoRow : OpenClaim := { program := "ytomlhaekhammkaa", sum := "aef6c751c197fb917e7eadb319553f62966d999846747f1c653b1513835ea9e7", func := "bilander/bilanderlaw12.IndexTimes", spec := "indexTimes", unfollowed := true, recurses := true, apart := false, narrowed := true }
def IndexTimesUptoSaid : Prop := indexTimesUptoRow.holds Try.pinned (OpenSpec.upto indexTimesSpec)

/-- 'bilanderlaw12.IndexGrows', WHERE WHAT IT READS IS OF BULK AT MOST 1048576: true; the input reads as it did. -/
def indexGrowsUptoRow : OpenClaim := { program := "ytomlhaekhammkaa", sum := "aef6c751c197fb917e7eadb319553f62966d999846747f1c653b1513835ea9e7", func := "bilander/bilanderlaw12.IndexGrows", spec := "indexGrows", unfollowed := true, recurses := true, apart := false, narrowed := true }
def IndexGrowsUptoSaid : Prop := indexGrowsUptoRow.holds Try.pinned (OpenSpec.upto indexGrowsSpec)

/-- 'bilanderlaw17.CompactOnce', WHERE WHAT IT READS IS OF BULK AT MOST 1048576: true; the input reads as it did. -/
def compactOnceUptoRow : OpenClaim := { program := "ytomlhaekhammkaa", sum := "aef6c751c197fb917e7eadb319553f62966d999846747f1c653b1513835ea9e7", func := "bilander/bilanderlaw17.CompactOnce", spec := "compactOnce", unfollowed := true, recurses := true, apart := false, narrowed := true }
def CompactOnceUptoSaid : Prop := compactOnceUptoRow.holds Try.pinned (OpenSpec.upto compactOnceSpec)

end Rows
end Go.Proofs.Ytomlhaekhammkaa
