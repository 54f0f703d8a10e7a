/-
  No cell of these rows narrows 'for every input' (looked for: loops, veiled, ifaces, maps, wideKeys, modest, calm, conditions, laid).
  DERIVED. THE GIVEN ROWS OF THIS SEAT. 7 by the template 'for every input the law returns true; each argument reads behind the call as it read before'; 0 by the template 'total and deterministic' (their statements: YtmfkliabjfngmaaTotals.lean).
  GIVEN WITH THE SEED: the statements are not yours to turn. If you find one false, say at which input.
  Laid BY PROGRAM, IN A SANDBOX (cutbox-rows.mjs): the forced cells as the released guide's own fill.sh prints them over the translation 1f4064daf85dc779… (all of the seat's roots in one cut). By AI agents, Wed Nov 11 2026. No macro, syntax, notation, axiom, sorry.
-/
import Derived.Test.YtmfkliabjfngmaaChecked
import GoSem.Claim
import GoSem.ClaimJoined
import GoSem.ClaimMapViews
import Derived.JoinedTies
import Derived.KernelRfl
namespace Go.Proofs.Ytmfkliabjfngmaa
/- THE CELL 'sum', in the pinned program and in every row, IS THE sha256 OF THE DUMP (.gsa) THAT YtmfkliabjfngmaaProg.lean LOADS. Nothing in Lean hashes anything: it is a label: what it is worth is what the hold of that sum in a sandbox is worth. -/
noncomputable def Try.pinned : Pinned := { name := "ytmfkliabjfngmaa", sum := "1f4064daf85dc7793b0b992fd9ad2060c91cdf5eec4b3eadaba61e5f48376118", checked := Try.checked }
namespace Rows
def none {H : Type} : Left H := { results := [], args := [] }

/-- 'bilanderlaw19.AssignGives': WHATEVER THE INPUT: true; the input reads as it did. -/
def assignGivesSpec : ChangeSpec := { name := "assignGives", fn := fun _ => fun
  | [d1, d2, d3] => { results := [.lit (.bool true)], args := [d1, d2, d3] }
  | _ => none }
def assignGivesRow : OpenClaim := { program := "ytmfkliabjfngmaa", sum := "1f4064daf85dc7793b0b992fd9ad2060c91cdf5eec4b3eadaba61e5f48376118", func := "bilander/bilanderlaw19.AssignGives", spec := "assignGives", recurses := true, apart := false }
def AssignGivesSaid : Prop := assignGivesRow.holds Try.pinned (OpenSpec.ofChange assignGivesSpec)

/-- ITS FALSE NEIGHBOUR: 'it returns false'. Refute it at one input. -/
def assignGivesWrong : ChangeSpec := { name := "assignGives", fn := fun _ => fun
  | [d1, d2, d3] => { results := [.lit (.bool false)], args := [d1, d2, d3] }
  | _ => none }
def AssignGivesWrongFalsely : Prop := assignGivesRow.holds Try.pinned (OpenSpec.ofChange assignGivesWrong)

/-- 'bilanderlaw19.AssignOnce': WHATEVER THE INPUT: true; the input reads as it did. -/
def assignOnceSpec : ChangeSpec := { name := "assignOnce", fn := fun _ => fun
  | [d1, d2] => { results := [.lit (.bool true)], args := [d1, d2] }
  | _ => none }
def assignOnceRow : OpenClaim := { program := "ytmfkliabjfngmaa", sum := "1f4064daf85dc7793b0b992fd9ad2060c91cdf5eec4b3eadaba61e5f48376118", func := "bilander/bilanderlaw19.AssignOnce", spec := "assignOnce", recurses := true, apart := false }
def AssignOnceSaid : Prop := assignOnceRow.holds Try.pinned (OpenSpec.ofChange assignOnceSpec)

/-- ITS FALSE NEIGHBOUR: 'it returns false'. Refute it at one input. -/
def assignOnceWrong : ChangeSpec := { name := "assignOnce", fn := fun _ => fun
  | [d1, d2] => { results := [.lit (.bool false)], args := [d1, d2] }
  | _ => none }
def AssignOnceWrongFalsely : Prop := assignOnceRow.holds Try.pinned (OpenSpec.ofChange assignOnceWrong)

/-- 'bilanderlaw19.AssignOrder': WHATEVER THE INPUT: true; the input reads as it did. -/
def assignOrderSpec : ChangeSpec := { name := "assignOrder", fn := fun _ => fun
  | [d1, d2] => { results := [.lit (.bool true)], args := [d1, d2] }
  | _ => none }
def assignOrderRow : OpenClaim := { program := "ytmfkliabjfngmaa", sum := "1f4064daf85dc7793b0b992fd9ad2060c91cdf5eec4b3eadaba61e5f48376118", func := "bilander/bilanderlaw19.AssignOrder", spec := "assignOrder", recurses := true, apart := false }
def AssignOrderSaid : Prop := assignOrderRow.holds Try.pinned (OpenSpec.ofChange assignOrderSpec)

/-- ITS FALSE NEIGHBOUR: 'it returns false'. Refute it at one input. -/
def assignOrderWrong : ChangeSpec := { name := "assignOrder", fn := fun _ => fun
  | [d1, d2] => { results := [.lit (.bool false)], args := [d1, d2] }
  | _ => none }
def AssignOrderWrongFalsely : Prop := assignOrderRow.holds Try.pinned (OpenSpec.ofChange assignOrderWrong)

/-- 'bilanderlaw20.GroupCalls': WHATEVER THE INPUT: true; the input reads as it did. -/
def groupCallsSpec : ChangeSpec := { name := "groupCalls", fn := fun _ => fun
  | [d1, d2] => { results := [.lit (.bool true)], args := [d1, d2] }
  | _ => none }
def groupCallsRow : OpenClaim := { program := "ytmfkliabjfngmaa", sum := "1f4064daf85dc7793b0b992fd9ad2060c91cdf5eec4b3eadaba61e5f48376118", func := "bilander/bilanderlaw20.GroupCalls", spec := "groupCalls", inPlace := ["slices.overlaps[bilander/group.Member]"], unfollowed := true, recurses := true, apart := false }
def GroupCallsSaid : Prop := groupCallsRow.holds Try.pinned (OpenSpec.ofChange groupCallsSpec)

/-- ITS FALSE NEIGHBOUR: 'it returns false'. Refute it at one input. -/
def groupCallsWrong : ChangeSpec := { name := "groupCalls", fn := fun _ => fun
  | [d1, d2] => { results := [.lit (.bool false)], args := [d1, d2] }
  | _ => none }
def GroupCallsWrongFalsely : Prop := groupCallsRow.holds Try.pinned (OpenSpec.ofChange groupCallsWrong)

/-- 'bilanderlaw20.GroupMay': WHATEVER THE INPUT: true; the input reads as it did. -/
def groupMaySpec : ChangeSpec := { name := "groupMay", fn := fun _ => fun
  | [d] => { results := [.lit (.bool true)], args := [d] }
  | _ => none }
def groupMayRow : OpenClaim := { program := "ytmfkliabjfngmaa", sum := "1f4064daf85dc7793b0b992fd9ad2060c91cdf5eec4b3eadaba61e5f48376118", func := "bilander/bilanderlaw20.GroupMay", spec := "groupMay", inPlace := ["slices.overlaps[bilander/group.Member]"], unfollowed := true, recurses := true, apart := false }
def GroupMaySaid : Prop := groupMayRow.holds Try.pinned (OpenSpec.ofChange groupMaySpec)

/-- ITS FALSE NEIGHBOUR: 'it returns false'. Refute it at one input. -/
def groupMayWrong : ChangeSpec := { name := "groupMay", fn := fun _ => fun
  | [d] => { results := [.lit (.bool false)], args := [d] }
  | _ => none }
def GroupMayWrongFalsely : Prop := groupMayRow.holds Try.pinned (OpenSpec.ofChange groupMayWrong)

/-- 'bilanderlaw20.GroupParts': WHATEVER THE INPUT: true; the input reads as it did. -/
def groupPartsSpec : ChangeSpec := { name := "groupParts", fn := fun _ => fun
  | [d1, d2] => { results := [.lit (.bool true)], args := [d1, d2] }
  | _ => none }
def groupPartsRow : OpenClaim := { program := "ytmfkliabjfngmaa", sum := "1f4064daf85dc7793b0b992fd9ad2060c91cdf5eec4b3eadaba61e5f48376118", func := "bilander/bilanderlaw20.GroupParts", spec := "groupParts", inPlace := ["slices.overlaps[bilander/group.Member]"], unfollowed := true, recurses := true, apart := false }
def GroupPartsSaid : Prop := groupPartsRow.holds Try.pinned (OpenSpec.ofChange groupPartsSpec)

/-- ITS FALSE NEIGHBOUR: 'it returns false'. Refute it at one input. -/
def groupPartsWrong : ChangeSpec := { name := "groupParts", fn := fun _ => fun
  | [d1, d2] => { results := [.lit (.bool false)], args := [d1, d2] }
  | _ => none }
def GroupPartsWrongFalsely : Prop := groupPartsRow.holds Try.pinned (OpenSpec.ofChange groupPartsWrong)

/-- 'bilanderlaw20.GroupReturns': WHATEVER THE INPUT: true; the input reads as it did. -/
def groupReturnsSpec : ChangeSpec := { name := "groupReturns", fn := fun _ => fun
  | [d1, d2, d3] => { results := [.lit (.bool true)], args := [d1, d2, d3] }
  | _ => none }
def groupReturnsRow : OpenClaim := { program := "ytmfkliabjfngmaa", sum := "1f4064daf85dc7793b0b992fd9ad2060c91cdf5eec4b3eadaba61e5f48376118", func := "bilander/bilanderlaw20.GroupReturns", spec := "groupReturns", inPlace := ["slices.overlaps[bilander/group.Member]"], unfollowed := true, recurses := true, apart := false }
def GroupReturnsSaid : Prop := groupReturnsRow.holds Try.pinned (OpenSpec.ofChange groupReturnsSpec)

/-- ITS FALSE NEIGHBOUR: 'it returns false'. Refute it at one input. -/
def groupReturnsWrong : ChangeSpec := { name := "groupReturns", fn := fun _ => fun
  | [d1, d2, d3] => { results := [.lit (.bool false)], args := [d1, d2, d3] }
  | _ => none }
def GroupReturnsWrongFalsely : Prop := groupReturnsRow.holds Try.pinned (OpenSpec.ofChange groupReturnsWrong)

/- THE SECOND FORM. 'bulk': how many values and letters a reading holds, each counted each time it is reached (what is shared counts as often as it is met; a slice's spare places count too). A statement '..UptoSaid' is the law's where the arguments, and the package variables that the reading takes, are together of bulk at most 1048576: NARROWER than '..Said'. Prove '..Said' where nothing that the law and all that it calls make is longer than what came in: it says more and counts as full. Else prove '..UptoSaid'. A law counts once. -/
mutual
def uptoBulk {H : Type} : DataW H → Nat
  | .lit (.string bytes) => bytes.length + 1
  | .lit _ => 1
  | .nil => 1
  | .ptr d => uptoBulk d + 1
  | .slice elems spare => uptoBulkAll elems + uptoBulkAll spare + 1
  | .agg parts => uptoBulkAll parts + 1
  | .iface _ d => uptoBulk d + 1
  | .map entries => uptoBulkEntries entries + 1
  | .held _ => 1
def uptoBulkAll {H : Type} : List (DataW H) → Nat
  | [] => 0
  | d :: r => uptoBulk d + uptoBulkAll r
def uptoBulkEntries {H : Type} : List (Lit × DataW H) → Nat
  | [] => 0
  | x :: r => uptoBulkEntry x + uptoBulkEntries r
def uptoBulkEntry {H : Type} : Lit × DataW H → Nat
  | (.string bytes, d) => bytes.length + uptoBulk d + 1
  | (_, d) => uptoBulk d + 1
 end
def uptoSmall : (H : Type) → List (DataW H) → Bool := fun _ ds => decide (uptoBulkAll ds ≤ 1048576)
def OpenSpec.upto (s : _root_.Go.ChangeSpec) : _root_.Go.OpenSpec := { _root_.Go.OpenSpec.ofChange s with cond := some uptoSmall }

/-- 'bilanderlaw19.AssignGives', WHERE WHAT IT READS IS OF BULK AT MOST 1048576: true; the input reads as it did. -/
def assignGivesUptoRow : OpenClaim := { program := "ytmfkliabjfngmaa", sum := "1f4064daf85dc7793b0b992fd9ad2060c91cdf5eec4b3eadaba61e5f48376118", func := "bilander/bilanderlaw19.AssignGives", spec := "assignGives", recurses := true, apart := false, narrowed := true }
def AssignGivesUptoSaid : Prop := assignGivesUptoRow.holds Try.pinned (OpenSpec.upto assignGivesSpec)

/-- 'bilanderlaw19.AssignOnce', WHERE WHAT IT READS IS OF BULK AT MOST 1048576: true; the input reads as it did. -/
def assignOnceUptoRow : OpenClaim := { program := "ytmfkliabjfngmaa", sum := "1f4064daf85dc7793b0b992fd9ad2060c91cdf5eec4b3eadaba61e5f48376118", func := "bilander/bilanderlaw19.AssignOnce", spec := "assignOnce", recurses := true, apart := false, narrowed := true }
def AssignOnceUptoSaid : Prop := assignOnceUptoRow.holds Try.pinned (OpenSpec.upto assignOnceSpec)

/-- 'bilanderlaw19.AssignOrder', WHERE WHAT IT READS IS OF BULK AT MOST 1048576: true; the input reads as it did. -/
def assignOrderUptoRow : OpenClaim := { program := "ytmfkliabjfngmaa", sum := "1f4064daf85dc7793b0b992fd9ad2060c91cdf5eec4b3eadaba61e5f48376118", func := "bilander/bilanderlaw19.AssignOrder", spec := "assignOrder", recurses := true, apart := false, narrowed := true }
def AssignOrderUptoSaid : Prop := assignOrderUptoRow.holds Try.pinned (OpenSpec.upto assignOrderSpec)

/-- 'bilanderlaw20.GroupCalls', WHERE WHAT IT READS IS OF BULK AT MOST 1048576: true; the input reads as it did. -/
def groupCallsUptoRow : OpenClaim := { program := "ytmfkliabjfngmaa", sum := "1f4064daf85dc7793b0b992fd9ad2060c91cdf5eec4b3eadaba61e5f48376118", func := "bilander/bilanderlaw20.GroupCalls", spec := "groupCalls", inPlace := ["slices.overlaps[bilander/group.Member]"], unfollowed := true, recurses := true, apart := false, narrowed := true }
def GroupCallsUptoSaid : Prop := groupCallsUptoRow.holds Try.pinned (OpenSpec.upto groupCallsSpec)

/-- 'bilanderlaw20.GroupMay', WHERE WHAT IT READS IS OF BULK AT MOST 1048576: true; the input reads as it did. -/
def groupMayUptoRow : OpenClaim := { program := "ytmfkliabjfngmaa", sum := "1f4064daf85dc7793b0b992fd9ad2060c91cdf5eec4b3eadaba61e5f48376118", func := "bilander/bilanderlaw20.GroupMay", spec := "groupMay", inPlace := ["slices.overlaps[bilander/group.Member]"], unfollowed := true, recurses := true, apart := false, narrowed := true }
def GroupMayUptoSaid : Prop := groupMayUptoRow.holds Try.pinned (OpenSpec.upto groupMaySpec)

/-- 'bilanderlaw20.GroupParts', WHERE WHAT IT READS IS OF BULK AT MOST 1048576: true; the input reads as it did. -/
def groupPartsUptoRow : OpenClaim := { program := "ytmfkliabjfngmaa", sum := "1f4064daf85dc7793b0b992fd9ad2060c91cdf5eec4b3eadaba61e5f48376118", func := "bilander/bilanderlaw20.GroupParts", spec := "groupParts", inPlace := ["slices.overlaps[bilander/group.Member]"], unfollowed := true, recurses := true, apart := false, narrowed := true }
def GroupPartsUptoSaid : Prop := groupPartsUptoRow.holds Try.pinned (OpenSpec.upto groupPartsSpec)

/-- 'bilanderlaw20.GroupReturns', WHERE WHAT IT READS IS OF BULK AT MOST 1048576: true; the input reads as it did. -/
def groupReturnsUptoRow : OpenClaim := { program := "ytmfkliabjfngmaa", sum := "1f4064daf85dc7793b0b992fd9ad2060c91cdf5eec4b3eadaba61e5f48376118", func := "bilander/bilanderlaw20.GroupReturns", spec := "groupReturns", inPlace := ["slices.overlaps[bilander/group.Member]"], unfollowed := true, recurses := true, apart := false, narrowed := true }
def GroupReturnsUptoSaid : Prop := groupReturnsUptoRow.holds Try.pinned (OpenSpec.upto groupReturnsSpec)

end Rows
end Go.Proofs.Ytmfkliabjfngmaa
