/-
  No cell of these rows narrows 'for every input' (looked for: loops, veiled, ifaces, maps, wideKeys, modest, calm, conditions, laid).
  DERIVED. THE GIVEN ROWS OF THIS SEAT. 6 by the template 'for every input the law returns true; each argument reads behind the call as it read before'; 0 by the template 'total and deterministic' (their statements: YtifemhfpcichfaaTotals.lean).
  GIVEN WITH THE SEED: the statements are not yours to turn. If you find one false, say at which input.
  Laid BY PROGRAM, IN A SANDBOX (cutbox-rows.mjs): the forced cells as the released guide's own fill.sh prints them over the translation 3787bd6f844be4eb… (all of the seat's roots in one cut). By AI agents, Wed Nov 11 2026. No macro, syntax, notation, axiom, sorry.
-/
import Derived.Test.YtifemhfpcichfaaChecked
import GoSem.Claim
import GoSem.ClaimJoined
import GoSem.ClaimMapViews
import Derived.JoinedTies
import Derived.KernelRfl
namespace Go.Proofs.Ytifemhfpcichfaa
/- THE CELL 'sum', in the pinned program and in every row, IS THE sha256 OF THE DUMP (.gsa) THAT YtifemhfpcichfaaProg.lean LOADS. Nothing in Lean hashes anything: it is a label: what it is worth is what the hold of that sum in a sandbox is worth. -/
noncomputable def Try.pinned : Pinned := { name := "ytifemhfpcichfaa", sum := "3787bd6f844be4ebcae6dccd6eb69ad34485076c820cdf441ed4d71d4cd28662", checked := Try.checked }
namespace Rows
def none {H : Type} : Left H := { results := [], args := [] }

/-- 'bilanderlaw06.ZoneSafe': WHATEVER THE INPUT: true; the input reads as it did. -/
def zoneSafeSpec : ChangeSpec := { name := "zoneSafe", fn := fun _ => fun
  | [d1, d2, d3] => { results := [.lit (.bool true)], args := [d1, d2, d3] }
  | _ => none }
def zoneSafeRow : OpenClaim := { program := "ytifemhfpcichfaa", sum := "3787bd6f844be4ebcae6dccd6eb69ad34485076c820cdf441ed4d71d4cd28662", func := "bilander/bilanderlaw06.ZoneSafe", spec := "zoneSafe", unfollowed := true, recurses := true, plainKeys := false, apart := false }
def ZoneSafeSaid : Prop := zoneSafeRow.holds Try.pinned (OpenSpec.ofChange zoneSafeSpec)

/-- ITS FALSE NEIGHBOUR: 'it returns false'. Refute it at one input. -/
def zoneSafeWrong : ChangeSpec := { name := "zoneSafe", fn := fun _ => fun
  | [d1, d2, d3] => { results := [.lit (.bool false)], args := [d1, d2, d3] }
  | _ => none }
def ZoneSafeWrongFalsely : Prop := zoneSafeRow.holds Try.pinned (OpenSpec.ofChange zoneSafeWrong)

/-- 'bilanderlaw06.ZoneAgain': WHATEVER THE INPUT: true; the input reads as it did. -/
def zoneAgainSpec : ChangeSpec := { name := "zoneAgain", fn := fun _ => fun
  | [d1, d2, d3] => { results := [.lit (.bool true)], args := [d1, d2, d3] }
  | _ => none }
def zoneAgainRow : OpenClaim := { program := "ytifemhfpcichfaa", sum := "3787bd6f844be4ebcae6dccd6eb69ad34485076c820cdf441ed4d71d4cd28662", func := "bilander/bilanderlaw06.ZoneAgain", spec := "zoneAgain", inPlace := ["maps.clone"], unfollowed := true, recurses := true, plainKeys := false, apart := false }
def ZoneAgainSaid : Prop := zoneAgainRow.holds Try.pinned (OpenSpec.ofChange zoneAgainSpec)

/-- ITS FALSE NEIGHBOUR: 'it returns false'. Refute it at one input. -/
def zoneAgainWrong : ChangeSpec := { name := "zoneAgain", fn := fun _ => fun
  | [d1, d2, d3] => { results := [.lit (.bool false)], args := [d1, d2, d3] }
  | _ => none }
def ZoneAgainWrongFalsely : Prop := zoneAgainRow.holds Try.pinned (OpenSpec.ofChange zoneAgainWrong)

/-- 'bilanderlaw06.ZoneApart': WHATEVER THE INPUT: true; the input reads as it did. -/
def zoneApartSpec : ChangeSpec := { name := "zoneApart", fn := fun _ => fun
  | [d1, d2] => { results := [.lit (.bool true)], args := [d1, d2] }
  | _ => none }
def zoneApartRow : OpenClaim := { program := "ytifemhfpcichfaa", sum := "3787bd6f844be4ebcae6dccd6eb69ad34485076c820cdf441ed4d71d4cd28662", func := "bilander/bilanderlaw06.ZoneApart", spec := "zoneApart", inPlace := ["maps.clone"], unfollowed := true, recurses := true, plainKeys := false, apart := false }
def ZoneApartSaid : Prop := zoneApartRow.holds Try.pinned (OpenSpec.ofChange zoneApartSpec)

/-- ITS FALSE NEIGHBOUR: 'it returns false'. Refute it at one input. -/
def zoneApartWrong : ChangeSpec := { name := "zoneApart", fn := fun _ => fun
  | [d1, d2] => { results := [.lit (.bool false)], args := [d1, d2] }
  | _ => none }
def ZoneApartWrongFalsely : Prop := zoneApartRow.holds Try.pinned (OpenSpec.ofChange zoneApartWrong)

/-- 'bilanderlaw11.ZallocOpens': WHATEVER THE INPUT: true; the input reads as it did. -/
def zallocOpensSpec : ChangeSpec := { name := "zallocOpens", fn := fun _ => fun
  | [d] => { results := [.lit (.bool true)], args := [d] }
  | _ => none }
def zallocOpensRow : OpenClaim := { program := "ytifemhfpcichfaa", sum := "3787bd6f844be4ebcae6dccd6eb69ad34485076c820cdf441ed4d71d4cd28662", func := "bilander/bilanderlaw11.ZallocOpens", spec := "zallocOpens", unfollowed := true, recurses := true, plainKeys := false, apart := false }
def ZallocOpensSaid : Prop := zallocOpensRow.holds Try.pinned (OpenSpec.ofChange zallocOpensSpec)

/-- ITS FALSE NEIGHBOUR: 'it returns false'. Refute it at one input. -/
def zallocOpensWrong : ChangeSpec := { name := "zallocOpens", fn := fun _ => fun
  | [d] => { results := [.lit (.bool false)], args := [d] }
  | _ => none }
def ZallocOpensWrongFalsely : Prop := zallocOpensRow.holds Try.pinned (OpenSpec.ofChange zallocOpensWrong)

/-- 'bilanderlaw11.ZallocOne': WHATEVER THE INPUT: true; the input reads as it did. -/
def zallocOneSpec : ChangeSpec := { name := "zallocOne", fn := fun _ => fun
  | [d1, d2, d3] => { results := [.lit (.bool true)], args := [d1, d2, d3] }
  | _ => none }
def zallocOneRow : OpenClaim := { program := "ytifemhfpcichfaa", sum := "3787bd6f844be4ebcae6dccd6eb69ad34485076c820cdf441ed4d71d4cd28662", func := "bilander/bilanderlaw11.ZallocOne", spec := "zallocOne", unfollowed := true, recurses := true, plainKeys := false, apart := false }
def ZallocOneSaid : Prop := zallocOneRow.holds Try.pinned (OpenSpec.ofChange zallocOneSpec)

/-- ITS FALSE NEIGHBOUR: 'it returns false'. Refute it at one input. -/
def zallocOneWrong : ChangeSpec := { name := "zallocOne", fn := fun _ => fun
  | [d1, d2, d3] => { results := [.lit (.bool false)], args := [d1, d2, d3] }
  | _ => none }
def ZallocOneWrongFalsely : Prop := zallocOneRow.holds Try.pinned (OpenSpec.ofChange zallocOneWrong)

/-- 'bilanderlaw11.ZallocSweeps': WHATEVER THE INPUT: true; the input reads as it did. -/
def zallocSweepsSpec : ChangeSpec := { name := "zallocSweeps", fn := fun _ => fun
  | [d1, d2, d3] => { results := [.lit (.bool true)], args := [d1, d2, d3] }
  | _ => none }
def zallocSweepsRow : OpenClaim := { program := "ytifemhfpcichfaa", sum := "3787bd6f844be4ebcae6dccd6eb69ad34485076c820cdf441ed4d71d4cd28662", func := "bilander/bilanderlaw11.ZallocSweeps", spec := "zallocSweeps", inPlace := ["maps.clone"], unfollowed := true, recurses := true, plainKeys := false, apart := false }
def ZallocSweepsSaid : Prop := zallocSweepsRow.holds Try.pinned (OpenSpec.ofChange zallocSweepsSpec)

/-- ITS FALSE NEIGHBOUR: 'it returns false'. Refute it at one input. -/
def zallocSweepsWrong : ChangeSpec := { name := "zallocSweeps", fn := fun _ => fun
  | [d1, d2, d3] => { results := [.lit (.bool false)], args := [d1, d2, d3] }
  | _ => none }
def ZallocSweepsWrongFalsely : Prop := zallocSweepsRow.holds Try.pinned (OpenSpec.ofChange zallocSweepsWrong)

/- THE SECOND FORM. 'bulk': how many values and letters a reading holds, each counted each time it is reached (what is shared counts as often as it is met; a slice's spare places count too). A statement '..UptoSaid' is the law's where the arguments, and the package variables that the reading takes, are together of bulk at most 1048576: NARROWER than '..Said'. Prove '..Said' where nothing that the law and all that it calls make is longer than what came in: it says more and counts as full. Else prove '..UptoSaid'. A law counts once. -/
mutual
def uptoBulk {H : Type} : DataW H → Nat
  | .lit (.string bytes) => bytes.length + 1
  | .lit _ => 1
  | .nil => 1
  | .ptr d => uptoBulk d + 1
  | .slice elems spare => uptoBulkAll elems + uptoBulkAll spare + 1
  | .agg parts => uptoBulkAll parts + 1
  | .iface _ d => uptoBulk d + 1
  | .map entries => uptoBulkEntries entries + 1
  | .held _ => 1
def uptoBulkAll {H : Type} : List (DataW H) → Nat
  | [] => 0
  | d :: r => uptoBulk d + uptoBulkAll r
def uptoBulkEntries {H : Type} : List (Lit × DataW H) → Nat
  | [] => 0
  | x :: r => uptoBulkEntry x + uptoBulkEntries r
def uptoBulkEntry {H : Type} : Lit × DataW H → Nat
  | (.string bytes, d) => bytes.length + uptoBulk d + 1
  | (_, d) => uptoBulk d + 1
 end
def uptoSmall : (H : Type) → List (DataW H) → Bool := fun _ ds => decide (uptoBulkAll ds ≤ 1048576)
def OpenSpec.upto (s : _root_.Go.ChangeSpec) : _root_.Go.OpenSpec := { _root_.Go.OpenSpec.ofChange s with cond := some uptoSmall }

/-- 'bilanderlaw06.ZoneSafe', WHERE WHAT IT READS IS OF BULK AT MOST 1048576: true; the input reads as it did. -/
def zoneSafeUptoRow : OpenClaim := { program := "ytifemhfpcichfaa", sum := "3787bd6f844be4ebcae6dccd6eb69ad34485076c820cdf441ed4d71d4cd28662", func := "bilander/bilanderlaw06.ZoneSafe", spec := "zoneSafe", unfollowed := true, recurses := true, plainKeys := false, apart := false, narrowed := true }
def ZoneSafeUptoSaid : Prop := zoneSafeUptoRow.holds Try.pinned (OpenSpec.upto zoneSafeSpec)

/-- 'bilanderlaw06.ZoneAgain', WHERE WHAT IT READS IS OF BULK AT MOST 1048576: true; the input reads as it did. -/
def zoneAgainUptoRow : OpenClaim := { program := "ytifemhfpcichfaa", sum := "3787bd6f844be4ebcae6dccd6eb69ad34485076c820cdf441ed4d71d4cd28662", func := "bilander/bilanderlaw06.ZoneAgain", spec := "zoneAgain", inPlace := ["maps.clone"], unfollowed := true, recurses := true, plainKeys := false, apart := false, narrowed := true }
def ZoneAgainUptoSaid : Prop := zoneAgainUptoRow.holds Try.pinned (OpenSpec.upto zoneAgainSpec)

/-- 'bilanderlaw06.ZoneApart', WHERE WHAT IT READS IS OF BULK AT MOST 1048576: true; the input reads as it did. -/
def zoneApartUptoRow : OpenClaim := { program := "ytifemhfpcichfaa", sum := "3787bd6f844be4ebcae6dccd6eb69ad34485076c820cdf441ed4d71d4cd28662", func := "bilander/bilanderlaw06.ZoneApart", spec := "zoneApart", inPlace := ["maps.clone"], unfollowed := true, recurses := true, plainKeys := false, apart := false, narrowed := true }
def ZoneApartUptoSaid : Prop := zoneApartUptoRow.holds Try.pinned (OpenSpec.upto zoneApartSpec)

/-- 'bilanderlaw11.ZallocOpens', WHERE WHAT IT READS IS OF BULK AT MOST 1048576: true; the input reads as it did. -/
def zallocOpensUptoRow : OpenClaim := { program := "ytifemhfpcichfaa", sum := "3787bd6f844be4ebcae6dccd6eb69ad34485076c820cdf441ed4d71d4cd28662", func := "bilander/bilanderlaw11.ZallocOpens", spec := "zallocOpens", unfollowed := true, recurses := true, plainKeys := false, apart := false, narrowed := true }
def ZallocOpensUptoSaid : Prop := zallocOpensUptoRow.holds Try.pinned (OpenSpec.upto zallocOpensSpec)

/-- 'bilanderlaw11.ZallocOne', WHERE WHAT IT READS IS OF BULK AT MOST 1048576: true; the input reads as it did. -/
def zallocOneUptoRow : OpenClaim := { program := "ytifemhfpcichfaa", sum := "3787bd6f844be4ebcae6dccd6eb69ad34485076c820cdf441ed4d71d4cd28662", func := "bilander/bilanderlaw11.ZallocOne", spec := "zallocOne", unfollowed := true, recurses := true, plainKeys := false, apart := false, narrowed := true }
def ZallocOneUptoSaid : Prop := zallocOneUptoRow.holds Try.pinned (OpenSpec.upto zallocOneSpec)

/-- 'bilanderlaw11.ZallocSweeps', WHERE WHAT IT READS IS OF BULK AT MOST 1048576: true; the input reads as it did. -/
def zallocSweepsUptoRow : OpenClaim := { program := "ytifemhfpcichfaa", sum := "3787bd6f844be4ebcae6dccd6eb69ad34485076c820cdf441ed4d71d4cd28662", func := "bilander/bilanderlaw11.ZallocSweeps", spec := "zallocSweeps", inPlace := ["maps.clone"], unfollowed := true, recurses := true, plainKeys := false, apart := false, narrowed := true }
def ZallocSweepsUptoSaid : Prop := zallocSweepsUptoRow.holds Try.pinned (OpenSpec.upto zallocSweepsSpec)

end Rows
end Go.Proofs.Ytifemhfpcichfaa
