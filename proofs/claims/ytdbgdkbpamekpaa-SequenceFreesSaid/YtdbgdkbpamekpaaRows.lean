/-
  No cell of these rows narrows 'for every input' (looked for: loops, veiled, ifaces, maps, wideKeys, modest, calm, conditions, laid).
  DERIVED. THE GIVEN ROWS OF THIS SEAT. 7 by the template 'for every input the law returns true; each argument reads behind the call as it read before'; 0 by the template 'total and deterministic' (their statements: YtdbgdkbpamekpaaTotals.lean).
  GIVEN WITH THE SEED: the statements are not yours to turn. If you find one false, say at which input.
  Laid BY PROGRAM, IN A SANDBOX (cutbox-rows.mjs): the forced cells as the released guide's own fill.sh prints them over the translation 119d17eb5c920dcb… (all of the seat's roots in one cut). By AI agents, Wed Nov 11 2026. No macro, syntax, notation, axiom, sorry.
-/
import Derived.Test.YtdbgdkbpamekpaaChecked
import GoSem.Claim
import GoSem.ClaimJoined
import GoSem.ClaimMapViews
import Derived.JoinedTies
import Derived.KernelRfl
namespace Go.Proofs.Ytdbgdkbpamekpaa
/- THE CELL 'sum', in the pinned program and in every row, IS THE sha256 OF THE DUMP (.gsa) THAT YtdbgdkbpamekpaaProg.lean LOADS. Nothing in Lean hashes anything: it is a label: what it is worth is what the hold of that sum in a sandbox is worth. -/
noncomputable def Try.pinned : Pinned := { name := "ytdbgdkbpamekpaa", sum := "119d17eb5c920dcb2de3931377f5aff143dcccd13385e7589adba1040f5dba38", checked := Try.checked }
namespace Rows
def none {H : Type} : Left H := { results := [], args := [] }

/-- 'treemergelaw32.SequenceWhole': WHATEVER THE INPUT: true; the input reads as it did. -/
def sequenceWholeSpec : ChangeSpec := { name := "sequenceWhole", fn := fun _ => fun
  | [d1, d2, d3, d4] => { results := [.lit (.bool true)], args := [d1, d2, d3, d4] }
  | _ => none }
def sequenceWholeRow : OpenClaim := { program := "ytdbgdkbpamekpaa", sum := "119d17eb5c920dcb2de3931377f5aff143dcccd13385e7589adba1040f5dba38", func := "treemerge/treemergelaw32.SequenceWhole", spec := "sequenceWhole", inPlace := ["internal/reflectlite.ValueOf", "internal/reflectlite.Swapper", "(internal/reflectlite.Value).Len"], unfollowed := true, recurses := true, apart := false }
def SequenceWholeSaid : Prop := sequenceWholeRow.holds Try.pinned (OpenSpec.ofChange sequenceWholeSpec)

/-- ITS FALSE NEIGHBOUR: 'it returns false'. Refute it at one input. -/
def sequenceWholeWrong : ChangeSpec := { name := "sequenceWhole", fn := fun _ => fun
  | [d1, d2, d3, d4] => { results := [.lit (.bool false)], args := [d1, d2, d3, d4] }
  | _ => none }
def SequenceWholeWrongFalsely : Prop := sequenceWholeRow.holds Try.pinned (OpenSpec.ofChange sequenceWholeWrong)

/-- 'treemergelaw32.SequenceInserts': WHATEVER THE INPUT: true; the input reads as it did. -/
def sequenceInsertsSpec : ChangeSpec := { name := "sequenceInserts", fn := fun _ => fun
  | [d1, d2, d3] => { results := [.lit (.bool true)], args := [d1, d2, d3] }
  | _ => none }
def sequenceInsertsRow : OpenClaim := { program := "ytdbgdkbpamekpaa", sum := "119d17eb5c920dcb2de3931377f5aff143dcccd13385e7589adba1040f5dba38", func := "treemerge/treemergelaw32.SequenceInserts", spec := "sequenceInserts", inPlace := ["internal/reflectlite.ValueOf", "internal/reflectlite.Swapper", "(internal/reflectlite.Value).Len"], unfollowed := true, recurses := true, apart := false }
def SequenceInsertsSaid : Prop := sequenceInsertsRow.holds Try.pinned (OpenSpec.ofChange sequenceInsertsSpec)

/-- ITS FALSE NEIGHBOUR: 'it returns false'. Refute it at one input. -/
def sequenceInsertsWrong : ChangeSpec := { name := "sequenceInserts", fn := fun _ => fun
  | [d1, d2, d3] => { results := [.lit (.bool false)], args := [d1, d2, d3] }
  | _ => none }
def SequenceInsertsWrongFalsely : Prop := sequenceInsertsRow.holds Try.pinned (OpenSpec.ofChange sequenceInsertsWrong)

/-- 'treemergelaw32.SequenceMerges': WHATEVER THE INPUT: true; the input reads as it did. -/
def sequenceMergesSpec : ChangeSpec := { name := "sequenceMerges", fn := fun _ => fun
  | [d1, d2, d3] => { results := [.lit (.bool true)], args := [d1, d2, d3] }
  | _ => none }
def sequenceMergesRow : OpenClaim := { program := "ytdbgdkbpamekpaa", sum := "119d17eb5c920dcb2de3931377f5aff143dcccd13385e7589adba1040f5dba38", func := "treemerge/treemergelaw32.SequenceMerges", spec := "sequenceMerges", inPlace := ["internal/reflectlite.ValueOf", "internal/reflectlite.Swapper", "(internal/reflectlite.Value).Len"], unfollowed := true, recurses := true, apart := false }
def SequenceMergesSaid : Prop := sequenceMergesRow.holds Try.pinned (OpenSpec.ofChange sequenceMergesSpec)

/-- ITS FALSE NEIGHBOUR: 'it returns false'. Refute it at one input. -/
def sequenceMergesWrong : ChangeSpec := { name := "sequenceMerges", fn := fun _ => fun
  | [d1, d2, d3] => { results := [.lit (.bool false)], args := [d1, d2, d3] }
  | _ => none }
def SequenceMergesWrongFalsely : Prop := sequenceMergesRow.holds Try.pinned (OpenSpec.ofChange sequenceMergesWrong)

/-- 'treemergelaw32.SequenceFrees': WHATEVER THE INPUT: true; the input reads as it did. -/
def sequenceFreesSpec : ChangeSpec := { name := "sequenceFrees", fn := fun _ => fun
  | [d1, d2, d3, d4] => { results := [.lit (.bool true)], args := [d1, d2, d3, d4] }
  | _ => none }
def sequenceFreesRow : OpenClaim := { program := "ytdbgdkbpamekpaa", sum := "119d17eb5c920dcb2de3931377f5aff143dcccd13385e7589adba1040f5dba38", func := "treemerge/treemergelaw32.SequenceFrees", spec := "sequenceFrees", inPlace := ["internal/reflectlite.ValueOf", "internal/reflectlite.Swapper", "(internal/reflectlite.Value).Len"], unfollowed := true, recurses := true, apart := false }
def SequenceFreesSaid : Prop := sequenceFreesRow.holds Try.pinned (OpenSpec.ofChange sequenceFreesSpec)

/-- ITS FALSE NEIGHBOUR: 'it returns false'. Refute it at one input. -/
def sequenceFreesWrong : ChangeSpec := { name := "sequenceFrees", fn := fun _ => fun
  | [d1, d2, d3, d4] => { results := [.lit (.bool false)], args := [d1, d2, d3, d4] }
  | _ => none }
def SequenceFreesWrongFalsely : Prop := sequenceFreesRow.holds Try.pinned (OpenSpec.ofChange sequenceFreesWrong)

/-- 'treemergelaw32.SequenceKept': WHATEVER THE INPUT: true; the input reads as it did. -/
def sequenceKeptSpec : ChangeSpec := { name := "sequenceKept", fn := fun _ => fun
  | [d1, d2, d3] => { results := [.lit (.bool true)], args := [d1, d2, d3] }
  | _ => none }
def sequenceKeptRow : OpenClaim := { program := "ytdbgdkbpamekpaa", sum := "119d17eb5c920dcb2de3931377f5aff143dcccd13385e7589adba1040f5dba38", func := "treemerge/treemergelaw32.SequenceKept", spec := "sequenceKept", inPlace := ["internal/reflectlite.ValueOf", "internal/reflectlite.Swapper", "(internal/reflectlite.Value).Len"], unfollowed := true, recurses := true, apart := false }
def SequenceKeptSaid : Prop := sequenceKeptRow.holds Try.pinned (OpenSpec.ofChange sequenceKeptSpec)

/-- ITS FALSE NEIGHBOUR: 'it returns false'. Refute it at one input. -/
def sequenceKeptWrong : ChangeSpec := { name := "sequenceKept", fn := fun _ => fun
  | [d1, d2, d3] => { results := [.lit (.bool false)], args := [d1, d2, d3] }
  | _ => none }
def SequenceKeptWrongFalsely : Prop := sequenceKeptRow.holds Try.pinned (OpenSpec.ofChange sequenceKeptWrong)

/-- 'treemergelaw32.SequenceSides': WHATEVER THE INPUT: true; the input reads as it did. -/
def sequenceSidesSpec : ChangeSpec := { name := "sequenceSides", fn := fun _ => fun
  | [d1, d2] => { results := [.lit (.bool true)], args := [d1, d2] }
  | _ => none }
def sequenceSidesRow : OpenClaim := { program := "ytdbgdkbpamekpaa", sum := "119d17eb5c920dcb2de3931377f5aff143dcccd13385e7589adba1040f5dba38", func := "treemerge/treemergelaw32.SequenceSides", spec := "sequenceSides", inPlace := ["internal/reflectlite.ValueOf", "internal/reflectlite.Swapper", "(internal/reflectlite.Value).Len"], unfollowed := true, recurses := true, apart := false }
def SequenceSidesSaid : Prop := sequenceSidesRow.holds Try.pinned (OpenSpec.ofChange sequenceSidesSpec)

/-- ITS FALSE NEIGHBOUR: 'it returns false'. Refute it at one input. -/
def sequenceSidesWrong : ChangeSpec := { name := "sequenceSides", fn := fun _ => fun
  | [d1, d2] => { results := [.lit (.bool false)], args := [d1, d2] }
  | _ => none }
def SequenceSidesWrongFalsely : Prop := sequenceSidesRow.holds Try.pinned (OpenSpec.ofChange sequenceSidesWrong)

/-- 'treemergelaw32.SequenceTurns': WHATEVER THE INPUT: true; the input reads as it did. -/
def sequenceTurnsSpec : ChangeSpec := { name := "sequenceTurns", fn := fun _ => fun
  | [d1, d2, d3, d4] => { results := [.lit (.bool true)], args := [d1, d2, d3, d4] }
  | _ => none }
def sequenceTurnsRow : OpenClaim := { program := "ytdbgdkbpamekpaa", sum := "119d17eb5c920dcb2de3931377f5aff143dcccd13385e7589adba1040f5dba38", func := "treemerge/treemergelaw32.SequenceTurns", spec := "sequenceTurns", inPlace := ["internal/reflectlite.ValueOf", "internal/reflectlite.Swapper", "(internal/reflectlite.Value).Len"], unfollowed := true, recurses := true, apart := false }
def SequenceTurnsSaid : Prop := sequenceTurnsRow.holds Try.pinned (OpenSpec.ofChange sequenceTurnsSpec)

/-- ITS FALSE NEIGHBOUR: 'it returns false'. Refute it at one input. -/
def sequenceTurnsWrong : ChangeSpec := { name := "sequenceTurns", fn := fun _ => fun
  | [d1, d2, d3, d4] => { results := [.lit (.bool false)], args := [d1, d2, d3, d4] }
  | _ => none }
def SequenceTurnsWrongFalsely : Prop := sequenceTurnsRow.holds Try.pinned (OpenSpec.ofChange sequenceTurnsWrong)

/- THE SECOND FORM. 'bulk': how many values and letters a reading holds, each counted each time it is reached (what is shared counts as often as it is met; a slice's spare places count too). A statement '..UptoSaid' is the law's where the arguments, and the package variables that the reading takes, are together of bulk at most 1048576: NARROWER than '..Said'. Prove '..Said' where nothing that the law and all that it calls make is longer than what came in: it says more and counts as full. Else prove '..UptoSaid'. A law counts once. -/
mutual
def uptoBulk {H : Type} : DataW H → Nat
  | .lit (.string bytes) => bytes.length + 1
  | .lit _ => 1
  | .nil => 1
  | .ptr d => uptoBulk d + 1
  | .slice elems spare => uptoBulkAll elems + uptoBulkAll spare + 1
  | .agg parts => uptoBulkAll parts + 1
  | .iface _ d => uptoBulk d + 1
  | .map entries => uptoBulkEntries entries + 1
  | .held _ => 1
def uptoBulkAll {H : Type} : List (DataW H) → Nat
  | [] => 0
  | d :: r => uptoBulk d + uptoBulkAll r
def uptoBulkEntries {H : Type} : List (Lit × DataW H) → Nat
  | [] => 0
  | x :: r => uptoBulkEntry x + uptoBulkEntries r
def uptoBulkEntry {H : Type} : Lit × DataW H → Nat
  | (.string bytes, d) => bytes.length + uptoBulk d + 1
  | (_, d) => uptoBulk d + 1
 end
def uptoSmall : (H : Type) → List (DataW H) → Bool := fun _ ds => decide (uptoBulkAll ds ≤ 1048576)
def OpenSpec.upto (s : _root_.Go.ChangeSpec) : _root_.Go.OpenSpec := { _root_.Go.OpenSpec.ofChange s with cond := some uptoSmall }

/-- 'treemergelaw32.SequenceWhole', WHERE WHAT IT READS IS OF BULK AT MOST 1048576: true; the input reads as it did. -/
def sequenceWholeUptoRow : OpenClaim := { program := "ytdbgdkbpamekpaa", sum := "119d17eb5c920dcb2de3931377f5aff143dcccd13385e7589adba1040f5dba38", func := "treemerge/treemergelaw32.SequenceWhole", spec := "sequenceWhole", inPlace := ["internal/reflectlite.ValueOf", "internal/reflectlite.Swapper", "(internal/reflectlite.Value).Len"], unfollowed := true, recurses := true, apart := false, narrowed := true }
def SequenceWholeUptoSaid : Prop := sequenceWholeUptoRow.holds Try.pinned (OpenSpec.upto sequenceWholeSpec)

/-- 'treemergelaw32.SequenceInserts', WHERE WHAT IT READS IS OF BULK AT MOST 1048576: true; the input reads as it did. -/
def sequenceInsertsUptoRow : OpenClaim := { program := "ytdbgdkbpamekpaa", sum := "119d17eb5c920dcb2de3931377f5aff143dcccd13385e7589adba1040f5dba38", func := "treemerge/treemergelaw32.SequenceInserts", spec := "sequenceInserts", inPlace := ["internal/reflectlite.ValueOf", "internal/reflectlite.Swapper", "(internal/reflectlite.Value).Len"], unfollowed := true, recurses := true, apart := false, narrowed := true }
def SequenceInsertsUptoSaid : Prop := sequenceInsertsUptoRow.holds Try.pinned (OpenSpec.upto sequenceInsertsSpec)

/-- 'treemergelaw32.SequenceMerges', WHERE WHAT IT READS IS OF BULK AT MOST 1048576: true; the input reads as it did. -/
def sequenceMergesUptoRow : OpenClaim := { program := "ytdbgdkbpamekpaa", sum := "119d17eb5c920dcb2de3931377f5aff143dcccd13385e7589adba1040f5dba38", func := "treemerge/treemergelaw32.SequenceMerges", spec := "sequenceMerges", inPlace := ["internal/reflectlite.ValueOf", "internal/reflectlite.Swapper", "(internal/reflectlite.Value).Len"], unfollowed := true, recurses := true, apart := false, narrowed := true }
def SequenceMergesUptoSaid : Prop := sequenceMergesUptoRow.holds Try.pinned (OpenSpec.upto sequenceMergesSpec)

/-- 'treemergelaw32.SequenceFrees', WHERE WHAT IT READS IS OF BULK AT MOST 1048576: true; the input reads as it did. -/
def sequenceFreesUptoRow : OpenClaim := { program := "ytdbgdkbpamekpaa", sum := "119d17eb5c920dcb2de3931377f5aff143dcccd13385e7589adba1040f5dba38", func := "treemerge/treemergelaw32.SequenceFrees", spec := "sequenceFrees", inPlace := ["internal/reflectlite.ValueOf", "internal/reflectlite.Swapper", "(internal/reflectlite.Value).Len"], unfollowed := true, recurses := true, apart := false, narrowed := true }
def SequenceFreesUptoSaid : Prop := sequenceFreesUptoRow.holds Try.pinned (OpenSpec.upto sequenceFreesSpec)

/-- 'treemergelaw32.SequenceKept', WHERE WHAT IT READS IS OF BULK AT MOST 1048576: true; the input reads as it did. -/
def sequenceKeptUptoRow : OpenClaim := { program := "ytdbgdkbpamekpaa", sum := "119d17eb5c920dcb2de3931377f5aff143dcccd13385e7589adba1040f5dba38", func := "treemerge/treemergelaw32.SequenceKept", spec := "sequenceKept", inPlace := ["internal/reflectlite.ValueOf", "internal/reflectlite.Swapper", "(internal/reflectlite.Value).Len"], unfollowed := true, recurses := true, apart := false, narrowed := true }
def SequenceKeptUptoSaid : Prop := sequenceKeptUptoRow.holds Try.pinned (OpenSpec.upto sequenceKeptSpec)

/-- 'treemergelaw32.SequenceSides', WHERE WHAT IT READS IS OF BULK AT MOST 1048576: true; the input reads as it did. -/
def sequenceSidesUptoRow : OpenClaim := { program := "ytdbgdkbpamekpaa", sum := "119d17eb5c920dcb2de3931377f5aff143dcccd13385e7589adba1040f5dba38", func := "treemerge/treemergelaw32.SequenceSides", spec := "sequenceSides", inPlace := ["internal/reflectlite.ValueOf", "internal/reflectlite.Swapper", "(internal/reflectlite.Value).Len"], unfollowed := true, recurses := true, apart := false, narrowed := true }
def SequenceSidesUptoSaid : Prop := sequenceSidesUptoRow.holds Try.pinned (OpenSpec.upto sequenceSidesSpec)

/-- 'treemergelaw32.SequenceTurns', WHERE WHAT IT READS IS OF BULK AT MOST 1048576: true; the input reads as it did. -/
def sequenceTurnsUptoRow : OpenClaim := { program := "ytdbgdkbpamekpaa", sum := "119d17eb5c920dcb2de3931377f5aff143dcccd13385e7589adba1040f5dba38", func := "treemerge/treemergelaw32.SequenceTurns", spec := "sequenceTurns", inPlace := ["internal/reflectlite.ValueOf", "internal/reflectlite.Swapper", "(internal/reflectlite.Value).Len"], unfollowed := true, recurses := true, apart := false, narrowed := true }
def SequenceTurnsUptoSaid : Prop := sequenceTurnsUptoRow.holds Try.pinned (OpenSpec.upto sequenceTurnsSpec)

end Rows
end Go.Proofs.Ytdbgdkbpamekpaa
