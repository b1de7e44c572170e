/-
  NARROWER THAN 'FOR EVERY INPUT', by the rows' own cells (each row's printed sentence says how): ChangeLists: loops · ChangeIndependent: loops · ChangeComplete: loops · ChangeSides: loops.
  DERIVED. THE GIVEN ROWS OF THIS SEAT. 5 by the template 'for every input the law returns true; each argument reads behind the call as it read before'; 0 by the template 'total and deterministic' (their statements: YtcfjdehpbckomaaTotals.lean).
  GIVEN WITH THE SEED: the statements are not yours to turn. If you find one false, say at which input.
  Laid BY PROGRAM, IN A SANDBOX (cutbox-rows.mjs): the forced cells as the released guide's own fill.sh prints them over the translation 0a52a4465be527fe… (all of the seat's roots in one cut). By AI agents, Wed Nov 11 2026. No macro, syntax, notation, axiom, sorry.
-/
import Derived.Test.YtcfjdehpbckomaaChecked
import GoSem.Claim
import GoSem.ClaimJoined
import GoSem.ClaimMapViews
import Derived.JoinedTies
import Derived.KernelRfl
namespace Go.Proofs.Ytcfjdehpbckomaa
/- THE CELL 'sum', in the pinned program and in every row, IS THE sha256 OF THE DUMP (.gsa) THAT YtcfjdehpbckomaaProg.lean LOADS. Nothing in Lean hashes anything: it is a label: what it is worth is what the hold of that sum in a sandbox is worth. -/
noncomputable def Try.pinned : Pinned := { name := "ytcfjdehpbckomaa", sum := "0a52a4465be527fe3ae78cc02306bab1c13e4a4cc51ecae3a5d9427cf7422c55", checked := Try.checked }
namespace Rows
def none {H : Type} : Left H := { results := [], args := [] }

/-- 'treemergelaw31.ChangeLists': WHATEVER THE INPUT: true; the input reads as it did. -/
def changeListsSpec : ChangeSpec := { name := "changeLists", fn := fun _ => fun
  | [d1, d2] => { results := [.lit (.bool true)], args := [d1, d2] }
  | _ => none }
def changeListsRow : OpenClaim := { program := "ytcfjdehpbckomaa", sum := "0a52a4465be527fe3ae78cc02306bab1c13e4a4cc51ecae3a5d9427cf7422c55", func := "treemerge/treemergelaw31.ChangeLists", spec := "changeLists", unfollowed := true, recurses := true, loops := true, apart := false }
def ChangeListsSaid : Prop := changeListsRow.holds Try.pinned (OpenSpec.ofChange changeListsSpec)

/-- ITS FALSE NEIGHBOUR: 'it returns false'. Refute it at one input. -/
def changeListsWrong : ChangeSpec := { name := "changeLists", fn := fun _ => fun
  | [d1, d2] => { results := [.lit (.bool false)], args := [d1, d2] }
  | _ => none }
def ChangeListsWrongFalsely : Prop := changeListsRow.holds Try.pinned (OpenSpec.ofChange changeListsWrong)

/-- 'treemergelaw31.ChangeOverlaps': WHATEVER THE INPUT: true; the input reads as it did. -/
def changeOverlapsSpec : ChangeSpec := { name := "changeOverlaps", fn := fun _ => fun
  | [d1, d2] => { results := [.lit (.bool true)], args := [d1, d2] }
  | _ => none }
def changeOverlapsRow : OpenClaim := { program := "ytcfjdehpbckomaa", sum := "0a52a4465be527fe3ae78cc02306bab1c13e4a4cc51ecae3a5d9427cf7422c55", func := "treemerge/treemergelaw31.ChangeOverlaps", spec := "changeOverlaps", unfollowed := true, recurses := true, apart := false }
def ChangeOverlapsSaid : Prop := changeOverlapsRow.holds Try.pinned (OpenSpec.ofChange changeOverlapsSpec)

/-- ITS FALSE NEIGHBOUR: 'it returns false'. Refute it at one input. -/
def changeOverlapsWrong : ChangeSpec := { name := "changeOverlaps", fn := fun _ => fun
  | [d1, d2] => { results := [.lit (.bool false)], args := [d1, d2] }
  | _ => none }
def ChangeOverlapsWrongFalsely : Prop := changeOverlapsRow.holds Try.pinned (OpenSpec.ofChange changeOverlapsWrong)

/-- 'treemergelaw31.ChangeIndependent': WHATEVER THE INPUT: true; the input reads as it did. -/
def changeIndependentSpec : ChangeSpec := { name := "changeIndependent", fn := fun _ => fun
  | [d] => { results := [.lit (.bool true)], args := [d] }
  | _ => none }
def changeIndependentRow : OpenClaim := { program := "ytcfjdehpbckomaa", sum := "0a52a4465be527fe3ae78cc02306bab1c13e4a4cc51ecae3a5d9427cf7422c55", func := "treemerge/treemergelaw31.ChangeIndependent", spec := "changeIndependent", unfollowed := true, recurses := true, loops := true, apart := false }
def ChangeIndependentSaid : Prop := changeIndependentRow.holds Try.pinned (OpenSpec.ofChange changeIndependentSpec)

/-- ITS FALSE NEIGHBOUR: 'it returns false'. Refute it at one input. -/
def changeIndependentWrong : ChangeSpec := { name := "changeIndependent", fn := fun _ => fun
  | [d] => { results := [.lit (.bool false)], args := [d] }
  | _ => none }
def ChangeIndependentWrongFalsely : Prop := changeIndependentRow.holds Try.pinned (OpenSpec.ofChange changeIndependentWrong)

/-- 'treemergelaw31.ChangeComplete': WHATEVER THE INPUT: true; the input reads as it did. -/
def changeCompleteSpec : ChangeSpec := { name := "changeComplete", fn := fun _ => fun
  | [d1, d2] => { results := [.lit (.bool true)], args := [d1, d2] }
  | _ => none }
def changeCompleteRow : OpenClaim := { program := "ytcfjdehpbckomaa", sum := "0a52a4465be527fe3ae78cc02306bab1c13e4a4cc51ecae3a5d9427cf7422c55", func := "treemerge/treemergelaw31.ChangeComplete", spec := "changeComplete", unfollowed := true, recurses := true, loops := true, apart := false }
def ChangeCompleteSaid : Prop := changeCompleteRow.holds Try.pinned (OpenSpec.ofChange changeCompleteSpec)

/-- ITS FALSE NEIGHBOUR: 'it returns false'. Refute it at one input. -/
def changeCompleteWrong : ChangeSpec := { name := "changeComplete", fn := fun _ => fun
  | [d1, d2] => { results := [.lit (.bool false)], args := [d1, d2] }
  | _ => none }
def ChangeCompleteWrongFalsely : Prop := changeCompleteRow.holds Try.pinned (OpenSpec.ofChange changeCompleteWrong)

/-- 'treemergelaw31.ChangeSides': WHATEVER THE INPUT: true; the input reads as it did. -/
def changeSidesSpec : ChangeSpec := { name := "changeSides", fn := fun _ => fun
  | [d1, d2, d3] => { results := [.lit (.bool true)], args := [d1, d2, d3] }
  | _ => none }
def changeSidesRow : OpenClaim := { program := "ytcfjdehpbckomaa", sum := "0a52a4465be527fe3ae78cc02306bab1c13e4a4cc51ecae3a5d9427cf7422c55", func := "treemerge/treemergelaw31.ChangeSides", spec := "changeSides", unfollowed := true, recurses := true, loops := true, apart := false }
def ChangeSidesSaid : Prop := changeSidesRow.holds Try.pinned (OpenSpec.ofChange changeSidesSpec)

/-- ITS FALSE NEIGHBOUR: 'it returns false'. Refute it at one input. -/
def changeSidesWrong : ChangeSpec := { name := "changeSides", fn := fun _ => fun
  | [d1, d2, d3] => { results := [.lit (.bool false)], args := [d1, d2, d3] }
  | _ => none }
def ChangeSidesWrongFalsely : Prop := changeSidesRow.holds Try.pinned (OpenSpec.ofChange changeSidesWrong)

/- THE SECOND FORM. 'bulk': how many values and letters a reading holds, each counted each time it is reached (what is shared counts as often as it is met; a slice's spare places count too). A statement '..UptoSaid' is the law's where the arguments, and the package variables that the reading takes, are together of bulk at most 1048576: NARROWER than '..Said'. Prove '..Said' where nothing that the law and all that it calls make is longer than what came in: it says more and counts as full. Else prove '..UptoSaid'. A law counts once. -/
mutual
def uptoBulk {H : Type} : DataW H → Nat
  | .lit (.string bytes) => bytes.length + 1
  | .lit _ => 1
  | .nil => 1
  | .ptr d => uptoBulk d + 1
  | .slice elems spare => uptoBulkAll elems + uptoBulkAll spare + 1
  | .agg parts => uptoBulkAll parts + 1
  | .iface _ d => uptoBulk d + 1
  | .map entries => uptoBulkEntries entries + 1
  | .held _ => 1
def uptoBulkAll {H : Type} : List (DataW H) → Nat
  | [] => 0
  | d :: r => uptoBulk d + uptoBulkAll r
def uptoBulkEntries {H : Type} : List (Lit × DataW H) → Nat
  | [] => 0
  | x :: r => uptoBulkEntry x + uptoBulkEntries r
def uptoBulkEntry {H : Type} : Lit × DataW H → Nat
  | (.string bytes, d) => bytes.length + uptoBulk d + 1
  | (_, d) => uptoBulk d + 1
 end
def uptoSmall : (H : Type) → List (DataW H) → Bool := fun _ ds => decide (uptoBulkAll ds ≤ 1048576)
def OpenSpec.upto (s : _root_.Go.ChangeSpec) : _root_.Go.OpenSpec := { _root_.Go.OpenSpec.ofChange s with cond := some uptoSmall }

/-- 'treemergelaw31.ChangeLists', WHERE WHAT IT READS IS OF BULK AT MOST 1048576: true; the input reads as it did. -/
def changeListsUptoRow : OpenClaim := { program := "ytcfjdehpbckomaa", sum := "0a52a4465be527fe3ae78cc02306bab1c13e4a4cc51ecae3a5d9427cf7422c55", func := "treemerge/treemergelaw31.ChangeLists", spec := "changeLists", unfollowed := true, recurses := true, loops := true, apart := false, narrowed := true }
def ChangeListsUptoSaid : Prop := changeListsUptoRow.holds Try.pinned (OpenSpec.upto changeListsSpec)

/-- 'treemergelaw31.ChangeOverlaps', WHERE WHAT IT READS IS OF BULK AT MOST 1048576: true; the input reads as it did. -/
def changeOverlapsUptoRow : OpenClaim := { program := "ytcfjdehpbckomaa", sum := "0a52a4465be527fe3ae78cc02306bab1c13e4a4cc51ecae3a5d9427cf7422c55", func := "treemerge/treemergelaw31.ChangeOverlaps", spec := "changeOverlaps", unfollowed := true, recurses := true, apart := false, narrowed := true }
def ChangeOverlapsUptoSaid : Prop := changeOverlapsUptoRow.holds Try.pinned (OpenSpec.upto changeOverlapsSpec)

/-- 'treemergelaw31.ChangeIndependent', WHERE WHAT IT READS IS OF BULK AT MOST 1048576: true; the input reads as it did. -/
def changeIndependentUptoRow : OpenClaim := { program := "ytcfjdehpbckomaa", sum := "0a52a4465be527fe3ae78cc02306bab1c13e4a4cc51ecae3a5d9427cf7422c55", func := "treemerge/treemergelaw31.ChangeIndependent", spec := "changeIndependent", unfollowed := true, recurses := true, loops := true, apart := false, narrowed := true }
def ChangeIndependentUptoSaid : Prop := changeIndependentUptoRow.holds Try.pinned (OpenSpec.upto changeIndependentSpec)

/-- 'treemergelaw31.ChangeComplete', WHERE WHAT IT READS IS OF BULK AT MOST 1048576: true; the input reads as it did. -/
def changeCompleteUptoRow : OpenClaim := { program := "ytcfjdehpbckomaa", sum := "0a52a4465be527fe3ae78cc02306bab1c13e4a4cc51ecae3a5d9427cf7422c55", func := "treemerge/treemergelaw31.ChangeComplete", spec := "changeComplete", unfollowed := true, recurses := true, loops := true, apart := false, narrowed := true }
def ChangeCompleteUptoSaid : Prop := changeCompleteUptoRow.holds Try.pinned (OpenSpec.upto changeCompleteSpec)

/-- 'treemergelaw31.ChangeSides', WHERE WHAT IT READS IS OF BULK AT MOST 1048576: true; the input reads as it did. -/
def changeSidesUptoRow : OpenClaim := { program := "ytcfjdehpbckomaa", sum := "0a52a4465be527fe3ae78cc02306bab1c13e4a4cc51ecae3a5d9427cf7422c55", func := "treemerge/treemergelaw31.ChangeSides", spec := "changeSides", unfollowed := true, recurses := true, loops := true, apart := false, narrowed := true }
def ChangeSidesUptoSaid : Prop := changeSidesUptoRow.holds Try.pinned (OpenSpec.upto changeSidesSpec)

end Rows
end Go.Proofs.Ytcfjdehpbckomaa
