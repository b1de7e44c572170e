/-
  NARROWER THAN 'FOR EVERY INPUT', by the rows' own cells (each row's printed sentence says how): DecideParses: laid · DecideFull: laid · DecideTexts: laid · DecideOrders: laid · DecideRuns: laid · DecideRecalls: laid · DecideResolves: laid.
  DERIVED. THE GIVEN ROWS OF THIS SEAT. 7 by the template 'for every input the law returns true; each argument reads behind the call as it read before'; 0 by the template 'total and deterministic' (their statements: YtfajgjmhfpabiaaDoorTotals.lean).
  GIVEN WITH THE SEED: the statements are not yours to turn. If you find one false, say at which input.
  Laid BY PROGRAM, IN A SANDBOX (cutbox-rows.mjs): the forced cells as the released guide's own fill.sh prints them over the translation 4a98bc014a97779c… (all of the seat's roots in one cut). By AI agents, Wed Nov 11 2026. No macro, syntax, notation, axiom, sorry.
-/
import Derived.Test.YtfajgjmhfpabiaaDoorChecked
import GoSem.Claim
import GoSem.ClaimJoined
import GoSem.ClaimMapViews
import Derived.JoinedTies
import Derived.KernelRfl
namespace Go.Proofs.YtfajgjmhfpabiaaDoor
/- THE CELL 'sum', in the pinned program and in every row, IS THE sha256 OF THE DUMP (.gsa) THAT YtfajgjmhfpabiaaDoorProg.lean LOADS. Nothing in Lean hashes anything: it is a label: what it is worth is what the hold of that sum in a sandbox is worth. -/
noncomputable def Tryd.pinned : Pinned := { name := "ytfajgjmhfpabiaadoor", sum := "4a98bc014a97779cb133ac487cf0e7cee549afe9aa5647289a1ebc808b89aec9", checked := Tryd.checked }
namespace Rows
def none {H : Type} : Left H := { results := [], args := [] }

/- WHAT THE LISTED PACKAGE-LEVEL VARIABLES READ AS WHEN THE CALL BEGINS. Each datum BY PROGRAM (the guide's laid-datum.mjs) off the statement by which the dump's own 'gosem.cut.vars' lays the variable. In a bare row this is a premise. The card (YtfajgjmhfpabiaaDoorCards.lean) ties it to the program's text. -/
def laid_treemerge_digest_digits {H : Type} : DataW H := .agg [.lit (.int .u8 48), .lit (.int .u8 49), .lit (.int .u8 50), .lit (.int .u8 51), .lit (.int .u8 52), .lit (.int .u8 53), .lit (.int .u8 54), .lit (.int .u8 55), .lit (.int .u8 56), .lit (.int .u8 57), .lit (.int .u8 97), .lit (.int .u8 98), .lit (.int .u8 99), .lit (.int .u8 100), .lit (.int .u8 101), .lit (.int .u8 102)]
def laid_math_bits_deBruijn32tab {H : Type} : DataW H := .agg [.lit (.int .u8 0), .lit (.int .u8 1), .lit (.int .u8 28), .lit (.int .u8 2), .lit (.int .u8 29), .lit (.int .u8 14), .lit (.int .u8 24), .lit (.int .u8 3), .lit (.int .u8 30), .lit (.int .u8 22), .lit (.int .u8 20), .lit (.int .u8 15), .lit (.int .u8 25), .lit (.int .u8 17), .lit (.int .u8 4), .lit (.int .u8 8), .lit (.int .u8 31), .lit (.int .u8 27), .lit (.int .u8 13), .lit (.int .u8 23), .lit (.int .u8 21), .lit (.int .u8 19), .lit (.int .u8 16), .lit (.int .u8 7), .lit (.int .u8 26), .lit (.int .u8 12), .lit (.int .u8 18), .lit (.int .u8 6), .lit (.int .u8 11), .lit (.int .u8 5), .lit (.int .u8 10), .lit (.int .u8 9)]
def laid_math_bits_deBruijn64tab {H : Type} : DataW H := .agg [.lit (.int .u8 0), .lit (.int .u8 1), .lit (.int .u8 56), .lit (.int .u8 2), .lit (.int .u8 57), .lit (.int .u8 49), .lit (.int .u8 28), .lit (.int .u8 3), .lit (.int .u8 61), .lit (.int .u8 58), .lit (.int .u8 42), .lit (.int .u8 50), .lit (.int .u8 38), .lit (.int .u8 29), .lit (.int .u8 17), .lit (.int .u8 4), .lit (.int .u8 62), .lit (.int .u8 47), .lit (.int .u8 59), .lit (.int .u8 36), .lit (.int .u8 45), .lit (.int .u8 43), .lit (.int .u8 51), .lit (.int .u8 22), .lit (.int .u8 53), .lit (.int .u8 39), .lit (.int .u8 33), .lit (.int .u8 30), .lit (.int .u8 24), .lit (.int .u8 18), .lit (.int .u8 12), .lit (.int .u8 5), .lit (.int .u8 63), .lit (.int .u8 55), .lit (.int .u8 48), .lit (.int .u8 27), .lit (.int .u8 60), .lit (.int .u8 41), .lit (.int .u8 37), .lit (.int .u8 16), .lit (.int .u8 46), .lit (.int .u8 35), .lit (.int .u8 44), .lit (.int .u8 21), .lit (.int .u8 52), .lit (.int .u8 32), .lit (.int .u8 23), .lit (.int .u8 11), .lit (.int .u8 54), .lit (.int .u8 26), .lit (.int .u8 40), .lit (.int .u8 15), .lit (.int .u8 34), .lit (.int .u8 20), .lit (.int .u8 31), .lit (.int .u8 10), .lit (.int .u8 25), .lit (.int .u8 14), .lit (.int .u8 19), .lit (.int .u8 9), .lit (.int .u8 13), .lit (.int .u8 8), .lit (.int .u8 7), .lit (.int .u8 6)]
def laid_internal_strconv_uint64pow10 {H : Type} : DataW H := .agg [.lit (.int .u64 1), .lit (.int .u64 10), .lit (.int .u64 100), .lit (.int .u64 1000), .lit (.int .u64 10000), .lit (.int .u64 100000), .lit (.int .u64 1000000), .lit (.int .u64 10000000), .lit (.int .u64 100000000), .lit (.int .u64 1000000000), .lit (.int .u64 10000000000), .lit (.int .u64 100000000000), .lit (.int .u64 1000000000000), .lit (.int .u64 10000000000000), .lit (.int .u64 100000000000000), .lit (.int .u64 1000000000000000), .lit (.int .u64 10000000000000000), .lit (.int .u64 100000000000000000), .lit (.int .u64 1000000000000000000), .lit (.int .u64 10000000000000000000)]

/-- 'treemergelaw36.DecideParses': WHATEVER THE INPUT: true; the input reads as it did. -/
def decideParsesSpec : ChangeSpec := { name := "decideParses", fn := fun _ => fun
  | [d] => { results := [.lit (.bool true)], args := [d] }
  | _ => none }
def decideParsesRow : OpenClaim := { program := "ytfajgjmhfpabiaadoor", sum := "4a98bc014a97779cb133ac487cf0e7cee549afe9aa5647289a1ebc808b89aec9", func := "treemerge/treemergelaw36.DecideParses", spec := "decideParses", inPlace := ["internal/abi.NoEscape", "internal/bytealg.IndexByteString", "internal/bytealg.IndexString"], unfollowed := true, recurses := true, named := ["treemerge/digest.digits", "internal/bytealg.MaxLen"], apart := false, laid := [("treemerge/digest.digits", laid_treemerge_digest_digits)] }
def DecideParsesSaid : Prop := decideParsesRow.holds Tryd.pinned (OpenSpec.ofChange decideParsesSpec)

/-- ITS FALSE NEIGHBOUR: 'it returns false'. Refute it at one input. -/
def decideParsesWrong : ChangeSpec := { name := "decideParses", fn := fun _ => fun
  | [d] => { results := [.lit (.bool false)], args := [d] }
  | _ => none }
def DecideParsesWrongFalsely : Prop := decideParsesRow.holds Tryd.pinned (OpenSpec.ofChange decideParsesWrong)

/-- 'treemergelaw36.DecideFull': WHATEVER THE INPUT: true; the input reads as it did. -/
def decideFullSpec : ChangeSpec := { name := "decideFull", fn := fun _ => fun
  | [d1, d2] => { results := [.lit (.bool true)], args := [d1, d2] }
  | _ => none }
def decideFullRow : OpenClaim := { program := "ytfajgjmhfpabiaadoor", sum := "4a98bc014a97779cb133ac487cf0e7cee549afe9aa5647289a1ebc808b89aec9", func := "treemerge/treemergelaw36.DecideFull", spec := "decideFull", inPlace := ["internal/abi.NoEscape", "internal/bytealg.IndexByteString", "internal/bytealg.IndexString"], unfollowed := true, recurses := true, named := ["treemerge/digest.digits", "internal/bytealg.MaxLen"], apart := false, laid := [("treemerge/digest.digits", laid_treemerge_digest_digits)] }
def DecideFullSaid : Prop := decideFullRow.holds Tryd.pinned (OpenSpec.ofChange decideFullSpec)

/-- ITS FALSE NEIGHBOUR: 'it returns false'. Refute it at one input. -/
def decideFullWrong : ChangeSpec := { name := "decideFull", fn := fun _ => fun
  | [d1, d2] => { results := [.lit (.bool false)], args := [d1, d2] }
  | _ => none }
def DecideFullWrongFalsely : Prop := decideFullRow.holds Tryd.pinned (OpenSpec.ofChange decideFullWrong)

/-- 'treemergelaw36.DecideTexts': WHATEVER THE INPUT: true; the input reads as it did. -/
def decideTextsSpec : ChangeSpec := { name := "decideTexts", fn := fun _ => fun
  | [d1, d2] => { results := [.lit (.bool true)], args := [d1, d2] }
  | _ => none }
def decideTextsRow : OpenClaim := { program := "ytfajgjmhfpabiaadoor", sum := "4a98bc014a97779cb133ac487cf0e7cee549afe9aa5647289a1ebc808b89aec9", func := "treemerge/treemergelaw36.DecideTexts", spec := "decideTexts", inPlace := ["internal/abi.NoEscape", "internal/bytealg.IndexByteString", "internal/bytealg.IndexString"], unfollowed := true, recurses := true, named := ["treemerge/digest.digits", "internal/bytealg.MaxLen"], apart := false, laid := [("treemerge/digest.digits", laid_treemerge_digest_digits)] }
def DecideTextsSaid : Prop := decideTextsRow.holds Tryd.pinned (OpenSpec.ofChange decideTextsSpec)

/-- ITS FALSE NEIGHBOUR: 'it returns false'. Refute it at one input. -/
def decideTextsWrong : ChangeSpec := { name := "decideTexts", fn := fun _ => fun
  | [d1, d2] => { results := [.lit (.bool false)], args := [d1, d2] }
  | _ => none }
def DecideTextsWrongFalsely : Prop := decideTextsRow.holds Tryd.pinned (OpenSpec.ofChange decideTextsWrong)

/-- 'treemergelaw36.DecideOrders': WHATEVER THE INPUT: true; the input reads as it did. -/
def decideOrdersSpec : ChangeSpec := { name := "decideOrders", fn := fun _ => fun
  | [d] => { results := [.lit (.bool true)], args := [d] }
  | _ => none }
def decideOrdersRow : OpenClaim := { program := "ytfajgjmhfpabiaadoor", sum := "4a98bc014a97779cb133ac487cf0e7cee549afe9aa5647289a1ebc808b89aec9", func := "treemerge/treemergelaw36.DecideOrders", spec := "decideOrders", inPlace := ["internal/abi.NoEscape", "internal/bytealg.IndexByteString", "internal/bytealg.IndexString"], unfollowed := true, recurses := true, named := ["treemerge/digest.digits", "internal/bytealg.MaxLen"], apart := false, laid := [("treemerge/digest.digits", laid_treemerge_digest_digits)] }
def DecideOrdersSaid : Prop := decideOrdersRow.holds Tryd.pinned (OpenSpec.ofChange decideOrdersSpec)

/-- ITS FALSE NEIGHBOUR: 'it returns false'. Refute it at one input. -/
def decideOrdersWrong : ChangeSpec := { name := "decideOrders", fn := fun _ => fun
  | [d] => { results := [.lit (.bool false)], args := [d] }
  | _ => none }
def DecideOrdersWrongFalsely : Prop := decideOrdersRow.holds Tryd.pinned (OpenSpec.ofChange decideOrdersWrong)

/-- 'treemergelaw36.DecideRuns': WHATEVER THE INPUT: true; the input reads as it did. -/
def decideRunsSpec : ChangeSpec := { name := "decideRuns", fn := fun _ => fun
  | [d] => { results := [.lit (.bool true)], args := [d] }
  | _ => none }
def decideRunsRow : OpenClaim := { program := "ytfajgjmhfpabiaadoor", sum := "4a98bc014a97779cb133ac487cf0e7cee549afe9aa5647289a1ebc808b89aec9", func := "treemerge/treemergelaw36.DecideRuns", spec := "decideRuns", inPlace := ["internal/abi.NoEscape", "internal/bytealg.IndexByteString", "internal/bytealg.IndexString"], unfollowed := true, recurses := true, named := ["treemerge/digest.digits", "internal/bytealg.MaxLen", "internal/strconv.uint64pow10", "math/bits.deBruijn32tab", "math/bits.deBruijn64tab"], apart := false, laid := [("math/bits.deBruijn32tab", laid_math_bits_deBruijn32tab), ("math/bits.deBruijn64tab", laid_math_bits_deBruijn64tab), ("internal/strconv.uint64pow10", laid_internal_strconv_uint64pow10), ("treemerge/digest.digits", laid_treemerge_digest_digits)] }
def DecideRunsSaid : Prop := decideRunsRow.holds Tryd.pinned (OpenSpec.ofChange decideRunsSpec)

/-- ITS FALSE NEIGHBOUR: 'it returns false'. Refute it at one input. -/
def decideRunsWrong : ChangeSpec := { name := "decideRuns", fn := fun _ => fun
  | [d] => { results := [.lit (.bool false)], args := [d] }
  | _ => none }
def DecideRunsWrongFalsely : Prop := decideRunsRow.holds Tryd.pinned (OpenSpec.ofChange decideRunsWrong)

/-- 'treemergelaw36.DecideRecalls': WHATEVER THE INPUT: true; the input reads as it did. -/
def decideRecallsSpec : ChangeSpec := { name := "decideRecalls", fn := fun _ => fun
  | [d1, d2, d3, d4] => { results := [.lit (.bool true)], args := [d1, d2, d3, d4] }
  | _ => none }
def decideRecallsRow : OpenClaim := { program := "ytfajgjmhfpabiaadoor", sum := "4a98bc014a97779cb133ac487cf0e7cee549afe9aa5647289a1ebc808b89aec9", func := "treemerge/treemergelaw36.DecideRecalls", spec := "decideRecalls", inPlace := ["internal/abi.NoEscape", "internal/bytealg.IndexByteString", "internal/bytealg.IndexString"], unfollowed := true, recurses := true, named := ["treemerge/digest.digits", "internal/bytealg.MaxLen", "internal/strconv.uint64pow10", "math/bits.deBruijn32tab", "math/bits.deBruijn64tab"], apart := false, laid := [("math/bits.deBruijn32tab", laid_math_bits_deBruijn32tab), ("math/bits.deBruijn64tab", laid_math_bits_deBruijn64tab), ("internal/strconv.uint64pow10", laid_internal_strconv_uint64pow10), ("treemerge/digest.digits", laid_treemerge_digest_digits)] }
def DecideRecallsSaid : Prop := decideRecallsRow.holds Tryd.pinned (OpenSpec.ofChange decideRecallsSpec)

/-- ITS FALSE NEIGHBOUR: 'it returns false'. Refute it at one input. -/
def decideRecallsWrong : ChangeSpec := { name := "decideRecalls", fn := fun _ => fun
  | [d1, d2, d3, d4] => { results := [.lit (.bool false)], args := [d1, d2, d3, d4] }
  | _ => none }
def DecideRecallsWrongFalsely : Prop := decideRecallsRow.holds Tryd.pinned (OpenSpec.ofChange decideRecallsWrong)

/-- 'treemergelaw36.DecideResolves': WHATEVER THE INPUT: true; the input reads as it did. -/
def decideResolvesSpec : ChangeSpec := { name := "decideResolves", fn := fun _ => fun
  | [d1, d2] => { results := [.lit (.bool true)], args := [d1, d2] }
  | _ => none }
def decideResolvesRow : OpenClaim := { program := "ytfajgjmhfpabiaadoor", sum := "4a98bc014a97779cb133ac487cf0e7cee549afe9aa5647289a1ebc808b89aec9", func := "treemerge/treemergelaw36.DecideResolves", spec := "decideResolves", inPlace := ["internal/abi.NoEscape", "internal/bytealg.IndexByteString", "internal/bytealg.IndexString"], unfollowed := true, recurses := true, named := ["treemerge/digest.digits", "internal/bytealg.MaxLen", "internal/strconv.uint64pow10", "math/bits.deBruijn32tab", "math/bits.deBruijn64tab"], apart := false, laid := [("math/bits.deBruijn32tab", laid_math_bits_deBruijn32tab), ("math/bits.deBruijn64tab", laid_math_bits_deBruijn64tab), ("internal/strconv.uint64pow10", laid_internal_strconv_uint64pow10), ("treemerge/digest.digits", laid_treemerge_digest_digits)] }
def DecideResolvesSaid : Prop := decideResolvesRow.holds Tryd.pinned (OpenSpec.ofChange decideResolvesSpec)

/-- ITS FALSE NEIGHBOUR: 'it returns false'. Refute it at one input. -/
def decideResolvesWrong : ChangeSpec := { name := "decideResolves", fn := fun _ => fun
  | [d1, d2] => { results := [.lit (.bool false)], args := [d1, d2] }
  | _ => none }
def DecideResolvesWrongFalsely : Prop := decideResolvesRow.holds Tryd.pinned (OpenSpec.ofChange decideResolvesWrong)

/- THE SECOND FORM. 'bulk': how many values and letters a reading holds, each counted each time it is reached (what is shared counts as often as it is met; a slice's spare places count too). A statement '..UptoSaid' is the law's where the arguments, and the package variables that the reading takes, are together of bulk at most 1048576: NARROWER than '..Said'. Prove '..Said' where nothing that the law and all that it calls make is longer than what came in: it says more and counts as full. Else prove '..UptoSaid'. A law counts once. -/
mutual
def uptoBulk {H : Type} : DataW H → Nat
  | .lit (.string bytes) => bytes.length + 1
  | .lit _ => 1
  | .nil => 1
  | .ptr d => uptoBulk d + 1
  | .slice elems spare => uptoBulkAll elems + uptoBulkAll spare + 1
  | .agg parts => uptoBulkAll parts + 1
  | .iface _ d => uptoBulk d + 1
  | .map entries => uptoBulkEntries entries + 1
  | .held _ => 1
def uptoBulkAll {H : Type} : List (DataW H) → Nat
  | [] => 0
  | d :: r => uptoBulk d + uptoBulkAll r
def uptoBulkEntries {H : Type} : List (Lit × DataW H) → Nat
  | [] => 0
  | x :: r => uptoBulkEntry x + uptoBulkEntries r
def uptoBulkEntry {H : Type} : Lit × DataW H → Nat
  | (.string bytes, d) => bytes.length + uptoBulk d + 1
  | (_, d) => uptoBulk d + 1
 end
def uptoSmall : (H : Type) → List (DataW H) → Bool := fun _ ds => decide (uptoBulkAll ds ≤ 1048576)
def OpenSpec.upto (s : _root_.Go.ChangeSpec) : _root_.Go.OpenSpec := { _root_.Go.OpenSpec.ofChange s with cond := some uptoSmall }

/-- 'treemergelaw36.DecideParses', WHERE WHAT IT READS IS OF BULK AT MOST 1048576: true; the input reads as it did. -/
def decideParsesUptoRow : OpenClaim := { program := "ytfajgjmhfpabiaadoor", sum := "4a98bc014a97779cb133ac487cf0e7cee549afe9aa5647289a1ebc808b89aec9", func := "treemerge/treemergelaw36.DecideParses", spec := "decideParses", inPlace := ["internal/abi.NoEscape", "internal/bytealg.IndexByteString", "internal/bytealg.IndexString"], unfollowed := true, recurses := true, named := ["treemerge/digest.digits", "internal/bytealg.MaxLen"], apart := false, laid := [("treemerge/digest.digits", laid_treemerge_digest_digits)], narrowed := true }
def DecideParsesUptoSaid : Prop := decideParsesUptoRow.holds Tryd.pinned (OpenSpec.upto decideParsesSpec)

/-- 'treemergelaw36.DecideFull', WHERE WHAT IT READS IS OF BULK AT MOST 1048576: true; the input reads as it did. -/
def decideFullUptoRow : OpenClaim := { program := "ytfajgjmhfpabiaadoor", sum := "4a98bc014a97779cb133ac487cf0e7cee549afe9aa5647289a1ebc808b89aec9", func := "treemerge/treemergelaw36.DecideFull", spec := "decideFull", inPlace := ["internal/abi.NoEscape", "internal/bytealg.IndexByteString", "internal/bytealg.IndexString"], unfollowed := true, recurses := true, named := ["treemerge/digest.digits", "internal/bytealg.MaxLen"], apart := false, laid := [("treemerge/digest.digits", laid_treemerge_digest_digits)], narrowed := true }
def DecideFullUptoSaid : Prop := decideFullUptoRow.holds Tryd.pinned (OpenSpec.upto decideFullSpec)

/-- 'treemergelaw36.DecideTexts', WHERE WHAT IT READS IS OF BULK AT MOST 1048576: true; the input reads as it did. -/
def decideTextsUptoRow : OpenClaim := { program := "ytfajgjmhfpabiaadoor", sum := "4a98bc014a97779cb133ac487cf0e7cee549afe9aa5647289a1ebc808b89aec9", func := "treemerge/treemergelaw36.DecideTexts", spec := "decideTexts", inPlace := ["internal/abi.NoEscape", "internal/bytealg.IndexByteString", "internal/bytealg.IndexString"], unfollowed := true, recurses := true, named := ["treemerge/digest.digits", "internal/bytealg.MaxLen"], apart := false, laid := [("treemerge/digest.digits", laid_treemerge_digest_digits)], narrowed := true }
def DecideTextsUptoSaid : Prop := decideTextsUptoRow.holds Tryd.pinned (OpenSpec.upto decideTextsSpec)

/-- 'treemergelaw36.DecideOrders', WHERE WHAT IT READS IS OF BULK AT MOST 1048576: true; the input reads as it did. -/
def decideOrdersUptoRow : OpenClaim := { program := "ytfajgjmhfpabiaadoor", sum := "4a98bc014a97779cb133ac487cf0e7cee549afe9aa5647289a1ebc808b89aec9", func := "treemerge/treemergelaw36.DecideOrders", spec := "decideOrders", inPlace := ["internal/abi.NoEscape", "internal/bytealg.IndexByteString", "internal/bytealg.IndexString"], unfollowed := true, recurses := true, named := ["treemerge/digest.digits", "internal/bytealg.MaxLen"], apart := false, laid := [("treemerge/digest.digits", laid_treemerge_digest_digits)], narrowed := true }
def DecideOrdersUptoSaid : Prop := decideOrdersUptoRow.holds Tryd.pinned (OpenSpec.upto decideOrdersSpec)

/-- 'treemergelaw36.DecideRuns', WHERE WHAT IT READS IS OF BULK AT MOST 1048576: true; the input reads as it did. -/
def decideRunsUptoRow : OpenClaim := { program := "ytfajgjmhfpabiaadoor", sum := "4a98bc014a97779cb133ac487cf0e7cee549afe9aa5647289a1ebc808b89aec9", func := "treemerge/treemergelaw36.DecideRuns", spec := "decideRuns", inPlace := ["internal/abi.NoEscape", "internal/bytealg.IndexByteString", "internal/bytealg.IndexString"], unfollowed := true, recurses := true, named := ["treemerge/digest.digits", "internal/bytealg.MaxLen", "internal/strconv.uint64pow10", "math/bits.deBruijn32tab", "math/bits.deBruijn64tab"], apart := false, laid := [("math/bits.deBruijn32tab", laid_math_bits_deBruijn32tab), ("math/bits.deBruijn64tab", laid_math_bits_deBruijn64tab), ("internal/strconv.uint64pow10", laid_internal_strconv_uint64pow10), ("treemerge/digest.digits", laid_treemerge_digest_digits)], narrowed := true }
def DecideRunsUptoSaid : Prop := decideRunsUptoRow.holds Tryd.pinned (OpenSpec.upto decideRunsSpec)

/-- 'treemergelaw36.DecideRecalls', WHERE WHAT IT READS IS OF BULK AT MOST 1048576: true; the input reads as it did. -/
def decideRecallsUptoRow : OpenClaim := { program := "ytfajgjmhfpabiaadoor", sum := "4a98bc014a97779cb133ac487cf0e7cee549afe9aa5647289a1ebc808b89aec9", func := "treemerge/treemergelaw36.DecideRecalls", spec := "decideRecalls", inPlace := ["internal/abi.NoEscape", "internal/bytealg.IndexByteString", "internal/bytealg.IndexString"], unfollowed := true, recurses := true, named := ["treemerge/digest.digits", "internal/bytealg.MaxLen", "internal/strconv.uint64pow10", "math/bits.deBruijn32tab", "math/bits.deBruijn64tab"], apart := false, laid := [("math/bits.deBruijn32tab", laid_math_bits_deBruijn32tab), ("math/bits.deBruijn64tab", laid_math_bits_deBruijn64tab), ("internal/strconv.uint64pow10", laid_internal_strconv_uint64pow10), ("treemerge/digest.digits", laid_treemerge_digest_digits)], narrowed := true }
def DecideRecallsUptoSaid : Prop := decideRecallsUptoRow.holds Tryd.pinned (OpenSpec.upto decideRecallsSpec)

/-- 'treemergelaw36.DecideResolves', WHERE WHAT IT READS IS OF BULK AT MOST 1048576: true; the input reads as it did. -/
def decideResolvesUptoRow : OpenClaim := { program := "ytfajgjmhfpabiaadoor", sum := "4a98bc014a97779cb133ac487cf0e7cee549afe9aa5647289a1ebc808b89aec9", func := "treemerge/treemergelaw36.DecideResolves", spec := "decideResolves", inPlace := ["internal/abi.NoEscape", "internal/bytealg.IndexByteString", "internal/bytealg.IndexString"], unfollowed := true, recurses := true, named := ["treemerge/digest.digits", "internal/bytealg.MaxLen", "internal/strconv.uint64pow10", "math/bits.deBruijn32tab", "math/bits.deBruijn64tab"], apart := false, laid := [("math/bits.deBruijn32tab", laid_math_bits_deBruijn32tab), ("math/bits.deBruijn64tab", laid_math_bits_deBruijn64tab), ("internal/strconv.uint64pow10", laid_internal_strconv_uint64pow10), ("treemerge/digest.digits", laid_treemerge_digest_digits)], narrowed := true }
def DecideResolvesUptoSaid : Prop := decideResolvesUptoRow.holds Tryd.pinned (OpenSpec.upto decideResolvesSpec)

end Rows
end Go.Proofs.YtfajgjmhfpabiaaDoor
