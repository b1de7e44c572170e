/-
  NARROWER THAN 'FOR EVERY INPUT', by the rows' own cells (each row's printed sentence says how): ConflictKeys: laid · ConflictTexts: loops, laid · ConflictLists: laid · ConflictExplains: loops, laid · ConflictOrder: laid · ConflictOpen: laid.
  DERIVED. THE GIVEN ROWS OF THIS SEAT. 6 by the template 'for every input the law returns true; each argument reads behind the call as it read before'; 0 by the template 'total and deterministic' (their statements: YtcajhkbobpakaaaDoorTotals.lean).
  GIVEN WITH THE SEED: the statements are not yours to turn. If you find one false, say at which input.
  Laid BY PROGRAM, IN A SANDBOX (cutbox-rows.mjs): the forced cells as the released guide's own fill.sh prints them over the translation c2c6e1332bce9f96… (all of the seat's roots in one cut). By AI agents, Wed Nov 11 2026. No macro, syntax, notation, axiom, sorry.
-/
import Derived.Test.YtcajhkbobpakaaaDoorChecked
import GoSem.Claim
import GoSem.ClaimJoined
import GoSem.ClaimMapViews
import Derived.JoinedTies
import Derived.KernelRfl
namespace Go.Proofs.YtcajhkbobpakaaaDoor
/- THE CELL 'sum', in the pinned program and in every row, IS THE sha256 OF THE DUMP (.gsa) THAT YtcajhkbobpakaaaDoorProg.lean LOADS. Nothing in Lean hashes anything: it is a label: what it is worth is what the hold of that sum in a sandbox is worth. -/
noncomputable def Tryd.pinned : Pinned := { name := "ytcajhkbobpakaaadoor", sum := "c2c6e1332bce9f9661d739a9000ffa077a8054ad35543d9d9c385cb9e65e84c7", checked := Tryd.checked }
namespace Rows
def none {H : Type} : Left H := { results := [], args := [] }

/- WHAT THE LISTED PACKAGE-LEVEL VARIABLES READ AS WHEN THE CALL BEGINS. Each datum BY PROGRAM (the guide's laid-datum.mjs) off the statement by which the dump's own 'gosem.cut.vars' lays the variable. In a bare row this is a premise. The card (YtcajhkbobpakaaaDoorCards.lean) ties it to the program's text. -/
def laid_math_bits_deBruijn32tab {H : Type} : DataW H := .agg [.lit (.int .u8 0), .lit (.int .u8 1), .lit (.int .u8 28), .lit (.int .u8 2), .lit (.int .u8 29), .lit (.int .u8 14), .lit (.int .u8 24), .lit (.int .u8 3), .lit (.int .u8 30), .lit (.int .u8 22), .lit (.int .u8 20), .lit (.int .u8 15), .lit (.int .u8 25), .lit (.int .u8 17), .lit (.int .u8 4), .lit (.int .u8 8), .lit (.int .u8 31), .lit (.int .u8 27), .lit (.int .u8 13), .lit (.int .u8 23), .lit (.int .u8 21), .lit (.int .u8 19), .lit (.int .u8 16), .lit (.int .u8 7), .lit (.int .u8 26), .lit (.int .u8 12), .lit (.int .u8 18), .lit (.int .u8 6), .lit (.int .u8 11), .lit (.int .u8 5), .lit (.int .u8 10), .lit (.int .u8 9)]
def laid_math_bits_deBruijn64tab {H : Type} : DataW H := .agg [.lit (.int .u8 0), .lit (.int .u8 1), .lit (.int .u8 56), .lit (.int .u8 2), .lit (.int .u8 57), .lit (.int .u8 49), .lit (.int .u8 28), .lit (.int .u8 3), .lit (.int .u8 61), .lit (.int .u8 58), .lit (.int .u8 42), .lit (.int .u8 50), .lit (.int .u8 38), .lit (.int .u8 29), .lit (.int .u8 17), .lit (.int .u8 4), .lit (.int .u8 62), .lit (.int .u8 47), .lit (.int .u8 59), .lit (.int .u8 36), .lit (.int .u8 45), .lit (.int .u8 43), .lit (.int .u8 51), .lit (.int .u8 22), .lit (.int .u8 53), .lit (.int .u8 39), .lit (.int .u8 33), .lit (.int .u8 30), .lit (.int .u8 24), .lit (.int .u8 18), .lit (.int .u8 12), .lit (.int .u8 5), .lit (.int .u8 63), .lit (.int .u8 55), .lit (.int .u8 48), .lit (.int .u8 27), .lit (.int .u8 60), .lit (.int .u8 41), .lit (.int .u8 37), .lit (.int .u8 16), .lit (.int .u8 46), .lit (.int .u8 35), .lit (.int .u8 44), .lit (.int .u8 21), .lit (.int .u8 52), .lit (.int .u8 32), .lit (.int .u8 23), .lit (.int .u8 11), .lit (.int .u8 54), .lit (.int .u8 26), .lit (.int .u8 40), .lit (.int .u8 15), .lit (.int .u8 34), .lit (.int .u8 20), .lit (.int .u8 31), .lit (.int .u8 10), .lit (.int .u8 25), .lit (.int .u8 14), .lit (.int .u8 19), .lit (.int .u8 9), .lit (.int .u8 13), .lit (.int .u8 8), .lit (.int .u8 7), .lit (.int .u8 6)]
def laid_internal_strconv_uint64pow10 {H : Type} : DataW H := .agg [.lit (.int .u64 1), .lit (.int .u64 10), .lit (.int .u64 100), .lit (.int .u64 1000), .lit (.int .u64 10000), .lit (.int .u64 100000), .lit (.int .u64 1000000), .lit (.int .u64 10000000), .lit (.int .u64 100000000), .lit (.int .u64 1000000000), .lit (.int .u64 10000000000), .lit (.int .u64 100000000000), .lit (.int .u64 1000000000000), .lit (.int .u64 10000000000000), .lit (.int .u64 100000000000000), .lit (.int .u64 1000000000000000), .lit (.int .u64 10000000000000000), .lit (.int .u64 100000000000000000), .lit (.int .u64 1000000000000000000), .lit (.int .u64 10000000000000000000)]
def laid_treemerge_conflict_words {H : Type} : DataW H := .agg [.lit (.string [116, 101, 120, 116]), .lit (.string [107, 105, 100, 115]), .lit (.string [100, 101, 108, 101, 116, 101]), .lit (.string [109, 111, 118, 101]), .lit (.string [115, 104, 97, 112, 101])]
def laid_treemerge_conflict_names {H : Type} : DataW H := .agg [.lit (.string [102, 105, 108, 101]), .lit (.string [102, 117, 110, 99, 116, 105, 111, 110]), .lit (.string [112, 97, 114, 97, 109, 101, 116, 101, 114, 115]), .lit (.string [112, 97, 114, 97, 109, 101, 116, 101, 114]), .lit (.string [116, 121, 112, 101]), .lit (.string [98, 108, 111, 99, 107]), .lit (.string [99, 108, 97, 115, 115]), .lit (.string [98, 97, 115, 101, 32, 99, 108, 97, 115, 115]), .lit (.string [99, 111, 110, 115, 116, 97, 110, 116]), .lit (.string [118, 97, 114, 105, 97, 98, 108, 101]), .lit (.string [97, 115, 115, 105, 103, 110, 109, 101, 110, 116]), .lit (.string [114, 101, 116, 117, 114, 110]), .lit (.string [99, 111, 110, 100, 105, 116, 105, 111, 110]), .lit (.string [97, 108, 116, 101, 114, 110, 97, 116, 105, 118, 101]), .lit (.string [108, 111, 111, 112]), .lit (.string [97, 99, 116, 105, 111, 110]), .lit (.string [105, 110, 116, 101, 103, 101, 114]), .lit (.string [98, 111, 111, 108, 101, 97, 110]), .lit (.string [110, 97, 109, 101]), .lit (.string [99, 97, 108, 108]), .lit (.string [109, 101, 116, 104, 111, 100, 32, 99, 97, 108, 108]), .lit (.string [111, 98, 106, 101, 99, 116]), .lit (.string [115, 101, 108, 102]), .lit (.string [111, 112, 101, 114, 97, 116, 105, 111, 110]), .lit (.string [110, 101, 103, 97, 116, 105, 111, 110]), .lit (.string [112, 97, 114, 101, 110, 116, 104, 101, 115, 101, 115])]

/-- 'treemergelaw34.ConflictKeys': WHATEVER THE INPUT: true; the input reads as it did. -/
def conflictKeysSpec : ChangeSpec := { name := "conflictKeys", fn := fun _ => fun
  | [d] => { results := [.lit (.bool true)], args := [d] }
  | _ => none }
def conflictKeysRow : OpenClaim := { program := "ytcajhkbobpakaaadoor", sum := "c2c6e1332bce9f9661d739a9000ffa077a8054ad35543d9d9c385cb9e65e84c7", func := "treemerge/treemergelaw34.ConflictKeys", spec := "conflictKeys", unfollowed := true, recurses := true, named := ["treemerge/conflict.words", "treemerge/conflict.names", "internal/strconv.uint64pow10", "math/bits.deBruijn32tab", "math/bits.deBruijn64tab"], apart := false, laid := [("math/bits.deBruijn32tab", laid_math_bits_deBruijn32tab), ("math/bits.deBruijn64tab", laid_math_bits_deBruijn64tab), ("internal/strconv.uint64pow10", laid_internal_strconv_uint64pow10), ("treemerge/conflict.words", laid_treemerge_conflict_words), ("treemerge/conflict.names", laid_treemerge_conflict_names)] }
def ConflictKeysSaid : Prop := conflictKeysRow.holds Tryd.pinned (OpenSpec.ofChange conflictKeysSpec)

/-- ITS FALSE NEIGHBOUR: 'it returns false'. Refute it at one input. -/
def conflictKeysWrong : ChangeSpec := { name := "conflictKeys", fn := fun _ => fun
  | [d] => { results := [.lit (.bool false)], args := [d] }
  | _ => none }
def ConflictKeysWrongFalsely : Prop := conflictKeysRow.holds Tryd.pinned (OpenSpec.ofChange conflictKeysWrong)

/-- 'treemergelaw34.ConflictTexts': WHATEVER THE INPUT: true; the input reads as it did. -/
def conflictTextsSpec : ChangeSpec := { name := "conflictTexts", fn := fun _ => fun
  | [d1, d2] => { results := [.lit (.bool true)], args := [d1, d2] }
  | _ => none }
def conflictTextsRow : OpenClaim := { program := "ytcajhkbobpakaaadoor", sum := "c2c6e1332bce9f9661d739a9000ffa077a8054ad35543d9d9c385cb9e65e84c7", func := "treemerge/treemergelaw34.ConflictTexts", spec := "conflictTexts", unfollowed := true, recurses := true, named := ["treemerge/conflict.words", "treemerge/conflict.names", "internal/strconv.uint64pow10", "math/bits.deBruijn32tab", "math/bits.deBruijn64tab"], loops := true, apart := false, laid := [("math/bits.deBruijn32tab", laid_math_bits_deBruijn32tab), ("math/bits.deBruijn64tab", laid_math_bits_deBruijn64tab), ("internal/strconv.uint64pow10", laid_internal_strconv_uint64pow10), ("treemerge/conflict.words", laid_treemerge_conflict_words), ("treemerge/conflict.names", laid_treemerge_conflict_names)] }
def ConflictTextsSaid : Prop := conflictTextsRow.holds Tryd.pinned (OpenSpec.ofChange conflictTextsSpec)

/-- ITS FALSE NEIGHBOUR: 'it returns false'. Refute it at one input. -/
def conflictTextsWrong : ChangeSpec := { name := "conflictTexts", fn := fun _ => fun
  | [d1, d2] => { results := [.lit (.bool false)], args := [d1, d2] }
  | _ => none }
def ConflictTextsWrongFalsely : Prop := conflictTextsRow.holds Tryd.pinned (OpenSpec.ofChange conflictTextsWrong)

/-- 'treemergelaw34.ConflictLists': WHATEVER THE INPUT: true; the input reads as it did. -/
def conflictListsSpec : ChangeSpec := { name := "conflictLists", fn := fun _ => fun
  | [d1, d2] => { results := [.lit (.bool true)], args := [d1, d2] }
  | _ => none }
def conflictListsRow : OpenClaim := { program := "ytcajhkbobpakaaadoor", sum := "c2c6e1332bce9f9661d739a9000ffa077a8054ad35543d9d9c385cb9e65e84c7", func := "treemerge/treemergelaw34.ConflictLists", spec := "conflictLists", unfollowed := true, recurses := true, named := ["treemerge/conflict.words", "treemerge/conflict.names", "internal/strconv.uint64pow10", "math/bits.deBruijn32tab", "math/bits.deBruijn64tab"], apart := false, laid := [("math/bits.deBruijn32tab", laid_math_bits_deBruijn32tab), ("math/bits.deBruijn64tab", laid_math_bits_deBruijn64tab), ("internal/strconv.uint64pow10", laid_internal_strconv_uint64pow10), ("treemerge/conflict.words", laid_treemerge_conflict_words), ("treemerge/conflict.names", laid_treemerge_conflict_names)] }
def ConflictListsSaid : Prop := conflictListsRow.holds Tryd.pinned (OpenSpec.ofChange conflictListsSpec)

/-- ITS FALSE NEIGHBOUR: 'it returns false'. Refute it at one input. -/
def conflictListsWrong : ChangeSpec := { name := "conflictLists", fn := fun _ => fun
  | [d1, d2] => { results := [.lit (.bool false)], args := [d1, d2] }
  | _ => none }
def ConflictListsWrongFalsely : Prop := conflictListsRow.holds Tryd.pinned (OpenSpec.ofChange conflictListsWrong)

/-- 'treemergelaw34.ConflictExplains': WHATEVER THE INPUT: true; the input reads as it did. -/
def conflictExplainsSpec : ChangeSpec := { name := "conflictExplains", fn := fun _ => fun
  | [d1, d2, d3] => { results := [.lit (.bool true)], args := [d1, d2, d3] }
  | _ => none }
def conflictExplainsRow : OpenClaim := { program := "ytcajhkbobpakaaadoor", sum := "c2c6e1332bce9f9661d739a9000ffa077a8054ad35543d9d9c385cb9e65e84c7", func := "treemerge/treemergelaw34.ConflictExplains", spec := "conflictExplains", unfollowed := true, recurses := true, named := ["treemerge/conflict.words", "treemerge/conflict.names", "internal/strconv.uint64pow10", "math/bits.deBruijn32tab", "math/bits.deBruijn64tab"], loops := true, apart := false, laid := [("math/bits.deBruijn32tab", laid_math_bits_deBruijn32tab), ("math/bits.deBruijn64tab", laid_math_bits_deBruijn64tab), ("internal/strconv.uint64pow10", laid_internal_strconv_uint64pow10), ("treemerge/conflict.words", laid_treemerge_conflict_words), ("treemerge/conflict.names", laid_treemerge_conflict_names)] }
def ConflictExplainsSaid : Prop := conflictExplainsRow.holds Tryd.pinned (OpenSpec.ofChange conflictExplainsSpec)

/-- ITS FALSE NEIGHBOUR: 'it returns false'. Refute it at one input. -/
def conflictExplainsWrong : ChangeSpec := { name := "conflictExplains", fn := fun _ => fun
  | [d1, d2, d3] => { results := [.lit (.bool false)], args := [d1, d2, d3] }
  | _ => none }
def ConflictExplainsWrongFalsely : Prop := conflictExplainsRow.holds Tryd.pinned (OpenSpec.ofChange conflictExplainsWrong)

/-- 'treemergelaw34.ConflictOrder': WHATEVER THE INPUT: true; the input reads as it did. -/
def conflictOrderSpec : ChangeSpec := { name := "conflictOrder", fn := fun _ => fun
  | [d] => { results := [.lit (.bool true)], args := [d] }
  | _ => none }
def conflictOrderRow : OpenClaim := { program := "ytcajhkbobpakaaadoor", sum := "c2c6e1332bce9f9661d739a9000ffa077a8054ad35543d9d9c385cb9e65e84c7", func := "treemerge/treemergelaw34.ConflictOrder", spec := "conflictOrder", unfollowed := true, recurses := true, named := ["treemerge/conflict.words", "treemerge/conflict.names", "internal/strconv.uint64pow10", "math/bits.deBruijn32tab", "math/bits.deBruijn64tab"], apart := false, laid := [("math/bits.deBruijn32tab", laid_math_bits_deBruijn32tab), ("math/bits.deBruijn64tab", laid_math_bits_deBruijn64tab), ("internal/strconv.uint64pow10", laid_internal_strconv_uint64pow10), ("treemerge/conflict.words", laid_treemerge_conflict_words), ("treemerge/conflict.names", laid_treemerge_conflict_names)] }
def ConflictOrderSaid : Prop := conflictOrderRow.holds Tryd.pinned (OpenSpec.ofChange conflictOrderSpec)

/-- ITS FALSE NEIGHBOUR: 'it returns false'. Refute it at one input. -/
def conflictOrderWrong : ChangeSpec := { name := "conflictOrder", fn := fun _ => fun
  | [d] => { results := [.lit (.bool false)], args := [d] }
  | _ => none }
def ConflictOrderWrongFalsely : Prop := conflictOrderRow.holds Tryd.pinned (OpenSpec.ofChange conflictOrderWrong)

/-- 'treemergelaw34.ConflictOpen': WHATEVER THE INPUT: true; the input reads as it did. -/
def conflictOpenSpec : ChangeSpec := { name := "conflictOpen", fn := fun _ => fun
  | [d1, d2, d3] => { results := [.lit (.bool true)], args := [d1, d2, d3] }
  | _ => none }
def conflictOpenRow : OpenClaim := { program := "ytcajhkbobpakaaadoor", sum := "c2c6e1332bce9f9661d739a9000ffa077a8054ad35543d9d9c385cb9e65e84c7", func := "treemerge/treemergelaw34.ConflictOpen", spec := "conflictOpen", unfollowed := true, recurses := true, named := ["treemerge/conflict.words", "treemerge/conflict.names", "internal/strconv.uint64pow10", "math/bits.deBruijn32tab", "math/bits.deBruijn64tab"], apart := false, laid := [("math/bits.deBruijn32tab", laid_math_bits_deBruijn32tab), ("math/bits.deBruijn64tab", laid_math_bits_deBruijn64tab), ("internal/strconv.uint64pow10", laid_internal_strconv_uint64pow10), ("treemerge/conflict.words", laid_treemerge_conflict_words), ("treemerge/conflict.names", laid_treemerge_conflict_names)] }
def ConflictOpenSaid : Prop := conflictOpenRow.holds Tryd.pinned (OpenSpec.ofChange conflictOpenSpec)

/-- ITS FALSE NEIGHBOUR: 'it returns false'. Refute it at one input. -/
def conflictOpenWrong : ChangeSpec := { name := "conflictOpen", fn := fun _ => fun
  | [d1, d2, d3] => { results := [.lit (.bool false)], args := [d1, d2, d3] }
  | _ => none }
def ConflictOpenWrongFalsely : Prop := conflictOpenRow.holds Tryd.pinned (OpenSpec.ofChange conflictOpenWrong)

/- THE SECOND FORM. 'bulk': how many values and letters a reading holds, each counted each time it is reached (what is shared counts as often as it is met; a slice's spare places count too). A statement '..UptoSaid' is the law's where the arguments, and the package variables that the reading takes, are together of bulk at most 1048576: NARROWER than '..Said'. Prove '..Said' where nothing that the law and all that it calls make is longer than what came in: it says more and counts as full. Else prove '..UptoSaid'. A law counts once. -/
mutual
def uptoBulk {H : Type} : DataW H → Nat
  | .lit (.string bytes) => bytes.length + 1
  | .lit _ => 1
  | .nil => 1
  | .ptr d => uptoBulk d + 1
  | .slice elems spare => uptoBulkAll elems + uptoBulkAll spare + 1
  | .agg parts => uptoBulkAll parts + 1
  | .iface _ d => uptoBulk d + 1
  | .map entries => uptoBulkEntries entries + 1
  | .held _ => 1
def uptoBulkAll {H : Type} : List (DataW H) → Nat
  | [] => 0
  | d :: r => uptoBulk d + uptoBulkAll r
def uptoBulkEntries {H : Type} : List (Lit × DataW H) → Nat
  | [] => 0
  | x :: r => uptoBulkEntry x + uptoBulkEntries r
def uptoBulkEntry {H : Type} : Lit × DataW H → Nat
  | (.string bytes, d) => bytes.length + uptoBulk d + 1
  | (_, d) => uptoBulk d + 1
 end
def uptoSmall : (H : Type) → List (DataW H) → Bool := fun _ ds => decide (uptoBulkAll ds ≤ 1048576)
def OpenSpec.upto (s : _root_.Go.ChangeSpec) : _root_.Go.OpenSpec := { _root_.Go.OpenSpec.ofChange s with cond := some uptoSmall }

/-- 'treemergelaw34.ConflictKeys', WHERE WHAT IT READS IS OF BULK AT MOST 1048576: true; the input reads as it did. -/
def conflictKeysUptoRow : OpenClaim := { program := "ytcajhkbobpakaaadoor", sum := "c2c6e1332bce9f9661d739a9000ffa077a8054ad35543d9d9c385cb9e65e84c7", func := "treemerge/treemergelaw34.ConflictKeys", spec := "conflictKeys", unfollowed := true, recurses := true, named := ["treemerge/conflict.words", "treemerge/conflict.names", "internal/strconv.uint64pow10", "math/bits.deBruijn32tab", "math/bits.deBruijn64tab"], apart := false, laid := [("math/bits.deBruijn32tab", laid_math_bits_deBruijn32tab), ("math/bits.deBruijn64tab", laid_math_bits_deBruijn64tab), ("internal/strconv.uint64pow10", laid_internal_strconv_uint64pow10), ("treemerge/conflict.words", laid_treemerge_conflict_words), ("treemerge/conflict.names", laid_treemerge_conflict_names)], narrowed := true }
def ConflictKeysUptoSaid : Prop := conflictKeysUptoRow.holds Tryd.pinned (OpenSpec.upto conflictKeysSpec)

/-- 'treemergelaw34.ConflictTexts', WHERE WHAT IT READS IS OF BULK AT MOST 1048576: true; the input reads as it did. -/
def conflictTextsUptoRow : OpenClaim := { program := "ytcajhkbobpakaaadoor", sum := "c2c6e1332bce9f9661d739a9000ffa077a8054ad35543d9d9c385cb9e65e84c7", func := "treemerge/treemergelaw34.ConflictTexts", spec := "conflictTexts", unfollowed := true, recurses := true, named := ["treemerge/conflict.words", "treemerge/conflict.names", "internal/strconv.uint64pow10", "math/bits.deBruijn32tab", "math/bits.deBruijn64tab"], loops := true, apart := false, laid := [("math/bits.deBruijn32tab", laid_math_bits_deBruijn32tab), ("math/bits.deBruijn64tab", laid_math_bits_deBruijn64tab), ("internal/strconv.uint64pow10", laid_internal_strconv_uint64pow10), ("treemerge/conflict.words", laid_treemerge_conflict_words), ("treemerge/conflict.names", laid_treemerge_conflict_names)], narrowed := true }
def ConflictTextsUptoSaid : Prop := conflictTextsUptoRow.holds Tryd.pinned (OpenSpec.upto conflictTextsSpec)

/-- 'treemergelaw34.ConflictLists', WHERE WHAT IT READS IS OF BULK AT MOST 1048576: true; the input reads as it did. -/
def conflictListsUptoRow : OpenClaim := { program := "ytcajhkbobpakaaadoor", sum := "c2c6e1332bce9f9661d739a9000ffa077a8054ad35543d9d9c385cb9e65e84c7", func := "treemerge/treemergelaw34.ConflictLists", spec := "conflictLists", unfollowed := true, recurses := true, named := ["treemerge/conflict.words", "treemerge/conflict.names", "internal/strconv.uint64pow10", "math/bits.deBruijn32tab", "math/bits.deBruijn64tab"], apart := false, laid := [("math/bits.deBruijn32tab", laid_math_bits_deBruijn32tab), ("math/bits.deBruijn64tab", laid_math_bits_deBruijn64tab), ("internal/strconv.uint64pow10", laid_internal_strconv_uint64pow10), ("treemerge/conflict.words", laid_treemerge_conflict_words), ("treemerge/conflict.names", laid_treemerge_conflict_names)], narrowed := true }
def ConflictListsUptoSaid : Prop := conflictListsUptoRow.holds Tryd.pinned (OpenSpec.upto conflictListsSpec)

/-- 'treemergelaw34.ConflictExplains', WHERE WHAT IT READS IS OF BULK AT MOST 1048576: true; the input reads as it did. -/
def conflictExplainsUptoRow : OpenClaim := { program := "ytcajhkbobpakaaadoor", sum := "c2c6e1332bce9f9661d739a9000ffa077a8054ad35543d9d9c385cb9e65e84c7", func := "treemerge/treemergelaw34.ConflictExplains", spec := "conflictExplains", unfollowed := true, recurses := true, named := ["treemerge/conflict.words", "treemerge/conflict.names", "internal/strconv.uint64pow10", "math/bits.deBruijn32tab", "math/bits.deBruijn64tab"], loops := true, apart := false, laid := [("math/bits.deBruijn32tab", laid_math_bits_deBruijn32tab), ("math/bits.deBruijn64tab", laid_math_bits_deBruijn64tab), ("internal/strconv.uint64pow10", laid_internal_strconv_uint64pow10), ("treemerge/conflict.words", laid_treemerge_conflict_words), ("treemerge/conflict.names", laid_treemerge_conflict_names)], narrowed := true }
def ConflictExplainsUptoSaid : Prop := conflictExplainsUptoRow.holds Tryd.pinned (OpenSpec.upto conflictExplainsSpec)

/-- 'treemergelaw34.ConflictOrder', WHERE WHAT IT READS IS OF BULK AT MOST 1048576: true; the input reads as it did. -/
def conflictOrderUptoRow : OpenClaim := { program := "ytcajhkbobpakaaadoor", sum := "c2c6e1332bce9f9661d739a9000ffa077a8054ad35543d9d9c385cb9e65e84c7", func := "treemerge/treemergelaw34.ConflictOrder", spec := "conflictOrder", unfollowed := true, recurses := true, named := ["treemerge/conflict.words", "treemerge/conflict.names", "internal/strconv.uint64pow10", "math/bits.deBruijn32tab", "math/bits.deBruijn64tab"], apart := false, laid := [("math/bits.deBruijn32tab", laid_math_bits_deBruijn32tab), ("math/bits.deBruijn64tab", laid_math_bits_deBruijn64tab), ("internal/strconv.uint64pow10", laid_internal_strconv_uint64pow10), ("treemerge/conflict.words", laid_treemerge_conflict_words), ("treemerge/conflict.names", laid_treemerge_conflict_names)], narrowed := true }
def ConflictOrderUptoSaid : Prop := conflictOrderUptoRow.holds Tryd.pinned (OpenSpec.upto conflictOrderSpec)

/-- 'treemergelaw34.ConflictOpen', WHERE WHAT IT READS IS OF BULK AT MOST 1048576: true; the input reads as it did. -/
def conflictOpenUptoRow : OpenClaim := { program := "ytcajhkbobpakaaadoor", sum := "c2c6e1332bce9f9661d739a9000ffa077a8054ad35543d9d9c385cb9e65e84c7", func := "treemerge/treemergelaw34.ConflictOpen", spec := "conflictOpen", unfollowed := true, recurses := true, named := ["treemerge/conflict.words", "treemerge/conflict.names", "internal/strconv.uint64pow10", "math/bits.deBruijn32tab", "math/bits.deBruijn64tab"], apart := false, laid := [("math/bits.deBruijn32tab", laid_math_bits_deBruijn32tab), ("math/bits.deBruijn64tab", laid_math_bits_deBruijn64tab), ("internal/strconv.uint64pow10", laid_internal_strconv_uint64pow10), ("treemerge/conflict.words", laid_treemerge_conflict_words), ("treemerge/conflict.names", laid_treemerge_conflict_names)], narrowed := true }
def ConflictOpenUptoSaid : Prop := conflictOpenUptoRow.holds Tryd.pinned (OpenSpec.upto conflictOpenSpec)

end Rows
end Go.Proofs.YtcajhkbobpakaaaDoor
