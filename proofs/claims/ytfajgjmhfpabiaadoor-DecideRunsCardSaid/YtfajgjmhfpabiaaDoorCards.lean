/-
  DERIVED. GIVEN WITH THE SEED: THE CARDS: each row of YtfajgjmhfpabiaaDoorRows.lean that lists a variable, with what it lists TIED to the program's text (the seventh form; the later family's looks); each row that meets fmt, with fmt's text TOLD by the authors' own Lean function (tested against real Go, not proved from fmt's source: count such statements apart). THE CARD IS WHAT COUNTS. Prove the row's statement (the work); the ties are given (YtfajgjmhfpabiaaDoorTie.lean); close each card by the builder's one call (the guide's Derived/Test/ToyasCard.lean, 'card_holds'). Laid BY PROGRAM, IN A SANDBOX (cutbox-door.mjs). By AI agents, Wed Nov 11 2026. No macro, syntax, notation, axiom, sorry.
-/
import Derived.Test.YtfajgjmhfpabiaaDoorRows
import GoSem.ClaimSeven
namespace Go.Proofs.YtfajgjmhfpabiaaDoor
namespace Rows

/-- THE TIED CARD OF 'treemergelaw36.DecideParses'. -/
def decideParsesCard : Claim7 := { stood := { row := decideParsesRow, standIns := [], harness := (true, "0d5b99c91ebf112cd1de47831029bf5dc777a201e4fc9957b990e4aafee74f44"), looks := false }, kinds := [], alts := [], laidByText := true, laidKinds := [.data], laidTests := true, laidLooks := .later }
def DecideParsesCardSaid : Prop := Claim7.holds Tryd.pinned (.plain (OpenSpec.ofChange decideParsesSpec)) decideParsesCard

/-- THE TIED CARD OF 'treemergelaw36.DecideFull'. -/
def decideFullCard : Claim7 := { stood := { row := decideFullRow, standIns := [], harness := (true, "0d5b99c91ebf112cd1de47831029bf5dc777a201e4fc9957b990e4aafee74f44"), looks := false }, kinds := [], alts := [], laidByText := true, laidKinds := [.data], laidTests := true, laidLooks := .later }
def DecideFullCardSaid : Prop := Claim7.holds Tryd.pinned (.plain (OpenSpec.ofChange decideFullSpec)) decideFullCard

/-- THE TIED CARD OF 'treemergelaw36.DecideTexts'. -/
def decideTextsCard : Claim7 := { stood := { row := decideTextsRow, standIns := [], harness := (true, "0d5b99c91ebf112cd1de47831029bf5dc777a201e4fc9957b990e4aafee74f44"), looks := false }, kinds := [], alts := [], laidByText := true, laidKinds := [.data], laidTests := true, laidLooks := .later }
def DecideTextsCardSaid : Prop := Claim7.holds Tryd.pinned (.plain (OpenSpec.ofChange decideTextsSpec)) decideTextsCard

/-- THE TIED CARD OF 'treemergelaw36.DecideOrders'. -/
def decideOrdersCard : Claim7 := { stood := { row := decideOrdersRow, standIns := [], harness := (true, "0d5b99c91ebf112cd1de47831029bf5dc777a201e4fc9957b990e4aafee74f44"), looks := false }, kinds := [], alts := [], laidByText := true, laidKinds := [.data], laidTests := true, laidLooks := .later }
def DecideOrdersCardSaid : Prop := Claim7.holds Tryd.pinned (.plain (OpenSpec.ofChange decideOrdersSpec)) decideOrdersCard

/-- THE TIED CARD OF 'treemergelaw36.DecideRuns'. -/
def decideRunsCard : Claim7 := { stood := { row := decideRunsRow, standIns := [], harness := (true, "0d5b99c91ebf112cd1de47831029bf5dc777a201e4fc9957b990e4aafee74f44"), looks := false }, kinds := [], alts := [], laidByText := true, laidKinds := [.data, .data, .data, .data], laidTests := true, laidLooks := .later }
def DecideRunsCardSaid : Prop := Claim7.holds Tryd.pinned (.plain (OpenSpec.ofChange decideRunsSpec)) decideRunsCard

/-- THE TIED CARD OF 'treemergelaw36.DecideRecalls'. -/
def decideRecallsCard : Claim7 := { stood := { row := decideRecallsRow, standIns := [], harness := (true, "0d5b99c91ebf112cd1de47831029bf5dc777a201e4fc9957b990e4aafee74f44"), looks := false }, kinds := [], alts := [], laidByText := true, laidKinds := [.data, .data, .data, .data], laidTests := true, laidLooks := .later }
def DecideRecallsCardSaid : Prop := Claim7.holds Tryd.pinned (.plain (OpenSpec.ofChange decideRecallsSpec)) decideRecallsCard

/-- THE TIED CARD OF 'treemergelaw36.DecideResolves'. -/
def decideResolvesCard : Claim7 := { stood := { row := decideResolvesRow, standIns := [], harness := (true, "0d5b99c91ebf112cd1de47831029bf5dc777a201e4fc9957b990e4aafee74f44"), looks := false }, kinds := [], alts := [], laidByText := true, laidKinds := [.data, .data, .data, .data], laidTests := true, laidLooks := .later }
def DecideResolvesCardSaid : Prop := Claim7.holds Tryd.pinned (.plain (OpenSpec.ofChange decideResolvesSpec)) decideResolvesCard

/-- THE SECOND FORM's CARD OF 'treemergelaw36.DecideParses'. -/
def decideParsesUptoCard : Claim7 := { stood := { row := decideParsesUptoRow, standIns := [], harness := (true, "0d5b99c91ebf112cd1de47831029bf5dc777a201e4fc9957b990e4aafee74f44"), looks := false }, kinds := [], alts := [], laidByText := true, laidKinds := [.data], laidTests := true, laidLooks := .later }
def DecideParsesUptoCardSaid : Prop := Claim7.holds Tryd.pinned (.plain (OpenSpec.upto decideParsesSpec)) decideParsesUptoCard

/-- THE SECOND FORM's CARD OF 'treemergelaw36.DecideFull'. -/
def decideFullUptoCard : Claim7 := { stood := { row := decideFullUptoRow, standIns := [], harness := (true, "0d5b99c91ebf112cd1de47831029bf5dc777a201e4fc9957b990e4aafee74f44"), looks := false }, kinds := [], alts := [], laidByText := true, laidKinds := [.data], laidTests := true, laidLooks := .later }
def DecideFullUptoCardSaid : Prop := Claim7.holds Tryd.pinned (.plain (OpenSpec.upto decideFullSpec)) decideFullUptoCard

/-- THE SECOND FORM's CARD OF 'treemergelaw36.DecideTexts'. -/
def decideTextsUptoCard : Claim7 := { stood := { row := decideTextsUptoRow, standIns := [], harness := (true, "0d5b99c91ebf112cd1de47831029bf5dc777a201e4fc9957b990e4aafee74f44"), looks := false }, kinds := [], alts := [], laidByText := true, laidKinds := [.data], laidTests := true, laidLooks := .later }
def DecideTextsUptoCardSaid : Prop := Claim7.holds Tryd.pinned (.plain (OpenSpec.upto decideTextsSpec)) decideTextsUptoCard

/-- THE SECOND FORM's CARD OF 'treemergelaw36.DecideOrders'. -/
def decideOrdersUptoCard : Claim7 := { stood := { row := decideOrdersUptoRow, standIns := [], harness := (true, "0d5b99c91ebf112cd1de47831029bf5dc777a201e4fc9957b990e4aafee74f44"), looks := false }, kinds := [], alts := [], laidByText := true, laidKinds := [.data], laidTests := true, laidLooks := .later }
def DecideOrdersUptoCardSaid : Prop := Claim7.holds Tryd.pinned (.plain (OpenSpec.upto decideOrdersSpec)) decideOrdersUptoCard

/-- THE SECOND FORM's CARD OF 'treemergelaw36.DecideRuns'. -/
def decideRunsUptoCard : Claim7 := { stood := { row := decideRunsUptoRow, standIns := [], harness := (true, "0d5b99c91ebf112cd1de47831029bf5dc777a201e4fc9957b990e4aafee74f44"), looks := false }, kinds := [], alts := [], laidByText := true, laidKinds := [.data, .data, .data, .data], laidTests := true, laidLooks := .later }
def DecideRunsUptoCardSaid : Prop := Claim7.holds Tryd.pinned (.plain (OpenSpec.upto decideRunsSpec)) decideRunsUptoCard

/-- THE SECOND FORM's CARD OF 'treemergelaw36.DecideRecalls'. -/
def decideRecallsUptoCard : Claim7 := { stood := { row := decideRecallsUptoRow, standIns := [], harness := (true, "0d5b99c91ebf112cd1de47831029bf5dc777a201e4fc9957b990e4aafee74f44"), looks := false }, kinds := [], alts := [], laidByText := true, laidKinds := [.data, .data, .data, .data], laidTests := true, laidLooks := .later }
def DecideRecallsUptoCardSaid : Prop := Claim7.holds Tryd.pinned (.plain (OpenSpec.upto decideRecallsSpec)) decideRecallsUptoCard

/-- THE SECOND FORM's CARD OF 'treemergelaw36.DecideResolves'. -/
def decideResolvesUptoCard : Claim7 := { stood := { row := decideResolvesUptoRow, standIns := [], harness := (true, "0d5b99c91ebf112cd1de47831029bf5dc777a201e4fc9957b990e4aafee74f44"), looks := false }, kinds := [], alts := [], laidByText := true, laidKinds := [.data, .data, .data, .data], laidTests := true, laidLooks := .later }
def DecideResolvesUptoCardSaid : Prop := Claim7.holds Tryd.pinned (.plain (OpenSpec.upto decideResolvesSpec)) decideResolvesUptoCard
end Rows
end Go.Proofs.YtfajgjmhfpabiaaDoor
