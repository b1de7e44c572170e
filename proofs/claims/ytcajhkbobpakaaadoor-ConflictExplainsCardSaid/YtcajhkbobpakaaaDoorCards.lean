/-
  DERIVED. GIVEN WITH THE SEED: THE CARDS: each row of YtcajhkbobpakaaaDoorRows.lean that lists a variable, with what it lists TIED to the program's text (the seventh form; the later family's looks); each row that meets fmt, with fmt's text TOLD by the authors' own Lean function (tested against real Go, not proved from fmt's source: count such statements apart). THE CARD IS WHAT COUNTS. Prove the row's statement (the work); the ties are given (YtcajhkbobpakaaaDoorTie.lean); close each card by the builder's one call (the guide's Derived/Test/ToyasCard.lean, 'card_holds'). Laid BY PROGRAM, IN A SANDBOX (cutbox-door.mjs). By AI agents, Wed Nov 11 2026. No macro, syntax, notation, axiom, sorry.
-/
import Derived.Test.YtcajhkbobpakaaaDoorRows
import GoSem.ClaimSeven
namespace Go.Proofs.YtcajhkbobpakaaaDoor
namespace Rows

/-- THE TIED CARD OF 'treemergelaw34.ConflictKeys'. -/
def conflictKeysCard : Claim7 := { stood := { row := conflictKeysRow, standIns := [], harness := (true, "8a1df1d2d4fbe72a62a9767202bc504a1b7404adcd9874a239da38bab8db9172"), looks := false }, kinds := [], alts := [], laidByText := true, laidKinds := [.data, .data, .data, .data, .data], laidTests := true, laidLooks := .later }
def ConflictKeysCardSaid : Prop := Claim7.holds Tryd.pinned (.plain (OpenSpec.ofChange conflictKeysSpec)) conflictKeysCard

/-- THE TIED CARD OF 'treemergelaw34.ConflictTexts'. -/
def conflictTextsCard : Claim7 := { stood := { row := conflictTextsRow, standIns := [], harness := (true, "8a1df1d2d4fbe72a62a9767202bc504a1b7404adcd9874a239da38bab8db9172"), looks := false }, kinds := [], alts := [], laidByText := true, laidKinds := [.data, .data, .data, .data, .data], laidTests := true, laidLooks := .later }
def ConflictTextsCardSaid : Prop := Claim7.holds Tryd.pinned (.plain (OpenSpec.ofChange conflictTextsSpec)) conflictTextsCard

/-- THE TIED CARD OF 'treemergelaw34.ConflictLists'. -/
def conflictListsCard : Claim7 := { stood := { row := conflictListsRow, standIns := [], harness := (true, "8a1df1d2d4fbe72a62a9767202bc504a1b7404adcd9874a239da38bab8db9172"), looks := false }, kinds := [], alts := [], laidByText := true, laidKinds := [.data, .data, .data, .data, .data], laidTests := true, laidLooks := .later }
def ConflictListsCardSaid : Prop := Claim7.holds Tryd.pinned (.plain (OpenSpec.ofChange conflictListsSpec)) conflictListsCard

/-- THE TIED CARD OF 'treemergelaw34.ConflictExplains'. -/
def conflictExplainsCard : Claim7 := { stood := { row := conflictExplainsRow, standIns := [], harness := (true, "8a1df1d2d4fbe72a62a9767202bc504a1b7404adcd9874a239da38bab8db9172"), looks := false }, kinds := [], alts := [], laidByText := true, laidKinds := [.data, .data, .data, .data, .data], laidTests := true, laidLooks := .later }
def ConflictExplainsCardSaid : Prop := Claim7.holds Tryd.pinned (.plain (OpenSpec.ofChange conflictExplainsSpec)) conflictExplainsCard

/-- THE TIED CARD OF 'treemergelaw34.ConflictOrder'. -/
def conflictOrderCard : Claim7 := { stood := { row := conflictOrderRow, standIns := [], harness := (true, "8a1df1d2d4fbe72a62a9767202bc504a1b7404adcd9874a239da38bab8db9172"), looks := false }, kinds := [], alts := [], laidByText := true, laidKinds := [.data, .data, .data, .data, .data], laidTests := true, laidLooks := .later }
def ConflictOrderCardSaid : Prop := Claim7.holds Tryd.pinned (.plain (OpenSpec.ofChange conflictOrderSpec)) conflictOrderCard

/-- THE TIED CARD OF 'treemergelaw34.ConflictOpen'. -/
def conflictOpenCard : Claim7 := { stood := { row := conflictOpenRow, standIns := [], harness := (true, "8a1df1d2d4fbe72a62a9767202bc504a1b7404adcd9874a239da38bab8db9172"), looks := false }, kinds := [], alts := [], laidByText := true, laidKinds := [.data, .data, .data, .data, .data], laidTests := true, laidLooks := .later }
def ConflictOpenCardSaid : Prop := Claim7.holds Tryd.pinned (.plain (OpenSpec.ofChange conflictOpenSpec)) conflictOpenCard

/-- THE SECOND FORM's CARD OF 'treemergelaw34.ConflictKeys'. -/
def conflictKeysUptoCard : Claim7 := { stood := { row := conflictKeysUptoRow, standIns := [], harness := (true, "8a1df1d2d4fbe72a62a9767202bc504a1b7404adcd9874a239da38bab8db9172"), looks := false }, kinds := [], alts := [], laidByText := true, laidKinds := [.data, .data, .data, .data, .data], laidTests := true, laidLooks := .later }
def ConflictKeysUptoCardSaid : Prop := Claim7.holds Tryd.pinned (.plain (OpenSpec.upto conflictKeysSpec)) conflictKeysUptoCard

/-- THE SECOND FORM's CARD OF 'treemergelaw34.ConflictTexts'. -/
def conflictTextsUptoCard : Claim7 := { stood := { row := conflictTextsUptoRow, standIns := [], harness := (true, "8a1df1d2d4fbe72a62a9767202bc504a1b7404adcd9874a239da38bab8db9172"), looks := false }, kinds := [], alts := [], laidByText := true, laidKinds := [.data, .data, .data, .data, .data], laidTests := true, laidLooks := .later }
def ConflictTextsUptoCardSaid : Prop := Claim7.holds Tryd.pinned (.plain (OpenSpec.upto conflictTextsSpec)) conflictTextsUptoCard

/-- THE SECOND FORM's CARD OF 'treemergelaw34.ConflictLists'. -/
def conflictListsUptoCard : Claim7 := { stood := { row := conflictListsUptoRow, standIns := [], harness := (true, "8a1df1d2d4fbe72a62a9767202bc504a1b7404adcd9874a239da38bab8db9172"), looks := false }, kinds := [], alts := [], laidByText := true, laidKinds := [.data, .data, .data, .data, .data], laidTests := true, laidLooks := .later }
def ConflictListsUptoCardSaid : Prop := Claim7.holds Tryd.pinned (.plain (OpenSpec.upto conflictListsSpec)) conflictListsUptoCard

/-- THE SECOND FORM's CARD OF 'treemergelaw34.ConflictExplains'. -/
def conflictExplainsUptoCard : Claim7 := { stood := { row := conflictExplainsUptoRow, standIns := [], harness := (true, "8a1df1d2d4fbe72a62a9767202bc504a1b7404adcd9874a239da38bab8db9172"), looks := false }, kinds := [], alts := [], laidByText := true, laidKinds := [.data, .data, .data, .data, .data], laidTests := true, laidLooks := .later }
def ConflictExplainsUptoCardSaid : Prop := Claim7.holds Tryd.pinned (.plain (OpenSpec.upto conflictExplainsSpec)) conflictExplainsUptoCard

/-- THE SECOND FORM's CARD OF 'treemergelaw34.ConflictOrder'. -/
def conflictOrderUptoCard : Claim7 := { stood := { row := conflictOrderUptoRow, standIns := [], harness := (true, "8a1df1d2d4fbe72a62a9767202bc504a1b7404adcd9874a239da38bab8db9172"), looks := false }, kinds := [], alts := [], laidByText := true, laidKinds := [.data, .data, .data, .data, .data], laidTests := true, laidLooks := .later }
def ConflictOrderUptoCardSaid : Prop := Claim7.holds Tryd.pinned (.plain (OpenSpec.upto conflictOrderSpec)) conflictOrderUptoCard

/-- THE SECOND FORM's CARD OF 'treemergelaw34.ConflictOpen'. -/
def conflictOpenUptoCard : Claim7 := { stood := { row := conflictOpenUptoRow, standIns := [], harness := (true, "8a1df1d2d4fbe72a62a9767202bc504a1b7404adcd9874a239da38bab8db9172"), looks := false }, kinds := [], alts := [], laidByText := true, laidKinds := [.data, .data, .data, .data, .data], laidTests := true, laidLooks := .later }
def ConflictOpenUptoCardSaid : Prop := Claim7.holds Tryd.pinned (.plain (OpenSpec.upto conflictOpenSpec)) conflictOpenUptoCard
end Rows
end Go.Proofs.YtcajhkbobpakaaaDoor
