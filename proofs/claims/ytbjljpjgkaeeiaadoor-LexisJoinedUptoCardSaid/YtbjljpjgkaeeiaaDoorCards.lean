/-
  DERIVED. GIVEN WITH THE SEED: THE CARDS: each row of YtbjljpjgkaeeiaaDoorRows.lean that lists a variable, with what it lists TIED to the program's text (the seventh form; the later family's looks); each row that meets fmt, with fmt's text TOLD by the authors' own Lean function (tested against real Go, not proved from fmt's source: count such statements apart). THE CARD IS WHAT COUNTS. Prove the row's statement (the work); the ties are given (YtbjljpjgkaeeiaaDoorTie.lean); close each card by the builder's one call (the guide's Derived/Test/ToyasCard.lean, 'card_holds'). Laid BY PROGRAM, IN A SANDBOX (cutbox-door.mjs). By AI agents, Wed Nov 11 2026. No macro, syntax, notation, axiom, sorry.
-/
import Derived.Test.YtbjljpjgkaeeiaaDoorRows
import GoSem.ClaimSeven
namespace Go.Proofs.YtbjljpjgkaeeiaaDoor
namespace Rows

/-- THE TIED CARD OF 'headracelaw05.LexisNumbers'. -/
def lexisNumbersCard : Claim7 := { stood := { row := lexisNumbersRow, standIns := [], harness := (true, "cd8aaefca3ecc633e0905f522d337da6b1bab61856c80a656e11376f41e26825"), looks := true }, kinds := [], alts := [], laidByText := true, laidKinds := [.data, .data, .data, .data, .sentinel, .sentinel, .pinned], laidTests := true, laidLooks := .later }
def LexisNumbersCardSaid : Prop := Claim7.holds Tryd.pinned (.plain (OpenSpec.ofChange lexisNumbersSpec)) lexisNumbersCard

/-- THE TIED CARD OF 'headracelaw05.LexisLists'. -/
def lexisListsCard : Claim7 := { stood := { row := lexisListsRow, standIns := [], harness := (true, "cd8aaefca3ecc633e0905f522d337da6b1bab61856c80a656e11376f41e26825"), looks := true }, kinds := [], alts := [], laidByText := true, laidKinds := [.data, .data, .data, .data, .sentinel, .sentinel, .pinned], laidTests := true, laidLooks := .later }
def LexisListsCardSaid : Prop := Claim7.holds Tryd.pinned (.plain (OpenSpec.ofChange lexisListsSpec)) lexisListsCard

/-- THE TIED CARD OF 'headracelaw05.LexisBack'. -/
def lexisBackCard : Claim7 := { stood := { row := lexisBackRow, standIns := [], harness := (true, "cd8aaefca3ecc633e0905f522d337da6b1bab61856c80a656e11376f41e26825"), looks := true }, kinds := [], alts := [], laidByText := true, laidKinds := [.data, .data, .data, .data, .sentinel, .sentinel, .pinned], laidTests := true, laidLooks := .later }
def LexisBackCardSaid : Prop := Claim7.holds Tryd.pinned (.plain (OpenSpec.ofChange lexisBackSpec)) lexisBackCard

/-- THE TIED CARD OF 'headracelaw05.LexisJoined'. -/
def lexisJoinedCard : Claim7 := { stood := { row := lexisJoinedRow, standIns := [], harness := (true, "cd8aaefca3ecc633e0905f522d337da6b1bab61856c80a656e11376f41e26825"), looks := true }, kinds := [], alts := [], laidByText := true, laidKinds := [.data, .data, .data, .data, .sentinel, .sentinel, .pinned], laidTests := true, laidLooks := .later }
def LexisJoinedCardSaid : Prop := Claim7.holds Tryd.pinned (.plain (OpenSpec.ofChange lexisJoinedSpec)) lexisJoinedCard

/-- THE TIED CARD OF 'headracelaw05.LexisTells'. -/
def lexisTellsCard : Claim7 := { stood := { row := lexisTellsRow, standIns := [], harness := (true, "cd8aaefca3ecc633e0905f522d337da6b1bab61856c80a656e11376f41e26825"), looks := true }, kinds := [], alts := [], laidByText := true, laidKinds := [.data, .data, .data, .data, .sentinel, .sentinel, .pinned], laidTests := true, laidLooks := .later }
def LexisTellsCardSaid : Prop := Claim7.holds Tryd.pinned (.plain (OpenSpec.ofChange lexisTellsSpec)) lexisTellsCard

/-- THE SECOND FORM's CARD OF 'headracelaw05.LexisNumbers'. -/
def lexisNumbersUptoCard : Claim7 := { stood := { row := lexisNumbersUptoRow, standIns := [], harness := (true, "cd8aaefca3ecc633e0905f522d337da6b1bab61856c80a656e11376f41e26825"), looks := true }, kinds := [], alts := [], laidByText := true, laidKinds := [.data, .data, .data, .data, .sentinel, .sentinel, .pinned], laidTests := true, laidLooks := .later }
def LexisNumbersUptoCardSaid : Prop := Claim7.holds Tryd.pinned (.plain (OpenSpec.upto lexisNumbersSpec)) lexisNumbersUptoCard

/-- THE SECOND FORM's CARD OF 'headracelaw05.LexisLists'. -/
def lexisListsUptoCard : Claim7 := { stood := { row := lexisListsUptoRow, standIns := [], harness := (true, "cd8aaefca3ecc633e0905f522d337da6b1bab61856c80a656e11376f41e26825"), looks := true }, kinds := [], alts := [], laidByText := true, laidKinds := [.data, .data, .data, .data, .sentinel, .sentinel, .pinned], laidTests := true, laidLooks := .later }
def LexisListsUptoCardSaid : Prop := Claim7.holds Tryd.pinned (.plain (OpenSpec.upto lexisListsSpec)) lexisListsUptoCard

/-- THE SECOND FORM's CARD OF 'headracelaw05.LexisBack'. -/
def lexisBackUptoCard : Claim7 := { stood := { row := lexisBackUptoRow, standIns := [], harness := (true, "cd8aaefca3ecc633e0905f522d337da6b1bab61856c80a656e11376f41e26825"), looks := true }, kinds := [], alts := [], laidByText := true, laidKinds := [.data, .data, .data, .data, .sentinel, .sentinel, .pinned], laidTests := true, laidLooks := .later }
def LexisBackUptoCardSaid : Prop := Claim7.holds Tryd.pinned (.plain (OpenSpec.upto lexisBackSpec)) lexisBackUptoCard

/-- THE SECOND FORM's CARD OF 'headracelaw05.LexisJoined'. -/
def lexisJoinedUptoCard : Claim7 := { stood := { row := lexisJoinedUptoRow, standIns := [], harness := (true, "cd8aaefca3ecc633e0905f522d337da6b1bab61856c80a656e11376f41e26825"), looks := true }, kinds := [], alts := [], laidByText := true, laidKinds := [.data, .data, .data, .data, .sentinel, .sentinel, .pinned], laidTests := true, laidLooks := .later }
def LexisJoinedUptoCardSaid : Prop := Claim7.holds Tryd.pinned (.plain (OpenSpec.upto lexisJoinedSpec)) lexisJoinedUptoCard

/-- THE SECOND FORM's CARD OF 'headracelaw05.LexisTells'. -/
def lexisTellsUptoCard : Claim7 := { stood := { row := lexisTellsUptoRow, standIns := [], harness := (true, "cd8aaefca3ecc633e0905f522d337da6b1bab61856c80a656e11376f41e26825"), looks := true }, kinds := [], alts := [], laidByText := true, laidKinds := [.data, .data, .data, .data, .sentinel, .sentinel, .pinned], laidTests := true, laidLooks := .later }
def LexisTellsUptoCardSaid : Prop := Claim7.holds Tryd.pinned (.plain (OpenSpec.upto lexisTellsSpec)) lexisTellsUptoCard
end Rows
end Go.Proofs.YtbjljpjgkaeeiaaDoor
