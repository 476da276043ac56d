/-
  DERIVED. GIVEN WITH THE SEED: THE CARDS: each row of YtnlicpihondmgaaDoorRows.lean that lists a variable, with what it lists TIED to the program's text (the seventh form; the later family's looks); each row that meets fmt, with fmt's text TOLD by the authors' own Lean function (tested against real Go, not proved from fmt's source: count such statements apart). THE CARD IS WHAT COUNTS. Prove the row's statement (the work); the ties are given (YtnlicpihondmgaaDoorTie.lean); close each card by the builder's one call (the guide's Derived/Test/ToyasCard.lean, 'card_holds'). Laid BY PROGRAM, IN A SANDBOX (cutbox-door.mjs). By AI agents, Wed Nov 11 2026. No macro, syntax, notation, axiom, sorry.
-/
import Derived.Test.YtnlicpihondmgaaDoorRows
import GoSem.ClaimSeven
namespace Go.Proofs.YtnlicpihondmgaaDoor
namespace Rows

/-- THE TIED CARD OF 'headracelaw10.ChunkedBound'. -/
def chunkedBoundCard : Claim7 := { stood := { row := chunkedBoundRow, standIns := [], harness := (true, "cea551eae576519a678eb23b60dfec426f10be7cd1eb4e55784b0d7312a4ac3c"), looks := true }, kinds := [], alts := [], laidByText := true, laidKinds := [.data, .data, .data, .data, .sentinel, .sentinel, .pinned], laidTests := true, laidLooks := .later }
def ChunkedBoundCardSaid : Prop := Claim7.holds Tryd.pinned (.plain (OpenSpec.ofChange chunkedBoundSpec)) chunkedBoundCard

/-- THE TIED CARD OF 'headracelaw10.ChunkedWrites'. -/
def chunkedWritesCard : Claim7 := { stood := { row := chunkedWritesRow, standIns := [], harness := (true, "cea551eae576519a678eb23b60dfec426f10be7cd1eb4e55784b0d7312a4ac3c"), looks := true }, kinds := [], alts := [], laidByText := true, laidKinds := [.data, .data, .data, .data, .sentinel, .sentinel, .pinned], laidTests := true, laidLooks := .later }
def ChunkedWritesCardSaid : Prop := Claim7.holds Tryd.pinned (.plain (OpenSpec.ofChange chunkedWritesSpec)) chunkedWritesCard

/-- THE TIED CARD OF 'headracelaw10.ChunkedCut'. -/
def chunkedCutCard : Claim7 := { stood := { row := chunkedCutRow, standIns := [], harness := (true, "cea551eae576519a678eb23b60dfec426f10be7cd1eb4e55784b0d7312a4ac3c"), looks := true }, kinds := [], alts := [], laidByText := true, laidKinds := [.data, .data, .data, .data, .sentinel, .sentinel, .pinned], laidTests := true, laidLooks := .later }
def ChunkedCutCardSaid : Prop := Claim7.holds Tryd.pinned (.plain (OpenSpec.ofChange chunkedCutSpec)) chunkedCutCard

/-- THE TIED CARD OF 'headracelaw10.ChunkedFeeds'. -/
def chunkedFeedsCard : Claim7 := { stood := { row := chunkedFeedsRow, standIns := [], harness := (true, "cea551eae576519a678eb23b60dfec426f10be7cd1eb4e55784b0d7312a4ac3c"), looks := true }, kinds := [], alts := [], laidByText := true, laidKinds := [.data, .data, .data, .data, .sentinel, .sentinel, .pinned], laidTests := true, laidLooks := .later }
def ChunkedFeedsCardSaid : Prop := Claim7.holds Tryd.pinned (.plain (OpenSpec.ofChange chunkedFeedsSpec)) chunkedFeedsCard

/-- THE TIED CARD OF 'headracelaw10.ChunkedNil'. -/
def chunkedNilCard : Claim7 := { stood := { row := chunkedNilRow, standIns := [], harness := (true, "cea551eae576519a678eb23b60dfec426f10be7cd1eb4e55784b0d7312a4ac3c"), looks := true }, kinds := [], alts := [], laidByText := true, laidKinds := [.data, .data, .data, .data, .sentinel, .sentinel, .pinned], laidTests := true, laidLooks := .later }
def ChunkedNilCardSaid : Prop := Claim7.holds Tryd.pinned (.plain (OpenSpec.ofChange chunkedNilSpec)) chunkedNilCard

/-- THE TIED CARD OF 'headracelaw10.ChunkedBack'. -/
def chunkedBackCard : Claim7 := { stood := { row := chunkedBackRow, standIns := [], harness := (true, "cea551eae576519a678eb23b60dfec426f10be7cd1eb4e55784b0d7312a4ac3c"), looks := true }, kinds := [], alts := [], laidByText := true, laidKinds := [.data, .data, .data, .data, .sentinel, .sentinel, .pinned], laidTests := true, laidLooks := .later }
def ChunkedBackCardSaid : Prop := Claim7.holds Tryd.pinned (.plain (OpenSpec.ofChange chunkedBackSpec)) chunkedBackCard

/-- THE TIED CARD OF 'headracelaw11.BodyExact'. -/
def bodyExactCard : Claim7 := { stood := { row := bodyExactRow, standIns := [], harness := (true, "cea551eae576519a678eb23b60dfec426f10be7cd1eb4e55784b0d7312a4ac3c"), looks := true }, kinds := [], alts := [], laidByText := true, laidKinds := [.data, .data, .data, .data, .sentinel, .sentinel, .pinned], laidTests := true, laidLooks := .later }
def BodyExactCardSaid : Prop := Claim7.holds Tryd.pinned (.plain (OpenSpec.ofChange bodyExactSpec)) bodyExactCard

/-- THE TIED CARD OF 'headracelaw11.BodyBound'. -/
def bodyBoundCard : Claim7 := { stood := { row := bodyBoundRow, standIns := [], harness := (true, "cea551eae576519a678eb23b60dfec426f10be7cd1eb4e55784b0d7312a4ac3c"), looks := true }, kinds := [], alts := [], laidByText := true, laidKinds := [.data, .data, .data, .data, .sentinel, .sentinel, .pinned], laidTests := true, laidLooks := .later }
def BodyBoundCardSaid : Prop := Claim7.holds Tryd.pinned (.plain (OpenSpec.ofChange bodyBoundSpec)) bodyBoundCard

/-- THE TIED CARD OF 'headracelaw11.BodyNil'. -/
def bodyNilCard : Claim7 := { stood := { row := bodyNilRow, standIns := [], harness := (true, "cea551eae576519a678eb23b60dfec426f10be7cd1eb4e55784b0d7312a4ac3c"), looks := true }, kinds := [], alts := [], laidByText := true, laidKinds := [.data, .data, .data, .data, .sentinel, .sentinel, .pinned], laidTests := true, laidLooks := .later }
def BodyNilCardSaid : Prop := Claim7.holds Tryd.pinned (.plain (OpenSpec.ofChange bodyNilSpec)) bodyNilCard

/-- THE TIED CARD OF 'headracelaw11.BodyBehind'. -/
def bodyBehindCard : Claim7 := { stood := { row := bodyBehindRow, standIns := [], harness := (true, "cea551eae576519a678eb23b60dfec426f10be7cd1eb4e55784b0d7312a4ac3c"), looks := true }, kinds := [], alts := [], laidByText := true, laidKinds := [.data, .data, .data, .data, .sentinel, .sentinel, .pinned], laidTests := true, laidLooks := .later }
def BodyBehindCardSaid : Prop := Claim7.holds Tryd.pinned (.plain (OpenSpec.ofChange bodyBehindSpec)) bodyBehindCard

/-- THE SECOND FORM's CARD OF 'headracelaw10.ChunkedBound'. -/
def chunkedBoundUptoCard : Claim7 := { stood := { row := chunkedBoundUptoRow, standIns := [], harness := (true, "cea551eae576519a678eb23b60dfec426f10be7cd1eb4e55784b0d7312a4ac3c"), looks := true }, kinds := [], alts := [], laidByText := true, laidKinds := [.data, .data, .data, .data, .sentinel, .sentinel, .pinned], laidTests := true, laidLooks := .later }
def ChunkedBoundUptoCardSaid : Prop := Claim7.holds Tryd.pinned (.plain (OpenSpec.upto chunkedBoundSpec)) chunkedBoundUptoCard

/-- THE SECOND FORM's CARD OF 'headracelaw10.ChunkedWrites'. -/
def chunkedWritesUptoCard : Claim7 := { stood := { row := chunkedWritesUptoRow, standIns := [], harness := (true, "cea551eae576519a678eb23b60dfec426f10be7cd1eb4e55784b0d7312a4ac3c"), looks := true }, kinds := [], alts := [], laidByText := true, laidKinds := [.data, .data, .data, .data, .sentinel, .sentinel, .pinned], laidTests := true, laidLooks := .later }
def ChunkedWritesUptoCardSaid : Prop := Claim7.holds Tryd.pinned (.plain (OpenSpec.upto chunkedWritesSpec)) chunkedWritesUptoCard

/-- THE SECOND FORM's CARD OF 'headracelaw10.ChunkedCut'. -/
def chunkedCutUptoCard : Claim7 := { stood := { row := chunkedCutUptoRow, standIns := [], harness := (true, "cea551eae576519a678eb23b60dfec426f10be7cd1eb4e55784b0d7312a4ac3c"), looks := true }, kinds := [], alts := [], laidByText := true, laidKinds := [.data, .data, .data, .data, .sentinel, .sentinel, .pinned], laidTests := true, laidLooks := .later }
def ChunkedCutUptoCardSaid : Prop := Claim7.holds Tryd.pinned (.plain (OpenSpec.upto chunkedCutSpec)) chunkedCutUptoCard

/-- THE SECOND FORM's CARD OF 'headracelaw10.ChunkedFeeds'. -/
def chunkedFeedsUptoCard : Claim7 := { stood := { row := chunkedFeedsUptoRow, standIns := [], harness := (true, "cea551eae576519a678eb23b60dfec426f10be7cd1eb4e55784b0d7312a4ac3c"), looks := true }, kinds := [], alts := [], laidByText := true, laidKinds := [.data, .data, .data, .data, .sentinel, .sentinel, .pinned], laidTests := true, laidLooks := .later }
def ChunkedFeedsUptoCardSaid : Prop := Claim7.holds Tryd.pinned (.plain (OpenSpec.upto chunkedFeedsSpec)) chunkedFeedsUptoCard

/-- THE SECOND FORM's CARD OF 'headracelaw10.ChunkedNil'. -/
def chunkedNilUptoCard : Claim7 := { stood := { row := chunkedNilUptoRow, standIns := [], harness := (true, "cea551eae576519a678eb23b60dfec426f10be7cd1eb4e55784b0d7312a4ac3c"), looks := true }, kinds := [], alts := [], laidByText := true, laidKinds := [.data, .data, .data, .data, .sentinel, .sentinel, .pinned], laidTests := true, laidLooks := .later }
def ChunkedNilUptoCardSaid : Prop := Claim7.holds Tryd.pinned (.plain (OpenSpec.upto chunkedNilSpec)) chunkedNilUptoCard

/-- THE SECOND FORM's CARD OF 'headracelaw10.ChunkedBack'. -/
def chunkedBackUptoCard : Claim7 := { stood := { row := chunkedBackUptoRow, standIns := [], harness := (true, "cea551eae576519a678eb23b60dfec426f10be7cd1eb4e55784b0d7312a4ac3c"), looks := true }, kinds := [], alts := [], laidByText := true, laidKinds := [.data, .data, .data, .data, .sentinel, .sentinel, .pinned], laidTests := true, laidLooks := .later }
def ChunkedBackUptoCardSaid : Prop := Claim7.holds Tryd.pinned (.plain (OpenSpec.upto chunkedBackSpec)) chunkedBackUptoCard

/-- THE SECOND FORM's CARD OF 'headracelaw11.BodyExact'. -/
def bodyExactUptoCard : Claim7 := { stood := { row := bodyExactUptoRow, standIns := [], harness := (true, "cea551eae576519a678eb23b60dfec426f10be7cd1eb4e55784b0d7312a4ac3c"), looks := true }, kinds := [], alts := [], laidByText := true, laidKinds := [.data, .data, .data, .data, .sentinel, .sentinel, .pinned], laidTests := true, laidLooks := .later }
def BodyExactUptoCardSaid : Prop := Claim7.holds Tryd.pinned (.plain (OpenSpec.upto bodyExactSpec)) bodyExactUptoCard

/-- THE SECOND FORM's CARD OF 'headracelaw11.BodyBound'. -/
def bodyBoundUptoCard : Claim7 := { stood := { row := bodyBoundUptoRow, standIns := [], harness := (true, "cea551eae576519a678eb23b60dfec426f10be7cd1eb4e55784b0d7312a4ac3c"), looks := true }, kinds := [], alts := [], laidByText := true, laidKinds := [.data, .data, .data, .data, .sentinel, .sentinel, .pinned], laidTests := true, laidLooks := .later }
def BodyBoundUptoCardSaid : Prop := Claim7.holds Tryd.pinned (.plain (OpenSpec.upto bodyBoundSpec)) bodyBoundUptoCard

/-- THE SECOND FORM's CARD OF 'headracelaw11.BodyNil'. -/
def bodyNilUptoCard : Claim7 := { stood := { row := bodyNilUptoRow, standIns := [], harness := (true, "cea551eae576519a678eb23b60dfec426f10be7cd1eb4e55784b0d7312a4ac3c"), looks := true }, kinds := [], alts := [], laidByText := true, laidKinds := [.data, .data, .data, .data, .sentinel, .sentinel, .pinned], laidTests := true, laidLooks := .later }
def BodyNilUptoCardSaid : Prop := Claim7.holds Tryd.pinned (.plain (OpenSpec.upto bodyNilSpec)) bodyNilUptoCard

/-- THE SECOND FORM's CARD OF 'headracelaw11.BodyBehind'. -/
def bodyBehindUptoCard : Claim7 := { stood := { row := bodyBehindUptoRow, standIns := [], harness := (true, "cea551eae576519a678eb23b60dfec426f10be7cd1eb4e55784b0d7312a4ac3c"), looks := true }, kinds := [], alts := [], laidByText := true, laidKinds := [.data, .data, .data, .data, .sentinel, .sentinel, .pinned], laidTests := true, laidLooks := .later }
def BodyBehindUptoCardSaid : Prop := Claim7.holds Tryd.pinned (.plain (OpenSpec.upto bodyBehindSpec)) bodyBehindUptoCard
end Rows
end Go.Proofs.YtnlicpihondmgaaDoor
