/-
  DERIVED. GIVEN WITH THE SEED: THE CARDS: each row of YtmfhhhokacjgeaaDoorRows.lean that lists a variable, with what it lists TIED to the program's text (the seventh form; the later family's looks); each row that meets fmt, with fmt's text TOLD by the authors' own Lean function (tested against real Go, not proved from fmt's source: count such statements apart). THE CARD IS WHAT COUNTS. Prove the row's statement (the work); the ties are given (YtmfhhhokacjgeaaDoorTie.lean); close each card by the builder's one call (the guide's Derived/Test/ToyasCard.lean, 'card_holds'). Laid BY PROGRAM, IN A SANDBOX (cutbox-door.mjs). By AI agents, Wed Nov 11 2026. No macro, syntax, notation, axiom, sorry.
-/
import Derived.Test.YtmfhhhokacjgeaaDoorRows
import GoSem.ClaimSeven
namespace Go.Proofs.YtmfhhhokacjgeaaDoor
namespace Rows

/-- THE TIED CARD OF 'headracelaw09.FramingRequests'. -/
def framingRequestsCard : Claim7 := { stood := { row := framingRequestsRow, standIns := [], harness := (true, "61126225a987e4d352a594ccb86222ad9581325c4d5c226b251e20020fdcd763"), looks := true }, kinds := [], alts := [], laidByText := true, laidKinds := [.data, .data, .data, .data, .sentinel, .sentinel, .pinned], laidTests := true, laidLooks := .later }
def FramingRequestsCardSaid : Prop := Claim7.holds Tryd.pinned (.plain (OpenSpec.ofChange framingRequestsSpec)) framingRequestsCard

/-- THE TIED CARD OF 'headracelaw09.FramingResponses'. -/
def framingResponsesCard : Claim7 := { stood := { row := framingResponsesRow, standIns := [], harness := (true, "61126225a987e4d352a594ccb86222ad9581325c4d5c226b251e20020fdcd763"), looks := true }, kinds := [], alts := [], laidByText := true, laidKinds := [.data, .data, .data, .data, .sentinel, .sentinel, .pinned], laidTests := true, laidLooks := .later }
def FramingResponsesCardSaid : Prop := Claim7.holds Tryd.pinned (.plain (OpenSpec.ofChange framingResponsesSpec)) framingResponsesCard

/-- THE TIED CARD OF 'headracelaw09.FramingOne'. -/
def framingOneCard : Claim7 := { stood := { row := framingOneRow, standIns := [], harness := (true, "61126225a987e4d352a594ccb86222ad9581325c4d5c226b251e20020fdcd763"), looks := true }, kinds := [], alts := [], laidByText := true, laidKinds := [.data, .data, .data, .data, .sentinel, .sentinel, .pinned], laidTests := true, laidLooks := .later }
def FramingOneCardSaid : Prop := Claim7.holds Tryd.pinned (.plain (OpenSpec.ofChange framingOneSpec)) framingOneCard

/-- THE TIED CARD OF 'headracelaw09.FramingCase'. -/
def framingCaseCard : Claim7 := { stood := { row := framingCaseRow, standIns := [], harness := (true, "61126225a987e4d352a594ccb86222ad9581325c4d5c226b251e20020fdcd763"), looks := true }, kinds := [], alts := [], laidByText := true, laidKinds := [.data, .data, .data, .data, .sentinel, .sentinel, .pinned], laidTests := true, laidLooks := .later }
def FramingCaseCardSaid : Prop := Claim7.holds Tryd.pinned (.plain (OpenSpec.ofChange framingCaseSpec)) framingCaseCard

/-- THE TIED CARD OF 'headracelaw10.ChunkedBound'. -/
def chunkedBoundCard : Claim7 := { stood := { row := chunkedBoundRow, standIns := [], harness := (true, "61126225a987e4d352a594ccb86222ad9581325c4d5c226b251e20020fdcd763"), looks := true }, kinds := [], alts := [], laidByText := true, laidKinds := [.data, .data, .data, .data, .sentinel, .sentinel, .pinned], laidTests := true, laidLooks := .later }
def ChunkedBoundCardSaid : Prop := Claim7.holds Tryd.pinned (.plain (OpenSpec.ofChange chunkedBoundSpec)) chunkedBoundCard

/-- THE TIED CARD OF 'headracelaw10.ChunkedWrites'. -/
def chunkedWritesCard : Claim7 := { stood := { row := chunkedWritesRow, standIns := [], harness := (true, "61126225a987e4d352a594ccb86222ad9581325c4d5c226b251e20020fdcd763"), looks := true }, kinds := [], alts := [], laidByText := true, laidKinds := [.data, .data, .data, .data, .sentinel, .sentinel, .pinned], laidTests := true, laidLooks := .later }
def ChunkedWritesCardSaid : Prop := Claim7.holds Tryd.pinned (.plain (OpenSpec.ofChange chunkedWritesSpec)) chunkedWritesCard

/-- THE TIED CARD OF 'headracelaw10.ChunkedCut'. -/
def chunkedCutCard : Claim7 := { stood := { row := chunkedCutRow, standIns := [], harness := (true, "61126225a987e4d352a594ccb86222ad9581325c4d5c226b251e20020fdcd763"), looks := true }, kinds := [], alts := [], laidByText := true, laidKinds := [.data, .data, .data, .data, .sentinel, .sentinel, .pinned], laidTests := true, laidLooks := .later }
def ChunkedCutCardSaid : Prop := Claim7.holds Tryd.pinned (.plain (OpenSpec.ofChange chunkedCutSpec)) chunkedCutCard

/-- THE TIED CARD OF 'headracelaw10.ChunkedFeeds'. -/
def chunkedFeedsCard : Claim7 := { stood := { row := chunkedFeedsRow, standIns := [], harness := (true, "61126225a987e4d352a594ccb86222ad9581325c4d5c226b251e20020fdcd763"), looks := true }, kinds := [], alts := [], laidByText := true, laidKinds := [.data, .data, .data, .data, .sentinel, .sentinel, .pinned], laidTests := true, laidLooks := .later }
def ChunkedFeedsCardSaid : Prop := Claim7.holds Tryd.pinned (.plain (OpenSpec.ofChange chunkedFeedsSpec)) chunkedFeedsCard

/-- THE TIED CARD OF 'headracelaw10.ChunkedNil'. -/
def chunkedNilCard : Claim7 := { stood := { row := chunkedNilRow, standIns := [], harness := (true, "61126225a987e4d352a594ccb86222ad9581325c4d5c226b251e20020fdcd763"), looks := true }, kinds := [], alts := [], laidByText := true, laidKinds := [.data, .data, .data, .data, .sentinel, .sentinel, .pinned], laidTests := true, laidLooks := .later }
def ChunkedNilCardSaid : Prop := Claim7.holds Tryd.pinned (.plain (OpenSpec.ofChange chunkedNilSpec)) chunkedNilCard

/-- THE TIED CARD OF 'headracelaw10.ChunkedBack'. -/
def chunkedBackCard : Claim7 := { stood := { row := chunkedBackRow, standIns := [], harness := (true, "61126225a987e4d352a594ccb86222ad9581325c4d5c226b251e20020fdcd763"), looks := true }, kinds := [], alts := [], laidByText := true, laidKinds := [.data, .data, .data, .data, .sentinel, .sentinel, .pinned], laidTests := true, laidLooks := .later }
def ChunkedBackCardSaid : Prop := Claim7.holds Tryd.pinned (.plain (OpenSpec.ofChange chunkedBackSpec)) chunkedBackCard

/-- THE SECOND FORM's CARD OF 'headracelaw09.FramingRequests'. -/
def framingRequestsUptoCard : Claim7 := { stood := { row := framingRequestsUptoRow, standIns := [], harness := (true, "61126225a987e4d352a594ccb86222ad9581325c4d5c226b251e20020fdcd763"), looks := true }, kinds := [], alts := [], laidByText := true, laidKinds := [.data, .data, .data, .data, .sentinel, .sentinel, .pinned], laidTests := true, laidLooks := .later }
def FramingRequestsUptoCardSaid : Prop := Claim7.holds Tryd.pinned (.plain (OpenSpec.upto framingRequestsSpec)) framingRequestsUptoCard

/-- THE SECOND FORM's CARD OF 'headracelaw09.FramingResponses'. -/
def framingResponsesUptoCard : Claim7 := { stood := { row := framingResponsesUptoRow, standIns := [], harness := (true, "61126225a987e4d352a594ccb86222ad9581325c4d5c226b251e20020fdcd763"), looks := true }, kinds := [], alts := [], laidByText := true, laidKinds := [.data, .data, .data, .data, .sentinel, .sentinel, .pinned], laidTests := true, laidLooks := .later }
def FramingResponsesUptoCardSaid : Prop := Claim7.holds Tryd.pinned (.plain (OpenSpec.upto framingResponsesSpec)) framingResponsesUptoCard

/-- THE SECOND FORM's CARD OF 'headracelaw09.FramingOne'. -/
def framingOneUptoCard : Claim7 := { stood := { row := framingOneUptoRow, standIns := [], harness := (true, "61126225a987e4d352a594ccb86222ad9581325c4d5c226b251e20020fdcd763"), looks := true }, kinds := [], alts := [], laidByText := true, laidKinds := [.data, .data, .data, .data, .sentinel, .sentinel, .pinned], laidTests := true, laidLooks := .later }
def FramingOneUptoCardSaid : Prop := Claim7.holds Tryd.pinned (.plain (OpenSpec.upto framingOneSpec)) framingOneUptoCard

/-- THE SECOND FORM's CARD OF 'headracelaw09.FramingCase'. -/
def framingCaseUptoCard : Claim7 := { stood := { row := framingCaseUptoRow, standIns := [], harness := (true, "61126225a987e4d352a594ccb86222ad9581325c4d5c226b251e20020fdcd763"), looks := true }, kinds := [], alts := [], laidByText := true, laidKinds := [.data, .data, .data, .data, .sentinel, .sentinel, .pinned], laidTests := true, laidLooks := .later }
def FramingCaseUptoCardSaid : Prop := Claim7.holds Tryd.pinned (.plain (OpenSpec.upto framingCaseSpec)) framingCaseUptoCard

/-- THE SECOND FORM's CARD OF 'headracelaw10.ChunkedBound'. -/
def chunkedBoundUptoCard : Claim7 := { stood := { row := chunkedBoundUptoRow, standIns := [], harness := (true, "61126225a987e4d352a594ccb86222ad9581325c4d5c226b251e20020fdcd763"), looks := true }, kinds := [], alts := [], laidByText := true, laidKinds := [.data, .data, .data, .data, .sentinel, .sentinel, .pinned], laidTests := true, laidLooks := .later }
def ChunkedBoundUptoCardSaid : Prop := Claim7.holds Tryd.pinned (.plain (OpenSpec.upto chunkedBoundSpec)) chunkedBoundUptoCard

/-- THE SECOND FORM's CARD OF 'headracelaw10.ChunkedWrites'. -/
def chunkedWritesUptoCard : Claim7 := { stood := { row := chunkedWritesUptoRow, standIns := [], harness := (true, "61126225a987e4d352a594ccb86222ad9581325c4d5c226b251e20020fdcd763"), looks := true }, kinds := [], alts := [], laidByText := true, laidKinds := [.data, .data, .data, .data, .sentinel, .sentinel, .pinned], laidTests := true, laidLooks := .later }
def ChunkedWritesUptoCardSaid : Prop := Claim7.holds Tryd.pinned (.plain (OpenSpec.upto chunkedWritesSpec)) chunkedWritesUptoCard

/-- THE SECOND FORM's CARD OF 'headracelaw10.ChunkedCut'. -/
def chunkedCutUptoCard : Claim7 := { stood := { row := chunkedCutUptoRow, standIns := [], harness := (true, "61126225a987e4d352a594ccb86222ad9581325c4d5c226b251e20020fdcd763"), looks := true }, kinds := [], alts := [], laidByText := true, laidKinds := [.data, .data, .data, .data, .sentinel, .sentinel, .pinned], laidTests := true, laidLooks := .later }
def ChunkedCutUptoCardSaid : Prop := Claim7.holds Tryd.pinned (.plain (OpenSpec.upto chunkedCutSpec)) chunkedCutUptoCard

/-- THE SECOND FORM's CARD OF 'headracelaw10.ChunkedFeeds'. -/
def chunkedFeedsUptoCard : Claim7 := { stood := { row := chunkedFeedsUptoRow, standIns := [], harness := (true, "61126225a987e4d352a594ccb86222ad9581325c4d5c226b251e20020fdcd763"), looks := true }, kinds := [], alts := [], laidByText := true, laidKinds := [.data, .data, .data, .data, .sentinel, .sentinel, .pinned], laidTests := true, laidLooks := .later }
def ChunkedFeedsUptoCardSaid : Prop := Claim7.holds Tryd.pinned (.plain (OpenSpec.upto chunkedFeedsSpec)) chunkedFeedsUptoCard

/-- THE SECOND FORM's CARD OF 'headracelaw10.ChunkedNil'. -/
def chunkedNilUptoCard : Claim7 := { stood := { row := chunkedNilUptoRow, standIns := [], harness := (true, "61126225a987e4d352a594ccb86222ad9581325c4d5c226b251e20020fdcd763"), looks := true }, kinds := [], alts := [], laidByText := true, laidKinds := [.data, .data, .data, .data, .sentinel, .sentinel, .pinned], laidTests := true, laidLooks := .later }
def ChunkedNilUptoCardSaid : Prop := Claim7.holds Tryd.pinned (.plain (OpenSpec.upto chunkedNilSpec)) chunkedNilUptoCard

/-- THE SECOND FORM's CARD OF 'headracelaw10.ChunkedBack'. -/
def chunkedBackUptoCard : Claim7 := { stood := { row := chunkedBackUptoRow, standIns := [], harness := (true, "61126225a987e4d352a594ccb86222ad9581325c4d5c226b251e20020fdcd763"), looks := true }, kinds := [], alts := [], laidByText := true, laidKinds := [.data, .data, .data, .data, .sentinel, .sentinel, .pinned], laidTests := true, laidLooks := .later }
def ChunkedBackUptoCardSaid : Prop := Claim7.holds Tryd.pinned (.plain (OpenSpec.upto chunkedBackSpec)) chunkedBackUptoCard
end Rows
end Go.Proofs.YtmfhhhokacjgeaaDoor
