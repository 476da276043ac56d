/-
  DERIVED. GIVEN WITH THE SEED: THE CARDS: each row of YtccolnlfjbgnmaaGreatDoorRows.lean that lists a variable, with what it lists TIED to the program's text (the seventh form; the later family's looks); each row that meets fmt, with fmt's text TOLD by the authors' own Lean function (tested against real Go, not proved from fmt's source: count such statements apart). THE CARD IS WHAT COUNTS. Prove the row's statement (the work); the ties are given (YtccolnlfjbgnmaaGreatDoorTie.lean); close each card by the builder's one call (the guide's Derived/Test/ToyasCard.lean, 'card_holds'). Laid BY PROGRAM, IN A SANDBOX (cutbox-door.mjs). By AI agents, Wed Nov 11 2026. No macro, syntax, notation, axiom, sorry.
-/
import Derived.Test.YtccolnlfjbgnmaaGreatDoorRows
import GoSem.ClaimSeven
namespace Go.Proofs.YtccolnlfjbgnmaaGreatDoor
namespace Rows

/-- THE TIED CARD OF 'headracelaw08.HeadPrints'. -/
def headPrintsCard : Claim7 := { stood := { row := headPrintsRow, standIns := [], harness := (true, "bcdb32ad4cb8b49dfc84f1b7902459fc51555c25b4697a0fa3e845155c658502"), looks := true }, kinds := [], alts := [], laidByText := true, laidKinds := [.data, .data, .data, .data, .handle, .sentinel, .sentinel, .pinned], laidTests := true, laidLooks := .later }
def HeadPrintsCardSaid : Prop := Claim7.holds Tryz.pinned (.plain (OpenSpec.ofChange headPrintsSpec)) headPrintsCard

/-- THE TIED CARD OF 'headracelaw08.HeadStrict'. -/
def headStrictCard : Claim7 := { stood := { row := headStrictRow, standIns := [], harness := (true, "bcdb32ad4cb8b49dfc84f1b7902459fc51555c25b4697a0fa3e845155c658502"), looks := true }, kinds := [], alts := [], laidByText := true, laidKinds := [.data, .data, .data, .data, .handle, .sentinel, .sentinel, .pinned], laidTests := true, laidLooks := .later }
def HeadStrictCardSaid : Prop := Claim7.holds Tryz.pinned (.plain (OpenSpec.ofChange headStrictSpec)) headStrictCard

/-- THE TIED CARD OF 'headracelaw08.HeadNil'. -/
def headNilCard : Claim7 := { stood := { row := headNilRow, standIns := [], harness := (true, "bcdb32ad4cb8b49dfc84f1b7902459fc51555c25b4697a0fa3e845155c658502"), looks := true }, kinds := [], alts := [], laidByText := true, laidKinds := [.data, .data, .data, .data, .handle, .sentinel, .sentinel, .pinned], laidTests := true, laidLooks := .later }
def HeadNilCardSaid : Prop := Claim7.holds Tryz.pinned (.plain (OpenSpec.ofChange headNilSpec)) headNilCard

/-- THE TIED CARD OF 'headracelaw08.HeadCut'. -/
def headCutCard : Claim7 := { stood := { row := headCutRow, standIns := [], harness := (true, "bcdb32ad4cb8b49dfc84f1b7902459fc51555c25b4697a0fa3e845155c658502"), looks := true }, kinds := [], alts := [], laidByText := true, laidKinds := [.data, .data, .data, .data, .handle, .sentinel, .sentinel, .pinned], laidTests := true, laidLooks := .later }
def HeadCutCardSaid : Prop := Claim7.holds Tryz.pinned (.plain (OpenSpec.ofChange headCutSpec)) headCutCard

/-- THE TIED CARD OF 'headracelaw24.UpstreamMore'. -/
def upstreamMoreCard : Claim7 := { stood := { row := upstreamMoreRow, standIns := [], harness := (true, "bcdb32ad4cb8b49dfc84f1b7902459fc51555c25b4697a0fa3e845155c658502"), looks := true }, kinds := [], alts := [], laidByText := true, laidKinds := [.data, .data, .data, .data, .handle, .sentinel, .sentinel, .pinned], laidTests := true, laidLooks := .later }
def UpstreamMoreCardSaid : Prop := Claim7.holds Tryz.pinned (.plain (OpenSpec.ofChange upstreamMoreSpec)) upstreamMoreCard

/-- THE TIED CARD OF 'headracelaw24.UpstreamInterim'. -/
def upstreamInterimCard : Claim7 := { stood := { row := upstreamInterimRow, standIns := [], harness := (true, "bcdb32ad4cb8b49dfc84f1b7902459fc51555c25b4697a0fa3e845155c658502"), looks := true }, kinds := [], alts := [], laidByText := true, laidKinds := [.data, .data, .data, .data, .handle, .sentinel, .sentinel, .pinned], laidTests := true, laidLooks := .later }
def UpstreamInterimCardSaid : Prop := Claim7.holds Tryz.pinned (.plain (OpenSpec.ofChange upstreamInterimSpec)) upstreamInterimCard

/-- THE TIED CARD OF 'headracelaw23.ClientWrong'. -/
def clientWrongCard : Claim7 := { stood := { row := clientWrongRow, standIns := [], harness := (true, "bcdb32ad4cb8b49dfc84f1b7902459fc51555c25b4697a0fa3e845155c658502"), looks := true }, kinds := [], alts := [], laidByText := true, laidKinds := [.data, .data, .data, .data, .handle, .sentinel, .sentinel, .pinned], laidTests := true, laidLooks := .later }
def ClientWrongCardSaid : Prop := Claim7.holds Tryz.pinned (.plain (OpenSpec.ofChange clientWrongSpec)) clientWrongCard

/-- THE TIED CARD OF 'headracelaw23.ClientPieces'. -/
def clientPiecesCard : Claim7 := { stood := { row := clientPiecesRow, standIns := [], harness := (true, "bcdb32ad4cb8b49dfc84f1b7902459fc51555c25b4697a0fa3e845155c658502"), looks := true }, kinds := [], alts := [], laidByText := true, laidKinds := [.data, .data, .data, .data, .handle, .sentinel, .sentinel, .pinned], laidTests := true, laidLooks := .later }
def ClientPiecesCardSaid : Prop := Claim7.holds Tryz.pinned (.plain (OpenSpec.ofChange clientPiecesSpec)) clientPiecesCard

/-- THE TIED CARD OF 'headracelaw23.ClientOrder'. -/
def clientOrderCard : Claim7 := { stood := { row := clientOrderRow, standIns := [], harness := (true, "bcdb32ad4cb8b49dfc84f1b7902459fc51555c25b4697a0fa3e845155c658502"), looks := true }, kinds := [], alts := [], laidByText := true, laidKinds := [.data, .data, .data, .data, .handle, .sentinel, .sentinel, .pinned], laidTests := true, laidLooks := .later }
def ClientOrderCardSaid : Prop := Claim7.holds Tryz.pinned (.plain (OpenSpec.ofChange clientOrderSpec)) clientOrderCard

/-- THE TIED CARD OF 'headracelaw23.ClientNil'. -/
def clientNilCard : Claim7 := { stood := { row := clientNilRow, standIns := [], harness := (true, "bcdb32ad4cb8b49dfc84f1b7902459fc51555c25b4697a0fa3e845155c658502"), looks := true }, kinds := [], alts := [], laidByText := true, laidKinds := [.data, .data, .data, .data, .handle, .sentinel, .sentinel, .pinned], laidTests := true, laidLooks := .later }
def ClientNilCardSaid : Prop := Claim7.holds Tryz.pinned (.plain (OpenSpec.ofChange clientNilSpec)) clientNilCard

/-- THE TIED CARD OF 'headracelaw24.UpstreamCut'. -/
def upstreamCutCard : Claim7 := { stood := { row := upstreamCutRow, standIns := [], harness := (true, "bcdb32ad4cb8b49dfc84f1b7902459fc51555c25b4697a0fa3e845155c658502"), looks := true }, kinds := [], alts := [], laidByText := true, laidKinds := [.data, .data, .data, .data, .handle, .sentinel, .sentinel, .pinned], laidTests := true, laidLooks := .later }
def UpstreamCutCardSaid : Prop := Claim7.holds Tryz.pinned (.plain (OpenSpec.ofChange upstreamCutSpec)) upstreamCutCard

/-- THE TIED CARD OF 'headracelaw24.UpstreamNil'. -/
def upstreamNilCard : Claim7 := { stood := { row := upstreamNilRow, standIns := [], harness := (true, "bcdb32ad4cb8b49dfc84f1b7902459fc51555c25b4697a0fa3e845155c658502"), looks := true }, kinds := [], alts := [], laidByText := true, laidKinds := [.data, .data, .data, .data, .handle, .sentinel, .sentinel, .pinned], laidTests := true, laidLooks := .later }
def UpstreamNilCardSaid : Prop := Claim7.holds Tryz.pinned (.plain (OpenSpec.ofChange upstreamNilSpec)) upstreamNilCard

/-- THE SECOND FORM's CARD OF 'headracelaw08.HeadPrints'. -/
def headPrintsUptoCard : Claim7 := { stood := { row := headPrintsUptoRow, standIns := [], harness := (true, "bcdb32ad4cb8b49dfc84f1b7902459fc51555c25b4697a0fa3e845155c658502"), looks := true }, kinds := [], alts := [], laidByText := true, laidKinds := [.data, .data, .data, .data, .handle, .sentinel, .sentinel, .pinned], laidTests := true, laidLooks := .later }
def HeadPrintsUptoCardSaid : Prop := Claim7.holds Tryz.pinned (.plain (OpenSpec.upto headPrintsSpec)) headPrintsUptoCard

/-- THE SECOND FORM's CARD OF 'headracelaw08.HeadStrict'. -/
def headStrictUptoCard : Claim7 := { stood := { row := headStrictUptoRow, standIns := [], harness := (true, "bcdb32ad4cb8b49dfc84f1b7902459fc51555c25b4697a0fa3e845155c658502"), looks := true }, kinds := [], alts := [], laidByText := true, laidKinds := [.data, .data, .data, .data, .handle, .sentinel, .sentinel, .pinned], laidTests := true, laidLooks := .later }
def HeadStrictUptoCardSaid : Prop := Claim7.holds Tryz.pinned (.plain (OpenSpec.upto headStrictSpec)) headStrictUptoCard

/-- THE SECOND FORM's CARD OF 'headracelaw08.HeadNil'. -/
def headNilUptoCard : Claim7 := { stood := { row := headNilUptoRow, standIns := [], harness := (true, "bcdb32ad4cb8b49dfc84f1b7902459fc51555c25b4697a0fa3e845155c658502"), looks := true }, kinds := [], alts := [], laidByText := true, laidKinds := [.data, .data, .data, .data, .handle, .sentinel, .sentinel, .pinned], laidTests := true, laidLooks := .later }
def HeadNilUptoCardSaid : Prop := Claim7.holds Tryz.pinned (.plain (OpenSpec.upto headNilSpec)) headNilUptoCard

/-- THE SECOND FORM's CARD OF 'headracelaw08.HeadCut'. -/
def headCutUptoCard : Claim7 := { stood := { row := headCutUptoRow, standIns := [], harness := (true, "bcdb32ad4cb8b49dfc84f1b7902459fc51555c25b4697a0fa3e845155c658502"), looks := true }, kinds := [], alts := [], laidByText := true, laidKinds := [.data, .data, .data, .data, .handle, .sentinel, .sentinel, .pinned], laidTests := true, laidLooks := .later }
def HeadCutUptoCardSaid : Prop := Claim7.holds Tryz.pinned (.plain (OpenSpec.upto headCutSpec)) headCutUptoCard

/-- THE SECOND FORM's CARD OF 'headracelaw24.UpstreamMore'. -/
def upstreamMoreUptoCard : Claim7 := { stood := { row := upstreamMoreUptoRow, standIns := [], harness := (true, "bcdb32ad4cb8b49dfc84f1b7902459fc51555c25b4697a0fa3e845155c658502"), looks := true }, kinds := [], alts := [], laidByText := true, laidKinds := [.data, .data, .data, .data, .handle, .sentinel, .sentinel, .pinned], laidTests := true, laidLooks := .later }
def UpstreamMoreUptoCardSaid : Prop := Claim7.holds Tryz.pinned (.plain (OpenSpec.upto upstreamMoreSpec)) upstreamMoreUptoCard

/-- THE SECOND FORM's CARD OF 'headracelaw24.UpstreamInterim'. -/
def upstreamInterimUptoCard : Claim7 := { stood := { row := upstreamInterimUptoRow, standIns := [], harness := (true, "bcdb32ad4cb8b49dfc84f1b7902459fc51555c25b4697a0fa3e845155c658502"), looks := true }, kinds := [], alts := [], laidByText := true, laidKinds := [.data, .data, .data, .data, .handle, .sentinel, .sentinel, .pinned], laidTests := true, laidLooks := .later }
def UpstreamInterimUptoCardSaid : Prop := Claim7.holds Tryz.pinned (.plain (OpenSpec.upto upstreamInterimSpec)) upstreamInterimUptoCard

/-- THE SECOND FORM's CARD OF 'headracelaw23.ClientWrong'. -/
def clientWrongUptoCard : Claim7 := { stood := { row := clientWrongUptoRow, standIns := [], harness := (true, "bcdb32ad4cb8b49dfc84f1b7902459fc51555c25b4697a0fa3e845155c658502"), looks := true }, kinds := [], alts := [], laidByText := true, laidKinds := [.data, .data, .data, .data, .handle, .sentinel, .sentinel, .pinned], laidTests := true, laidLooks := .later }
def ClientWrongUptoCardSaid : Prop := Claim7.holds Tryz.pinned (.plain (OpenSpec.upto clientWrongSpec)) clientWrongUptoCard

/-- THE SECOND FORM's CARD OF 'headracelaw23.ClientPieces'. -/
def clientPiecesUptoCard : Claim7 := { stood := { row := clientPiecesUptoRow, standIns := [], harness := (true, "bcdb32ad4cb8b49dfc84f1b7902459fc51555c25b4697a0fa3e845155c658502"), looks := true }, kinds := [], alts := [], laidByText := true, laidKinds := [.data, .data, .data, .data, .handle, .sentinel, .sentinel, .pinned], laidTests := true, laidLooks := .later }
def ClientPiecesUptoCardSaid : Prop := Claim7.holds Tryz.pinned (.plain (OpenSpec.upto clientPiecesSpec)) clientPiecesUptoCard

/-- THE SECOND FORM's CARD OF 'headracelaw23.ClientOrder'. -/
def clientOrderUptoCard : Claim7 := { stood := { row := clientOrderUptoRow, standIns := [], harness := (true, "bcdb32ad4cb8b49dfc84f1b7902459fc51555c25b4697a0fa3e845155c658502"), looks := true }, kinds := [], alts := [], laidByText := true, laidKinds := [.data, .data, .data, .data, .handle, .sentinel, .sentinel, .pinned], laidTests := true, laidLooks := .later }
def ClientOrderUptoCardSaid : Prop := Claim7.holds Tryz.pinned (.plain (OpenSpec.upto clientOrderSpec)) clientOrderUptoCard

/-- THE SECOND FORM's CARD OF 'headracelaw23.ClientNil'. -/
def clientNilUptoCard : Claim7 := { stood := { row := clientNilUptoRow, standIns := [], harness := (true, "bcdb32ad4cb8b49dfc84f1b7902459fc51555c25b4697a0fa3e845155c658502"), looks := true }, kinds := [], alts := [], laidByText := true, laidKinds := [.data, .data, .data, .data, .handle, .sentinel, .sentinel, .pinned], laidTests := true, laidLooks := .later }
def ClientNilUptoCardSaid : Prop := Claim7.holds Tryz.pinned (.plain (OpenSpec.upto clientNilSpec)) clientNilUptoCard

/-- THE SECOND FORM's CARD OF 'headracelaw24.UpstreamCut'. -/
def upstreamCutUptoCard : Claim7 := { stood := { row := upstreamCutUptoRow, standIns := [], harness := (true, "bcdb32ad4cb8b49dfc84f1b7902459fc51555c25b4697a0fa3e845155c658502"), looks := true }, kinds := [], alts := [], laidByText := true, laidKinds := [.data, .data, .data, .data, .handle, .sentinel, .sentinel, .pinned], laidTests := true, laidLooks := .later }
def UpstreamCutUptoCardSaid : Prop := Claim7.holds Tryz.pinned (.plain (OpenSpec.upto upstreamCutSpec)) upstreamCutUptoCard

/-- THE SECOND FORM's CARD OF 'headracelaw24.UpstreamNil'. -/
def upstreamNilUptoCard : Claim7 := { stood := { row := upstreamNilUptoRow, standIns := [], harness := (true, "bcdb32ad4cb8b49dfc84f1b7902459fc51555c25b4697a0fa3e845155c658502"), looks := true }, kinds := [], alts := [], laidByText := true, laidKinds := [.data, .data, .data, .data, .handle, .sentinel, .sentinel, .pinned], laidTests := true, laidLooks := .later }
def UpstreamNilUptoCardSaid : Prop := Claim7.holds Tryz.pinned (.plain (OpenSpec.upto upstreamNilSpec)) upstreamNilUptoCard
end Rows
end Go.Proofs.YtccolnlfjbgnmaaGreatDoor
