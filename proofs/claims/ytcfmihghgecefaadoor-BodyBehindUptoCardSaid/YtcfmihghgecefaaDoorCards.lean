/-
  DERIVED. GIVEN WITH THE SEED: THE CARDS: each row of YtcfmihghgecefaaDoorRows.lean that lists a variable, with what it lists TIED to the program's text (the seventh form; the later family's looks); each row that meets fmt, with fmt's text TOLD by the authors' own Lean function (tested against real Go, not proved from fmt's source: count such statements apart). THE CARD IS WHAT COUNTS. Prove the row's statement (the work); the ties are given (YtcfmihghgecefaaDoorTie.lean); close each card by the builder's one call (the guide's Derived/Test/ToyasCard.lean, 'card_holds'). Laid BY PROGRAM, IN A SANDBOX (cutbox-door.mjs). By AI agents, Wed Nov 11 2026. No macro, syntax, notation, axiom, sorry.
-/
import Derived.Test.YtcfmihghgecefaaDoorRows
import GoSem.ClaimSeven
namespace Go.Proofs.YtcfmihghgecefaaDoor
namespace Rows

/-- THE TIED CARD OF 'headracelaw11.BodyBehind'. -/
def bodyBehindCard : Claim7 := { stood := { row := bodyBehindRow, standIns := [], harness := (true, "e34f32d16bc250e415c8c63b00f9d6f88605b8772c3e84c91f16e8892aa1632d"), looks := true }, kinds := [], alts := [], laidByText := true, laidKinds := [.data, .data, .data, .data, .sentinel, .sentinel, .pinned], laidTests := true, laidLooks := .later }
def BodyBehindCardSaid : Prop := Claim7.holds Tryd.pinned (.plain (OpenSpec.ofChange bodyBehindSpec)) bodyBehindCard

/-- THE SECOND FORM's CARD OF 'headracelaw11.BodyBehind'. -/
def bodyBehindUptoCard : Claim7 := { stood := { row := bodyBehindUptoRow, standIns := [], harness := (true, "e34f32d16bc250e415c8c63b00f9d6f88605b8772c3e84c91f16e8892aa1632d"), looks := true }, kinds := [], alts := [], laidByText := true, laidKinds := [.data, .data, .data, .data, .sentinel, .sentinel, .pinned], laidTests := true, laidLooks := .later }
def BodyBehindUptoCardSaid : Prop := Claim7.holds Tryd.pinned (.plain (OpenSpec.upto bodyBehindSpec)) bodyBehindUptoCard
end Rows
end Go.Proofs.YtcfmihghgecefaaDoor
