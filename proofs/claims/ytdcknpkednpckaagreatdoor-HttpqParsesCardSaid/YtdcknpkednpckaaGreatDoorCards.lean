/-
  DERIVED. GIVEN WITH THE SEED: THE CARDS: each row of YtdcknpkednpckaaGreatDoorRows.lean that lists a variable, with what it lists TIED to the program's text (the seventh form; the later family's looks); each row that meets fmt, with fmt's text TOLD by the authors' own Lean function (tested against real Go, not proved from fmt's source: count such statements apart). THE CARD IS WHAT COUNTS. Prove the row's statement (the work); the ties are given (YtdcknpkednpckaaGreatDoorTie.lean); close each card by the builder's one call (the guide's Derived/Test/ToyasCard.lean, 'card_holds'). Laid BY PROGRAM, IN A SANDBOX (cutbox-door.mjs). By AI agents, Wed Nov 11 2026. No macro, syntax, notation, axiom, sorry.
-/
import Derived.Test.YtdcknpkednpckaaGreatDoorRows
import GoSem.ClaimSeven
namespace Go.Proofs.YtdcknpkednpckaaGreatDoor
namespace Rows

/-- THE TIED CARD OF 'euphroelaw15.HttpqParses'. -/
def httpqParsesCard : Claim7 := { stood := { row := httpqParsesRow, standIns := [], harness := (true, "c749abea0ad02cd170623a04cca9211bdea2e791ebfb71e1ce7c7ff322682a7b"), looks := false }, kinds := [], alts := [], laidByText := true, laidKinds := [.data, .pinned], laidTests := true, laidLooks := .later }
def HttpqParsesCardSaid : Prop := Claim7.holds Tryz.pinned (.plain (OpenSpec.ofChange httpqParsesSpec)) httpqParsesCard

/-- THE SECOND FORM's CARD OF 'euphroelaw15.HttpqParses'. -/
def httpqParsesUptoCard : Claim7 := { stood := { row := httpqParsesUptoRow, standIns := [], harness := (true, "c749abea0ad02cd170623a04cca9211bdea2e791ebfb71e1ce7c7ff322682a7b"), looks := false }, kinds := [], alts := [], laidByText := true, laidKinds := [.data, .pinned], laidTests := true, laidLooks := .later }
def HttpqParsesUptoCardSaid : Prop := Claim7.holds Tryz.pinned (.plain (OpenSpec.upto httpqParsesSpec)) httpqParsesUptoCard
end Rows
end Go.Proofs.YtdcknpkednpckaaGreatDoor
