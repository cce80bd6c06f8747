/-
  DERIVED. GIVEN WITH THE SEED: THE CARDS: each row of YtaakegacmjnmoaaDoorRows.lean that lists a variable, with what it lists TIED to the program's text (the seventh form; the later family's looks); each row that meets fmt, with fmt's text TOLD by the authors' own Lean function (tested against real Go, not proved from fmt's source: count such statements apart). THE CARD IS WHAT COUNTS. Prove the row's statement (the work); the ties are given (YtaakegacmjnmoaaDoorTie.lean); close each card by the builder's one call (the guide's Derived/Test/ToyasCard.lean, 'card_holds'). Laid BY PROGRAM, IN A SANDBOX (cutbox-door.mjs). By AI agents, Wed Nov 11 2026. No macro, syntax, notation, axiom, sorry.
-/
import Derived.Test.YtaakegacmjnmoaaDoorRows
import GoSem.ClaimSeven
namespace Go.Proofs.YtaakegacmjnmoaaDoor
namespace Rows

/-- THE TIED CARD OF 'euphroelaw15.HttpqLays'. -/
def httpqLaysCard : Claim7 := { stood := { row := httpqLaysRow, standIns := [], harness := (true, "6e81f64f307b3b0b553d6c26aa691820a4c7433ab7de98fa6e9b13eff40ca967"), looks := true }, kinds := [], alts := [], laidByText := true, laidKinds := [.data, .pinned], laidTests := true, laidLooks := .later }
def HttpqLaysCardSaid : Prop := Claim7.holds Tryd.pinned (.plain (OpenSpec.ofChange httpqLaysSpec)) httpqLaysCard

/-- THE TIED CARD OF 'euphroelaw15.HttpqBack'. -/
def httpqBackCard : Claim7 := { stood := { row := httpqBackRow, standIns := [], harness := (true, "6e81f64f307b3b0b553d6c26aa691820a4c7433ab7de98fa6e9b13eff40ca967"), looks := true }, kinds := [], alts := [], laidByText := true, laidKinds := [.data, .pinned], laidTests := true, laidLooks := .later }
def HttpqBackCardSaid : Prop := Claim7.holds Tryd.pinned (.plain (OpenSpec.ofChange httpqBackSpec)) httpqBackCard

/-- THE TIED CARD OF 'euphroelaw14.WordsAre'. -/
def wordsAreCard : Claim7 := { stood := { row := wordsAreRow, standIns := [], harness := (true, "6e81f64f307b3b0b553d6c26aa691820a4c7433ab7de98fa6e9b13eff40ca967"), looks := true }, kinds := [], alts := [], laidByText := true, laidKinds := [.data, .data, .data, .data, .sentinel, .sentinel, .pinned], laidTests := true, laidLooks := .later }
def WordsAreCardSaid : Prop := Claim7.holds Tryd.pinned (.plain (OpenSpec.ofChange wordsAreSpec)) wordsAreCard

/-- THE TIED CARD OF 'euphroelaw14.WordsHeads'. -/
def wordsHeadsCard : Claim7 := { stood := { row := wordsHeadsRow, standIns := [], harness := (true, "6e81f64f307b3b0b553d6c26aa691820a4c7433ab7de98fa6e9b13eff40ca967"), looks := true }, kinds := [], alts := [], laidByText := true, laidKinds := [.data, .data, .data, .data, .sentinel, .sentinel, .pinned], laidTests := true, laidLooks := .later }
def WordsHeadsCardSaid : Prop := Claim7.holds Tryd.pinned (.plain (OpenSpec.ofChange wordsHeadsSpec)) wordsHeadsCard

/-- THE TIED CARD OF 'euphroelaw14.WordsBack'. -/
def wordsBackCard : Claim7 := { stood := { row := wordsBackRow, standIns := [], harness := (true, "6e81f64f307b3b0b553d6c26aa691820a4c7433ab7de98fa6e9b13eff40ca967"), looks := true }, kinds := [], alts := [], laidByText := true, laidKinds := [.data, .data, .data, .data, .sentinel, .sentinel, .pinned], laidTests := true, laidLooks := .later }
def WordsBackCardSaid : Prop := Claim7.holds Tryd.pinned (.plain (OpenSpec.ofChange wordsBackSpec)) wordsBackCard

/-- THE TIED CARD OF 'euphroelaw14.WordsLines'. -/
def wordsLinesCard : Claim7 := { stood := { row := wordsLinesRow, standIns := [], harness := (true, "6e81f64f307b3b0b553d6c26aa691820a4c7433ab7de98fa6e9b13eff40ca967"), looks := true }, kinds := [], alts := [], laidByText := true, laidKinds := [.data, .data, .data, .data, .sentinel, .sentinel, .pinned], laidTests := true, laidLooks := .later }
def WordsLinesCardSaid : Prop := Claim7.holds Tryd.pinned (.plain (OpenSpec.ofChange wordsLinesSpec)) wordsLinesCard

/-- THE TIED CARD OF 'euphroelaw16.HttppParses'. -/
def httppParsesCard : Claim7 := { stood := { row := httppParsesRow, standIns := [], harness := (true, "6e81f64f307b3b0b553d6c26aa691820a4c7433ab7de98fa6e9b13eff40ca967"), looks := true }, kinds := [], alts := [], laidByText := true, laidKinds := [.data, .data, .data, .data, .sentinel, .sentinel, .pinned], laidTests := true, laidLooks := .later }
def HttppParsesCardSaid : Prop := Claim7.holds Tryd.pinned (.plain (OpenSpec.ofChange httppParsesSpec)) httppParsesCard

/-- THE SECOND FORM's CARD OF 'euphroelaw15.HttpqLays'. -/
def httpqLaysUptoCard : Claim7 := { stood := { row := httpqLaysUptoRow, standIns := [], harness := (true, "6e81f64f307b3b0b553d6c26aa691820a4c7433ab7de98fa6e9b13eff40ca967"), looks := true }, kinds := [], alts := [], laidByText := true, laidKinds := [.data, .pinned], laidTests := true, laidLooks := .later }
def HttpqLaysUptoCardSaid : Prop := Claim7.holds Tryd.pinned (.plain (OpenSpec.upto httpqLaysSpec)) httpqLaysUptoCard

/-- THE SECOND FORM's CARD OF 'euphroelaw15.HttpqBack'. -/
def httpqBackUptoCard : Claim7 := { stood := { row := httpqBackUptoRow, standIns := [], harness := (true, "6e81f64f307b3b0b553d6c26aa691820a4c7433ab7de98fa6e9b13eff40ca967"), looks := true }, kinds := [], alts := [], laidByText := true, laidKinds := [.data, .pinned], laidTests := true, laidLooks := .later }
def HttpqBackUptoCardSaid : Prop := Claim7.holds Tryd.pinned (.plain (OpenSpec.upto httpqBackSpec)) httpqBackUptoCard

/-- THE SECOND FORM's CARD OF 'euphroelaw14.WordsAre'. -/
def wordsAreUptoCard : Claim7 := { stood := { row := wordsAreUptoRow, standIns := [], harness := (true, "6e81f64f307b3b0b553d6c26aa691820a4c7433ab7de98fa6e9b13eff40ca967"), looks := true }, kinds := [], alts := [], laidByText := true, laidKinds := [.data, .data, .data, .data, .sentinel, .sentinel, .pinned], laidTests := true, laidLooks := .later }
def WordsAreUptoCardSaid : Prop := Claim7.holds Tryd.pinned (.plain (OpenSpec.upto wordsAreSpec)) wordsAreUptoCard

/-- THE SECOND FORM's CARD OF 'euphroelaw14.WordsHeads'. -/
def wordsHeadsUptoCard : Claim7 := { stood := { row := wordsHeadsUptoRow, standIns := [], harness := (true, "6e81f64f307b3b0b553d6c26aa691820a4c7433ab7de98fa6e9b13eff40ca967"), looks := true }, kinds := [], alts := [], laidByText := true, laidKinds := [.data, .data, .data, .data, .sentinel, .sentinel, .pinned], laidTests := true, laidLooks := .later }
def WordsHeadsUptoCardSaid : Prop := Claim7.holds Tryd.pinned (.plain (OpenSpec.upto wordsHeadsSpec)) wordsHeadsUptoCard

/-- THE SECOND FORM's CARD OF 'euphroelaw14.WordsBack'. -/
def wordsBackUptoCard : Claim7 := { stood := { row := wordsBackUptoRow, standIns := [], harness := (true, "6e81f64f307b3b0b553d6c26aa691820a4c7433ab7de98fa6e9b13eff40ca967"), looks := true }, kinds := [], alts := [], laidByText := true, laidKinds := [.data, .data, .data, .data, .sentinel, .sentinel, .pinned], laidTests := true, laidLooks := .later }
def WordsBackUptoCardSaid : Prop := Claim7.holds Tryd.pinned (.plain (OpenSpec.upto wordsBackSpec)) wordsBackUptoCard

/-- THE SECOND FORM's CARD OF 'euphroelaw14.WordsLines'. -/
def wordsLinesUptoCard : Claim7 := { stood := { row := wordsLinesUptoRow, standIns := [], harness := (true, "6e81f64f307b3b0b553d6c26aa691820a4c7433ab7de98fa6e9b13eff40ca967"), looks := true }, kinds := [], alts := [], laidByText := true, laidKinds := [.data, .data, .data, .data, .sentinel, .sentinel, .pinned], laidTests := true, laidLooks := .later }
def WordsLinesUptoCardSaid : Prop := Claim7.holds Tryd.pinned (.plain (OpenSpec.upto wordsLinesSpec)) wordsLinesUptoCard

/-- THE SECOND FORM's CARD OF 'euphroelaw16.HttppParses'. -/
def httppParsesUptoCard : Claim7 := { stood := { row := httppParsesUptoRow, standIns := [], harness := (true, "6e81f64f307b3b0b553d6c26aa691820a4c7433ab7de98fa6e9b13eff40ca967"), looks := true }, kinds := [], alts := [], laidByText := true, laidKinds := [.data, .data, .data, .data, .sentinel, .sentinel, .pinned], laidTests := true, laidLooks := .later }
def HttppParsesUptoCardSaid : Prop := Claim7.holds Tryd.pinned (.plain (OpenSpec.upto httppParsesSpec)) httppParsesUptoCard
end Rows
end Go.Proofs.YtaakegacmjnmoaaDoor
