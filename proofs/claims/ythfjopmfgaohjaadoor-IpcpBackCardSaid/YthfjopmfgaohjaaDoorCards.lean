/-
  DERIVED. GIVEN WITH THE SEED: THE CARDS: each row of YthfjopmfgaohjaaDoorRows.lean that lists a variable, with what it lists TIED to the program's text (the seventh form; the later family's looks); each row that meets fmt, with fmt's text TOLD by the authors' own Lean function (tested against real Go, not proved from fmt's source: count such statements apart). THE CARD IS WHAT COUNTS. Prove the row's statement (the work); the ties are given (YthfjopmfgaohjaaDoorTie.lean); close each card by the builder's one call (the guide's Derived/Test/ToyasCard.lean, 'card_holds'). Laid BY PROGRAM, IN A SANDBOX (cutbox-door.mjs). By AI agents, Wed Nov 11 2026. No macro, syntax, notation, axiom, sorry.
-/
import Derived.Test.YthfjopmfgaohjaaDoorRows
import GoSem.ClaimSeven
namespace Go.Proofs.YthfjopmfgaohjaaDoor
namespace Rows

/-- THE TIED CARD OF 'euphroelaw32.IpcpDatagrams'. -/
def ipcpDatagramsCard : Claim7 := { stood := { row := ipcpDatagramsRow, standIns := [], harness := (true, "63da9b95ca2b8de4dcca1e49b464a63674fa16383acad7daa6dec43b732e60c6"), looks := false }, kinds := [], alts := [], laidByText := true, laidKinds := [.data, .pinned], laidTests := true, laidLooks := .later }
def IpcpDatagramsCardSaid : Prop := Claim7.holds Tryd.pinned (.plain (OpenSpec.ofChange ipcpDatagramsSpec)) ipcpDatagramsCard

/-- THE TIED CARD OF 'euphroelaw32.IpcpBack'. -/
def ipcpBackCard : Claim7 := { stood := { row := ipcpBackRow, standIns := [], harness := (true, "63da9b95ca2b8de4dcca1e49b464a63674fa16383acad7daa6dec43b732e60c6"), looks := false }, kinds := [], alts := [], laidByText := true, laidKinds := [.data, .pinned], laidTests := true, laidLooks := .later }
def IpcpBackCardSaid : Prop := Claim7.holds Tryd.pinned (.plain (OpenSpec.ofChange ipcpBackSpec)) ipcpBackCard

/-- THE SECOND FORM's CARD OF 'euphroelaw32.IpcpDatagrams'. -/
def ipcpDatagramsUptoCard : Claim7 := { stood := { row := ipcpDatagramsUptoRow, standIns := [], harness := (true, "63da9b95ca2b8de4dcca1e49b464a63674fa16383acad7daa6dec43b732e60c6"), looks := false }, kinds := [], alts := [], laidByText := true, laidKinds := [.data, .pinned], laidTests := true, laidLooks := .later }
def IpcpDatagramsUptoCardSaid : Prop := Claim7.holds Tryd.pinned (.plain (OpenSpec.upto ipcpDatagramsSpec)) ipcpDatagramsUptoCard

/-- THE SECOND FORM's CARD OF 'euphroelaw32.IpcpBack'. -/
def ipcpBackUptoCard : Claim7 := { stood := { row := ipcpBackUptoRow, standIns := [], harness := (true, "63da9b95ca2b8de4dcca1e49b464a63674fa16383acad7daa6dec43b732e60c6"), looks := false }, kinds := [], alts := [], laidByText := true, laidKinds := [.data, .pinned], laidTests := true, laidLooks := .later }
def IpcpBackUptoCardSaid : Prop := Claim7.holds Tryd.pinned (.plain (OpenSpec.upto ipcpBackSpec)) ipcpBackUptoCard
end Rows
end Go.Proofs.YthfjopmfgaohjaaDoor
