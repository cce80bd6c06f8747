/-
  DERIVED. GIVEN WITH THE SEED: THE CARDS: each row of YtmbdamompcdolaaDoorRows.lean that lists a variable, with what it lists TIED to the program's text (the seventh form; the later family's looks); each row that meets fmt, with fmt's text TOLD by the authors' own Lean function (tested against real Go, not proved from fmt's source: count such statements apart). THE CARD IS WHAT COUNTS. Prove the row's statement (the work); the ties are given (YtmbdamompcdolaaDoorTie.lean); close each card by the builder's one call (the guide's Derived/Test/ToyasCard.lean, 'card_holds'). Laid BY PROGRAM, IN A SANDBOX (cutbox-door.mjs). By AI agents, Wed Nov 11 2026. No macro, syntax, notation, axiom, sorry.
-/
import Derived.Test.YtmbdamompcdolaaDoorRows
import GoSem.ClaimSeven
namespace Go.Proofs.YtmbdamompcdolaaDoor
namespace Rows

/-- THE TIED CARD OF 'euphroelaw32.IpcpDatagrams'. -/
def ipcpDatagramsCard : Claim7 := { stood := { row := ipcpDatagramsRow, standIns := [], harness := (true, "d882c07257cefa8f3d55801c2153607184e5f2e669516c7b031213d8c41f4939"), looks := true }, kinds := [], alts := [], laidByText := true, laidKinds := [.data, .pinned], laidTests := true, laidLooks := .later }
def IpcpDatagramsCardSaid : Prop := Claim7.holds Tryd.pinned (.plain (OpenSpec.ofChange ipcpDatagramsSpec)) ipcpDatagramsCard

/-- THE TIED CARD OF 'euphroelaw32.IpcpBack'. -/
def ipcpBackCard : Claim7 := { stood := { row := ipcpBackRow, standIns := [], harness := (true, "d882c07257cefa8f3d55801c2153607184e5f2e669516c7b031213d8c41f4939"), looks := true }, kinds := [], alts := [], laidByText := true, laidKinds := [.data, .pinned], laidTests := true, laidLooks := .later }
def IpcpBackCardSaid : Prop := Claim7.holds Tryd.pinned (.plain (OpenSpec.ofChange ipcpBackSpec)) ipcpBackCard

/-- THE TIED CARD OF 'euphroelaw26.IpcpoTexts'. -/
def ipcpoTextsCard : Claim7 := { stood := { row := ipcpoTextsRow, standIns := [], harness := (true, "d882c07257cefa8f3d55801c2153607184e5f2e669516c7b031213d8c41f4939"), looks := true }, kinds := [], alts := [], laidByText := true, laidKinds := [.data, .data, .data, .data, .sentinel, .sentinel, .pinned], laidTests := true, laidLooks := .later }
def IpcpoTextsCardSaid : Prop := Claim7.holds Tryd.pinned (.plain (OpenSpec.ofChange ipcpoTextsSpec)) ipcpoTextsCard

/-- THE TIED CARD OF 'euphroelaw26.IpcpoAgrees'. -/
def ipcpoAgreesCard : Claim7 := { stood := { row := ipcpoAgreesRow, standIns := [], harness := (true, "d882c07257cefa8f3d55801c2153607184e5f2e669516c7b031213d8c41f4939"), looks := true }, kinds := [], alts := [], laidByText := true, laidKinds := [.data, .data, .data, .data, .sentinel, .sentinel, .pinned], laidTests := true, laidLooks := .later }
def IpcpoAgreesCardSaid : Prop := Claim7.holds Tryd.pinned (.plain (OpenSpec.ofChange ipcpoAgreesSpec)) ipcpoAgreesCard

/-- THE TIED CARD OF 'euphroelaw26.IpcpoJudges'. -/
def ipcpoJudgesCard : Claim7 := { stood := { row := ipcpoJudgesRow, standIns := [], harness := (true, "d882c07257cefa8f3d55801c2153607184e5f2e669516c7b031213d8c41f4939"), looks := true }, kinds := [], alts := [], laidByText := true, laidKinds := [.data, .data, .data, .data, .sentinel, .sentinel, .pinned], laidTests := true, laidLooks := .later }
def IpcpoJudgesCardSaid : Prop := Claim7.holds Tryd.pinned (.plain (OpenSpec.ofChange ipcpoJudgesSpec)) ipcpoJudgesCard

/-- THE SECOND FORM's CARD OF 'euphroelaw32.IpcpDatagrams'. -/
def ipcpDatagramsUptoCard : Claim7 := { stood := { row := ipcpDatagramsUptoRow, standIns := [], harness := (true, "d882c07257cefa8f3d55801c2153607184e5f2e669516c7b031213d8c41f4939"), looks := true }, kinds := [], alts := [], laidByText := true, laidKinds := [.data, .pinned], laidTests := true, laidLooks := .later }
def IpcpDatagramsUptoCardSaid : Prop := Claim7.holds Tryd.pinned (.plain (OpenSpec.upto ipcpDatagramsSpec)) ipcpDatagramsUptoCard

/-- THE SECOND FORM's CARD OF 'euphroelaw32.IpcpBack'. -/
def ipcpBackUptoCard : Claim7 := { stood := { row := ipcpBackUptoRow, standIns := [], harness := (true, "d882c07257cefa8f3d55801c2153607184e5f2e669516c7b031213d8c41f4939"), looks := true }, kinds := [], alts := [], laidByText := true, laidKinds := [.data, .pinned], laidTests := true, laidLooks := .later }
def IpcpBackUptoCardSaid : Prop := Claim7.holds Tryd.pinned (.plain (OpenSpec.upto ipcpBackSpec)) ipcpBackUptoCard

/-- THE SECOND FORM's CARD OF 'euphroelaw26.IpcpoTexts'. -/
def ipcpoTextsUptoCard : Claim7 := { stood := { row := ipcpoTextsUptoRow, standIns := [], harness := (true, "d882c07257cefa8f3d55801c2153607184e5f2e669516c7b031213d8c41f4939"), looks := true }, kinds := [], alts := [], laidByText := true, laidKinds := [.data, .data, .data, .data, .sentinel, .sentinel, .pinned], laidTests := true, laidLooks := .later }
def IpcpoTextsUptoCardSaid : Prop := Claim7.holds Tryd.pinned (.plain (OpenSpec.upto ipcpoTextsSpec)) ipcpoTextsUptoCard

/-- THE SECOND FORM's CARD OF 'euphroelaw26.IpcpoAgrees'. -/
def ipcpoAgreesUptoCard : Claim7 := { stood := { row := ipcpoAgreesUptoRow, standIns := [], harness := (true, "d882c07257cefa8f3d55801c2153607184e5f2e669516c7b031213d8c41f4939"), looks := true }, kinds := [], alts := [], laidByText := true, laidKinds := [.data, .data, .data, .data, .sentinel, .sentinel, .pinned], laidTests := true, laidLooks := .later }
def IpcpoAgreesUptoCardSaid : Prop := Claim7.holds Tryd.pinned (.plain (OpenSpec.upto ipcpoAgreesSpec)) ipcpoAgreesUptoCard

/-- THE SECOND FORM's CARD OF 'euphroelaw26.IpcpoJudges'. -/
def ipcpoJudgesUptoCard : Claim7 := { stood := { row := ipcpoJudgesUptoRow, standIns := [], harness := (true, "d882c07257cefa8f3d55801c2153607184e5f2e669516c7b031213d8c41f4939"), looks := true }, kinds := [], alts := [], laidByText := true, laidKinds := [.data, .data, .data, .data, .sentinel, .sentinel, .pinned], laidTests := true, laidLooks := .later }
def IpcpoJudgesUptoCardSaid : Prop := Claim7.holds Tryd.pinned (.plain (OpenSpec.upto ipcpoJudgesSpec)) ipcpoJudgesUptoCard
end Rows
end Go.Proofs.YtmbdamompcdolaaDoor
