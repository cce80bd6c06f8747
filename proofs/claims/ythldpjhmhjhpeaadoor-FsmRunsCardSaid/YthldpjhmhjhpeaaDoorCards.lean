/-
  DERIVED. GIVEN WITH THE SEED: THE CARDS: each row of YthldpjhmhjhpeaaDoorRows.lean that lists a variable, with what it lists TIED to the program's text (the seventh form; the later family's looks); each row that meets fmt, with fmt's text TOLD by the authors' own Lean function (tested against real Go, not proved from fmt's source: count such statements apart). THE CARD IS WHAT COUNTS. Prove the row's statement (the work); the ties are given (YthldpjhmhjhpeaaDoorTie.lean); close each card by the builder's one call (the guide's Derived/Test/ToyasCard.lean, 'card_holds'). Laid BY PROGRAM, IN A SANDBOX (cutbox-door.mjs). By AI agents, Wed Nov 11 2026. No macro, syntax, notation, axiom, sorry.
-/
import Derived.Test.YthldpjhmhjhpeaaDoorRows
import GoSem.ClaimSeven
namespace Go.Proofs.YthldpjhmhjhpeaaDoor
namespace Rows

/-- THE TIED CARD OF 'euphroelaw23.FsmNext'. -/
def fsmNextCard : Claim7 := { stood := { row := fsmNextRow, standIns := [], harness := (true, "1a213727c3690b90caaf9328974df52dd24064f8163ed84c61dc3410fb455ae8"), looks := false }, kinds := [], alts := [], laidByText := true, laidKinds := [.data, .pinned], laidTests := true, laidLooks := .later }
def FsmNextCardSaid : Prop := Claim7.holds Tryd.pinned (.plain (OpenSpec.ofChange fsmNextSpec)) fsmNextCard

/-- THE TIED CARD OF 'euphroelaw23.FsmLayers'. -/
def fsmLayersCard : Claim7 := { stood := { row := fsmLayersRow, standIns := [], harness := (true, "1a213727c3690b90caaf9328974df52dd24064f8163ed84c61dc3410fb455ae8"), looks := false }, kinds := [], alts := [], laidByText := true, laidKinds := [.data, .pinned], laidTests := true, laidLooks := .later }
def FsmLayersCardSaid : Prop := Claim7.holds Tryd.pinned (.plain (OpenSpec.ofChange fsmLayersSpec)) fsmLayersCard

/-- THE TIED CARD OF 'euphroelaw23.FsmRuns'. -/
def fsmRunsCard : Claim7 := { stood := { row := fsmRunsRow, standIns := [], harness := (true, "1a213727c3690b90caaf9328974df52dd24064f8163ed84c61dc3410fb455ae8"), looks := false }, kinds := [], alts := [], laidByText := true, laidKinds := [.data, .pinned], laidTests := true, laidLooks := .later }
def FsmRunsCardSaid : Prop := Claim7.holds Tryd.pinned (.plain (OpenSpec.ofChange fsmRunsSpec)) fsmRunsCard

/-- THE TIED CARD OF 'euphroelaw23.FsmCloses'. -/
def fsmClosesCard : Claim7 := { stood := { row := fsmClosesRow, standIns := [], harness := (true, "1a213727c3690b90caaf9328974df52dd24064f8163ed84c61dc3410fb455ae8"), looks := false }, kinds := [], alts := [], laidByText := true, laidKinds := [.data, .pinned], laidTests := true, laidLooks := .later }
def FsmClosesCardSaid : Prop := Claim7.holds Tryd.pinned (.plain (OpenSpec.ofChange fsmClosesSpec)) fsmClosesCard

/-- THE TIED CARD OF 'euphroelaw32.IpcpDatagrams'. -/
def ipcpDatagramsCard : Claim7 := { stood := { row := ipcpDatagramsRow, standIns := [], harness := (true, "1a213727c3690b90caaf9328974df52dd24064f8163ed84c61dc3410fb455ae8"), looks := false }, kinds := [], alts := [], laidByText := true, laidKinds := [.data, .pinned], laidTests := true, laidLooks := .later }
def IpcpDatagramsCardSaid : Prop := Claim7.holds Tryd.pinned (.plain (OpenSpec.ofChange ipcpDatagramsSpec)) ipcpDatagramsCard

/-- THE TIED CARD OF 'euphroelaw32.IpcpBack'. -/
def ipcpBackCard : Claim7 := { stood := { row := ipcpBackRow, standIns := [], harness := (true, "1a213727c3690b90caaf9328974df52dd24064f8163ed84c61dc3410fb455ae8"), looks := false }, kinds := [], alts := [], laidByText := true, laidKinds := [.data, .pinned], laidTests := true, laidLooks := .later }
def IpcpBackCardSaid : Prop := Claim7.holds Tryd.pinned (.plain (OpenSpec.ofChange ipcpBackSpec)) ipcpBackCard

/-- THE TIED CARD OF 'euphroelaw40.ScriptLines'. -/
def scriptLinesCard : Claim7 := { stood := { row := scriptLinesRow, standIns := [], harness := (true, "1a213727c3690b90caaf9328974df52dd24064f8163ed84c61dc3410fb455ae8"), looks := false }, kinds := [], alts := [], laidByText := true, laidKinds := [.data, .data, .data], laidTests := true, laidLooks := .later }
def ScriptLinesCardSaid : Prop := Claim7.holds Tryd.pinned (.plain (OpenSpec.ofChange scriptLinesSpec)) scriptLinesCard

/-- THE TIED CARD OF 'euphroelaw40.ScriptLays'. -/
def scriptLaysCard : Claim7 := { stood := { row := scriptLaysRow, standIns := [], harness := (true, "1a213727c3690b90caaf9328974df52dd24064f8163ed84c61dc3410fb455ae8"), looks := false }, kinds := [], alts := [], laidByText := true, laidKinds := [.data, .data, .data], laidTests := true, laidLooks := .later }
def ScriptLaysCardSaid : Prop := Claim7.holds Tryd.pinned (.plain (OpenSpec.ofChange scriptLaysSpec)) scriptLaysCard

/-- THE TIED CARD OF 'euphroelaw40.ScriptParses'. -/
def scriptParsesCard : Claim7 := { stood := { row := scriptParsesRow, standIns := [], harness := (true, "1a213727c3690b90caaf9328974df52dd24064f8163ed84c61dc3410fb455ae8"), looks := false }, kinds := [], alts := [], laidByText := true, laidKinds := [.data, .data, .data], laidTests := true, laidLooks := .later }
def ScriptParsesCardSaid : Prop := Claim7.holds Tryd.pinned (.plain (OpenSpec.ofChange scriptParsesSpec)) scriptParsesCard

/-- THE TIED CARD OF 'euphroelaw40.ScriptBack'. -/
def scriptBackCard : Claim7 := { stood := { row := scriptBackRow, standIns := [], harness := (true, "1a213727c3690b90caaf9328974df52dd24064f8163ed84c61dc3410fb455ae8"), looks := false }, kinds := [], alts := [], laidByText := true, laidKinds := [.data, .data, .data], laidTests := true, laidLooks := .later }
def ScriptBackCardSaid : Prop := Claim7.holds Tryd.pinned (.plain (OpenSpec.ofChange scriptBackSpec)) scriptBackCard

/-- THE SECOND FORM's CARD OF 'euphroelaw23.FsmNext'. -/
def fsmNextUptoCard : Claim7 := { stood := { row := fsmNextUptoRow, standIns := [], harness := (true, "1a213727c3690b90caaf9328974df52dd24064f8163ed84c61dc3410fb455ae8"), looks := false }, kinds := [], alts := [], laidByText := true, laidKinds := [.data, .pinned], laidTests := true, laidLooks := .later }
def FsmNextUptoCardSaid : Prop := Claim7.holds Tryd.pinned (.plain (OpenSpec.upto fsmNextSpec)) fsmNextUptoCard

/-- THE SECOND FORM's CARD OF 'euphroelaw23.FsmLayers'. -/
def fsmLayersUptoCard : Claim7 := { stood := { row := fsmLayersUptoRow, standIns := [], harness := (true, "1a213727c3690b90caaf9328974df52dd24064f8163ed84c61dc3410fb455ae8"), looks := false }, kinds := [], alts := [], laidByText := true, laidKinds := [.data, .pinned], laidTests := true, laidLooks := .later }
def FsmLayersUptoCardSaid : Prop := Claim7.holds Tryd.pinned (.plain (OpenSpec.upto fsmLayersSpec)) fsmLayersUptoCard

/-- THE SECOND FORM's CARD OF 'euphroelaw23.FsmRuns'. -/
def fsmRunsUptoCard : Claim7 := { stood := { row := fsmRunsUptoRow, standIns := [], harness := (true, "1a213727c3690b90caaf9328974df52dd24064f8163ed84c61dc3410fb455ae8"), looks := false }, kinds := [], alts := [], laidByText := true, laidKinds := [.data, .pinned], laidTests := true, laidLooks := .later }
def FsmRunsUptoCardSaid : Prop := Claim7.holds Tryd.pinned (.plain (OpenSpec.upto fsmRunsSpec)) fsmRunsUptoCard

/-- THE SECOND FORM's CARD OF 'euphroelaw23.FsmCloses'. -/
def fsmClosesUptoCard : Claim7 := { stood := { row := fsmClosesUptoRow, standIns := [], harness := (true, "1a213727c3690b90caaf9328974df52dd24064f8163ed84c61dc3410fb455ae8"), looks := false }, kinds := [], alts := [], laidByText := true, laidKinds := [.data, .pinned], laidTests := true, laidLooks := .later }
def FsmClosesUptoCardSaid : Prop := Claim7.holds Tryd.pinned (.plain (OpenSpec.upto fsmClosesSpec)) fsmClosesUptoCard

/-- THE SECOND FORM's CARD OF 'euphroelaw32.IpcpDatagrams'. -/
def ipcpDatagramsUptoCard : Claim7 := { stood := { row := ipcpDatagramsUptoRow, standIns := [], harness := (true, "1a213727c3690b90caaf9328974df52dd24064f8163ed84c61dc3410fb455ae8"), looks := false }, kinds := [], alts := [], laidByText := true, laidKinds := [.data, .pinned], laidTests := true, laidLooks := .later }
def IpcpDatagramsUptoCardSaid : Prop := Claim7.holds Tryd.pinned (.plain (OpenSpec.upto ipcpDatagramsSpec)) ipcpDatagramsUptoCard

/-- THE SECOND FORM's CARD OF 'euphroelaw32.IpcpBack'. -/
def ipcpBackUptoCard : Claim7 := { stood := { row := ipcpBackUptoRow, standIns := [], harness := (true, "1a213727c3690b90caaf9328974df52dd24064f8163ed84c61dc3410fb455ae8"), looks := false }, kinds := [], alts := [], laidByText := true, laidKinds := [.data, .pinned], laidTests := true, laidLooks := .later }
def IpcpBackUptoCardSaid : Prop := Claim7.holds Tryd.pinned (.plain (OpenSpec.upto ipcpBackSpec)) ipcpBackUptoCard

/-- THE SECOND FORM's CARD OF 'euphroelaw40.ScriptLines'. -/
def scriptLinesUptoCard : Claim7 := { stood := { row := scriptLinesUptoRow, standIns := [], harness := (true, "1a213727c3690b90caaf9328974df52dd24064f8163ed84c61dc3410fb455ae8"), looks := false }, kinds := [], alts := [], laidByText := true, laidKinds := [.data, .data, .data], laidTests := true, laidLooks := .later }
def ScriptLinesUptoCardSaid : Prop := Claim7.holds Tryd.pinned (.plain (OpenSpec.upto scriptLinesSpec)) scriptLinesUptoCard

/-- THE SECOND FORM's CARD OF 'euphroelaw40.ScriptLays'. -/
def scriptLaysUptoCard : Claim7 := { stood := { row := scriptLaysUptoRow, standIns := [], harness := (true, "1a213727c3690b90caaf9328974df52dd24064f8163ed84c61dc3410fb455ae8"), looks := false }, kinds := [], alts := [], laidByText := true, laidKinds := [.data, .data, .data], laidTests := true, laidLooks := .later }
def ScriptLaysUptoCardSaid : Prop := Claim7.holds Tryd.pinned (.plain (OpenSpec.upto scriptLaysSpec)) scriptLaysUptoCard

/-- THE SECOND FORM's CARD OF 'euphroelaw40.ScriptParses'. -/
def scriptParsesUptoCard : Claim7 := { stood := { row := scriptParsesUptoRow, standIns := [], harness := (true, "1a213727c3690b90caaf9328974df52dd24064f8163ed84c61dc3410fb455ae8"), looks := false }, kinds := [], alts := [], laidByText := true, laidKinds := [.data, .data, .data], laidTests := true, laidLooks := .later }
def ScriptParsesUptoCardSaid : Prop := Claim7.holds Tryd.pinned (.plain (OpenSpec.upto scriptParsesSpec)) scriptParsesUptoCard

/-- THE SECOND FORM's CARD OF 'euphroelaw40.ScriptBack'. -/
def scriptBackUptoCard : Claim7 := { stood := { row := scriptBackUptoRow, standIns := [], harness := (true, "1a213727c3690b90caaf9328974df52dd24064f8163ed84c61dc3410fb455ae8"), looks := false }, kinds := [], alts := [], laidByText := true, laidKinds := [.data, .data, .data], laidTests := true, laidLooks := .later }
def ScriptBackUptoCardSaid : Prop := Claim7.holds Tryd.pinned (.plain (OpenSpec.upto scriptBackSpec)) scriptBackUptoCard
end Rows
end Go.Proofs.YthldpjhmhjhpeaaDoor
