/-
  DERIVED. GIVEN WITH THE SEED: THE CARDS: each row of YtmbdamompcdolaaGreatDoorRows.lean that lists a variable, with what it lists TIED to the program's text (the seventh form; the later family's looks); each row that meets fmt, with fmt's text TOLD by the authors' own Lean function (tested against real Go, not proved from fmt's source: count such statements apart). THE CARD IS WHAT COUNTS. Prove the row's statement (the work); the ties are given (YtmbdamompcdolaaGreatDoorTie.lean); close each card by the builder's one call (the guide's Derived/Test/ToyasCard.lean, 'card_holds'). Laid BY PROGRAM, IN A SANDBOX (cutbox-door.mjs). By AI agents, Wed Nov 11 2026. No macro, syntax, notation, axiom, sorry.
-/
import Derived.Test.YtmbdamompcdolaaGreatDoorRows
import GoSem.ClaimSeven
namespace Go.Proofs.YtmbdamompcdolaaGreatDoor
namespace Rows

/-- THE TIED CARD OF 'euphroelaw27.NegoAgrees'. -/
def negoAgreesCard : Claim7 := { stood := { row := negoAgreesRow, standIns := [], harness := (true, "6b52515240120399a4b331de397e662cdb5fdf2c67aa7b6baf58e0ecc70cc33d"), looks := false }, kinds := [], alts := [], laidByText := true, laidKinds := [.data, .pinned], laidTests := true, laidLooks := .later }
def NegoAgreesCardSaid : Prop := Claim7.holds Tryz.pinned (.plain (OpenSpec.ofChange negoAgreesSpec)) negoAgreesCard

/-- THE TIED CARD OF 'euphroelaw27.NegoSends'. -/
def negoSendsCard : Claim7 := { stood := { row := negoSendsRow, standIns := [], harness := (true, "6b52515240120399a4b331de397e662cdb5fdf2c67aa7b6baf58e0ecc70cc33d"), looks := false }, kinds := [], alts := [], laidByText := true, laidKinds := [.data, .pinned], laidTests := true, laidLooks := .later }
def NegoSendsCardSaid : Prop := Claim7.holds Tryz.pinned (.plain (OpenSpec.ofChange negoSendsSpec)) negoSendsCard

/-- THE TIED CARD OF 'euphroelaw32.IpcpPlays'. -/
def ipcpPlaysCard : Claim7 := { stood := { row := ipcpPlaysRow, standIns := [], harness := (true, "6b52515240120399a4b331de397e662cdb5fdf2c67aa7b6baf58e0ecc70cc33d"), looks := false }, kinds := [], alts := [], laidByText := true, laidKinds := [.data, .pinned], laidTests := true, laidLooks := .later }
def IpcpPlaysCardSaid : Prop := Claim7.holds Tryz.pinned (.plain (OpenSpec.ofChange ipcpPlaysSpec)) ipcpPlaysCard

/-- THE TIED CARD OF 'euphroelaw28.LcpMirror'. -/
def lcpMirrorCard : Claim7 := { stood := { row := lcpMirrorRow, standIns := [], harness := (true, "6b52515240120399a4b331de397e662cdb5fdf2c67aa7b6baf58e0ecc70cc33d"), looks := false }, kinds := [], alts := [], laidByText := true, laidKinds := [.data, .pinned], laidTests := true, laidLooks := .later }
def LcpMirrorCardSaid : Prop := Claim7.holds Tryz.pinned (.plain (OpenSpec.ofChange lcpMirrorSpec)) lcpMirrorCard

/-- THE SECOND FORM's CARD OF 'euphroelaw27.NegoAgrees'. -/
def negoAgreesUptoCard : Claim7 := { stood := { row := negoAgreesUptoRow, standIns := [], harness := (true, "6b52515240120399a4b331de397e662cdb5fdf2c67aa7b6baf58e0ecc70cc33d"), looks := false }, kinds := [], alts := [], laidByText := true, laidKinds := [.data, .pinned], laidTests := true, laidLooks := .later }
def NegoAgreesUptoCardSaid : Prop := Claim7.holds Tryz.pinned (.plain (OpenSpec.upto negoAgreesSpec)) negoAgreesUptoCard

/-- THE SECOND FORM's CARD OF 'euphroelaw27.NegoSends'. -/
def negoSendsUptoCard : Claim7 := { stood := { row := negoSendsUptoRow, standIns := [], harness := (true, "6b52515240120399a4b331de397e662cdb5fdf2c67aa7b6baf58e0ecc70cc33d"), looks := false }, kinds := [], alts := [], laidByText := true, laidKinds := [.data, .pinned], laidTests := true, laidLooks := .later }
def NegoSendsUptoCardSaid : Prop := Claim7.holds Tryz.pinned (.plain (OpenSpec.upto negoSendsSpec)) negoSendsUptoCard

/-- THE SECOND FORM's CARD OF 'euphroelaw32.IpcpPlays'. -/
def ipcpPlaysUptoCard : Claim7 := { stood := { row := ipcpPlaysUptoRow, standIns := [], harness := (true, "6b52515240120399a4b331de397e662cdb5fdf2c67aa7b6baf58e0ecc70cc33d"), looks := false }, kinds := [], alts := [], laidByText := true, laidKinds := [.data, .pinned], laidTests := true, laidLooks := .later }
def IpcpPlaysUptoCardSaid : Prop := Claim7.holds Tryz.pinned (.plain (OpenSpec.upto ipcpPlaysSpec)) ipcpPlaysUptoCard

/-- THE SECOND FORM's CARD OF 'euphroelaw28.LcpMirror'. -/
def lcpMirrorUptoCard : Claim7 := { stood := { row := lcpMirrorUptoRow, standIns := [], harness := (true, "6b52515240120399a4b331de397e662cdb5fdf2c67aa7b6baf58e0ecc70cc33d"), looks := false }, kinds := [], alts := [], laidByText := true, laidKinds := [.data, .pinned], laidTests := true, laidLooks := .later }
def LcpMirrorUptoCardSaid : Prop := Claim7.holds Tryz.pinned (.plain (OpenSpec.upto lcpMirrorSpec)) lcpMirrorUptoCard
end Rows
end Go.Proofs.YtmbdamompcdolaaGreatDoor
