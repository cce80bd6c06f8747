/-
  NARROWER THAN 'FOR EVERY INPUT', by the rows' own cells (each row's printed sentence says how): NegoAgrees: laid · NegoSends: laid · IpcpPlays: laid · LcpMirror: laid.
  DERIVED. THE GIVEN ROWS OF THIS SEAT. 4 by the template 'for every input the law returns true; each argument reads behind the call as it read before'; 0 by the template 'total and deterministic' (their statements: YtmbdamompcdolaaGreatDoorTotals.lean).
  GIVEN WITH THE SEED: the statements are not yours to turn. If you find one false, say at which input.
  Laid BY PROGRAM, IN A SANDBOX (cutbox-rows.mjs): the forced cells as the released guide's own fill.sh prints them over the translation 7731595ecba35521… (all of the seat's roots in one cut). By AI agents, Wed Nov 11 2026. No macro, syntax, notation, axiom, sorry.
-/
import Derived.Test.YtmbdamompcdolaaGreatDoorChecked
import GoSem.PinnedTables
import GoSem.Claim
import GoSem.ClaimJoined
import GoSem.ClaimMapViews
import Derived.JoinedTies
import Derived.KernelRfl
namespace Go.Proofs.YtmbdamompcdolaaGreatDoor
/- THE CELL 'sum', in the pinned program and in every row, IS THE sha256 OF THE DUMP (.gsa) THAT YtmbdamompcdolaaGreatDoorProg.lean LOADS. Nothing in Lean hashes anything: it is a label: what it is worth is what the hold of that sum in a sandbox is worth. -/
noncomputable def Tryz.pinned : Pinned := { name := "ytmbdamompcdolaagreatdoor", sum := "7731595ecba355211734012641ad9104a8078cc6d84ff22fab37f82df65d5896", checked := Tryz.checked }
namespace Rows
def none {H : Type} : Left H := { results := [], args := [] }

/- WHAT THE LISTED PACKAGE-LEVEL VARIABLES READ AS WHEN THE CALL BEGINS. Each datum BY PROGRAM (the guide's laid-datum.mjs) off the statement by which the dump's own 'gosem.cut.vars' lays the variable. In a bare row this is a premise. The card (YtmbdamompcdolaaGreatDoorCards.lean) ties it to the program's text. -/
def laid_unicode_utf8_acceptRanges {H : Type} : DataW H := .agg [.agg [.lit (.int .u8 128), .lit (.int .u8 191)], .agg [.lit (.int .u8 160), .lit (.int .u8 191)], .agg [.lit (.int .u8 128), .lit (.int .u8 159)], .agg [.lit (.int .u8 144), .lit (.int .u8 191)], .agg [.lit (.int .u8 128), .lit (.int .u8 143)], .agg [.lit (.int .u8 0), .lit (.int .u8 0)], .agg [.lit (.int .u8 0), .lit (.int .u8 0)], .agg [.lit (.int .u8 0), .lit (.int .u8 0)], .agg [.lit (.int .u8 0), .lit (.int .u8 0)], .agg [.lit (.int .u8 0), .lit (.int .u8 0)], .agg [.lit (.int .u8 0), .lit (.int .u8 0)], .agg [.lit (.int .u8 0), .lit (.int .u8 0)], .agg [.lit (.int .u8 0), .lit (.int .u8 0)], .agg [.lit (.int .u8 0), .lit (.int .u8 0)], .agg [.lit (.int .u8 0), .lit (.int .u8 0)], .agg [.lit (.int .u8 0), .lit (.int .u8 0)]]
/-- One of Go's own tables, pinned by name: the form's constant. -/
def laid_unicode_utf8_first : DataW Unit := Go.Pinned.utf8First

/-- 'euphroelaw27.NegoAgrees': WHATEVER THE INPUT: true; the input reads as it did. -/
def negoAgreesSpec : ChangeSpec := { name := "negoAgrees", fn := fun _ => fun
  | [d1, d2] => { results := [.lit (.bool true)], args := [d1, d2] }
  | _ => none }
def negoAgreesRow : OpenClaim := { program := "ytmbdamompcdolaagreatdoor", sum := "7731595ecba355211734012641ad9104a8078cc6d84ff22fab37f82df65d5896", func := "euphroe/euphroelaw27.NegoAgrees", spec := "negoAgrees", inPlace := ["internal/bytealg.CountString", "internal/bytealg.IndexByteString", "internal/bytealg.IndexString"], unfollowed := true, recurses := true, named := ["unicode/utf8.first", "unicode/utf8.acceptRanges", "internal/bytealg.MaxLen"], apart := false, laid := [("unicode/utf8.acceptRanges", laid_unicode_utf8_acceptRanges), ("unicode/utf8.first", laid_unicode_utf8_first)] }
def NegoAgreesSaid : Prop := negoAgreesRow.holds Tryz.pinned (OpenSpec.ofChange negoAgreesSpec)

/-- ITS FALSE NEIGHBOUR: 'it returns false'. Refute it at one input. -/
def negoAgreesWrong : ChangeSpec := { name := "negoAgrees", fn := fun _ => fun
  | [d1, d2] => { results := [.lit (.bool false)], args := [d1, d2] }
  | _ => none }
def NegoAgreesWrongFalsely : Prop := negoAgreesRow.holds Tryz.pinned (OpenSpec.ofChange negoAgreesWrong)

/-- 'euphroelaw27.NegoSends': WHATEVER THE INPUT: true; the input reads as it did. -/
def negoSendsSpec : ChangeSpec := { name := "negoSends", fn := fun _ => fun
  | [d1, d2] => { results := [.lit (.bool true)], args := [d1, d2] }
  | _ => none }
def negoSendsRow : OpenClaim := { program := "ytmbdamompcdolaagreatdoor", sum := "7731595ecba355211734012641ad9104a8078cc6d84ff22fab37f82df65d5896", func := "euphroe/euphroelaw27.NegoSends", spec := "negoSends", inPlace := ["internal/bytealg.CountString", "internal/bytealg.IndexByteString", "internal/bytealg.IndexString"], unfollowed := true, recurses := true, named := ["unicode/utf8.first", "unicode/utf8.acceptRanges", "internal/bytealg.MaxLen"], apart := false, laid := [("unicode/utf8.acceptRanges", laid_unicode_utf8_acceptRanges), ("unicode/utf8.first", laid_unicode_utf8_first)] }
def NegoSendsSaid : Prop := negoSendsRow.holds Tryz.pinned (OpenSpec.ofChange negoSendsSpec)

/-- ITS FALSE NEIGHBOUR: 'it returns false'. Refute it at one input. -/
def negoSendsWrong : ChangeSpec := { name := "negoSends", fn := fun _ => fun
  | [d1, d2] => { results := [.lit (.bool false)], args := [d1, d2] }
  | _ => none }
def NegoSendsWrongFalsely : Prop := negoSendsRow.holds Tryz.pinned (OpenSpec.ofChange negoSendsWrong)

/-- 'euphroelaw32.IpcpPlays': WHATEVER THE INPUT: true; the input reads as it did. -/
def ipcpPlaysSpec : ChangeSpec := { name := "ipcpPlays", fn := fun _ => fun
  | [d1, d2] => { results := [.lit (.bool true)], args := [d1, d2] }
  | _ => none }
def ipcpPlaysRow : OpenClaim := { program := "ytmbdamompcdolaagreatdoor", sum := "7731595ecba355211734012641ad9104a8078cc6d84ff22fab37f82df65d5896", func := "euphroe/euphroelaw32.IpcpPlays", spec := "ipcpPlays", inPlace := ["internal/bytealg.CountString", "internal/bytealg.IndexByteString", "internal/bytealg.IndexString"], unfollowed := true, recurses := true, named := ["unicode/utf8.first", "unicode/utf8.acceptRanges", "internal/bytealg.MaxLen"], apart := false, laid := [("unicode/utf8.acceptRanges", laid_unicode_utf8_acceptRanges), ("unicode/utf8.first", laid_unicode_utf8_first)] }
def IpcpPlaysSaid : Prop := ipcpPlaysRow.holds Tryz.pinned (OpenSpec.ofChange ipcpPlaysSpec)

/-- ITS FALSE NEIGHBOUR: 'it returns false'. Refute it at one input. -/
def ipcpPlaysWrong : ChangeSpec := { name := "ipcpPlays", fn := fun _ => fun
  | [d1, d2] => { results := [.lit (.bool false)], args := [d1, d2] }
  | _ => none }
def IpcpPlaysWrongFalsely : Prop := ipcpPlaysRow.holds Tryz.pinned (OpenSpec.ofChange ipcpPlaysWrong)

/-- 'euphroelaw28.LcpMirror': WHATEVER THE INPUT: true; the input reads as it did. -/
def lcpMirrorSpec : ChangeSpec := { name := "lcpMirror", fn := fun _ => fun
  | [d1, d2, d3] => { results := [.lit (.bool true)], args := [d1, d2, d3] }
  | _ => none }
def lcpMirrorRow : OpenClaim := { program := "ytmbdamompcdolaagreatdoor", sum := "7731595ecba355211734012641ad9104a8078cc6d84ff22fab37f82df65d5896", func := "euphroe/euphroelaw28.LcpMirror", spec := "lcpMirror", inPlace := ["internal/bytealg.CountString", "internal/bytealg.IndexByteString", "internal/bytealg.IndexString"], unfollowed := true, recurses := true, named := ["unicode/utf8.first", "unicode/utf8.acceptRanges", "internal/bytealg.MaxLen"], apart := false, laid := [("unicode/utf8.acceptRanges", laid_unicode_utf8_acceptRanges), ("unicode/utf8.first", laid_unicode_utf8_first)] }
def LcpMirrorSaid : Prop := lcpMirrorRow.holds Tryz.pinned (OpenSpec.ofChange lcpMirrorSpec)

/-- ITS FALSE NEIGHBOUR: 'it returns false'. Refute it at one input. -/
def lcpMirrorWrong : ChangeSpec := { name := "lcpMirror", fn := fun _ => fun
  | [d1, d2, d3] => { results := [.lit (.bool false)], args := [d1, d2, d3] }
  | _ => none }
def LcpMirrorWrongFalsely : Prop := lcpMirrorRow.holds Tryz.pinned (OpenSpec.ofChange lcpMirrorWrong)

/- THE SECOND FORM. 'bulk': how many values and letters a reading holds, each counted each time it is reached (what is shared counts as often as it is met; a slice's spare places count too). A statement '..UptoSaid' is the law's where the arguments, and the package variables that the reading takes, are together of bulk at most 1048576: NARROWER than '..Said'. Prove '..Said' where nothing that the law and all that it calls make is longer than what came in: it says more and counts as full. Else prove '..UptoSaid'. A law counts once. -/
mutual
def uptoBulk {H : Type} : DataW H → Nat
  | .lit (.string bytes) => bytes.length + 1
  | .lit _ => 1
  | .nil => 1
  | .ptr d => uptoBulk d + 1
  | .slice elems spare => uptoBulkAll elems + uptoBulkAll spare + 1
  | .agg parts => uptoBulkAll parts + 1
  | .iface _ d => uptoBulk d + 1
  | .map entries => uptoBulkEntries entries + 1
  | .held _ => 1
def uptoBulkAll {H : Type} : List (DataW H) → Nat
  | [] => 0
  | d :: r => uptoBulk d + uptoBulkAll r
def uptoBulkEntries {H : Type} : List (Lit × DataW H) → Nat
  | [] => 0
  | x :: r => uptoBulkEntry x + uptoBulkEntries r
def uptoBulkEntry {H : Type} : Lit × DataW H → Nat
  | (.string bytes, d) => bytes.length + uptoBulk d + 1
  | (_, d) => uptoBulk d + 1
 end
def uptoSmall : (H : Type) → List (DataW H) → Bool := fun _ ds => decide (uptoBulkAll ds ≤ 1048576)
def OpenSpec.upto (s : _root_.Go.ChangeSpec) : _root_.Go.OpenSpec := { _root_.Go.OpenSpec.ofChange s with cond := some uptoSmall }

/-- 'euphroelaw27.NegoAgrees', WHERE WHAT IT READS IS OF BULK AT MOST 1048576: true; the input reads as it did. -/
def negoAgreesUptoRow : OpenClaim := { program := "ytmbdamompcdolaagreatdoor", sum := "7731595ecba355211734012641ad9104a8078cc6d84ff22fab37f82df65d5896", func := "euphroe/euphroelaw27.NegoAgrees", spec := "negoAgrees", inPlace := ["internal/bytealg.CountString", "internal/bytealg.IndexByteString", "internal/bytealg.IndexString"], unfollowed := true, recurses := true, named := ["unicode/utf8.first", "unicode/utf8.acceptRanges", "internal/bytealg.MaxLen"], apart := false, laid := [("unicode/utf8.acceptRanges", laid_unicode_utf8_acceptRanges), ("unicode/utf8.first", laid_unicode_utf8_first)], narrowed := true }
def NegoAgreesUptoSaid : Prop := negoAgreesUptoRow.holds Tryz.pinned (OpenSpec.upto negoAgreesSpec)

/-- 'euphroelaw27.NegoSends', WHERE WHAT IT READS IS OF BULK AT MOST 1048576: true; the input reads as it did. -/
def negoSendsUptoRow : OpenClaim := { program := "ytmbdamompcdolaagreatdoor", sum := "7731595ecba355211734012641ad9104a8078cc6d84ff22fab37f82df65d5896", func := "euphroe/euphroelaw27.NegoSends", spec := "negoSends", inPlace := ["internal/bytealg.CountString", "internal/bytealg.IndexByteString", "internal/bytealg.IndexString"], unfollowed := true, recurses := true, named := ["unicode/utf8.first", "unicode/utf8.acceptRanges", "internal/bytealg.MaxLen"], apart := false, laid := [("unicode/utf8.acceptRanges", laid_unicode_utf8_acceptRanges), ("unicode/utf8.first", laid_unicode_utf8_first)], narrowed := true }
def NegoSendsUptoSaid : Prop := negoSendsUptoRow.holds Tryz.pinned (OpenSpec.upto negoSendsSpec)

/-- 'euphroelaw32.IpcpPlays', WHERE WHAT IT READS IS OF BULK AT MOST 1048576: true; the input reads as it did. -/
def ipcpPlaysUptoRow : OpenClaim := { program := "ytmbdamompcdolaagreatdoor", sum := "7731595ecba355211734012641ad9104a8078cc6d84ff22fab37f82df65d5896", func := "euphroe/euphroelaw32.IpcpPlays", spec := "ipcpPlays", inPlace := ["internal/bytealg.CountString", "internal/bytealg.IndexByteString", "internal/bytealg.IndexString"], unfollowed := true, recurses := true, named := ["unicode/utf8.first", "unicode/utf8.acceptRanges", "internal/bytealg.MaxLen"], apart := false, laid := [("unicode/utf8.acceptRanges", laid_unicode_utf8_acceptRanges), ("unicode/utf8.first", laid_unicode_utf8_first)], narrowed := true }
def IpcpPlaysUptoSaid : Prop := ipcpPlaysUptoRow.holds Tryz.pinned (OpenSpec.upto ipcpPlaysSpec)

/-- 'euphroelaw28.LcpMirror', WHERE WHAT IT READS IS OF BULK AT MOST 1048576: true; the input reads as it did. -/
def lcpMirrorUptoRow : OpenClaim := { program := "ytmbdamompcdolaagreatdoor", sum := "7731595ecba355211734012641ad9104a8078cc6d84ff22fab37f82df65d5896", func := "euphroe/euphroelaw28.LcpMirror", spec := "lcpMirror", inPlace := ["internal/bytealg.CountString", "internal/bytealg.IndexByteString", "internal/bytealg.IndexString"], unfollowed := true, recurses := true, named := ["unicode/utf8.first", "unicode/utf8.acceptRanges", "internal/bytealg.MaxLen"], apart := false, laid := [("unicode/utf8.acceptRanges", laid_unicode_utf8_acceptRanges), ("unicode/utf8.first", laid_unicode_utf8_first)], narrowed := true }
def LcpMirrorUptoSaid : Prop := lcpMirrorUptoRow.holds Tryz.pinned (OpenSpec.upto lcpMirrorSpec)

end Rows
end Go.Proofs.YtmbdamompcdolaaGreatDoor
