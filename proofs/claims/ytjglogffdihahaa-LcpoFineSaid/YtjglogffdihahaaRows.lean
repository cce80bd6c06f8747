/-
  No cell of these rows narrows 'for every input' (looked for: loops, veiled, ifaces, maps, wideKeys, modest, calm, conditions, laid).
  DERIVED. THE GIVEN ROWS OF THIS SEAT. 12 by the template 'for every input the law returns true; each argument reads behind the call as it read before'; 0 by the template 'total and deterministic' (their statements: YtjglogffdihahaaTotals.lean).
  GIVEN WITH THE SEED: the statements are not yours to turn. If you find one false, say at which input.
  Laid BY PROGRAM, IN A SANDBOX (cutbox-rows.mjs): the forced cells as the released guide's own fill.sh prints them over the translation a17dce356ebe8f63… (all of the seat's roots in one cut). By AI agents, Wed Nov 11 2026. No macro, syntax, notation, axiom, sorry.
-/
import Derived.Test.YtjglogffdihahaaChecked
import GoSem.Claim
import GoSem.ClaimJoined
import GoSem.ClaimMapViews
import Derived.JoinedTies
import Derived.KernelRfl
namespace Go.Proofs.Ytjglogffdihahaa
/- THE CELL 'sum', in the pinned program and in every row, IS THE sha256 OF THE DUMP (.gsa) THAT YtjglogffdihahaaProg.lean LOADS. Nothing in Lean hashes anything: it is a label: what it is worth is what the hold of that sum in a sandbox is worth. -/
noncomputable def Try.pinned : Pinned := { name := "ytjglogffdihahaa", sum := "a17dce356ebe8f634146a2e4723ea163a5c7f03566fb71b987ec6b2d640f21c1", checked := Try.checked }
namespace Rows
def none {H : Type} : Left H := { results := [], args := [] }

/-- 'euphroelaw24.RetryCounts': WHATEVER THE INPUT: true; the input reads as it did. -/
def retryCountsSpec : ChangeSpec := { name := "retryCounts", fn := fun _ => fun
  | [d1, d2] => { results := [.lit (.bool true)], args := [d1, d2] }
  | _ => none }
def retryCountsRow : OpenClaim := { program := "ytjglogffdihahaa", sum := "a17dce356ebe8f634146a2e4723ea163a5c7f03566fb71b987ec6b2d640f21c1", func := "euphroe/euphroelaw24.RetryCounts", spec := "retryCounts", apart := false }
def RetryCountsSaid : Prop := retryCountsRow.holds Try.pinned (OpenSpec.ofChange retryCountsSpec)

/-- ITS FALSE NEIGHBOUR: 'it returns false'. Refute it at one input. -/
def retryCountsWrong : ChangeSpec := { name := "retryCounts", fn := fun _ => fun
  | [d1, d2] => { results := [.lit (.bool false)], args := [d1, d2] }
  | _ => none }
def RetryCountsWrongFalsely : Prop := retryCountsRow.holds Try.pinned (OpenSpec.ofChange retryCountsWrong)

/-- 'euphroelaw24.RetryOnce': WHATEVER THE INPUT: true; the input reads as it did. -/
def retryOnceSpec : ChangeSpec := { name := "retryOnce", fn := fun _ => fun
  | [d1, d2] => { results := [.lit (.bool true)], args := [d1, d2] }
  | _ => none }
def retryOnceRow : OpenClaim := { program := "ytjglogffdihahaa", sum := "a17dce356ebe8f634146a2e4723ea163a5c7f03566fb71b987ec6b2d640f21c1", func := "euphroe/euphroelaw24.RetryOnce", spec := "retryOnce", apart := false }
def RetryOnceSaid : Prop := retryOnceRow.holds Try.pinned (OpenSpec.ofChange retryOnceSpec)

/-- ITS FALSE NEIGHBOUR: 'it returns false'. Refute it at one input. -/
def retryOnceWrong : ChangeSpec := { name := "retryOnce", fn := fun _ => fun
  | [d1, d2] => { results := [.lit (.bool false)], args := [d1, d2] }
  | _ => none }
def RetryOnceWrongFalsely : Prop := retryOnceRow.holds Try.pinned (OpenSpec.ofChange retryOnceWrong)

/-- 'euphroelaw24.RetryMoves': WHATEVER THE INPUT: true; the input reads as it did. -/
def retryMovesSpec : ChangeSpec := { name := "retryMoves", fn := fun _ => fun
  | [d1, d2, d3] => { results := [.lit (.bool true)], args := [d1, d2, d3] }
  | _ => none }
def retryMovesRow : OpenClaim := { program := "ytjglogffdihahaa", sum := "a17dce356ebe8f634146a2e4723ea163a5c7f03566fb71b987ec6b2d640f21c1", func := "euphroe/euphroelaw24.RetryMoves", spec := "retryMoves", apart := false }
def RetryMovesSaid : Prop := retryMovesRow.holds Try.pinned (OpenSpec.ofChange retryMovesSpec)

/-- ITS FALSE NEIGHBOUR: 'it returns false'. Refute it at one input. -/
def retryMovesWrong : ChangeSpec := { name := "retryMoves", fn := fun _ => fun
  | [d1, d2, d3] => { results := [.lit (.bool false)], args := [d1, d2, d3] }
  | _ => none }
def RetryMovesWrongFalsely : Prop := retryMovesRow.holds Try.pinned (OpenSpec.ofChange retryMovesWrong)

/-- 'euphroelaw31.PoolAll': WHATEVER THE INPUT: true; the input reads as it did. -/
def poolAllSpec : ChangeSpec := { name := "poolAll", fn := fun _ => fun
  | [d1, d2] => { results := [.lit (.bool true)], args := [d1, d2] }
  | _ => none }
def poolAllRow : OpenClaim := { program := "ytjglogffdihahaa", sum := "a17dce356ebe8f634146a2e4723ea163a5c7f03566fb71b987ec6b2d640f21c1", func := "euphroe/euphroelaw31.PoolAll", spec := "poolAll", apart := false }
def PoolAllSaid : Prop := poolAllRow.holds Try.pinned (OpenSpec.ofChange poolAllSpec)

/-- ITS FALSE NEIGHBOUR: 'it returns false'. Refute it at one input. -/
def poolAllWrong : ChangeSpec := { name := "poolAll", fn := fun _ => fun
  | [d1, d2] => { results := [.lit (.bool false)], args := [d1, d2] }
  | _ => none }
def PoolAllWrongFalsely : Prop := poolAllRow.holds Try.pinned (OpenSpec.ofChange poolAllWrong)

/-- 'euphroelaw22.CtlLays': WHATEVER THE INPUT: true; the input reads as it did. -/
def ctlLaysSpec : ChangeSpec := { name := "ctlLays", fn := fun _ => fun
  | [d1, d2] => { results := [.lit (.bool true)], args := [d1, d2] }
  | _ => none }
def ctlLaysRow : OpenClaim := { program := "ytjglogffdihahaa", sum := "a17dce356ebe8f634146a2e4723ea163a5c7f03566fb71b987ec6b2d640f21c1", func := "euphroe/euphroelaw22.CtlLays", spec := "ctlLays", apart := false }
def CtlLaysSaid : Prop := ctlLaysRow.holds Try.pinned (OpenSpec.ofChange ctlLaysSpec)

/-- ITS FALSE NEIGHBOUR: 'it returns false'. Refute it at one input. -/
def ctlLaysWrong : ChangeSpec := { name := "ctlLays", fn := fun _ => fun
  | [d1, d2] => { results := [.lit (.bool false)], args := [d1, d2] }
  | _ => none }
def CtlLaysWrongFalsely : Prop := ctlLaysRow.holds Try.pinned (OpenSpec.ofChange ctlLaysWrong)

/-- 'euphroelaw22.CtlRejects': WHATEVER THE INPUT: true; the input reads as it did. -/
def ctlRejectsSpec : ChangeSpec := { name := "ctlRejects", fn := fun _ => fun
  | [d1, d2, d3] => { results := [.lit (.bool true)], args := [d1, d2, d3] }
  | _ => none }
def ctlRejectsRow : OpenClaim := { program := "ytjglogffdihahaa", sum := "a17dce356ebe8f634146a2e4723ea163a5c7f03566fb71b987ec6b2d640f21c1", func := "euphroe/euphroelaw22.CtlRejects", spec := "ctlRejects", apart := false }
def CtlRejectsSaid : Prop := ctlRejectsRow.holds Try.pinned (OpenSpec.ofChange ctlRejectsSpec)

/-- ITS FALSE NEIGHBOUR: 'it returns false'. Refute it at one input. -/
def ctlRejectsWrong : ChangeSpec := { name := "ctlRejects", fn := fun _ => fun
  | [d1, d2, d3] => { results := [.lit (.bool false)], args := [d1, d2, d3] }
  | _ => none }
def CtlRejectsWrongFalsely : Prop := ctlRejectsRow.holds Try.pinned (OpenSpec.ofChange ctlRejectsWrong)

/-- 'euphroelaw21.OptsLays': WHATEVER THE INPUT: true; the input reads as it did. -/
def optsLaysSpec : ChangeSpec := { name := "optsLays", fn := fun _ => fun
  | [d1, d2] => { results := [.lit (.bool true)], args := [d1, d2] }
  | _ => none }
def optsLaysRow : OpenClaim := { program := "ytjglogffdihahaa", sum := "a17dce356ebe8f634146a2e4723ea163a5c7f03566fb71b987ec6b2d640f21c1", func := "euphroe/euphroelaw21.OptsLays", spec := "optsLays", unfollowed := true, recurses := true, apart := false }
def OptsLaysSaid : Prop := optsLaysRow.holds Try.pinned (OpenSpec.ofChange optsLaysSpec)

/-- ITS FALSE NEIGHBOUR: 'it returns false'. Refute it at one input. -/
def optsLaysWrong : ChangeSpec := { name := "optsLays", fn := fun _ => fun
  | [d1, d2] => { results := [.lit (.bool false)], args := [d1, d2] }
  | _ => none }
def OptsLaysWrongFalsely : Prop := optsLaysRow.holds Try.pinned (OpenSpec.ofChange optsLaysWrong)

/-- 'euphroelaw21.OptsAsks': WHATEVER THE INPUT: true; the input reads as it did. -/
def optsAsksSpec : ChangeSpec := { name := "optsAsks", fn := fun _ => fun
  | [d1, d2, d3] => { results := [.lit (.bool true)], args := [d1, d2, d3] }
  | _ => none }
def optsAsksRow : OpenClaim := { program := "ytjglogffdihahaa", sum := "a17dce356ebe8f634146a2e4723ea163a5c7f03566fb71b987ec6b2d640f21c1", func := "euphroe/euphroelaw21.OptsAsks", spec := "optsAsks", unfollowed := true, recurses := true, apart := false }
def OptsAsksSaid : Prop := optsAsksRow.holds Try.pinned (OpenSpec.ofChange optsAsksSpec)

/-- ITS FALSE NEIGHBOUR: 'it returns false'. Refute it at one input. -/
def optsAsksWrong : ChangeSpec := { name := "optsAsks", fn := fun _ => fun
  | [d1, d2, d3] => { results := [.lit (.bool false)], args := [d1, d2, d3] }
  | _ => none }
def OptsAsksWrongFalsely : Prop := optsAsksRow.holds Try.pinned (OpenSpec.ofChange optsAsksWrong)

/-- 'euphroelaw25.LcpoJudges': WHATEVER THE INPUT: true; the input reads as it did. -/
def lcpoJudgesSpec : ChangeSpec := { name := "lcpoJudges", fn := fun _ => fun
  | [d1, d2, d3] => { results := [.lit (.bool true)], args := [d1, d2, d3] }
  | _ => none }
def lcpoJudgesRow : OpenClaim := { program := "ytjglogffdihahaa", sum := "a17dce356ebe8f634146a2e4723ea163a5c7f03566fb71b987ec6b2d640f21c1", func := "euphroe/euphroelaw25.LcpoJudges", spec := "lcpoJudges", unfollowed := true, recurses := true, apart := false }
def LcpoJudgesSaid : Prop := lcpoJudgesRow.holds Try.pinned (OpenSpec.ofChange lcpoJudgesSpec)

/-- ITS FALSE NEIGHBOUR: 'it returns false'. Refute it at one input. -/
def lcpoJudgesWrong : ChangeSpec := { name := "lcpoJudges", fn := fun _ => fun
  | [d1, d2, d3] => { results := [.lit (.bool false)], args := [d1, d2, d3] }
  | _ => none }
def LcpoJudgesWrongFalsely : Prop := lcpoJudgesRow.holds Try.pinned (OpenSpec.ofChange lcpoJudgesWrong)

/-- 'euphroelaw25.LcpoFine': WHATEVER THE INPUT: true; the input reads as it did. -/
def lcpoFineSpec : ChangeSpec := { name := "lcpoFine", fn := fun _ => fun
  | [d1, d2, d3] => { results := [.lit (.bool true)], args := [d1, d2, d3] }
  | _ => none }
def lcpoFineRow : OpenClaim := { program := "ytjglogffdihahaa", sum := "a17dce356ebe8f634146a2e4723ea163a5c7f03566fb71b987ec6b2d640f21c1", func := "euphroe/euphroelaw25.LcpoFine", spec := "lcpoFine", unfollowed := true, recurses := true, apart := false }
def LcpoFineSaid : Prop := lcpoFineRow.holds Try.pinned (OpenSpec.ofChange lcpoFineSpec)

/-- ITS FALSE NEIGHBOUR: 'it returns false'. Refute it at one input. -/
def lcpoFineWrong : ChangeSpec := { name := "lcpoFine", fn := fun _ => fun
  | [d1, d2, d3] => { results := [.lit (.bool false)], args := [d1, d2, d3] }
  | _ => none }
def LcpoFineWrongFalsely : Prop := lcpoFineRow.holds Try.pinned (OpenSpec.ofChange lcpoFineWrong)

/-- 'euphroelaw25.LcpoAnswers': WHATEVER THE INPUT: true; the input reads as it did. -/
def lcpoAnswersSpec : ChangeSpec := { name := "lcpoAnswers", fn := fun _ => fun
  | [d1, d2, d3] => { results := [.lit (.bool true)], args := [d1, d2, d3] }
  | _ => none }
def lcpoAnswersRow : OpenClaim := { program := "ytjglogffdihahaa", sum := "a17dce356ebe8f634146a2e4723ea163a5c7f03566fb71b987ec6b2d640f21c1", func := "euphroe/euphroelaw25.LcpoAnswers", spec := "lcpoAnswers", unfollowed := true, recurses := true, apart := false }
def LcpoAnswersSaid : Prop := lcpoAnswersRow.holds Try.pinned (OpenSpec.ofChange lcpoAnswersSpec)

/-- ITS FALSE NEIGHBOUR: 'it returns false'. Refute it at one input. -/
def lcpoAnswersWrong : ChangeSpec := { name := "lcpoAnswers", fn := fun _ => fun
  | [d1, d2, d3] => { results := [.lit (.bool false)], args := [d1, d2, d3] }
  | _ => none }
def LcpoAnswersWrongFalsely : Prop := lcpoAnswersRow.holds Try.pinned (OpenSpec.ofChange lcpoAnswersWrong)

/-- 'euphroelaw22.CtlOptions': WHATEVER THE INPUT: true; the input reads as it did. -/
def ctlOptionsSpec : ChangeSpec := { name := "ctlOptions", fn := fun _ => fun
  | [d1, d2, d3] => { results := [.lit (.bool true)], args := [d1, d2, d3] }
  | _ => none }
def ctlOptionsRow : OpenClaim := { program := "ytjglogffdihahaa", sum := "a17dce356ebe8f634146a2e4723ea163a5c7f03566fb71b987ec6b2d640f21c1", func := "euphroe/euphroelaw22.CtlOptions", spec := "ctlOptions", unfollowed := true, recurses := true, apart := false }
def CtlOptionsSaid : Prop := ctlOptionsRow.holds Try.pinned (OpenSpec.ofChange ctlOptionsSpec)

/-- ITS FALSE NEIGHBOUR: 'it returns false'. Refute it at one input. -/
def ctlOptionsWrong : ChangeSpec := { name := "ctlOptions", fn := fun _ => fun
  | [d1, d2, d3] => { results := [.lit (.bool false)], args := [d1, d2, d3] }
  | _ => none }
def CtlOptionsWrongFalsely : Prop := ctlOptionsRow.holds Try.pinned (OpenSpec.ofChange ctlOptionsWrong)

/- THE SECOND FORM. 'bulk': how many values and letters a reading holds, each counted each time it is reached (what is shared counts as often as it is met; a slice's spare places count too). A statement '..UptoSaid' is the law's where the arguments, and the package variables that the reading takes, are together of bulk at most 1048576: NARROWER than '..Said'. Prove '..Said' where nothing that the law and all that it calls make is longer than what came in: it says more and counts as full. Else prove '..UptoSaid'. A law counts once. -/
mutual
def uptoBulk {H : Type} : DataW H → Nat
  | .lit (.string bytes) => bytes.length + 1
  | .lit _ => 1
  | .nil => 1
  | .ptr d => uptoBulk d + 1
  | .slice elems spare => uptoBulkAll elems + uptoBulkAll spare + 1
  | .agg parts => uptoBulkAll parts + 1
  | .iface _ d => uptoBulk d + 1
  | .map entries => uptoBulkEntries entries + 1
  | .held _ => 1
def uptoBulkAll {H : Type} : List (DataW H) → Nat
  | [] => 0
  | d :: r => uptoBulk d + uptoBulkAll r
def uptoBulkEntries {H : Type} : List (Lit × DataW H) → Nat
  | [] => 0
  | x :: r => uptoBulkEntry x + uptoBulkEntries r
def uptoBulkEntry {H : Type} : Lit × DataW H → Nat
  | (.string bytes, d) => bytes.length + uptoBulk d + 1
  | (_, d) => uptoBulk d + 1
 end
def uptoSmall : (H : Type) → List (DataW H) → Bool := fun _ ds => decide (uptoBulkAll ds ≤ 1048576)
def OpenSpec.upto (s : _root_.Go.ChangeSpec) : _root_.Go.OpenSpec := { _root_.Go.OpenSpec.ofChange s with cond := some uptoSmall }

/-- 'euphroelaw24.RetryCounts', WHERE WHAT IT READS IS OF BULK AT MOST 1048576: true; the input reads as it did. -/
def retryCountsUptoRow : OpenClaim := { program := "ytjglogffdihahaa", sum := "a17dce356ebe8f634146a2e4723ea163a5c7f03566fb71b987ec6b2d640f21c1", func := "euphroe/euphroelaw24.RetryCounts", spec := "retryCounts", apart := false, narrowed := true }
def RetryCountsUptoSaid : Prop := retryCountsUptoRow.holds Try.pinned (OpenSpec.upto retryCountsSpec)

/-- 'euphroelaw24.RetryOnce', WHERE WHAT IT READS IS OF BULK AT MOST 1048576: true; the input reads as it did. -/
def retryOnceUptoRow : OpenClaim := { program := "ytjglogffdihahaa", sum := "a17dce356ebe8f634146a2e4723ea163a5c7f03566fb71b987ec6b2d640f21c1", func := "euphroe/euphroelaw24.RetryOnce", spec := "retryOnce", apart := false, narrowed := true }
def RetryOnceUptoSaid : Prop := retryOnceUptoRow.holds Try.pinned (OpenSpec.upto retryOnceSpec)

/-- 'euphroelaw24.RetryMoves', WHERE WHAT IT READS IS OF BULK AT MOST 1048576: true; the input reads as it did. -/
def retryMovesUptoRow : OpenClaim := { program := "ytjglogffdihahaa", sum := "a17dce356ebe8f634146a2e4723ea163a5c7f03566fb71b987ec6b2d640f21c1", func := "euphroe/euphroelaw24.RetryMoves", spec := "retryMoves", apart := false, narrowed := true }
def RetryMovesUptoSaid : Prop := retryMovesUptoRow.holds Try.pinned (OpenSpec.upto retryMovesSpec)

/-- 'euphroelaw31.PoolAll', WHERE WHAT IT READS IS OF BULK AT MOST 1048576: true; the input reads as it did. -/
def poolAllUptoRow : OpenClaim := { program := "ytjglogffdihahaa", sum := "a17dce356ebe8f634146a2e4723ea163a5c7f03566fb71b987ec6b2d640f21c1", func := "euphroe/euphroelaw31.PoolAll", spec := "poolAll", apart := false, narrowed := true }
def PoolAllUptoSaid : Prop := poolAllUptoRow.holds Try.pinned (OpenSpec.upto poolAllSpec)

/-- 'euphroelaw22.CtlLays', WHERE WHAT IT READS IS OF BULK AT MOST 1048576: true; the input reads as it did. -/
def ctlLaysUptoRow : OpenClaim := { program := "ytjglogffdihahaa", sum := "a17dce356ebe8f634146a2e4723ea163a5c7f03566fb71b987ec6b2d640f21c1", func := "euphroe/euphroelaw22.CtlLays", spec := "ctlLays", apart := false, narrowed := true }
def CtlLaysUptoSaid : Prop := ctlLaysUptoRow.holds Try.pinned (OpenSpec.upto ctlLaysSpec)

/-- 'euphroelaw22.CtlRejects', WHERE WHAT IT READS IS OF BULK AT MOST 1048576: true; the input reads as it did. -/
def ctlRejectsUptoRow : OpenClaim := { program := "ytjglogffdihahaa", sum := "a17dce356ebe8f634146a2e4723ea163a5c7f03566fb71b987ec6b2d640f21c1", func := "euphroe/euphroelaw22.CtlRejects", spec := "ctlRejects", apart := false, narrowed := true }
def CtlRejectsUptoSaid : Prop := ctlRejectsUptoRow.holds Try.pinned (OpenSpec.upto ctlRejectsSpec)

/-- 'euphroelaw21.OptsLays', WHERE WHAT IT READS IS OF BULK AT MOST 1048576: true; the input reads as it did. -/
def optsLaysUptoRow : OpenClaim := { program := "ytjglogffdihahaa", sum := "a17dce356ebe8f634146a2e4723ea163a5c7f03566fb71b987ec6b2d640f21c1", func := "euphroe/euphroelaw21.OptsLays", spec := "optsLays", unfollowed := true, recurses := true, apart := false, narrowed := true }
def OptsLaysUptoSaid : Prop := optsLaysUptoRow.holds Try.pinned (OpenSpec.upto optsLaysSpec)

/-- 'euphroelaw21.OptsAsks', WHERE WHAT IT READS IS OF BULK AT MOST 1048576: true; the input reads as it did. -/
def optsAsksUptoRow : OpenClaim := { program := "ytjglogffdihahaa", sum := "a17dce356ebe8f634146a2e4723ea163a5c7f03566fb71b987ec6b2d640f21c1", func := "euphroe/euphroelaw21.OptsAsks", spec := "optsAsks", unfollowed := true, recurses := true, apart := false, narrowed := true }
def OptsAsksUptoSaid : Prop := optsAsksUptoRow.holds Try.pinned (OpenSpec.upto optsAsksSpec)

/-- 'euphroelaw25.LcpoJudges', WHERE WHAT IT READS IS OF BULK AT MOST 1048576: true; the input reads as it did. -/
def lcpoJudgesUptoRow : OpenClaim := { program := "ytjglogffdihahaa", sum := "a17dce356ebe8f634146a2e4723ea163a5c7f03566fb71b987ec6b2d640f21c1", func := "euphroe/euphroelaw25.LcpoJudges", spec := "lcpoJudges", unfollowed := true, recurses := true, apart := false, narrowed := true }
def LcpoJudgesUptoSaid : Prop := lcpoJudgesUptoRow.holds Try.pinned (OpenSpec.upto lcpoJudgesSpec)

/-- 'euphroelaw25.LcpoFine', WHERE WHAT IT READS IS OF BULK AT MOST 1048576: true; the input reads as it did. -/
def lcpoFineUptoRow : OpenClaim := { program := "ytjglogffdihahaa", sum := "a17dce356ebe8f634146a2e4723ea163a5c7f03566fb71b987ec6b2d640f21c1", func := "euphroe/euphroelaw25.LcpoFine", spec := "lcpoFine", unfollowed := true, recurses := true, apart := false, narrowed := true }
def LcpoFineUptoSaid : Prop := lcpoFineUptoRow.holds Try.pinned (OpenSpec.upto lcpoFineSpec)

/-- 'euphroelaw25.LcpoAnswers', WHERE WHAT IT READS IS OF BULK AT MOST 1048576: true; the input reads as it did. -/
def lcpoAnswersUptoRow : OpenClaim := { program := "ytjglogffdihahaa", sum := "a17dce356ebe8f634146a2e4723ea163a5c7f03566fb71b987ec6b2d640f21c1", func := "euphroe/euphroelaw25.LcpoAnswers", spec := "lcpoAnswers", unfollowed := true, recurses := true, apart := false, narrowed := true }
def LcpoAnswersUptoSaid : Prop := lcpoAnswersUptoRow.holds Try.pinned (OpenSpec.upto lcpoAnswersSpec)

/-- 'euphroelaw22.CtlOptions', WHERE WHAT IT READS IS OF BULK AT MOST 1048576: true; the input reads as it did. -/
def ctlOptionsUptoRow : OpenClaim := { program := "ytjglogffdihahaa", sum := "a17dce356ebe8f634146a2e4723ea163a5c7f03566fb71b987ec6b2d640f21c1", func := "euphroe/euphroelaw22.CtlOptions", spec := "ctlOptions", unfollowed := true, recurses := true, apart := false, narrowed := true }
def CtlOptionsUptoSaid : Prop := ctlOptionsUptoRow.holds Try.pinned (OpenSpec.upto ctlOptionsSpec)

end Rows
end Go.Proofs.Ytjglogffdihahaa
