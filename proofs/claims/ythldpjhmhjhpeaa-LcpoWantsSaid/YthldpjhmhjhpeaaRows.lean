/-
  No cell of these rows narrows 'for every input' (looked for: loops, veiled, ifaces, maps, wideKeys, modest, calm, conditions, laid).
  DERIVED. THE GIVEN ROWS OF THIS SEAT. 3 by the template 'for every input the law returns true; each argument reads behind the call as it read before'; 0 by the template 'total and deterministic' (their statements: YthldpjhmhjhpeaaTotals.lean).
  GIVEN WITH THE SEED: the statements are not yours to turn. If you find one false, say at which input.
  Laid BY PROGRAM, IN A SANDBOX (cutbox-rows.mjs): the forced cells as the released guide's own fill.sh prints them over the translation 62f9ebe9621a10d1… (all of the seat's roots in one cut). By AI agents, Wed Nov 11 2026. No macro, syntax, notation, axiom, sorry.
-/
import Derived.Test.YthldpjhmhjhpeaaChecked
import GoSem.Claim
import GoSem.ClaimJoined
import GoSem.ClaimMapViews
import Derived.JoinedTies
import Derived.KernelRfl
namespace Go.Proofs.Ythldpjhmhjhpeaa
/- THE CELL 'sum', in the pinned program and in every row, IS THE sha256 OF THE DUMP (.gsa) THAT YthldpjhmhjhpeaaProg.lean LOADS. Nothing in Lean hashes anything: it is a label: what it is worth is what the hold of that sum in a sandbox is worth. -/
noncomputable def Try.pinned : Pinned := { name := "ythldpjhmhjhpeaa", sum := "62f9ebe9621a10d197400c85536c7e85a6a8ffa9fde0a434c54db1adffff101f", checked := Try.checked }
namespace Rows
def none {H : Type} : Left H := { results := [], args := [] }

/-- 'euphroelaw25.LcpoWants': WHATEVER THE INPUT: true; the input reads as it did. -/
def lcpoWantsSpec : ChangeSpec := { name := "lcpoWants", fn := fun _ => fun
  | [d1, d2, d3] => { results := [.lit (.bool true)], args := [d1, d2, d3] }
  | _ => none }
def lcpoWantsRow : OpenClaim := { program := "ythldpjhmhjhpeaa", sum := "62f9ebe9621a10d197400c85536c7e85a6a8ffa9fde0a434c54db1adffff101f", func := "euphroe/euphroelaw25.LcpoWants", spec := "lcpoWants", unfollowed := true, recurses := true, apart := false }
def LcpoWantsSaid : Prop := lcpoWantsRow.holds Try.pinned (OpenSpec.ofChange lcpoWantsSpec)

/-- ITS FALSE NEIGHBOUR: 'it returns false'. Refute it at one input. -/
def lcpoWantsWrong : ChangeSpec := { name := "lcpoWants", fn := fun _ => fun
  | [d1, d2, d3] => { results := [.lit (.bool false)], args := [d1, d2, d3] }
  | _ => none }
def LcpoWantsWrongFalsely : Prop := lcpoWantsRow.holds Try.pinned (OpenSpec.ofChange lcpoWantsWrong)

/-- 'euphroelaw41.TermsMake': WHATEVER THE INPUT: true; the input reads as it did. -/
def termsMakeSpec : ChangeSpec := { name := "termsMake", fn := fun _ => fun
  | [d1, d2] => { results := [.lit (.bool true)], args := [d1, d2] }
  | _ => none }
def termsMakeRow : OpenClaim := { program := "ythldpjhmhjhpeaa", sum := "62f9ebe9621a10d197400c85536c7e85a6a8ffa9fde0a434c54db1adffff101f", func := "euphroe/euphroelaw41.TermsMake", spec := "termsMake", unfollowed := true, recurses := true, apart := false }
def TermsMakeSaid : Prop := termsMakeRow.holds Try.pinned (OpenSpec.ofChange termsMakeSpec)

/-- ITS FALSE NEIGHBOUR: 'it returns false'. Refute it at one input. -/
def termsMakeWrong : ChangeSpec := { name := "termsMake", fn := fun _ => fun
  | [d1, d2] => { results := [.lit (.bool false)], args := [d1, d2] }
  | _ => none }
def TermsMakeWrongFalsely : Prop := termsMakeRow.holds Try.pinned (OpenSpec.ofChange termsMakeWrong)

/-- 'euphroelaw41.TermsNil': WHATEVER THE INPUT: true; the input reads as it did. -/
def termsNilSpec : ChangeSpec := { name := "termsNil", fn := fun _ => fun
  | [d] => { results := [.lit (.bool true)], args := [d] }
  | _ => none }
def termsNilRow : OpenClaim := { program := "ythldpjhmhjhpeaa", sum := "62f9ebe9621a10d197400c85536c7e85a6a8ffa9fde0a434c54db1adffff101f", func := "euphroe/euphroelaw41.TermsNil", spec := "termsNil", unfollowed := true, recurses := true, apart := false }
def TermsNilSaid : Prop := termsNilRow.holds Try.pinned (OpenSpec.ofChange termsNilSpec)

/-- ITS FALSE NEIGHBOUR: 'it returns false'. Refute it at one input. -/
def termsNilWrong : ChangeSpec := { name := "termsNil", fn := fun _ => fun
  | [d] => { results := [.lit (.bool false)], args := [d] }
  | _ => none }
def TermsNilWrongFalsely : Prop := termsNilRow.holds Try.pinned (OpenSpec.ofChange termsNilWrong)

/- THE SECOND FORM. 'bulk': how many values and letters a reading holds, each counted each time it is reached (what is shared counts as often as it is met; a slice's spare places count too). A statement '..UptoSaid' is the law's where the arguments, and the package variables that the reading takes, are together of bulk at most 1048576: NARROWER than '..Said'. Prove '..Said' where nothing that the law and all that it calls make is longer than what came in: it says more and counts as full. Else prove '..UptoSaid'. A law counts once. -/
mutual
def uptoBulk {H : Type} : DataW H → Nat
  | .lit (.string bytes) => bytes.length + 1
  | .lit _ => 1
  | .nil => 1
  | .ptr d => uptoBulk d + 1
  | .slice elems spare => uptoBulkAll elems + uptoBulkAll spare + 1
  | .agg parts => uptoBulkAll parts + 1
  | .iface _ d => uptoBulk d + 1
  | .map entries => uptoBulkEntries entries + 1
  | .held _ => 1
def uptoBulkAll {H : Type} : List (DataW H) → Nat
  | [] => 0
  | d :: r => uptoBulk d + uptoBulkAll r
def uptoBulkEntries {H : Type} : List (Lit × DataW H) → Nat
  | [] => 0
  | x :: r => uptoBulkEntry x + uptoBulkEntries r
def uptoBulkEntry {H : Type} : Lit × DataW H → Nat
  | (.string bytes, d) => bytes.length + uptoBulk d + 1
  | (_, d) => uptoBulk d + 1
 end
def uptoSmall : (H : Type) → List (DataW H) → Bool := fun _ ds => decide (uptoBulkAll ds ≤ 1048576)
def OpenSpec.upto (s : _root_.Go.ChangeSpec) : _root_.Go.OpenSpec := { _root_.Go.OpenSpec.ofChange s with cond := some uptoSmall }

/-- 'euphroelaw25.LcpoWants', WHERE WHAT IT READS IS OF BULK AT MOST 1048576: true; the input reads as it did. -/
def lcpoWantsUptoRow : OpenClaim := { program := "ythldpjhmhjhpeaa", sum := "62f9ebe9621a10d197400c85536c7e85a6a8ffa9fde0a434c54db1adffff101f", func := "euphroe/euphroelaw25.LcpoWants", spec := "lcpoWants", unfollowed := true, recurses := true, apart := false, narrowed := true }
def LcpoWantsUptoSaid : Prop := lcpoWantsUptoRow.holds Try.pinned (OpenSpec.upto lcpoWantsSpec)

/-- 'euphroelaw41.TermsMake', WHERE WHAT IT READS IS OF BULK AT MOST 1048576: true; the input reads as it did. -/
def termsMakeUptoRow : OpenClaim := { program := "ythldpjhmhjhpeaa", sum := "62f9ebe9621a10d197400c85536c7e85a6a8ffa9fde0a434c54db1adffff101f", func := "euphroe/euphroelaw41.TermsMake", spec := "termsMake", unfollowed := true, recurses := true, apart := false, narrowed := true }
def TermsMakeUptoSaid : Prop := termsMakeUptoRow.holds Try.pinned (OpenSpec.upto termsMakeSpec)

/-- 'euphroelaw41.TermsNil', WHERE WHAT IT READS IS OF BULK AT MOST 1048576: true; the input reads as it did. -/
def termsNilUptoRow : OpenClaim := { program := "ythldpjhmhjhpeaa", sum := "62f9ebe9621a10d197400c85536c7e85a6a8ffa9fde0a434c54db1adffff101f", func := "euphroe/euphroelaw41.TermsNil", spec := "termsNil", unfollowed := true, recurses := true, apart := false, narrowed := true }
def TermsNilUptoSaid : Prop := termsNilUptoRow.holds Try.pinned (OpenSpec.upto termsNilSpec)

end Rows
end Go.Proofs.Ythldpjhmhjhpeaa
