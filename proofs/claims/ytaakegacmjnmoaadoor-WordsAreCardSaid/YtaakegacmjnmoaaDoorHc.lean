/- The law WordsAre, in the machine. No condition. -/
import Derived.Test.YtaakegacmjnmoaaDoorHb
set_option linter.all false
set_option maxRecDepth 100000
namespace Go.Q
open SOp SCode
attribute [local congr] bind_c map_c
theorem wordsAre (s t : List UInt8) : run G 5 [.v (.str s), .v (.str t)] [] = some (.v (.bool true), []) := by
  rw [xq_fn G rfl euphroelaw14_WordsAre.g _ _ rfl]
  have A := w_alive
  by_cases h1 : 300 < s.length
  · simp -implicitDefEqProofs (maxSteps := 2000000) (disch := omega) only [euphroelaw14_WordsAre.s, A, go_sem, reduceIte, Nat.reduceAdd, Nat.reduceSub, Nat.reduceMul, Nat.reduceLeDiff, Nat.reduceLT, Nat.reduceEqDiff, Int.reduceToNat, Int.reduceLT, Int.reduceLE, Int.reduceEq, Int.reduceNe, Int.reduceAdd, Int.reduceSub, Int.reduceMul, Int.reduceNeg, Int.reduceBEq, Int.reduceBNe, reduceCtorEq, dreduceIte, oWS, oW8, oW16, oW32, oW64, oLtT, oLtF, oLeT, oLeF, oNLtT, oNLtF, oNLeT, oNLeF, oEqT, oEqF, oNEqT, oNEqF, oBeqT, oBeqF, oBneT, oBneF, Int.natCast_add, List.take_length]
  by_cases h2 : 300 < t.length
  · simp -implicitDefEqProofs (maxSteps := 2000000) (disch := omega) only [euphroelaw14_WordsAre.s, A, go_sem, reduceIte, Nat.reduceAdd, Nat.reduceSub, Nat.reduceMul, Nat.reduceLeDiff, Nat.reduceLT, Nat.reduceEqDiff, Int.reduceToNat, Int.reduceLT, Int.reduceLE, Int.reduceEq, Int.reduceNe, Int.reduceAdd, Int.reduceSub, Int.reduceMul, Int.reduceNeg, Int.reduceBEq, Int.reduceBNe, reduceCtorEq, dreduceIte, oWS, oW8, oW16, oW32, oW64, oLtT, oLtF, oLeT, oLeF, oNLtT, oNLtF, oNLeT, oNLeF, oEqT, oEqF, oNEqT, oNEqF, oBeqT, oBeqF, oBneT, oBneF, Int.natCast_add, List.take_length]
  have hs : s.length ≤ 100000 := by omega
  have ht : t.length ≤ 100000 := by omega
  have I1 := w_Number s hs
  have I2 := r_Number s hs
  have I3 := w_Lower s hs
  have I4 := r_Lower s hs
  have I5 := w_Alike s t hs ht
  have I6 := r_Alike s t hs ht
  have I7 := w_Token s
  have I8 := r_Token s hs
  have I9 := w_Trim s hs
  have I10 := r_Trim s hs
  generalize (numR s).1 = n1 at *
  generalize (numR s).2 = n2 at *
  generalize (decide (1 ≤ s.length ∧ s.length ≤ 64) && s.all tokB) = b1 at *
  generalize (s.map lowB == t.map lowB) = b2 at *
  simp -implicitDefEqProofs (maxSteps := 2000000) (disch := omega) only [euphroelaw14_WordsAre.s, A, I1, I2, I3, I4, I5, I6, I7, I8, I9, I10, beq_self_eq_true, go_sem, reduceIte, Nat.reduceAdd, Nat.reduceSub, Nat.reduceMul, Nat.reduceLeDiff, Nat.reduceLT, Nat.reduceEqDiff, Int.reduceToNat, Int.reduceLT, Int.reduceLE, Int.reduceEq, Int.reduceNe, Int.reduceAdd, Int.reduceSub, Int.reduceMul, Int.reduceNeg, Int.reduceBEq, Int.reduceBNe, reduceCtorEq, dreduceIte, oWS, oW8, oW16, oW32, oW64, oLtT, oLtF, oLeT, oLeF, oNLtT, oNLtF, oNLeT, oNLeF, oEqT, oEqF, oNEqT, oNEqF, oBeqT, oBeqF, oBneT, oBneF, Int.natCast_add, List.take_length]
end Go.Q
