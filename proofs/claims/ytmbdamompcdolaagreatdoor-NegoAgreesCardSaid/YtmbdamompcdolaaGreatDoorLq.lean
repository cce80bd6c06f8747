/- What the functions of CtlOptions compute. No condition. -/
import Derived.Test.YtmbdamompcdolaaGreatDoorLc
set_option linter.all false
set_option maxRecDepth 100000
namespace Go.Q
open SOp SCode
attribute [local congr] bind_c map_c

def confB (code : Int) : Bool := decide (1 ≤ code) && decide (code ≤ 4)
theorem c_isConf (code : Int) : run G 128 [.v (.int .u8 code)] [] = some (.v (.bool (confB code)), []) := by
  rw [xq_fn G rfl ctl_isConf.g _ _ rfl]
  unfold confB
  by_cases h1 : 1 ≤ code
  · simp -implicitDefEqProofs (maxSteps := 2000000) (disch := omega) only [ctl_isConf.s, go_sem, reduceIte, Nat.reduceAdd, Nat.reduceSub, Nat.reduceMul, Nat.reduceLeDiff, Nat.reduceLT, Nat.reduceEqDiff, Int.reduceToNat, Int.reduceLT, Int.reduceLE, Int.reduceEq, Int.reduceNe, Int.reduceAdd, Int.reduceSub, Int.reduceMul, Int.reduceNeg, Int.reduceBEq, Int.reduceBNe, reduceCtorEq, dreduceIte, oWS, oW8, oW16, oW32, oW64, oLtT, oLtF, oLeT, oLeF, oNLtT, oNLtF, oNLeT, oNLeF, oEqT, oEqF, oNEqT, oNEqF, oBeqT, oBeqF, oBneT, oBneF, Int.natCast_add, List.take_length]
  · simp -implicitDefEqProofs (maxSteps := 2000000) (disch := omega) only [ctl_isConf.s, go_sem, reduceIte, Nat.reduceAdd, Nat.reduceSub, Nat.reduceMul, Nat.reduceLeDiff, Nat.reduceLT, Nat.reduceEqDiff, Int.reduceToNat, Int.reduceLT, Int.reduceLE, Int.reduceEq, Int.reduceNe, Int.reduceAdd, Int.reduceSub, Int.reduceMul, Int.reduceNeg, Int.reduceBEq, Int.reduceBNe, reduceCtorEq, dreduceIte, oWS, oW8, oW16, oW32, oW64, oLtT, oLtF, oLeT, oLeF, oNLtT, oNLtF, oNLeT, oNLeF, oEqT, oEqF, oNEqT, oNEqF, oBeqT, oBeqF, oBneT, oBneF, Int.natCast_add, List.take_length]
def confR (code id : Int) (l : List Opt) : Ctl × Int := if confB code = false then (noC, 9) else if (layR l).2 = 0 then ((code, id, (layR l).1), 0) else (noC, (layR l).2)
theorem c_conf (code id : Int) (l : List Opt) (hn : l.length ≤ 40) : run G 94 [.v (.int .u8 code), .v (.int .u8 id), .v (.slc 2 (oes l))] [] = some (.tup [.v (cv (confR code id l).1), .v (.int .i64 (confR code id l).2)], []) := by
  rw [xq_fn G rfl ctl_Conf.g _ _ rfl]
  unfold confR
  have e := c_isConf code
  have k := lay53 l hn
  cases h : confB code with
  | false => rw [h] at e; rw [if_pos rfl]; simp -implicitDefEqProofs (maxSteps := 2000000) (disch := omega) only [ctl_Conf.s, e, cv, noC, b8_nil, go_sem, reduceIte, Nat.reduceAdd, Nat.reduceSub, Nat.reduceMul, Nat.reduceLeDiff, Nat.reduceLT, Nat.reduceEqDiff, Int.reduceToNat, Int.reduceLT, Int.reduceLE, Int.reduceEq, Int.reduceNe, Int.reduceAdd, Int.reduceSub, Int.reduceMul, Int.reduceNeg, Int.reduceBEq, Int.reduceBNe, reduceCtorEq, dreduceIte, oWS, oW8, oW16, oW32, oW64, oLtT, oLtF, oLeT, oLeF, oNLtT, oNLtF, oNLeT, oNLeF, oEqT, oEqF, oNEqT, oNEqF, oBeqT, oBeqF, oBneT, oBneF, Int.natCast_add, List.take_length]
  | true =>
    rw [h] at e
    rw [if_neg (by decide)]
    by_cases h2 : (layR l).2 = 0
    · rw [if_pos h2]; rw [h2] at k; simp -implicitDefEqProofs (maxSteps := 2000000) (disch := omega) only [ctl_Conf.s, e, k, cv, go_sem, reduceIte, Nat.reduceAdd, Nat.reduceSub, Nat.reduceMul, Nat.reduceLeDiff, Nat.reduceLT, Nat.reduceEqDiff, Int.reduceToNat, Int.reduceLT, Int.reduceLE, Int.reduceEq, Int.reduceNe, Int.reduceAdd, Int.reduceSub, Int.reduceMul, Int.reduceNeg, Int.reduceBEq, Int.reduceBNe, reduceCtorEq, dreduceIte, oWS, oW8, oW16, oW32, oW64, oLtT, oLtF, oLeT, oLeF, oNLtT, oNLtF, oNLeT, oNLeF, oEqT, oEqF, oNEqT, oNEqF, oBeqT, oBeqF, oBneT, oBneF, Int.natCast_add, List.take_length]
    · rw [if_neg h2]; simp -implicitDefEqProofs (maxSteps := 2000000) (disch := omega) only [ctl_Conf.s, e, k, cv, noC, b8_nil, go_sem, reduceIte, Nat.reduceAdd, Nat.reduceSub, Nat.reduceMul, Nat.reduceLeDiff, Nat.reduceLT, Nat.reduceEqDiff, Int.reduceToNat, Int.reduceLT, Int.reduceLE, Int.reduceEq, Int.reduceNe, Int.reduceAdd, Int.reduceSub, Int.reduceMul, Int.reduceNeg, Int.reduceBEq, Int.reduceBNe, reduceCtorEq, dreduceIte, oWS, oW8, oW16, oW32, oW64, oLtT, oLtF, oLeT, oLeF, oNLtT, oNLtF, oNLeT, oNLeF, oEqT, oEqF, oNEqT, oNEqF, oBeqT, oBeqF, oBneT, oBneF, Int.natCast_add, List.take_length]
def optsR (c : Ctl) : List Opt × Int := if confB c.1 = false then ([], 9) else prs 32 [] c.2.2
theorem c_opts (c : Ctl) (hb : okB c.2.2) (hl : c.2.2.length ≤ 10000) : run G 88 [.v (cv c)] [] = some (.tup [.lin 2 (oes (optsR c).1), .v (.int .i64 (optsR c).2)], []) := by
  rw [xq_fn G rfl ctl_Options.g _ _ rfl]
  unfold optsR
  have e := c_isConf c.1
  have k := parse56 c.2.2 hb hl
  cases h : confB c.1 with
  | false => rw [h] at e; rw [if_pos rfl]; simp -implicitDefEqProofs (maxSteps := 2000000) (disch := omega) only [ctl_Options.s, e, cv, oes_nil, go_sem, reduceIte, Nat.reduceAdd, Nat.reduceSub, Nat.reduceMul, Nat.reduceLeDiff, Nat.reduceLT, Nat.reduceEqDiff, Int.reduceToNat, Int.reduceLT, Int.reduceLE, Int.reduceEq, Int.reduceNe, Int.reduceAdd, Int.reduceSub, Int.reduceMul, Int.reduceNeg, Int.reduceBEq, Int.reduceBNe, reduceCtorEq, dreduceIte, oWS, oW8, oW16, oW32, oW64, oLtT, oLtF, oLeT, oLeF, oNLtT, oNLtF, oNLeT, oNLeF, oEqT, oEqF, oNEqT, oNEqF, oBeqT, oBeqF, oBneT, oBneF, Int.natCast_add, List.take_length]
  | true => rw [h] at e; rw [if_neg (by decide)]; simp -implicitDefEqProofs (maxSteps := 2000000) (disch := omega) only [ctl_Options.s, e, k, cv, go_sem, reduceIte, Nat.reduceAdd, Nat.reduceSub, Nat.reduceMul, Nat.reduceLeDiff, Nat.reduceLT, Nat.reduceEqDiff, Int.reduceToNat, Int.reduceLT, Int.reduceLE, Int.reduceEq, Int.reduceNe, Int.reduceAdd, Int.reduceSub, Int.reduceMul, Int.reduceNeg, Int.reduceBEq, Int.reduceBNe, reduceCtorEq, dreduceIte, oWS, oW8, oW16, oW32, oW64, oLtT, oLtF, oLeT, oLeF, oNLtT, oNLtF, oNLeT, oNLeF, oEqT, oEqF, oNEqT, oNEqF, oBeqT, oBeqF, oBneT, oBneF, Int.natCast_add, List.take_length]
theorem optsR_ok (c : Ctl) (hb : okB c.2.2) : okL (optsR c).1 ∧ (optsR c).1.length ≤ 40 := by
  unfold optsR
  split
  · exact ⟨fun o h => (by cases h), by simp⟩
  · obtain ⟨k1, k2, _⟩ := prs_ok 32 [] c.2.2 hb (fun o ho => by cases ho) (fun o ho => by cases ho)
    exact ⟨k1, by simp at k2; omega⟩
theorem confR_ok (code id : Int) (l : List Opt) (h1 : 0 ≤ code ∧ code ≤ 255) (h2 : 0 ≤ id ∧ id ≤ 255) (hl : okL l) : okC (confR code id l).1 ∧ (confR code id l).1.2.2.length ≤ 10000 := by
  have n : okC noC := ⟨by decide, by decide, fun x h => (by cases h)⟩
  unfold confR
  split
  · exact ⟨n, by simp [noC]⟩
  split
  · exact ⟨⟨h1, h2, (layR_ok l hl).1⟩, (layR_ok l hl).2⟩
  · exact ⟨n, by simp [noC]⟩
abbrev coS (a b : Int) (c : Ctl) : St := [[.row [.v (.agg [.int .u8 a, .int .u8 b])], .row [.v (cv c)]]]
end Go.Q
