/- The automaton: what its functions compute. No condition. -/
import Derived.Test.YtmbdamompcdolaaGreatDoorLf
set_option linter.all false
set_option maxRecDepth 100000
namespace Go.Q
open SOp SCode
attribute [local congr] bind_c map_c

abbrev iv (n : Int) : D := .v (.int .i64 n)
theorem i64s_len (l : List Int) : (i64s l).length = l.length := by simp [i64s]
theorem i64s_at {l : List Int} {i : Nat} {x : Int} (h : l[i]? = some x) : (i64s l)[i]? = some (.int .i64 x) := by simp [i64s, h]
theorem i64s_app (a b : List Int) : i64s a ++ i64s b = i64s (a ++ b) := by simp [i64s]
theorem i64s_nil : i64s [] = [] := rfl
def factB (s e : Int) : Bool := decide (0 ≤ (nxR s e).1 ∧ (nxR s e).1 ≤ 9) && (decide ((nxR s e).2.1.length ≤ 4) && (if (nxR s e).2.2 = 0 then ((nxR s e).2.1.contains 1 == (decide ((nxR s e).1 = 9) && decide (s ≠ 9))) && (((nxR s e).2.1.contains 2 == (decide (s = 9) && decide ((nxR s e).1 ≠ 9))) && (!((nxR s e).2.1.contains 7) || (decide ((nxR s e).1 = 6) || decide ((nxR s e).1 = 8)))) else (nxR s e).2.1.isEmpty))
theorem facts_tab : (List.range 160).all (fun k => factB ((k % 10 : Nat) : Int) ((k / 10 : Nat) : Int)) = true := by decide +kernel
theorem nx_out {s e : Int} (h : ¬ (0 ≤ s ∧ s ≤ 9 ∧ 0 ≤ e ∧ e ≤ 15)) : nxR s e = (0, [], 1) := by rw [nxR, if_neg h]
theorem facts (s e : Int) : factB s e = true := by
  by_cases h : 0 ≤ s ∧ s ≤ 9 ∧ 0 ≤ e ∧ e ≤ 15
  · have := List.all_eq_true.1 facts_tab (e.toNat * 10 + s.toNat) (List.mem_range.2 (by omega))
    have e1 : (((e.toNat * 10 + s.toNat) % 10 : Nat) : Int) = s := by omega
    have e2 : (((e.toNat * 10 + s.toNat) / 10 : Nat) : Int) = e := by omega
    rw [e1, e2] at this
    exact this
  · simp [factB, nx_out h]
theorem nx_rng (s e : Int) : 0 ≤ (nxR s e).1 ∧ (nxR s e).1 ≤ 9 := by
  have := facts s e
  simp only [factB, Bool.and_eq_true, decide_eq_true_eq] at this
  exact this.1
theorem nx_len (s e : Int) : (nxR s e).2.1.length ≤ 4 := by
  have := facts s e
  simp only [factB, Bool.and_eq_true, decide_eq_true_eq] at this
  exact this.2.1
theorem nx_bad {s e : Int} (h : (nxR s e).2.2 ≠ 0) : (nxR s e).2.1 = [] := by
  have := facts s e
  simp only [factB, Bool.and_eq_true, if_neg h, List.isEmpty_iff] at this
  exact this.2.2
theorem nx_good {s e : Int} (h : (nxR s e).2.2 = 0) : (nxR s e).2.1.contains 1 = (decide ((nxR s e).1 = 9) && decide (s ≠ 9)) ∧ (nxR s e).2.1.contains 2 = (decide (s = 9) && decide ((nxR s e).1 ≠ 9)) ∧ ((nxR s e).2.1.contains 7 = true → (nxR s e).1 = 6 ∨ (nxR s e).1 = 8) := by
  have := facts s e
  simp only [factB, Bool.and_eq_true, if_pos h, beq_iff_eq, Bool.or_eq_true, Bool.not_eq_true', decide_eq_true_eq] at this
  refine ⟨this.2.2.1, this.2.2.2.1, fun h7 => ?_⟩
  rcases this.2.2.2.2 with h8 | h8
  · rw [h7] at h8; cases h8
  · exact h8
theorem f_ok (s : Int) : run G 116 [iv s] [] = some (.v (.bool (decide (0 ≤ s ∧ s ≤ 9))), []) := by
  rw [xq_fn G rfl fsm_State_ok.g _ _ rfl]
  by_cases h : 0 ≤ s
  · by_cases g : s ≤ 9
    · have e : decide (0 ≤ s ∧ s ≤ 9) = true := decide_eq_true ⟨h, g⟩
      simp -implicitDefEqProofs (maxSteps := 2000000) (disch := omega) only [fsm_State_ok.s, iv, e, go_sem, reduceIte, Nat.reduceAdd, Nat.reduceSub, Nat.reduceMul, Nat.reduceLeDiff, Nat.reduceLT, Nat.reduceEqDiff, Int.reduceToNat, Int.reduceLT, Int.reduceLE, Int.reduceEq, Int.reduceNe, Int.reduceAdd, Int.reduceSub, Int.reduceMul, Int.reduceNeg, Int.reduceBEq, Int.reduceBNe, reduceCtorEq, dreduceIte, oWS, oW8, oW16, oW32, oW64, oLtT, oLtF, oLeT, oLeF, oNLtT, oNLtF, oNLeT, oNLeF, oEqT, oEqF, oNEqT, oNEqF, oBeqT, oBeqF, oBneT, oBneF, Int.natCast_add, List.take_length]
    · have e : decide (0 ≤ s ∧ s ≤ 9) = false := decide_eq_false (by omega)
      simp -implicitDefEqProofs (maxSteps := 2000000) (disch := omega) only [fsm_State_ok.s, iv, e, go_sem, reduceIte, Nat.reduceAdd, Nat.reduceSub, Nat.reduceMul, Nat.reduceLeDiff, Nat.reduceLT, Nat.reduceEqDiff, Int.reduceToNat, Int.reduceLT, Int.reduceLE, Int.reduceEq, Int.reduceNe, Int.reduceAdd, Int.reduceSub, Int.reduceMul, Int.reduceNeg, Int.reduceBEq, Int.reduceBNe, reduceCtorEq, dreduceIte, oWS, oW8, oW16, oW32, oW64, oLtT, oLtF, oLeT, oLeF, oNLtT, oNLtF, oNLeT, oNLeF, oEqT, oEqF, oNEqT, oNEqF, oBeqT, oBeqF, oBneT, oBneF, Int.natCast_add, List.take_length]
  · have e : decide (0 ≤ s ∧ s ≤ 9) = false := decide_eq_false (by omega)
    simp -implicitDefEqProofs (maxSteps := 2000000) (disch := omega) only [fsm_State_ok.s, iv, e, go_sem, reduceIte, Nat.reduceAdd, Nat.reduceSub, Nat.reduceMul, Nat.reduceLeDiff, Nat.reduceLT, Nat.reduceEqDiff, Int.reduceToNat, Int.reduceLT, Int.reduceLE, Int.reduceEq, Int.reduceNe, Int.reduceAdd, Int.reduceSub, Int.reduceMul, Int.reduceNeg, Int.reduceBEq, Int.reduceBNe, reduceCtorEq, dreduceIte, oWS, oW8, oW16, oW32, oW64, oLtT, oLtF, oLeT, oLeF, oNLtT, oNLtF, oNLeT, oNLeF, oEqT, oEqF, oNEqT, oNEqF, oBeqT, oBeqF, oBneT, oBneF, Int.natCast_add, List.take_length]
theorem f_next (s e : Int) : run G 82 [iv s, iv e] [] = some (nxD s e, []) := by
  by_cases h : 0 ≤ s ∧ s ≤ 9 ∧ 0 ≤ e ∧ e ≤ 15
  · have k := nxT.at (e.toNat * 10 + s.toNat) (by omega)
    have e1 : (((e.toNat * 10 + s.toNat) % 10 : Nat) : Int) = s := by omega
    have e2 : (((e.toNat * 10 + s.toNat) / 10 : Nat) : Int) = e := by omega
    unfold nxT.p nxT.q at k
    rw [e1, e2] at k
    exact run_of k
  · rw [nxD, nx_out h]
    rw [xq_fn G rfl fsm_Next.g _ _ rfl]
    have o := f_ok s
    by_cases hs : 0 ≤ s ∧ s ≤ 9
    · rw [decide_eq_true hs] at o
      by_cases he : e < 0
      · simp -implicitDefEqProofs (maxSteps := 2000000) (disch := omega) only [fsm_Next.s, iv, o, i64s_nil, go_sem, reduceIte, Nat.reduceAdd, Nat.reduceSub, Nat.reduceMul, Nat.reduceLeDiff, Nat.reduceLT, Nat.reduceEqDiff, Int.reduceToNat, Int.reduceLT, Int.reduceLE, Int.reduceEq, Int.reduceNe, Int.reduceAdd, Int.reduceSub, Int.reduceMul, Int.reduceNeg, Int.reduceBEq, Int.reduceBNe, reduceCtorEq, dreduceIte, oWS, oW8, oW16, oW32, oW64, oLtT, oLtF, oLeT, oLeF, oNLtT, oNLtF, oNLeT, oNLeF, oEqT, oEqF, oNEqT, oNEqF, oBeqT, oBeqF, oBneT, oBneF, Int.natCast_add, List.take_length]
      · simp -implicitDefEqProofs (maxSteps := 2000000) (disch := omega) only [fsm_Next.s, iv, o, i64s_nil, go_sem, reduceIte, Nat.reduceAdd, Nat.reduceSub, Nat.reduceMul, Nat.reduceLeDiff, Nat.reduceLT, Nat.reduceEqDiff, Int.reduceToNat, Int.reduceLT, Int.reduceLE, Int.reduceEq, Int.reduceNe, Int.reduceAdd, Int.reduceSub, Int.reduceMul, Int.reduceNeg, Int.reduceBEq, Int.reduceBNe, reduceCtorEq, dreduceIte, oWS, oW8, oW16, oW32, oW64, oLtT, oLtF, oLeT, oLeF, oNLtT, oNLtF, oNLeT, oNLeF, oEqT, oEqF, oNEqT, oNEqF, oBeqT, oBeqF, oBneT, oBneF, Int.natCast_add, List.take_length]
    · rw [decide_eq_false hs] at o
      simp -implicitDefEqProofs (maxSteps := 2000000) (disch := omega) only [fsm_Next.s, iv, o, i64s_nil, go_sem, reduceIte, Nat.reduceAdd, Nat.reduceSub, Nat.reduceMul, Nat.reduceLeDiff, Nat.reduceLT, Nat.reduceEqDiff, Int.reduceToNat, Int.reduceLT, Int.reduceLE, Int.reduceEq, Int.reduceNe, Int.reduceAdd, Int.reduceSub, Int.reduceMul, Int.reduceNeg, Int.reduceBEq, Int.reduceBNe, reduceCtorEq, dreduceIte, oWS, oW8, oW16, oW32, oW64, oLtT, oLtF, oLeT, oLeF, oNLtT, oNLtF, oNLeT, oNLeF, oEqT, oEqF, oNEqT, oNEqF, oBeqT, oBeqF, oBneT, oBneF, Int.natCast_add, List.take_length]
theorem sw (n : Nat) : Le (runN G2 n) (run G) := by
  refine swap (fun f F h1 h2 => ?_) (fun f T h args st r e => ?_) n
  · simp only [G2] at h1 h2
    split at h1 <;> first | (cases h1; done) | skip
    exact ⟨h1, h2⟩
  · simp only [G2] at h
    split at h
    · rename_i hf
      cases h
      subst hf
      unfold T13 at e
      split at e <;> first | (cases e; done) | skip
      cases e
      exact f_next _ _
    · · have hp : G.prim f = some T := h
        refine run_of (n := 1) ?_
        simp only [runN, hp]
        exact e
theorem f_timed (s : Int) : run G 85 [iv s] [] = some (.v (.bool (decide ((nxR s 4).2.2 = 0))), []) := by
  rw [xq_fn G rfl fsm_Timed.g _ _ rfl]
  have n := f_next s 4
  unfold nxD at n
  generalize nxR s 4 = x at *
  by_cases h : x.2.2 = 0
  · rw [decide_eq_true h]
    simp -implicitDefEqProofs (maxSteps := 2000000) (disch := omega) only [fsm_Timed.s, iv, n, go_sem, reduceIte, Nat.reduceAdd, Nat.reduceSub, Nat.reduceMul, Nat.reduceLeDiff, Nat.reduceLT, Nat.reduceEqDiff, Int.reduceToNat, Int.reduceLT, Int.reduceLE, Int.reduceEq, Int.reduceNe, Int.reduceAdd, Int.reduceSub, Int.reduceMul, Int.reduceNeg, Int.reduceBEq, Int.reduceBNe, reduceCtorEq, dreduceIte, oWS, oW8, oW16, oW32, oW64, oLtT, oLtF, oLeT, oLeF, oNLtT, oNLtF, oNLeT, oNLeF, oEqT, oEqF, oNEqT, oNEqF, oBeqT, oBeqF, oBneT, oBneF, Int.natCast_add, List.take_length]
  · rw [decide_eq_false h]
    simp -implicitDefEqProofs (maxSteps := 2000000) (disch := omega) only [fsm_Timed.s, iv, n, go_sem, reduceIte, Nat.reduceAdd, Nat.reduceSub, Nat.reduceMul, Nat.reduceLeDiff, Nat.reduceLT, Nat.reduceEqDiff, Int.reduceToNat, Int.reduceLT, Int.reduceLE, Int.reduceEq, Int.reduceNe, Int.reduceAdd, Int.reduceSub, Int.reduceMul, Int.reduceNeg, Int.reduceBEq, Int.reduceBNe, reduceCtorEq, dreduceIte, oWS, oW8, oW16, oW32, oW64, oLtT, oLtF, oLeT, oLeF, oNLtT, oNLtF, oNLeT, oNLeF, oEqT, oEqF, oNEqT, oNEqF, oBeqT, oBeqF, oBneT, oBneF, Int.natCast_add, List.take_length]
end Go.Q
