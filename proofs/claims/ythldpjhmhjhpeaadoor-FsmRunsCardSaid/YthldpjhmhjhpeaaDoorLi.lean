/- The automaton: the document's; the law FsmNext. No condition. -/
import Derived.Test.YthldpjhmhjhpeaaDoorLg
set_option maxRecDepth 100000
set_option linter.unusedSimpArgs false
set_option linter.unusedVariables false
namespace Go.Q
open SOp SCode
attribute [local congr] bind_c map_c

theorem f_row (e : Int) (h : 0 ≤ e ∧ e ≤ 15) : ∃ x xs, run G 54 [iv e] [] = some (.lin 1 (x :: xs), []) := by
  have k := rwT.at e.toNat (by omega)
  have e1 : ((e.toNat : Nat) : Int) = e := by omega
  unfold rwT.p rwT.q at k
  rw [e1] at k
  have hne : (rowsR.getD e.toNat []) ≠ [] := by
    have : (List.range 16).all (fun k => !(rowsR.getD k []).isEmpty) = true := by decide +kernel
    have := List.all_eq_true.1 this e.toNat (List.mem_range.2 (by omega))
    intro hh
    rw [hh] at this
    cases this
  cases hr : rowsR.getD e.toNat [] with
  | nil => exact absurd hr hne
  | cons x xs =>
    rw [hr] at k
    exact ⟨_, _, run_of k⟩
theorem f_rowo (e : Int) (h : ¬ (0 ≤ e ∧ e ≤ 15)) : run G 54 [iv e] [] = some (.nils 1, []) := by
  rw [xq_fn G rfl euphroeref23_row.g _ _ rfl]
  simp -implicitDefEqProofs (disch := omega) only [euphroeref23_row.s, iv, go_sem, reduceIte, Nat.reduceAdd, Nat.reduceSub, Nat.reduceMul, Nat.reduceLeDiff, Nat.reduceLT, Nat.reduceEqDiff, Int.reduceToNat, Int.reduceLT, Int.reduceLE, Int.reduceEq, Int.reduceNe, Int.reduceAdd, Int.reduceSub, Int.reduceMul, Int.reduceNeg, Int.reduceBEq, Int.reduceBNe, reduceCtorEq, dreduceIte, ac_x, ac_t, setW_s, setW_0, ac_cp, ac_cpw, ac_lenw, ac_ret, ac_pop, ac_popw, cl_cp, oWS, oW8, oW16, oW32, oW64, oLtT, oLtF, oLeT, oLeF, oNLtT, oNLtF, oNLeT, oNLeF, oEqT, oEqF, oNEqT, oNEqF, oBeqT, oBeqF, oBneT, oBneF, Int.natCast_add, Int.cast_ofNat_Int, Int.toNat_natCast, List.take_length, rndE_eq, rnd_n, rnd_r, rnd_e]
theorem f_rnext (s e : Int) : run G 14 [iv s, iv e] [] = some (rxD s e, []) := by
  by_cases h : 0 ≤ s ∧ s ≤ 9 ∧ 0 ≤ e ∧ e ≤ 15
  · have k := rxT.at (e.toNat * 10 + s.toNat) (by omega)
    have e1 : (((e.toNat * 10 + s.toNat) % 10 : Nat) : Int) = s := by omega
    have e2 : (((e.toNat * 10 + s.toNat) / 10 : Nat) : Int) = e := by omega
    unfold rxT.p rxT.q at k
    rw [e1, e2] at k
    exact run_of k
  · rw [rxD, nx_out h]
    rw [xq_fn G rfl euphroeref23_Next.g _ _ rfl]
    by_cases he : 0 ≤ e ∧ e ≤ 15
    · obtain ⟨x, xs, o⟩ := f_row e he
      by_cases hs : s < 0
      · simp -implicitDefEqProofs (disch := omega) only [euphroeref23_Next.s, iv, o, i64s_nil, go_sem, reduceIte, Nat.reduceAdd, Nat.reduceSub, Nat.reduceMul, Nat.reduceLeDiff, Nat.reduceLT, Nat.reduceEqDiff, Int.reduceToNat, Int.reduceLT, Int.reduceLE, Int.reduceEq, Int.reduceNe, Int.reduceAdd, Int.reduceSub, Int.reduceMul, Int.reduceNeg, Int.reduceBEq, Int.reduceBNe, reduceCtorEq, dreduceIte, ac_x, ac_t, setW_s, setW_0, ac_cp, ac_cpw, ac_lenw, ac_ret, ac_pop, ac_popw, cl_cp, oWS, oW8, oW16, oW32, oW64, oLtT, oLtF, oLeT, oLeF, oNLtT, oNLtF, oNLeT, oNLeF, oEqT, oEqF, oNEqT, oNEqF, oBeqT, oBeqF, oBneT, oBneF, Int.natCast_add, Int.cast_ofNat_Int, Int.toNat_natCast, List.take_length, rndE_eq, rnd_n, rnd_r, rnd_e]
      · simp -implicitDefEqProofs (disch := omega) only [euphroeref23_Next.s, iv, o, i64s_nil, go_sem, reduceIte, Nat.reduceAdd, Nat.reduceSub, Nat.reduceMul, Nat.reduceLeDiff, Nat.reduceLT, Nat.reduceEqDiff, Int.reduceToNat, Int.reduceLT, Int.reduceLE, Int.reduceEq, Int.reduceNe, Int.reduceAdd, Int.reduceSub, Int.reduceMul, Int.reduceNeg, Int.reduceBEq, Int.reduceBNe, reduceCtorEq, dreduceIte, ac_x, ac_t, setW_s, setW_0, ac_cp, ac_cpw, ac_lenw, ac_ret, ac_pop, ac_popw, cl_cp, oWS, oW8, oW16, oW32, oW64, oLtT, oLtF, oLeT, oLeF, oNLtT, oNLtF, oNLeT, oNLeF, oEqT, oEqF, oNEqT, oNEqF, oBeqT, oBeqF, oBneT, oBneF, Int.natCast_add, Int.cast_ofNat_Int, Int.toNat_natCast, List.take_length, rndE_eq, rnd_n, rnd_r, rnd_e]
    · have o := f_rowo e he
      simp -implicitDefEqProofs (disch := omega) only [euphroeref23_Next.s, iv, o, i64s_nil, go_sem, reduceIte, Nat.reduceAdd, Nat.reduceSub, Nat.reduceMul, Nat.reduceLeDiff, Nat.reduceLT, Nat.reduceEqDiff, Int.reduceToNat, Int.reduceLT, Int.reduceLE, Int.reduceEq, Int.reduceNe, Int.reduceAdd, Int.reduceSub, Int.reduceMul, Int.reduceNeg, Int.reduceBEq, Int.reduceBNe, reduceCtorEq, dreduceIte, ac_x, ac_t, setW_s, setW_0, ac_cp, ac_cpw, ac_lenw, ac_ret, ac_pop, ac_popw, cl_cp, oWS, oW8, oW16, oW32, oW64, oLtT, oLtF, oLeT, oLeF, oNLtT, oNLtF, oNLeT, oNLeF, oEqT, oEqF, oNEqT, oNEqF, oBeqT, oBeqF, oBneT, oBneF, Int.natCast_add, Int.cast_ofNat_Int, Int.toNat_natCast, List.take_length, rndE_eq, rnd_n, rnd_r, rnd_e]
theorem f_rname (s : Int) : run G 17 [iv s] [] = some (.v (.str (nmR s)), []) := by
  by_cases h : 0 ≤ s ∧ s ≤ 9
  · have k := nrT.at s.toNat (by omega)
    have e1 : ((s.toNat : Nat) : Int) = s := by omega
    unfold nrT.p nrT.q at k
    rw [e1] at k
    exact run_of k
  · rw [nmR, if_neg h]
    rw [xq_fn G rfl euphroeref23_Name.g _ _ rfl]
    by_cases hs : s < 0
    · simp -implicitDefEqProofs (disch := omega) only [euphroeref23_Name.s, iv, go_sem, reduceIte, Nat.reduceAdd, Nat.reduceSub, Nat.reduceMul, Nat.reduceLeDiff, Nat.reduceLT, Nat.reduceEqDiff, Int.reduceToNat, Int.reduceLT, Int.reduceLE, Int.reduceEq, Int.reduceNe, Int.reduceAdd, Int.reduceSub, Int.reduceMul, Int.reduceNeg, Int.reduceBEq, Int.reduceBNe, reduceCtorEq, dreduceIte, ac_x, ac_t, setW_s, setW_0, ac_cp, ac_cpw, ac_lenw, ac_ret, ac_pop, ac_popw, cl_cp, oWS, oW8, oW16, oW32, oW64, oLtT, oLtF, oLeT, oLeF, oNLtT, oNLtF, oNLeT, oNLeF, oEqT, oEqF, oNEqT, oNEqF, oBeqT, oBeqF, oBneT, oBneF, Int.natCast_add, Int.cast_ofNat_Int, Int.toNat_natCast, List.take_length, rndE_eq, rnd_n, rnd_r, rnd_e]
    · simp -implicitDefEqProofs (disch := omega) only [euphroeref23_Name.s, iv, go_sem, reduceIte, Nat.reduceAdd, Nat.reduceSub, Nat.reduceMul, Nat.reduceLeDiff, Nat.reduceLT, Nat.reduceEqDiff, Int.reduceToNat, Int.reduceLT, Int.reduceLE, Int.reduceEq, Int.reduceNe, Int.reduceAdd, Int.reduceSub, Int.reduceMul, Int.reduceNeg, Int.reduceBEq, Int.reduceBNe, reduceCtorEq, dreduceIte, ac_x, ac_t, setW_s, setW_0, ac_cp, ac_cpw, ac_lenw, ac_ret, ac_pop, ac_popw, cl_cp, oWS, oW8, oW16, oW32, oW64, oLtT, oLtF, oLeT, oLeF, oNLtT, oNLtF, oNLeT, oNLeF, oEqT, oEqF, oNEqT, oNEqF, oBeqT, oBeqF, oBneT, oBneF, Int.natCast_add, Int.cast_ofNat_Int, Int.toNat_natCast, List.take_length, rndE_eq, rnd_n, rnd_r, rnd_e]
theorem fsmNext (s e : Int) : run G 3 [iv s, iv e] [] = some (.v (.bool true), []) := by
  rw [xq_fn G rfl euphroelaw23_FsmNext.g _ _ rfl]
  have n := f_next s e
  have r := f_rnext s e
  have r4 := f_rnext s 4
  have t := f_timed s
  have a := f_name s
  have b := f_rname s
  have hl := nx_len s e
  have sm := f_same (nxR s e).2.1 (by have : M = 100000 := rfl; omega)
  have nb := @nx_bad s e
  have al := f_alive
  unfold nxD at n
  unfold rxD at r r4
  generalize nxR s e = x at *
  generalize nxR s 4 = y at *
  generalize nmR s = nm at *
  by_cases h : x.2.2 = 0
  · rw [if_pos h] at r
    by_cases g : y.2.2 = 0
    · rw [if_pos g] at r4
      rw [decide_eq_true g] at t
      simp -implicitDefEqProofs (disch := omega) only [euphroelaw23_FsmNext.s, iv, n, r, r4, t, a, b, sm, al, beq_self_eq_true, go_sem, reduceIte, Nat.reduceAdd, Nat.reduceSub, Nat.reduceMul, Nat.reduceLeDiff, Nat.reduceLT, Nat.reduceEqDiff, Int.reduceToNat, Int.reduceLT, Int.reduceLE, Int.reduceEq, Int.reduceNe, Int.reduceAdd, Int.reduceSub, Int.reduceMul, Int.reduceNeg, Int.reduceBEq, Int.reduceBNe, reduceCtorEq, dreduceIte, ac_x, ac_t, setW_s, setW_0, ac_cp, ac_cpw, ac_lenw, ac_ret, ac_pop, ac_popw, cl_cp, oWS, oW8, oW16, oW32, oW64, oLtT, oLtF, oLeT, oLeF, oNLtT, oNLtF, oNLeT, oNLeF, oEqT, oEqF, oNEqT, oNEqF, oBeqT, oBeqF, oBneT, oBneF, Int.natCast_add, Int.cast_ofNat_Int, Int.toNat_natCast, List.take_length, rndE_eq, rnd_n, rnd_r, rnd_e]
    · rw [if_neg g] at r4
      rw [decide_eq_false g] at t
      simp -implicitDefEqProofs (disch := omega) only [euphroelaw23_FsmNext.s, iv, n, r, r4, t, a, b, sm, al, beq_self_eq_true, go_sem, reduceIte, Nat.reduceAdd, Nat.reduceSub, Nat.reduceMul, Nat.reduceLeDiff, Nat.reduceLT, Nat.reduceEqDiff, Int.reduceToNat, Int.reduceLT, Int.reduceLE, Int.reduceEq, Int.reduceNe, Int.reduceAdd, Int.reduceSub, Int.reduceMul, Int.reduceNeg, Int.reduceBEq, Int.reduceBNe, reduceCtorEq, dreduceIte, ac_x, ac_t, setW_s, setW_0, ac_cp, ac_cpw, ac_lenw, ac_ret, ac_pop, ac_popw, cl_cp, oWS, oW8, oW16, oW32, oW64, oLtT, oLtF, oLeT, oLeF, oNLtT, oNLtF, oNLeT, oNLeF, oEqT, oEqF, oNEqT, oNEqF, oBeqT, oBeqF, oBneT, oBneF, Int.natCast_add, Int.cast_ofNat_Int, Int.toNat_natCast, List.take_length, rndE_eq, rnd_n, rnd_r, rnd_e]
  · rw [if_neg h] at r
    have h0 := nb h
    rw [h0] at sm n
    simp only [i64s_nil, z0, Int.cast_ofNat_Int, List.take_zero, List.map_nil, List.drop_zero, accN, b8_nil, Int.sub_zero, Int.add_zero, Int.zero_add, Nat.zero_add, Nat.sub_zero, List.nil_append, List.append_nil] at sm
    simp only [i64s_nil, z0, Int.cast_ofNat_Int, List.take_zero, List.map_nil, List.drop_zero, accN, b8_nil, Int.sub_zero, Int.add_zero, Int.zero_add, Nat.zero_add, Nat.sub_zero, List.nil_append, List.append_nil] at n
    by_cases g : y.2.2 = 0
    · rw [if_pos g] at r4
      rw [decide_eq_true g] at t
      simp -implicitDefEqProofs (disch := omega) only [euphroelaw23_FsmNext.s, iv, n, r, r4, t, a, b, sm, al, beq_self_eq_true, go_sem, reduceIte, Nat.reduceAdd, Nat.reduceSub, Nat.reduceMul, Nat.reduceLeDiff, Nat.reduceLT, Nat.reduceEqDiff, Int.reduceToNat, Int.reduceLT, Int.reduceLE, Int.reduceEq, Int.reduceNe, Int.reduceAdd, Int.reduceSub, Int.reduceMul, Int.reduceNeg, Int.reduceBEq, Int.reduceBNe, reduceCtorEq, dreduceIte, ac_x, ac_t, setW_s, setW_0, ac_cp, ac_cpw, ac_lenw, ac_ret, ac_pop, ac_popw, cl_cp, oWS, oW8, oW16, oW32, oW64, oLtT, oLtF, oLeT, oLeF, oNLtT, oNLtF, oNLeT, oNLeF, oEqT, oEqF, oNEqT, oNEqF, oBeqT, oBeqF, oBneT, oBneF, Int.natCast_add, Int.cast_ofNat_Int, Int.toNat_natCast, List.take_length, rndE_eq, rnd_n, rnd_r, rnd_e]
    · rw [if_neg g] at r4
      rw [decide_eq_false g] at t
      simp -implicitDefEqProofs (disch := omega) only [euphroelaw23_FsmNext.s, iv, n, r, r4, t, a, b, sm, al, beq_self_eq_true, go_sem, reduceIte, Nat.reduceAdd, Nat.reduceSub, Nat.reduceMul, Nat.reduceLeDiff, Nat.reduceLT, Nat.reduceEqDiff, Int.reduceToNat, Int.reduceLT, Int.reduceLE, Int.reduceEq, Int.reduceNe, Int.reduceAdd, Int.reduceSub, Int.reduceMul, Int.reduceNeg, Int.reduceBEq, Int.reduceBNe, reduceCtorEq, dreduceIte, ac_x, ac_t, setW_s, setW_0, ac_cp, ac_cpw, ac_lenw, ac_ret, ac_pop, ac_popw, cl_cp, oWS, oW8, oW16, oW32, oW64, oLtT, oLtF, oLeT, oLeF, oNLtT, oNLtF, oNLeT, oNLeF, oEqT, oEqF, oNEqT, oNEqF, oBeqT, oBeqF, oBneT, oBneF, Int.natCast_add, Int.cast_ofNat_Int, Int.toNat_natCast, List.take_length, rndE_eq, rnd_n, rnd_r, rnd_e]
end Go.Q
