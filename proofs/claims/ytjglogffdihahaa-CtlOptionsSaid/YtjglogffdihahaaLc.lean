/- Control packets: what ctl and its reference compute. No condition. -/
import Derived.Test.YtjglogffdihahaaLt
set_option maxRecDepth 100000
set_option linter.unusedSimpArgs false
set_option linter.unusedVariables false
namespace Go.Q
open SOp SCode
attribute [local congr] bind_c map_c

abbrev Ctl := Int × Int × List Int
abbrev cv (c : Ctl) : V := .agg [.int .u8 c.1, .int .u8 c.2.1, .slc 1 (b8 c.2.2)]
abbrev okC (c : Ctl) : Prop := (0 ≤ c.1 ∧ c.1 ≤ 255) ∧ (0 ≤ c.2.1 ∧ c.2.1 ≤ 255) ∧ okB c.2.2
theorem c_alive : run G 34 [] [] = some (.v (.bool true), []) := run_of (n := 30) (by kernel_rfl)
theorem c_theirs (c : Ctl) : run G 36 [.v (cv c)] [] = some (.v (cv c), []) := by
  rw [xq_fn G rfl euphroelaw22_theirs.g _ _ rfl]
  simp -implicitDefEqProofs (disch := omega) only [euphroelaw22_theirs.s, go_sem, reduceIte, Nat.reduceAdd, Nat.reduceSub, Nat.reduceMul, Nat.reduceLeDiff, Nat.reduceLT, Nat.reduceEqDiff, Int.reduceToNat, Int.reduceLT, Int.reduceLE, Int.reduceEq, Int.reduceNe, Int.reduceAdd, Int.reduceSub, Int.reduceMul, Int.reduceNeg, Int.reduceBEq, Int.reduceBNe, reduceCtorEq, dreduceIte, ac_x, ac_t, setW_s, setW_0, ac_cp, ac_cpw, ac_lenw, ac_ret, ac_pop, ac_popw, cl_cp, oWS, oW8, oW16, oW32, oW64, oLtT, oLtF, oLeT, oLeF, oNLtT, oNLtF, oNLeT, oNLeF, oEqT, oEqF, oNEqT, oNEqF, oBeqT, oBeqF, oBneT, oBneF, Int.natCast_add, Int.cast_ofNat_Int, Int.toNat_natCast, List.take_length, rndE_eq, rnd_n, rnd_r, rnd_e]
/-! ### Lay -/
def layC (c : Ctl) : List Int × Int := if 4000 < c.2.2.length then ([], 8) else ([c.1, c.2.1] ++ (big 2 (4 + (c.2.2.length : Int)) ++ c.2.2), 0)
theorem c_lay (c : Ctl) (h : c.2.2.length ≤ 10000) : run G 35 [.v (cv c)] [] = some (.tup [.lin 1 (b8 (layC c).1), .v (.int .i64 (layC c).2)], []) := by
  rw [xq_fn G rfl ctl_Lay.g _ _ rfl]
  unfold layC
  by_cases h1 : 4000 < c.2.2.length
  · rw [if_pos h1]
    simp -implicitDefEqProofs (disch := omega) only [ctl_Lay.s, b8_len, b8_nil, go_sem, reduceIte, Nat.reduceAdd, Nat.reduceSub, Nat.reduceMul, Nat.reduceLeDiff, Nat.reduceLT, Nat.reduceEqDiff, Int.reduceToNat, Int.reduceLT, Int.reduceLE, Int.reduceEq, Int.reduceNe, Int.reduceAdd, Int.reduceSub, Int.reduceMul, Int.reduceNeg, Int.reduceBEq, Int.reduceBNe, reduceCtorEq, dreduceIte, ac_x, ac_t, setW_s, setW_0, ac_cp, ac_cpw, ac_lenw, ac_ret, ac_pop, ac_popw, cl_cp, oWS, oW8, oW16, oW32, oW64, oLtT, oLtF, oLeT, oLeF, oNLtT, oNLtF, oNLeT, oNLeF, oEqT, oEqF, oNEqT, oNEqF, oBeqT, oBeqF, oBneT, oBneF, Int.natCast_add, Int.cast_ofNat_Int, Int.toNat_natCast, List.take_length, rndE_eq, rnd_n, rnd_r, rnd_e]
  · rw [if_neg h1]
    have P := put85 (4 + (c.2.2.length : Int)) (by omega) (by omega) 2 (by omega) (by omega)
    have J := join86 [[c.1, c.2.1], big 2 (4 + (c.2.2.length : Int)), c.2.2] (by simp) (by simp [big_len]; omega)
    simp only [pe, List.map_cons, b8_cons, List.flatten_cons, List.flatten_nil, z0, Int.cast_ofNat_Int, List.take_zero, List.map_nil, List.drop_zero, accN, b8_nil, Int.sub_zero, Int.add_zero, Int.zero_add, Nat.zero_add, Nat.sub_zero, List.nil_append, List.append_nil] at J
    simp only [z0, Int.cast_ofNat_Int, List.take_zero, List.map_nil, List.drop_zero, accN, b8_nil, Int.sub_zero, Int.add_zero, Int.zero_add, Nat.zero_add, Nat.sub_zero, List.nil_append, List.append_nil] at P
    simp -implicitDefEqProofs (disch := omega) only [ctl_Lay.s, b8_len, b8_nil, P, J, go_sem, reduceIte, Nat.reduceAdd, Nat.reduceSub, Nat.reduceMul, Nat.reduceLeDiff, Nat.reduceLT, Nat.reduceEqDiff, Int.reduceToNat, Int.reduceLT, Int.reduceLE, Int.reduceEq, Int.reduceNe, Int.reduceAdd, Int.reduceSub, Int.reduceMul, Int.reduceNeg, Int.reduceBEq, Int.reduceBNe, reduceCtorEq, dreduceIte, ac_x, ac_t, setW_s, setW_0, ac_cp, ac_cpw, ac_lenw, ac_ret, ac_pop, ac_popw, cl_cp, oWS, oW8, oW16, oW32, oW64, oLtT, oLtF, oLeT, oLeF, oNLtT, oNLtF, oNLeT, oNLeF, oEqT, oEqF, oNEqT, oNEqF, oBeqT, oBeqF, oBneT, oBneF, Int.natCast_add, Int.cast_ofNat_Int, Int.toNat_natCast, List.take_length, rndE_eq, rnd_n, rnd_r, rnd_e]
theorem c_rlay (c : Ctl) (h : c.2.2.length ≤ 10000) : run G 37 [.v (cv c)] [] = some (.tup [.lin 1 (b8 (layC c).1), .v (.int .i64 (layC c).2)], []) := by
  rw [xq_fn G rfl euphroeref22_Lay.g _ _ rfl]
  unfold layC
  have hM := hmax
  by_cases h1 : 4000 < c.2.2.length
  · rw [if_pos h1]
    simp -implicitDefEqProofs (disch := omega) only [euphroeref22_Lay.s, b8_len, b8_nil, go_sem, reduceIte, Nat.reduceAdd, Nat.reduceSub, Nat.reduceMul, Nat.reduceLeDiff, Nat.reduceLT, Nat.reduceEqDiff, Int.reduceToNat, Int.reduceLT, Int.reduceLE, Int.reduceEq, Int.reduceNe, Int.reduceAdd, Int.reduceSub, Int.reduceMul, Int.reduceNeg, Int.reduceBEq, Int.reduceBNe, reduceCtorEq, dreduceIte, ac_x, ac_t, setW_s, setW_0, ac_cp, ac_cpw, ac_lenw, ac_ret, ac_pop, ac_popw, cl_cp, oWS, oW8, oW16, oW32, oW64, oLtT, oLtF, oLeT, oLeF, oNLtT, oNLtF, oNLeT, oNLeF, oEqT, oEqF, oNEqT, oNEqF, oBeqT, oBeqF, oBneT, oBneF, Int.natCast_add, Int.cast_ofNat_Int, Int.toNat_natCast, List.take_length, rndE_eq, rnd_n, rnd_r, rnd_e]
  · rw [if_neg h1]
    have P := big87 (4 + (c.2.2.length : Int)) (by omega) (by omega) 2 (by omega)
    simp only [z0, Int.cast_ofNat_Int, List.take_zero, List.map_nil, List.drop_zero, accN, b8_nil, Int.sub_zero, Int.add_zero, Int.zero_add, Nat.zero_add, Nat.sub_zero, List.nil_append, List.append_nil] at P
    simp -implicitDefEqProofs (disch := omega) only [euphroeref22_Lay.s, b8_len, b8_nil, P, big_len, b8_cons, b8_app, go_sem, reduceIte, Nat.reduceAdd, Nat.reduceSub, Nat.reduceMul, Nat.reduceLeDiff, Nat.reduceLT, Nat.reduceEqDiff, Int.reduceToNat, Int.reduceLT, Int.reduceLE, Int.reduceEq, Int.reduceNe, Int.reduceAdd, Int.reduceSub, Int.reduceMul, Int.reduceNeg, Int.reduceBEq, Int.reduceBNe, reduceCtorEq, dreduceIte, ac_x, ac_t, setW_s, setW_0, ac_cp, ac_cpw, ac_lenw, ac_ret, ac_pop, ac_popw, cl_cp, oWS, oW8, oW16, oW32, oW64, oLtT, oLtF, oLeT, oLeF, oNLtT, oNLtF, oNLeT, oNLeF, oEqT, oEqF, oNEqT, oNEqF, oBeqT, oBeqF, oBneT, oBneF, Int.natCast_add, Int.cast_ofNat_Int, Int.toNat_natCast, List.take_length, rndE_eq, rnd_n, rnd_r, rnd_e]
/-! ### Parse -/
def noC : Ctl := (0, 0, [])
def parC (b : List Int) : Ctl × Int := if b.length < 4 then (noC, 4) else if num ((b.take 4).drop 2) < 4 then (noC, 3) else if (b.length : Int) < num ((b.take 4).drop 2) then (noC, 4)
  else if 4004 < num ((b.take 4).drop 2) then (noC, 8) else ((b.getD 0 0, b.getD 1 0, (b.take (num ((b.take 4).drop 2)).toNat).drop 4), 0)
theorem getD_at (b : List Int) (i : Nat) (h : i < b.length) : b[i]? = some (b.getD i 0) := by rw [List.getD_eq_getElem?_getD, List.getElem?_eq_getElem h]; rfl
theorem c_parse (b : List Int) (hb : okB b) (h : b.length ≤ 20000) : run G 38 [.v (.slc 1 (b8 b))] [] = some (.tup [.v (cv (parC b).1), .v (.int .i64 (parC b).2)], []) := by
  rw [xq_fn G rfl ctl_Parse.g _ _ rfl]
  unfold parC
  have hb2 : okB ((b.take 4).drop 2) := okB_drop (okB_take hb 4) 2
  by_cases h1 : b.length < 4
  · rw [if_pos h1]
    simp -implicitDefEqProofs (disch := omega) only [ctl_Parse.s, b8_len, cv, noC, b8_nil, go_sem, reduceIte, Nat.reduceAdd, Nat.reduceSub, Nat.reduceMul, Nat.reduceLeDiff, Nat.reduceLT, Nat.reduceEqDiff, Int.reduceToNat, Int.reduceLT, Int.reduceLE, Int.reduceEq, Int.reduceNe, Int.reduceAdd, Int.reduceSub, Int.reduceMul, Int.reduceNeg, Int.reduceBEq, Int.reduceBNe, reduceCtorEq, dreduceIte, ac_x, ac_t, setW_s, setW_0, ac_cp, ac_cpw, ac_lenw, ac_ret, ac_pop, ac_popw, cl_cp, oWS, oW8, oW16, oW32, oW64, oLtT, oLtF, oLeT, oLeF, oNLtT, oNLtF, oNLeT, oNLeF, oEqT, oEqF, oNEqT, oNEqF, oBeqT, oBeqF, oBneT, oBneF, Int.natCast_add, Int.cast_ofNat_Int, Int.toNat_natCast, List.take_length, rndE_eq, rnd_n, rnd_r, rnd_e]
  have hl : ((b.take 4).drop 2).length = 2 := by simp; omega
  have g := get88 _ hb2 (by omega) (by omega)
  have gr := num_rng _ hb2
  rw [hl] at gr
  have h256 : (256 : Int) ^ 2 = 65536 := rfl
  rw [if_neg h1]
  generalize num ((b.take 4).drop 2) = n at *
  by_cases h2 : n < 4
  · rw [if_pos h2]
    simp -implicitDefEqProofs (disch := omega) only [ctl_Parse.s, b8_len, cv, noC, b8_nil, b8_take, b8_drop, g, go_sem, reduceIte, Nat.reduceAdd, Nat.reduceSub, Nat.reduceMul, Nat.reduceLeDiff, Nat.reduceLT, Nat.reduceEqDiff, Int.reduceToNat, Int.reduceLT, Int.reduceLE, Int.reduceEq, Int.reduceNe, Int.reduceAdd, Int.reduceSub, Int.reduceMul, Int.reduceNeg, Int.reduceBEq, Int.reduceBNe, reduceCtorEq, dreduceIte, ac_x, ac_t, setW_s, setW_0, ac_cp, ac_cpw, ac_lenw, ac_ret, ac_pop, ac_popw, cl_cp, oWS, oW8, oW16, oW32, oW64, oLtT, oLtF, oLeT, oLeF, oNLtT, oNLtF, oNLeT, oNLeF, oEqT, oEqF, oNEqT, oNEqF, oBeqT, oBeqF, oBneT, oBneF, Int.natCast_add, Int.cast_ofNat_Int, Int.toNat_natCast, List.take_length, rndE_eq, rnd_n, rnd_r, rnd_e]
  rw [if_neg h2]
  by_cases h3 : (b.length : Int) < n
  · rw [if_pos h3]
    simp -implicitDefEqProofs (disch := omega) only [ctl_Parse.s, b8_len, cv, noC, b8_nil, b8_take, b8_drop, g, go_sem, reduceIte, Nat.reduceAdd, Nat.reduceSub, Nat.reduceMul, Nat.reduceLeDiff, Nat.reduceLT, Nat.reduceEqDiff, Int.reduceToNat, Int.reduceLT, Int.reduceLE, Int.reduceEq, Int.reduceNe, Int.reduceAdd, Int.reduceSub, Int.reduceMul, Int.reduceNeg, Int.reduceBEq, Int.reduceBNe, reduceCtorEq, dreduceIte, ac_x, ac_t, setW_s, setW_0, ac_cp, ac_cpw, ac_lenw, ac_ret, ac_pop, ac_popw, cl_cp, oWS, oW8, oW16, oW32, oW64, oLtT, oLtF, oLeT, oLeF, oNLtT, oNLtF, oNLeT, oNLeF, oEqT, oEqF, oNEqT, oNEqF, oBeqT, oBeqF, oBneT, oBneF, Int.natCast_add, Int.cast_ofNat_Int, Int.toNat_natCast, List.take_length, rndE_eq, rnd_n, rnd_r, rnd_e]
  rw [if_neg h3]
  by_cases h4 : 4004 < n
  · rw [if_pos h4]
    simp -implicitDefEqProofs (disch := omega) only [ctl_Parse.s, b8_len, cv, noC, b8_nil, b8_take, b8_drop, g, go_sem, reduceIte, Nat.reduceAdd, Nat.reduceSub, Nat.reduceMul, Nat.reduceLeDiff, Nat.reduceLT, Nat.reduceEqDiff, Int.reduceToNat, Int.reduceLT, Int.reduceLE, Int.reduceEq, Int.reduceNe, Int.reduceAdd, Int.reduceSub, Int.reduceMul, Int.reduceNeg, Int.reduceBEq, Int.reduceBNe, reduceCtorEq, dreduceIte, ac_x, ac_t, setW_s, setW_0, ac_cp, ac_cpw, ac_lenw, ac_ret, ac_pop, ac_popw, cl_cp, oWS, oW8, oW16, oW32, oW64, oLtT, oLtF, oLeT, oLeF, oNLtT, oNLtF, oNLeT, oNLeF, oEqT, oEqF, oNEqT, oNEqF, oBeqT, oBeqF, oBneT, oBneF, Int.natCast_add, Int.cast_ofNat_Int, Int.toNat_natCast, List.take_length, rndE_eq, rnd_n, rnd_r, rnd_e]
  rw [if_neg h4]
  have x0 := b8_at (getD_at b 0 (by omega))
  have x1 := b8_at (getD_at b 1 (by omega))
  have c := clone89 ((b.take n.toNat).drop 4) (by have : M = 100000 := rfl; simp; omega)
  simp -implicitDefEqProofs (disch := omega) only [ctl_Parse.s, b8_len, cv, noC, b8_nil, b8_take, b8_drop, g, x0, x1, c, go_sem, reduceIte, Nat.reduceAdd, Nat.reduceSub, Nat.reduceMul, Nat.reduceLeDiff, Nat.reduceLT, Nat.reduceEqDiff, Int.reduceToNat, Int.reduceLT, Int.reduceLE, Int.reduceEq, Int.reduceNe, Int.reduceAdd, Int.reduceSub, Int.reduceMul, Int.reduceNeg, Int.reduceBEq, Int.reduceBNe, reduceCtorEq, dreduceIte, ac_x, ac_t, setW_s, setW_0, ac_cp, ac_cpw, ac_lenw, ac_ret, ac_pop, ac_popw, cl_cp, oWS, oW8, oW16, oW32, oW64, oLtT, oLtF, oLeT, oLeF, oNLtT, oNLtF, oNLeT, oNLeF, oEqT, oEqF, oNEqT, oNEqF, oBeqT, oBeqF, oBneT, oBneF, Int.natCast_add, Int.cast_ofNat_Int, Int.toNat_natCast, List.take_length, rndE_eq, rnd_n, rnd_r, rnd_e]
theorem c_rparse (b : List Int) (hb : okB b) (h : b.length ≤ 20000) : run G 39 [.v (.slc 1 (b8 b))] [] = some (.tup [.v (cv (parC b).1), .v (.int .i64 (parC b).2)], []) := by
  rw [xq_fn G rfl euphroeref22_Parse.g _ _ rfl]
  unfold parC
  have hb2 : okB ((b.take 4).drop 2) := okB_drop (okB_take hb 4) 2
  by_cases h1 : b.length < 4
  · rw [if_pos h1]
    simp -implicitDefEqProofs (disch := omega) only [euphroeref22_Parse.s, b8_len, cv, noC, b8_nil, go_sem, reduceIte, Nat.reduceAdd, Nat.reduceSub, Nat.reduceMul, Nat.reduceLeDiff, Nat.reduceLT, Nat.reduceEqDiff, Int.reduceToNat, Int.reduceLT, Int.reduceLE, Int.reduceEq, Int.reduceNe, Int.reduceAdd, Int.reduceSub, Int.reduceMul, Int.reduceNeg, Int.reduceBEq, Int.reduceBNe, reduceCtorEq, dreduceIte, ac_x, ac_t, setW_s, setW_0, ac_cp, ac_cpw, ac_lenw, ac_ret, ac_pop, ac_popw, cl_cp, oWS, oW8, oW16, oW32, oW64, oLtT, oLtF, oLeT, oLeF, oNLtT, oNLtF, oNLeT, oNLeF, oEqT, oEqF, oNEqT, oNEqF, oBeqT, oBeqF, oBneT, oBneF, Int.natCast_add, Int.cast_ofNat_Int, Int.toNat_natCast, List.take_length, rndE_eq, rnd_n, rnd_r, rnd_e]
  have hl : ((b.take 4).drop 2).length = 2 := by simp; omega
  have g := num90 _ hb2 (by omega)
  have gr := num_rng _ hb2
  rw [hl] at gr
  have h256 : (256 : Int) ^ 2 = 65536 := rfl
  rw [if_neg h1]
  generalize num ((b.take 4).drop 2) = n at *
  by_cases h2 : n < 4
  · rw [if_pos h2]
    simp -implicitDefEqProofs (disch := omega) only [euphroeref22_Parse.s, b8_len, cv, noC, b8_nil, b8_take, b8_drop, g, go_sem, reduceIte, Nat.reduceAdd, Nat.reduceSub, Nat.reduceMul, Nat.reduceLeDiff, Nat.reduceLT, Nat.reduceEqDiff, Int.reduceToNat, Int.reduceLT, Int.reduceLE, Int.reduceEq, Int.reduceNe, Int.reduceAdd, Int.reduceSub, Int.reduceMul, Int.reduceNeg, Int.reduceBEq, Int.reduceBNe, reduceCtorEq, dreduceIte, ac_x, ac_t, setW_s, setW_0, ac_cp, ac_cpw, ac_lenw, ac_ret, ac_pop, ac_popw, cl_cp, oWS, oW8, oW16, oW32, oW64, oLtT, oLtF, oLeT, oLeF, oNLtT, oNLtF, oNLeT, oNLeF, oEqT, oEqF, oNEqT, oNEqF, oBeqT, oBeqF, oBneT, oBneF, Int.natCast_add, Int.cast_ofNat_Int, Int.toNat_natCast, List.take_length, rndE_eq, rnd_n, rnd_r, rnd_e]
  rw [if_neg h2]
  by_cases h3 : (b.length : Int) < n
  · rw [if_pos h3]
    simp -implicitDefEqProofs (disch := omega) only [euphroeref22_Parse.s, b8_len, cv, noC, b8_nil, b8_take, b8_drop, g, go_sem, reduceIte, Nat.reduceAdd, Nat.reduceSub, Nat.reduceMul, Nat.reduceLeDiff, Nat.reduceLT, Nat.reduceEqDiff, Int.reduceToNat, Int.reduceLT, Int.reduceLE, Int.reduceEq, Int.reduceNe, Int.reduceAdd, Int.reduceSub, Int.reduceMul, Int.reduceNeg, Int.reduceBEq, Int.reduceBNe, reduceCtorEq, dreduceIte, ac_x, ac_t, setW_s, setW_0, ac_cp, ac_cpw, ac_lenw, ac_ret, ac_pop, ac_popw, cl_cp, oWS, oW8, oW16, oW32, oW64, oLtT, oLtF, oLeT, oLeF, oNLtT, oNLtF, oNLeT, oNLeF, oEqT, oEqF, oNEqT, oNEqF, oBeqT, oBeqF, oBneT, oBneF, Int.natCast_add, Int.cast_ofNat_Int, Int.toNat_natCast, List.take_length, rndE_eq, rnd_n, rnd_r, rnd_e]
  rw [if_neg h3]
  by_cases h4 : 4004 < n
  · rw [if_pos h4]
    simp -implicitDefEqProofs (disch := omega) only [euphroeref22_Parse.s, b8_len, cv, noC, b8_nil, b8_take, b8_drop, g, go_sem, reduceIte, Nat.reduceAdd, Nat.reduceSub, Nat.reduceMul, Nat.reduceLeDiff, Nat.reduceLT, Nat.reduceEqDiff, Int.reduceToNat, Int.reduceLT, Int.reduceLE, Int.reduceEq, Int.reduceNe, Int.reduceAdd, Int.reduceSub, Int.reduceMul, Int.reduceNeg, Int.reduceBEq, Int.reduceBNe, reduceCtorEq, dreduceIte, ac_x, ac_t, setW_s, setW_0, ac_cp, ac_cpw, ac_lenw, ac_ret, ac_pop, ac_popw, cl_cp, oWS, oW8, oW16, oW32, oW64, oLtT, oLtF, oLeT, oLeF, oNLtT, oNLtF, oNLeT, oNLeF, oEqT, oEqF, oNEqT, oNEqF, oBeqT, oBeqF, oBneT, oBneF, Int.natCast_add, Int.cast_ofNat_Int, Int.toNat_natCast, List.take_length, rndE_eq, rnd_n, rnd_r, rnd_e]
  rw [if_neg h4]
  have x0 := b8_at (getD_at b 0 (by omega))
  have x1 := b8_at (getD_at b 1 (by omega))
  simp -implicitDefEqProofs (disch := omega) only [euphroeref22_Parse.s, b8_len, cv, noC, b8_nil, b8_take, b8_drop, g, x0, x1, go_sem, reduceIte, Nat.reduceAdd, Nat.reduceSub, Nat.reduceMul, Nat.reduceLeDiff, Nat.reduceLT, Nat.reduceEqDiff, Int.reduceToNat, Int.reduceLT, Int.reduceLE, Int.reduceEq, Int.reduceNe, Int.reduceAdd, Int.reduceSub, Int.reduceMul, Int.reduceNeg, Int.reduceBEq, Int.reduceBNe, reduceCtorEq, dreduceIte, ac_x, ac_t, setW_s, setW_0, ac_cp, ac_cpw, ac_lenw, ac_ret, ac_pop, ac_popw, cl_cp, oWS, oW8, oW16, oW32, oW64, oLtT, oLtF, oLeT, oLeF, oNLtT, oNLtF, oNLeT, oNLeF, oEqT, oEqF, oNEqT, oNEqF, oBeqT, oBeqF, oBneT, oBneF, Int.natCast_add, Int.cast_ofNat_Int, Int.toNat_natCast, List.take_length, rndE_eq, rnd_n, rnd_r, rnd_e]
/-! ### Same -/
def eqC (a b : Ctl) : Bool := a.1 == b.1 && (a.2.1 == b.2.1 && a.2.2 == b.2.2)
theorem eqC_self (a : Ctl) : eqC a a = true := by simp [eqC]
theorem c_same (a b : Ctl) (ha : okC a) (hb : okC b) : run G 41 [.v (cv a), .v (cv b)] [] = some (.v (.bool (eqC a b)), []) := by
  rw [xq_fn G rfl ctl_Same.g _ _ rfl]
  have e := equal91 a.2.2 b.2.2 ha.2.2 hb.2.2 []
  unfold eqC
  by_cases h1 : a.1 = b.1
  · by_cases h2 : a.2.1 = b.2.1
    · simp -implicitDefEqProofs (disch := omega) only [ctl_Same.s, e, go_sem, reduceIte, Nat.reduceAdd, Nat.reduceSub, Nat.reduceMul, Nat.reduceLeDiff, Nat.reduceLT, Nat.reduceEqDiff, Int.reduceToNat, Int.reduceLT, Int.reduceLE, Int.reduceEq, Int.reduceNe, Int.reduceAdd, Int.reduceSub, Int.reduceMul, Int.reduceNeg, Int.reduceBEq, Int.reduceBNe, reduceCtorEq, dreduceIte, ac_x, ac_t, setW_s, setW_0, ac_cp, ac_cpw, ac_lenw, ac_ret, ac_pop, ac_popw, cl_cp, oWS, oW8, oW16, oW32, oW64, oLtT, oLtF, oLeT, oLeF, oNLtT, oNLtF, oNLeT, oNLeF, oEqT, oEqF, oNEqT, oNEqF, oBeqT, oBeqF, oBneT, oBneF, Int.natCast_add, Int.cast_ofNat_Int, Int.toNat_natCast, List.take_length, rndE_eq, rnd_n, rnd_r, rnd_e]
    · simp -implicitDefEqProofs (disch := omega) only [ctl_Same.s, e, go_sem, reduceIte, Nat.reduceAdd, Nat.reduceSub, Nat.reduceMul, Nat.reduceLeDiff, Nat.reduceLT, Nat.reduceEqDiff, Int.reduceToNat, Int.reduceLT, Int.reduceLE, Int.reduceEq, Int.reduceNe, Int.reduceAdd, Int.reduceSub, Int.reduceMul, Int.reduceNeg, Int.reduceBEq, Int.reduceBNe, reduceCtorEq, dreduceIte, ac_x, ac_t, setW_s, setW_0, ac_cp, ac_cpw, ac_lenw, ac_ret, ac_pop, ac_popw, cl_cp, oWS, oW8, oW16, oW32, oW64, oLtT, oLtF, oLeT, oLeF, oNLtT, oNLtF, oNLeT, oNLeF, oEqT, oEqF, oNEqT, oNEqF, oBeqT, oBeqF, oBneT, oBneF, Int.natCast_add, Int.cast_ofNat_Int, Int.toNat_natCast, List.take_length, rndE_eq, rnd_n, rnd_r, rnd_e]
  · simp -implicitDefEqProofs (disch := omega) only [ctl_Same.s, e, go_sem, reduceIte, Nat.reduceAdd, Nat.reduceSub, Nat.reduceMul, Nat.reduceLeDiff, Nat.reduceLT, Nat.reduceEqDiff, Int.reduceToNat, Int.reduceLT, Int.reduceLE, Int.reduceEq, Int.reduceNe, Int.reduceAdd, Int.reduceSub, Int.reduceMul, Int.reduceNeg, Int.reduceBEq, Int.reduceBNe, reduceCtorEq, dreduceIte, ac_x, ac_t, setW_s, setW_0, ac_cp, ac_cpw, ac_lenw, ac_ret, ac_pop, ac_popw, cl_cp, oWS, oW8, oW16, oW32, oW64, oLtT, oLtF, oLeT, oLeF, oNLtT, oNLtF, oNLeT, oNLeF, oEqT, oEqF, oNEqT, oNEqF, oBeqT, oBeqF, oBneT, oBneF, Int.natCast_add, Int.cast_ofNat_Int, Int.toNat_natCast, List.take_length, rndE_eq, rnd_n, rnd_r, rnd_e]
theorem c_rsame (a b : Ctl) (ha : a.2.2.length ≤ M) : run G 42 [.v (cv a), .v (cv b)] [] = some (.v (.bool (eqC a b)), []) := by
  rw [xq_fn G rfl euphroeref22_Same.g _ _ rfl]
  have e := same40 a.2.2 b.2.2 ha
  unfold eqC
  by_cases h1 : a.1 = b.1
  · by_cases h2 : a.2.1 = b.2.1
    · simp -implicitDefEqProofs (disch := omega) only [euphroeref22_Same.s, e, go_sem, reduceIte, Nat.reduceAdd, Nat.reduceSub, Nat.reduceMul, Nat.reduceLeDiff, Nat.reduceLT, Nat.reduceEqDiff, Int.reduceToNat, Int.reduceLT, Int.reduceLE, Int.reduceEq, Int.reduceNe, Int.reduceAdd, Int.reduceSub, Int.reduceMul, Int.reduceNeg, Int.reduceBEq, Int.reduceBNe, reduceCtorEq, dreduceIte, ac_x, ac_t, setW_s, setW_0, ac_cp, ac_cpw, ac_lenw, ac_ret, ac_pop, ac_popw, cl_cp, oWS, oW8, oW16, oW32, oW64, oLtT, oLtF, oLeT, oLeF, oNLtT, oNLtF, oNLeT, oNLeF, oEqT, oEqF, oNEqT, oNEqF, oBeqT, oBeqF, oBneT, oBneF, Int.natCast_add, Int.cast_ofNat_Int, Int.toNat_natCast, List.take_length, rndE_eq, rnd_n, rnd_r, rnd_e]
    · simp -implicitDefEqProofs (disch := omega) only [euphroeref22_Same.s, e, go_sem, reduceIte, Nat.reduceAdd, Nat.reduceSub, Nat.reduceMul, Nat.reduceLeDiff, Nat.reduceLT, Nat.reduceEqDiff, Int.reduceToNat, Int.reduceLT, Int.reduceLE, Int.reduceEq, Int.reduceNe, Int.reduceAdd, Int.reduceSub, Int.reduceMul, Int.reduceNeg, Int.reduceBEq, Int.reduceBNe, reduceCtorEq, dreduceIte, ac_x, ac_t, setW_s, setW_0, ac_cp, ac_cpw, ac_lenw, ac_ret, ac_pop, ac_popw, cl_cp, oWS, oW8, oW16, oW32, oW64, oLtT, oLtF, oLeT, oLeF, oNLtT, oNLtF, oNLeT, oNLeF, oEqT, oEqF, oNEqT, oNEqF, oBeqT, oBeqF, oBneT, oBneF, Int.natCast_add, Int.cast_ofNat_Int, Int.toNat_natCast, List.take_length, rndE_eq, rnd_n, rnd_r, rnd_e]
  · simp -implicitDefEqProofs (disch := omega) only [euphroeref22_Same.s, e, go_sem, reduceIte, Nat.reduceAdd, Nat.reduceSub, Nat.reduceMul, Nat.reduceLeDiff, Nat.reduceLT, Nat.reduceEqDiff, Int.reduceToNat, Int.reduceLT, Int.reduceLE, Int.reduceEq, Int.reduceNe, Int.reduceAdd, Int.reduceSub, Int.reduceMul, Int.reduceNeg, Int.reduceBEq, Int.reduceBNe, reduceCtorEq, dreduceIte, ac_x, ac_t, setW_s, setW_0, ac_cp, ac_cpw, ac_lenw, ac_ret, ac_pop, ac_popw, cl_cp, oWS, oW8, oW16, oW32, oW64, oLtT, oLtF, oLeT, oLeF, oNLtT, oNLtF, oNLeT, oNLeF, oEqT, oEqF, oNEqT, oNEqF, oBeqT, oBeqF, oBneT, oBneF, Int.natCast_add, Int.cast_ofNat_Int, Int.toNat_natCast, List.take_length, rndE_eq, rnd_n, rnd_r, rnd_e]
/-! ### Rejects -/
def cutR (b : List Int) (most : Int) : List Int := if most < 4 then [] else b.take (min (b.length : Int) (max most 4 - 4)).toNat
theorem c_cut (b : List Int) (most : Int) (hb : b.length ≤ 20000) (hm : In most) : run G 92 [.v (.slc 1 (b8 b)), .v (.int .i64 most)] [] = some (.v (.slc 1 (b8 (cutR b most))), []) := by
  rw [xq_fn G rfl ctl_cut.g _ _ rfl]
  unfold cutR
  by_cases h1 : most < 4
  · rw [if_pos h1]
    have e : (min (b.length : Int) (max most 4 - 4)).toNat = 0 := by omega
    simp -implicitDefEqProofs (disch := omega) only [ctl_cut.s, b8_len, b8_nil, b8_take, e, go_sem, reduceIte, Nat.reduceAdd, Nat.reduceSub, Nat.reduceMul, Nat.reduceLeDiff, Nat.reduceLT, Nat.reduceEqDiff, Int.reduceToNat, Int.reduceLT, Int.reduceLE, Int.reduceEq, Int.reduceNe, Int.reduceAdd, Int.reduceSub, Int.reduceMul, Int.reduceNeg, Int.reduceBEq, Int.reduceBNe, reduceCtorEq, dreduceIte, ac_x, ac_t, setW_s, setW_0, ac_cp, ac_cpw, ac_lenw, ac_ret, ac_pop, ac_popw, cl_cp, oWS, oW8, oW16, oW32, oW64, oLtT, oLtF, oLeT, oLeF, oNLtT, oNLtF, oNLeT, oNLeF, oEqT, oEqF, oNEqT, oNEqF, oBeqT, oBeqF, oBneT, oBneF, Int.natCast_add, Int.cast_ofNat_Int, Int.toNat_natCast, List.take_length, rndE_eq, rnd_n, rnd_r, rnd_e]
  · rw [if_neg h1]
    simp -implicitDefEqProofs (disch := omega) only [ctl_cut.s, b8_len, b8_nil, b8_take, go_sem, reduceIte, Nat.reduceAdd, Nat.reduceSub, Nat.reduceMul, Nat.reduceLeDiff, Nat.reduceLT, Nat.reduceEqDiff, Int.reduceToNat, Int.reduceLT, Int.reduceLE, Int.reduceEq, Int.reduceNe, Int.reduceAdd, Int.reduceSub, Int.reduceMul, Int.reduceNeg, Int.reduceBEq, Int.reduceBNe, reduceCtorEq, dreduceIte, ac_x, ac_t, setW_s, setW_0, ac_cp, ac_cpw, ac_lenw, ac_ret, ac_pop, ac_popw, cl_cp, oWS, oW8, oW16, oW32, oW64, oLtT, oLtF, oLeT, oLeF, oNLtT, oNLtF, oNLeT, oNLeF, oEqT, oEqF, oNEqT, oNEqF, oBeqT, oBeqF, oBneT, oBneF, Int.natCast_add, Int.cast_ofNat_Int, Int.toNat_natCast, List.take_length, rndE_eq, rnd_n, rnd_r, rnd_e]
def cutD (b : List Int) (most : Int) : D := if most < 4 then .lin 1 [] else .v (.slc 1 (b8 (cutR b most)))
theorem cutD_cp (b : List Int) (most : Int) : cp (cutD b most) = .v (.slc 1 (b8 (cutR b most))) := by
  unfold cutD cutR
  split <;> rfl
theorem c_rcut (b : List Int) (most : Int) (hb : b.length ≤ 20000) (hm : In most) : run G 93 [.v (.slc 1 (b8 b)), .v (.int .i64 most)] [] = some (cutD b most, []) := by
  rw [xq_fn G rfl euphroeref22_cut.g _ _ rfl]
  unfold cutD cutR
  by_cases h1 : most < 4
  · rw [if_pos h1]
    simp -implicitDefEqProofs (disch := omega) only [euphroeref22_cut.s, b8_len, b8_nil, go_sem, reduceIte, Nat.reduceAdd, Nat.reduceSub, Nat.reduceMul, Nat.reduceLeDiff, Nat.reduceLT, Nat.reduceEqDiff, Int.reduceToNat, Int.reduceLT, Int.reduceLE, Int.reduceEq, Int.reduceNe, Int.reduceAdd, Int.reduceSub, Int.reduceMul, Int.reduceNeg, Int.reduceBEq, Int.reduceBNe, reduceCtorEq, dreduceIte, ac_x, ac_t, setW_s, setW_0, ac_cp, ac_cpw, ac_lenw, ac_ret, ac_pop, ac_popw, cl_cp, oWS, oW8, oW16, oW32, oW64, oLtT, oLtF, oLeT, oLeF, oNLtT, oNLtF, oNLeT, oNLeF, oEqT, oEqF, oNEqT, oNEqF, oBeqT, oBeqF, oBneT, oBneF, Int.natCast_add, Int.cast_ofNat_Int, Int.toNat_natCast, List.take_length, rndE_eq, rnd_n, rnd_r, rnd_e]
  · rw [if_neg h1, if_neg h1]
    have e : max most 4 = most := by omega
    simp -implicitDefEqProofs (disch := omega) only [euphroeref22_cut.s, b8_len, b8_nil, b8_take, e, go_sem, reduceIte, Nat.reduceAdd, Nat.reduceSub, Nat.reduceMul, Nat.reduceLeDiff, Nat.reduceLT, Nat.reduceEqDiff, Int.reduceToNat, Int.reduceLT, Int.reduceLE, Int.reduceEq, Int.reduceNe, Int.reduceAdd, Int.reduceSub, Int.reduceMul, Int.reduceNeg, Int.reduceBEq, Int.reduceBNe, reduceCtorEq, dreduceIte, ac_x, ac_t, setW_s, setW_0, ac_cp, ac_cpw, ac_lenw, ac_ret, ac_pop, ac_popw, cl_cp, oWS, oW8, oW16, oW32, oW64, oLtT, oLtF, oLeT, oLeF, oNLtT, oNLtF, oNLeT, oNLeF, oEqT, oEqF, oNEqT, oNEqF, oBeqT, oBeqF, oBneT, oBneF, Int.natCast_add, Int.cast_ofNat_Int, Int.toNat_natCast, List.take_length, rndE_eq, rnd_n, rnd_r, rnd_e]
theorem layC_len (c : Ctl) : (layC c).1.length ≤ 4004 := by
  unfold layC
  split
  · simp
  · simp [big_len]; omega
theorem c_reject (id : Int) (c : Ctl) (most : Int) (h : c.2.2.length ≤ 10000) (hm : In most) : run G 45 [.v (.int .u8 id), .v (cv c), .v (.int .i64 most)] [] = some (.v (cv (7, id, cutR (layC c).1 most)), []) := by
  rw [xq_fn G rfl ctl_Reject.g _ _ rfl]
  have l := c_lay c h
  have k := c_cut (layC c).1 most (by have := layC_len c; omega) hm
  simp -implicitDefEqProofs (disch := omega) only [ctl_Reject.s, l, k, cv, go_sem, reduceIte, Nat.reduceAdd, Nat.reduceSub, Nat.reduceMul, Nat.reduceLeDiff, Nat.reduceLT, Nat.reduceEqDiff, Int.reduceToNat, Int.reduceLT, Int.reduceLE, Int.reduceEq, Int.reduceNe, Int.reduceAdd, Int.reduceSub, Int.reduceMul, Int.reduceNeg, Int.reduceBEq, Int.reduceBNe, reduceCtorEq, dreduceIte, ac_x, ac_t, setW_s, setW_0, ac_cp, ac_cpw, ac_lenw, ac_ret, ac_pop, ac_popw, cl_cp, oWS, oW8, oW16, oW32, oW64, oLtT, oLtF, oLeT, oLeF, oNLtT, oNLtF, oNLeT, oNLeF, oEqT, oEqF, oNEqT, oNEqF, oBeqT, oBeqF, oBneT, oBneF, Int.natCast_add, Int.cast_ofNat_Int, Int.toNat_natCast, List.take_length, rndE_eq, rnd_n, rnd_r, rnd_e]
theorem c_rreject (id : Int) (c : Ctl) (most : Int) (h : c.2.2.length ≤ 10000) (hm : In most) : run G 46 [.v (.int .u8 id), .v (cv c), .v (.int .i64 most)] [] = some (.v (cv (7, id, cutR (layC c).1 most)), []) := by
  rw [xq_fn G rfl euphroeref22_Reject.g _ _ rfl]
  have l := c_rlay c h
  have k := c_rcut (layC c).1 most (by have := layC_len c; omega) hm
  simp -implicitDefEqProofs (disch := omega) only [euphroeref22_Reject.s, l, k, cv, cutD_cp, go_sem, reduceIte, Nat.reduceAdd, Nat.reduceSub, Nat.reduceMul, Nat.reduceLeDiff, Nat.reduceLT, Nat.reduceEqDiff, Int.reduceToNat, Int.reduceLT, Int.reduceLE, Int.reduceEq, Int.reduceNe, Int.reduceAdd, Int.reduceSub, Int.reduceMul, Int.reduceNeg, Int.reduceBEq, Int.reduceBNe, reduceCtorEq, dreduceIte, ac_x, ac_t, setW_s, setW_0, ac_cp, ac_cpw, ac_lenw, ac_ret, ac_pop, ac_popw, cl_cp, oWS, oW8, oW16, oW32, oW64, oLtT, oLtF, oLeT, oLeF, oNLtT, oNLtF, oNLeT, oNLeF, oEqT, oEqF, oNEqT, oNEqF, oBeqT, oBeqF, oBneT, oBneF, Int.natCast_add, Int.cast_ofNat_Int, Int.toNat_natCast, List.take_length, rndE_eq, rnd_n, rnd_r, rnd_e]
abbrev Frm := Int × List Int
abbrev fv (f : Frm) : V := .agg [.int .u16 f.1, .slc 1 (b8 f.2)]
theorem c_proto (id : Int) (f : Frm) (most : Int) (hf : 0 ≤ f.1 ∧ f.1 ≤ 65535) (h : f.2.length ≤ 10000) (hm : In most) : run G 47 [.v (.int .u8 id), .v (fv f), .v (.int .i64 most)] [] = some (.v (cv (8, id, cutR (big 2 f.1 ++ f.2) most)), []) := by
  rw [xq_fn G rfl ctl_Proto.g _ _ rfl]
  have P := put85 f.1 (by omega) (by omega) 2 (by omega) (by omega)
  have J := join86 [big 2 f.1, f.2] (by simp) (by simp [big_len]; omega)
  have k := c_cut (big 2 f.1 ++ f.2) most (by simp [big_len]; omega) hm
  simp only [pe, List.map_cons, b8_cons, List.flatten_cons, List.flatten_nil, z0, Int.cast_ofNat_Int, List.take_zero, List.map_nil, List.drop_zero, accN, b8_nil, Int.sub_zero, Int.add_zero, Int.zero_add, Nat.zero_add, Nat.sub_zero, List.nil_append, List.append_nil] at J
  simp only [z0, Int.cast_ofNat_Int, List.take_zero, List.map_nil, List.drop_zero, accN, b8_nil, Int.sub_zero, Int.add_zero, Int.zero_add, Nat.zero_add, Nat.sub_zero, List.nil_append, List.append_nil] at P
  simp -implicitDefEqProofs (disch := omega) only [ctl_Proto.s, P, J, k, cv, fv, go_sem, reduceIte, Nat.reduceAdd, Nat.reduceSub, Nat.reduceMul, Nat.reduceLeDiff, Nat.reduceLT, Nat.reduceEqDiff, Int.reduceToNat, Int.reduceLT, Int.reduceLE, Int.reduceEq, Int.reduceNe, Int.reduceAdd, Int.reduceSub, Int.reduceMul, Int.reduceNeg, Int.reduceBEq, Int.reduceBNe, reduceCtorEq, dreduceIte, ac_x, ac_t, setW_s, setW_0, ac_cp, ac_cpw, ac_lenw, ac_ret, ac_pop, ac_popw, cl_cp, oWS, oW8, oW16, oW32, oW64, oLtT, oLtF, oLeT, oLeF, oNLtT, oNLtF, oNLeT, oNLeF, oEqT, oEqF, oNEqT, oNEqF, oBeqT, oBeqF, oBneT, oBneF, Int.natCast_add, Int.cast_ofNat_Int, Int.toNat_natCast, List.take_length, rndE_eq, rnd_n, rnd_r, rnd_e]
theorem c_rproto (id : Int) (f : Frm) (most : Int) (hf : 0 ≤ f.1 ∧ f.1 ≤ 65535) (h : f.2.length ≤ 10000) (hm : In most) : run G 48 [.v (.int .u8 id), .v (fv f), .v (.int .i64 most)] [] = some (.v (cv (8, id, cutR (big 2 f.1 ++ f.2) most)), []) := by
  rw [xq_fn G rfl euphroeref22_Proto.g _ _ rfl]
  have P := big87 f.1 (by omega) (by omega) 2 (by omega)
  have k := c_rcut (big 2 f.1 ++ f.2) most (by simp [big_len]; omega) hm
  have hM := hmax
  simp only [z0, Int.cast_ofNat_Int, List.take_zero, List.map_nil, List.drop_zero, accN, b8_nil, Int.sub_zero, Int.add_zero, Int.zero_add, Nat.zero_add, Nat.sub_zero, List.nil_append, List.append_nil] at P
  simp -implicitDefEqProofs (disch := omega) only [euphroeref22_Proto.s, P, k, cv, fv, b8_app, b8_len, big_len, cutD_cp, go_sem, reduceIte, Nat.reduceAdd, Nat.reduceSub, Nat.reduceMul, Nat.reduceLeDiff, Nat.reduceLT, Nat.reduceEqDiff, Int.reduceToNat, Int.reduceLT, Int.reduceLE, Int.reduceEq, Int.reduceNe, Int.reduceAdd, Int.reduceSub, Int.reduceMul, Int.reduceNeg, Int.reduceBEq, Int.reduceBNe, reduceCtorEq, dreduceIte, ac_x, ac_t, setW_s, setW_0, ac_cp, ac_cpw, ac_lenw, ac_ret, ac_pop, ac_popw, cl_cp, oWS, oW8, oW16, oW32, oW64, oLtT, oLtF, oLeT, oLeF, oNLtT, oNLtF, oNLeT, oNLeF, oEqT, oEqF, oNEqT, oNEqF, oBeqT, oBeqF, oBneT, oBneF, Int.natCast_add, Int.cast_ofNat_Int, Int.toNat_natCast, List.take_length, rndE_eq, rnd_n, rnd_r, rnd_e]
def magC (c : Ctl) : Int × List Int × Int := if c.2.2.length < 4 then (0, [], 4) else (num (c.2.2.take 4), c.2.2.drop 4, 0)
def mgD (c : Ctl) : D := if c.2.2.length < 4 then .lin 1 [] else clD 1 (b8 (c.2.2.drop 4))
theorem mgD_cp (c : Ctl) : cp (mgD c) = .v (.slc 1 (b8 (magC c).2.1)) := by
  unfold mgD magC
  split
  · rfl
  · exact cl_cp _ _
def rgD (c : Ctl) : D := if c.2.2.length < 4 then .lin 1 [] else .v (.slc 1 (b8 (c.2.2.drop 4)))
theorem rgD_cp (c : Ctl) : cp (rgD c) = .v (.slc 1 (b8 (magC c).2.1)) := by
  unfold rgD magC
  split <;> rfl
theorem mgD_or (c : Ctl) : mgD c = .lin 1 (b8 (magC c).2.1) ∨ mgD c = .v (.slc 1 (b8 (magC c).2.1)) := by
  unfold mgD magC
  split
  · exact .inl rfl
  · simp only
    cases c.2.2.drop 4 with
    | nil => exact .inr rfl
    | cons x r => exact .inl rfl
theorem rgD_or (c : Ctl) : rgD c = .lin 1 (b8 (magC c).2.1) ∨ rgD c = .v (.slc 1 (b8 (magC c).2.1)) := by
  unfold rgD magC
  split
  · exact .inl rfl
  · exact .inr rfl
theorem c_magic (c : Ctl) (ok : okC c) (h : c.2.2.length ≤ 10000) : run G 43 [.v (cv c)] [] = some (.tup [.v (.int .u32 (magC c).1), mgD c, .v (.int .i64 (magC c).2.2)], []) := by
  rw [xq_fn G rfl ctl_Magic.g _ _ rfl]
  unfold magC mgD
  by_cases h1 : c.2.2.length < 4
  · rw [if_pos h1, if_pos h1]
    simp -implicitDefEqProofs (disch := omega) only [ctl_Magic.s, cv, b8_len, go_sem, reduceIte, Nat.reduceAdd, Nat.reduceSub, Nat.reduceMul, Nat.reduceLeDiff, Nat.reduceLT, Nat.reduceEqDiff, Int.reduceToNat, Int.reduceLT, Int.reduceLE, Int.reduceEq, Int.reduceNe, Int.reduceAdd, Int.reduceSub, Int.reduceMul, Int.reduceNeg, Int.reduceBEq, Int.reduceBNe, reduceCtorEq, dreduceIte, ac_x, ac_t, setW_s, setW_0, ac_cp, ac_cpw, ac_lenw, ac_ret, ac_pop, ac_popw, cl_cp, oWS, oW8, oW16, oW32, oW64, oLtT, oLtF, oLeT, oLeF, oNLtT, oNLtF, oNLeT, oNLeF, oEqT, oEqF, oNEqT, oNEqF, oBeqT, oBeqF, oBneT, oBneF, Int.natCast_add, Int.cast_ofNat_Int, Int.toNat_natCast, List.take_length, rndE_eq, rnd_n, rnd_r, rnd_e]
  · rw [if_neg h1, if_neg h1]
    have hb := okB_take ok.2.2 4
    have hl : (c.2.2.take 4).length = 4 := by rw [List.length_take]; omega
    have g := get88 _ hb (by omega) (by omega)
    have gr := num_rng _ hb
    rw [hl] at gr
    have h256 : (256 : Int) ^ 4 = 4294967296 := rfl
    have k := clone89 (c.2.2.drop 4) (by have : M = 100000 := rfl; simp; omega)
    cases hd : c.2.2.drop 4 with
    | nil =>
      rw [hd] at k
      simp only [clD, z0, Int.cast_ofNat_Int, List.take_zero, List.map_nil, List.drop_zero, accN, b8_nil, Int.sub_zero, Int.add_zero, Int.zero_add, Nat.zero_add, Nat.sub_zero, List.nil_append, List.append_nil] at k
      simp -implicitDefEqProofs (disch := omega) only [ctl_Magic.s, cv, b8_len, b8_take, b8_drop, hd, g, k, clD, b8_nil, go_sem, reduceIte, Nat.reduceAdd, Nat.reduceSub, Nat.reduceMul, Nat.reduceLeDiff, Nat.reduceLT, Nat.reduceEqDiff, Int.reduceToNat, Int.reduceLT, Int.reduceLE, Int.reduceEq, Int.reduceNe, Int.reduceAdd, Int.reduceSub, Int.reduceMul, Int.reduceNeg, Int.reduceBEq, Int.reduceBNe, reduceCtorEq, dreduceIte, ac_x, ac_t, setW_s, setW_0, ac_cp, ac_cpw, ac_lenw, ac_ret, ac_pop, ac_popw, cl_cp, oWS, oW8, oW16, oW32, oW64, oLtT, oLtF, oLeT, oLeF, oNLtT, oNLtF, oNLeT, oNLeF, oEqT, oEqF, oNEqT, oNEqF, oBeqT, oBeqF, oBneT, oBneF, Int.natCast_add, Int.cast_ofNat_Int, Int.toNat_natCast, List.take_length, rndE_eq, rnd_n, rnd_r, rnd_e]
    | cons x r =>
      rw [hd] at k
      simp only [clD, b8_cons, z0, Int.cast_ofNat_Int, List.take_zero, List.map_nil, List.drop_zero, accN, b8_nil, Int.sub_zero, Int.add_zero, Int.zero_add, Nat.zero_add, Nat.sub_zero, List.nil_append, List.append_nil] at k
      simp -implicitDefEqProofs (disch := omega) only [ctl_Magic.s, cv, b8_len, b8_take, b8_drop, hd, g, k, clD, b8_cons, go_sem, reduceIte, Nat.reduceAdd, Nat.reduceSub, Nat.reduceMul, Nat.reduceLeDiff, Nat.reduceLT, Nat.reduceEqDiff, Int.reduceToNat, Int.reduceLT, Int.reduceLE, Int.reduceEq, Int.reduceNe, Int.reduceAdd, Int.reduceSub, Int.reduceMul, Int.reduceNeg, Int.reduceBEq, Int.reduceBNe, reduceCtorEq, dreduceIte, ac_x, ac_t, setW_s, setW_0, ac_cp, ac_cpw, ac_lenw, ac_ret, ac_pop, ac_popw, cl_cp, oWS, oW8, oW16, oW32, oW64, oLtT, oLtF, oLeT, oLeF, oNLtT, oNLtF, oNLeT, oNLeF, oEqT, oEqF, oNEqT, oNEqF, oBeqT, oBeqF, oBneT, oBneF, Int.natCast_add, Int.cast_ofNat_Int, Int.toNat_natCast, List.take_length, rndE_eq, rnd_n, rnd_r, rnd_e]
theorem c_rmagic (c : Ctl) (ok : okC c) (h : c.2.2.length ≤ 10000) : run G 44 [.v (cv c)] [] = some (.tup [.v (.int .u32 (magC c).1), rgD c, .v (.int .i64 (magC c).2.2)], []) := by
  rw [xq_fn G rfl euphroeref22_Magic.g _ _ rfl]
  unfold magC rgD
  by_cases h1 : c.2.2.length < 4
  · rw [if_pos h1, if_pos h1]
    simp -implicitDefEqProofs (disch := omega) only [euphroeref22_Magic.s, cv, b8_len, go_sem, reduceIte, Nat.reduceAdd, Nat.reduceSub, Nat.reduceMul, Nat.reduceLeDiff, Nat.reduceLT, Nat.reduceEqDiff, Int.reduceToNat, Int.reduceLT, Int.reduceLE, Int.reduceEq, Int.reduceNe, Int.reduceAdd, Int.reduceSub, Int.reduceMul, Int.reduceNeg, Int.reduceBEq, Int.reduceBNe, reduceCtorEq, dreduceIte, ac_x, ac_t, setW_s, setW_0, ac_cp, ac_cpw, ac_lenw, ac_ret, ac_pop, ac_popw, cl_cp, oWS, oW8, oW16, oW32, oW64, oLtT, oLtF, oLeT, oLeF, oNLtT, oNLtF, oNLeT, oNLeF, oEqT, oEqF, oNEqT, oNEqF, oBeqT, oBeqF, oBneT, oBneF, Int.natCast_add, Int.cast_ofNat_Int, Int.toNat_natCast, List.take_length, rndE_eq, rnd_n, rnd_r, rnd_e]
  · rw [if_neg h1, if_neg h1]
    have hb := okB_take ok.2.2 4
    have hl : (c.2.2.take 4).length = 4 := by rw [List.length_take]; omega
    have g := num90 _ hb (by omega)
    have gr := num_rng _ hb
    rw [hl] at gr
    have h256 : (256 : Int) ^ 4 = 4294967296 := rfl
    simp -implicitDefEqProofs (disch := omega) only [euphroeref22_Magic.s, cv, b8_len, b8_take, b8_drop, g, go_sem, reduceIte, Nat.reduceAdd, Nat.reduceSub, Nat.reduceMul, Nat.reduceLeDiff, Nat.reduceLT, Nat.reduceEqDiff, Int.reduceToNat, Int.reduceLT, Int.reduceLE, Int.reduceEq, Int.reduceNe, Int.reduceAdd, Int.reduceSub, Int.reduceMul, Int.reduceNeg, Int.reduceBEq, Int.reduceBNe, reduceCtorEq, dreduceIte, ac_x, ac_t, setW_s, setW_0, ac_cp, ac_cpw, ac_lenw, ac_ret, ac_pop, ac_popw, cl_cp, oWS, oW8, oW16, oW32, oW64, oLtT, oLtF, oLeT, oLeF, oNLtT, oNLtF, oNLeT, oNLeF, oEqT, oEqF, oNEqT, oNEqF, oBeqT, oBeqF, oBneT, oBneF, Int.natCast_add, Int.cast_ofNat_Int, Int.toNat_natCast, List.take_length, rndE_eq, rnd_n, rnd_r, rnd_e]
theorem c_echo (code id mg : Int) (d : List Int) (hm : 0 ≤ mg ∧ mg ≤ 4294967295) (h : d.length ≤ 10000) : run G 49 [.v (.int .u8 code), .v (.int .u8 id), .v (.int .u32 mg), .v (.slc 1 (b8 d))] [] = some (.v (cv (code, id, big 4 mg ++ d)), []) := by
  rw [xq_fn G rfl ctl_Echo.g _ _ rfl]
  have P := put85 mg (by omega) (by omega) 4 (by omega) (by omega)
  have J := join86 [big 4 mg, d] (by simp) (by simp [big_len]; omega)
  simp only [pe, List.map_cons, b8_cons, List.flatten_cons, List.flatten_nil, z0, Int.cast_ofNat_Int, List.take_zero, List.map_nil, List.drop_zero, accN, b8_nil, Int.sub_zero, Int.add_zero, Int.zero_add, Nat.zero_add, Nat.sub_zero, List.nil_append, List.append_nil] at J
  simp only [z0, Int.cast_ofNat_Int, List.take_zero, List.map_nil, List.drop_zero, accN, b8_nil, Int.sub_zero, Int.add_zero, Int.zero_add, Nat.zero_add, Nat.sub_zero, List.nil_append, List.append_nil] at P
  simp -implicitDefEqProofs (disch := omega) only [ctl_Echo.s, P, J, cv, go_sem, reduceIte, Nat.reduceAdd, Nat.reduceSub, Nat.reduceMul, Nat.reduceLeDiff, Nat.reduceLT, Nat.reduceEqDiff, Int.reduceToNat, Int.reduceLT, Int.reduceLE, Int.reduceEq, Int.reduceNe, Int.reduceAdd, Int.reduceSub, Int.reduceMul, Int.reduceNeg, Int.reduceBEq, Int.reduceBNe, reduceCtorEq, dreduceIte, ac_x, ac_t, setW_s, setW_0, ac_cp, ac_cpw, ac_lenw, ac_ret, ac_pop, ac_popw, cl_cp, oWS, oW8, oW16, oW32, oW64, oLtT, oLtF, oLeT, oLeF, oNLtT, oNLtF, oNLeT, oNLeF, oEqT, oEqF, oNEqT, oNEqF, oBeqT, oBeqF, oBneT, oBneF, Int.natCast_add, Int.cast_ofNat_Int, Int.toNat_natCast, List.take_length, rndE_eq, rnd_n, rnd_r, rnd_e]
theorem c_recho (code id mg : Int) (d : List Int) (hm : 0 ≤ mg ∧ mg ≤ 4294967295) (h : d.length ≤ 10000) : run G 50 [.v (.int .u8 code), .v (.int .u8 id), .v (.int .u32 mg), .v (.slc 1 (b8 d))] [] = some (.v (cv (code, id, big 4 mg ++ d)), []) := by
  rw [xq_fn G rfl euphroeref22_Echo.g _ _ rfl]
  have P := big87 mg (by omega) (by omega) 4 (by omega)
  have hM := hmax
  simp only [z0, Int.cast_ofNat_Int, List.take_zero, List.map_nil, List.drop_zero, accN, b8_nil, Int.sub_zero, Int.add_zero, Int.zero_add, Nat.zero_add, Nat.sub_zero, List.nil_append, List.append_nil] at P
  simp -implicitDefEqProofs (disch := omega) only [euphroeref22_Echo.s, P, cv, b8_app, b8_len, big_len, go_sem, reduceIte, Nat.reduceAdd, Nat.reduceSub, Nat.reduceMul, Nat.reduceLeDiff, Nat.reduceLT, Nat.reduceEqDiff, Int.reduceToNat, Int.reduceLT, Int.reduceLE, Int.reduceEq, Int.reduceNe, Int.reduceAdd, Int.reduceSub, Int.reduceMul, Int.reduceNeg, Int.reduceBEq, Int.reduceBNe, reduceCtorEq, dreduceIte, ac_x, ac_t, setW_s, setW_0, ac_cp, ac_cpw, ac_lenw, ac_ret, ac_pop, ac_popw, cl_cp, oWS, oW8, oW16, oW32, oW64, oLtT, oLtF, oLeT, oLeF, oNLtT, oNLtF, oNLeT, oNLeF, oEqT, oEqF, oNEqT, oNEqF, oBeqT, oBeqF, oBneT, oBneF, Int.natCast_add, Int.cast_ofNat_Int, Int.toNat_natCast, List.take_length, rndE_eq, rnd_n, rnd_r, rnd_e]
/-! ### The laws -/
theorem parC_lay (c : Ctl) (b : List Int) (h : c.2.2.length ≤ 4000) : parC ((layC c).1 ++ b) = (c, 0) := by
  have e : layC c = ([c.1, c.2.1] ++ (big 2 (4 + (c.2.2.length : Int)) ++ c.2.2), 0) := by rw [layC, if_neg (by omega)]
  have e2 : big 2 (4 + (c.2.2.length : Int)) = [(4 + (c.2.2.length : Int)) / 256 % 256, (4 + (c.2.2.length : Int)) % 256] := rfl
  have n2 : num [(4 + (c.2.2.length : Int)) / 256 % 256, (4 + (c.2.2.length : Int)) % 256] = 4 + (c.2.2.length : Int) := by
    rw [← e2, num_big 2 _ (by omega) (by have : (256 : Int) ^ 2 = 65536 := rfl; omega)]
  rw [e, e2]
  unfold parC
  simp only [List.cons_append, List.nil_append, List.take_succ_cons, List.take_zero, List.drop_succ_cons, List.drop_zero, n2, List.length_cons, List.length_append]
  rw [if_neg (by omega), if_neg (by omega), if_neg (by omega), if_neg (by omega)]
  have e3 : (4 + (c.2.2.length : Int)).toNat = c.2.2.length + 1 + 1 + 1 + 1 := by omega
  rw [e3]
  simp [List.getD]
theorem parC_ok (b : List Int) (hb : okB b) : okC (parC b).1 := by
  have h0 : okC noC := ⟨by decide, by decide, fun x h => by cases h⟩
  unfold parC
  split
  · exact h0
  split
  · exact h0
  split
  · exact h0
  split
  · exact h0
  rename_i h1 h2 h3 h4
  exact ⟨hb _ (List.mem_iff_getElem?.2 ⟨0, getD_at b 0 (by omega)⟩), hb _ (List.mem_iff_getElem?.2 ⟨1, getD_at b 1 (by omega)⟩), okB_drop (okB_take hb _) _⟩
theorem parC_len (b : List Int) : (parC b).1.2.2.length ≤ b.length := by
  unfold parC
  split
  · simp [noC]
  split
  · simp [noC]
  split
  · simp [noC]
  split
  · simp [noC]
  simp; omega
theorem layC_ok (c : Ctl) (h : okC c) : okB (layC c).1 := by
  unfold layC
  split
  · intro x h; cases h
  · exact okB_app (fun x hx => by rcases List.mem_cons.1 hx with rfl | hx; exact h.1; rw [List.mem_singleton.1 hx]; exact h.2.1) (okB_app (big_ok _ _) h.2.2)
theorem ctlLays (c : Ctl) (b : List Int) (hc : okC c) (hb : okB b) : run G 7 [.v (cv c), .v (.slc 1 (b8 b))] [] = some (.v (.bool true), []) := by
  rw [xq_fn G rfl euphroelaw22_CtlLays.g _ _ rfl]
  by_cases h1 : 4500 < c.2.2.length
  · simp -implicitDefEqProofs (disch := omega) only [euphroelaw22_CtlLays.s, cv, b8_len, c_alive, go_sem, reduceIte, Nat.reduceAdd, Nat.reduceSub, Nat.reduceMul, Nat.reduceLeDiff, Nat.reduceLT, Nat.reduceEqDiff, Int.reduceToNat, Int.reduceLT, Int.reduceLE, Int.reduceEq, Int.reduceNe, Int.reduceAdd, Int.reduceSub, Int.reduceMul, Int.reduceNeg, Int.reduceBEq, Int.reduceBNe, reduceCtorEq, dreduceIte, ac_x, ac_t, setW_s, setW_0, ac_cp, ac_cpw, ac_lenw, ac_ret, ac_pop, ac_popw, cl_cp, oWS, oW8, oW16, oW32, oW64, oLtT, oLtF, oLeT, oLeF, oNLtT, oNLtF, oNLeT, oNLeF, oEqT, oEqF, oNEqT, oNEqF, oBeqT, oBeqF, oBneT, oBneF, Int.natCast_add, Int.cast_ofNat_Int, Int.toNat_natCast, List.take_length, rndE_eq, rnd_n, rnd_r, rnd_e]
  by_cases h2 : 4500 < b.length
  · simp -implicitDefEqProofs (disch := omega) only [euphroelaw22_CtlLays.s, cv, b8_len, c_alive, go_sem, reduceIte, Nat.reduceAdd, Nat.reduceSub, Nat.reduceMul, Nat.reduceLeDiff, Nat.reduceLT, Nat.reduceEqDiff, Int.reduceToNat, Int.reduceLT, Int.reduceLE, Int.reduceEq, Int.reduceNe, Int.reduceAdd, Int.reduceSub, Int.reduceMul, Int.reduceNeg, Int.reduceBEq, Int.reduceBNe, reduceCtorEq, dreduceIte, ac_x, ac_t, setW_s, setW_0, ac_cp, ac_cpw, ac_lenw, ac_ret, ac_pop, ac_popw, cl_cp, oWS, oW8, oW16, oW32, oW64, oLtT, oLtF, oLeT, oLeF, oNLtT, oNLtF, oNLeT, oNLeF, oEqT, oEqF, oNEqT, oNEqF, oBeqT, oBeqF, oBneT, oBneF, Int.natCast_add, Int.cast_ofNat_Int, Int.toNat_natCast, List.take_length, rndE_eq, rnd_n, rnd_r, rnd_e]
  have hM := hmax
  have ll := layC_len c
  have lo := layC_ok c hc
  have t1 := c_theirs c
  have l1 := c_lay c (by omega)
  have l2 := c_rlay c (by omega)
  have p1 := c_parse b hb (by omega)
  have p2 := c_rparse b hb (by omega)
  have p3 := c_parse ((layC c).1 ++ b) (okB_app lo hb) (by rw [List.length_append]; omega)
  have s1 := same40 (layC c).1 (layC c).1 (by have : M = 100000 := rfl; omega)
  have t2 := c_theirs (parC b).1
  have po := parC_ok b hb
  have s2 := c_same (parC b).1 (parC b).1 po po
  have s3 := c_same (parC b).1 c po hc
  have s4 := c_rsame (parC b).1 c (by have := parC_len b; have : M = 100000 := rfl; omega)
  rw [eqC_self] at s2
  rw [beq_self_eq_true] at s1
  by_cases h3 : 4000 < c.2.2.length
  · have e : (layC c).2 = 8 := by rw [layC, if_pos h3]
    rw [e] at l1 l2
    simp -implicitDefEqProofs (disch := omega) only [euphroelaw22_CtlLays.s, cv, b8_len, b8_app, c_alive, t1, t2, l1, l2, p1, p2, p3, s1, s2, s3, s4, beq_self_eq_true, go_sem, reduceIte, Nat.reduceAdd, Nat.reduceSub, Nat.reduceMul, Nat.reduceLeDiff, Nat.reduceLT, Nat.reduceEqDiff, Int.reduceToNat, Int.reduceLT, Int.reduceLE, Int.reduceEq, Int.reduceNe, Int.reduceAdd, Int.reduceSub, Int.reduceMul, Int.reduceNeg, Int.reduceBEq, Int.reduceBNe, reduceCtorEq, dreduceIte, ac_x, ac_t, setW_s, setW_0, ac_cp, ac_cpw, ac_lenw, ac_ret, ac_pop, ac_popw, cl_cp, oWS, oW8, oW16, oW32, oW64, oLtT, oLtF, oLeT, oLeF, oNLtT, oNLtF, oNLeT, oNLeF, oEqT, oEqF, oNEqT, oNEqF, oBeqT, oBeqF, oBneT, oBneF, Int.natCast_add, Int.cast_ofNat_Int, Int.toNat_natCast, List.take_length, rndE_eq, rnd_n, rnd_r, rnd_e]
  · have e : (layC c).2 = 0 := by rw [layC, if_neg h3]
    rw [e] at l1 l2
    rw [parC_lay c b (by omega)] at p3
    have s5 := c_same c c hc hc
    rw [eqC_self] at s5
    simp -implicitDefEqProofs (disch := omega) only [euphroelaw22_CtlLays.s, cv, b8_len, b8_app, c_alive, t1, t2, l1, l2, p1, p2, p3, s1, s2, s3, s4, s5, beq_self_eq_true, go_sem, reduceIte, Nat.reduceAdd, Nat.reduceSub, Nat.reduceMul, Nat.reduceLeDiff, Nat.reduceLT, Nat.reduceEqDiff, Int.reduceToNat, Int.reduceLT, Int.reduceLE, Int.reduceEq, Int.reduceNe, Int.reduceAdd, Int.reduceSub, Int.reduceMul, Int.reduceNeg, Int.reduceBEq, Int.reduceBNe, reduceCtorEq, dreduceIte, ac_x, ac_t, setW_s, setW_0, ac_cp, ac_cpw, ac_lenw, ac_ret, ac_pop, ac_popw, cl_cp, oWS, oW8, oW16, oW32, oW64, oLtT, oLtF, oLeT, oLeF, oNLtT, oNLtF, oNLeT, oNLeF, oEqT, oEqF, oNEqT, oNEqF, oBeqT, oBeqF, oBneT, oBneF, Int.natCast_add, Int.cast_ofNat_Int, Int.toNat_natCast, List.take_length, rndE_eq, rnd_n, rnd_r, rnd_e]
theorem ctlRejects (c : Ctl) (f : Frm) (most : Int) (hc : okC c) (hf : (0 ≤ f.1 ∧ f.1 ≤ 65535) ∧ okB f.2) (hm : In most) : run G 8 [.v (cv c), .v (fv f), .v (.int .i64 most)] [] = some (.v (.bool true), []) := by
  rw [xq_fn G rfl euphroelaw22_CtlRejects.g _ _ rfl]
  by_cases h1 : 4500 < c.2.2.length
  · simp -implicitDefEqProofs (disch := omega) only [euphroelaw22_CtlRejects.s, cv, fv, b8_len, c_alive, go_sem, reduceIte, Nat.reduceAdd, Nat.reduceSub, Nat.reduceMul, Nat.reduceLeDiff, Nat.reduceLT, Nat.reduceEqDiff, Int.reduceToNat, Int.reduceLT, Int.reduceLE, Int.reduceEq, Int.reduceNe, Int.reduceAdd, Int.reduceSub, Int.reduceMul, Int.reduceNeg, Int.reduceBEq, Int.reduceBNe, reduceCtorEq, dreduceIte, ac_x, ac_t, setW_s, setW_0, ac_cp, ac_cpw, ac_lenw, ac_ret, ac_pop, ac_popw, cl_cp, oWS, oW8, oW16, oW32, oW64, oLtT, oLtF, oLeT, oLeF, oNLtT, oNLtF, oNLeT, oNLeF, oEqT, oEqF, oNEqT, oNEqF, oBeqT, oBeqF, oBneT, oBneF, Int.natCast_add, Int.cast_ofNat_Int, Int.toNat_natCast, List.take_length, rndE_eq, rnd_n, rnd_r, rnd_e]
  by_cases h2 : 4500 < f.2.length
  · simp -implicitDefEqProofs (disch := omega) only [euphroelaw22_CtlRejects.s, cv, fv, b8_len, c_alive, go_sem, reduceIte, Nat.reduceAdd, Nat.reduceSub, Nat.reduceMul, Nat.reduceLeDiff, Nat.reduceLT, Nat.reduceEqDiff, Int.reduceToNat, Int.reduceLT, Int.reduceLE, Int.reduceEq, Int.reduceNe, Int.reduceAdd, Int.reduceSub, Int.reduceMul, Int.reduceNeg, Int.reduceBEq, Int.reduceBNe, reduceCtorEq, dreduceIte, ac_x, ac_t, setW_s, setW_0, ac_cp, ac_cpw, ac_lenw, ac_ret, ac_pop, ac_popw, cl_cp, oWS, oW8, oW16, oW32, oW64, oLtT, oLtF, oLeT, oLeF, oNLtT, oNLtF, oNLeT, oNLeF, oEqT, oEqF, oNEqT, oNEqF, oBeqT, oBeqF, oBneT, oBneF, Int.natCast_add, Int.cast_ofNat_Int, Int.toNat_natCast, List.take_length, rndE_eq, rnd_n, rnd_r, rnd_e]
  have ll := layC_len c
  have lo := layC_ok c hc
  have t1 := c_theirs c
  have m1 := c_magic c hc (by omega)
  have m2 := c_rmagic c hc (by omega)
  have r1 := c_reject c.2.1 c most (by omega) hm
  have r2 := c_rreject c.2.1 c most (by omega) hm
  have q1 := c_proto c.2.1 f most hf.1 (by omega) hm
  have q2 := c_rproto c.2.1 f most hf.1 (by omega) hm
  have hw : 0 ≤ IntKind.u32.wrap most ∧ IntKind.u32.wrap most ≤ 4294967295 := by
    have e : IntKind.u32.wrap most = most % 4294967296 := by simp [IntKind.wrap, IntKind.signed, IntKind.bits]
    omega
  have e1 := c_echo c.1 c.2.1 (IntKind.u32.wrap most) f.2 hw (by omega)
  have e2 := c_recho c.1 c.2.1 (IntKind.u32.wrap most) f.2 hw (by omega)
  have ok1 : okC (7, c.2.1, cutR (layC c).1 most) := ⟨by show (0:Int) ≤ 7 ∧ (7:Int) ≤ 255; decide, hc.2.1, by unfold cutR; split; exact fun x h => (by cases h); exact okB_take lo _⟩
  have ok2 : okC (8, c.2.1, cutR (big 2 f.1 ++ f.2) most) := ⟨by show (0:Int) ≤ 8 ∧ (8:Int) ≤ 255; decide, hc.2.1, by unfold cutR; split; exact fun x h => (by cases h); exact okB_take (okB_app (big_ok _ _) hf.2) _⟩
  have ok3 : okC (c.1, c.2.1, big 4 (IntKind.u32.wrap most) ++ f.2) := ⟨hc.1, hc.2.1, okB_app (big_ok _ _) hf.2⟩
  have s1 := c_same _ _ ok1 ok1
  have s2 := c_same _ _ ok2 ok2
  have s3 := c_same _ _ ok3 ok3
  have t2 := c_theirs (7, c.2.1, cutR (layC c).1 most)
  have t3 := c_theirs (8, c.2.1, cutR (big 2 f.1 ++ f.2) most)
  have t4 := c_theirs (c.1, c.2.1, big 4 (IntKind.u32.wrap most) ++ f.2)
  have hl : (magC c).2.1.length ≤ 4500 := by unfold magC; split <;> simp; omega
  have s4 := same40 (magC c).2.1 (magC c).2.1 (by have : M = 100000 := rfl; omega)
  rw [eqC_self] at s1 s2 s3
  rw [beq_self_eq_true] at s4
  rcases mgD_or c with g1 | g1 <;> rcases rgD_or c with g2 | g2 <;> rw [g1] at m1 <;> rw [g2] at m2 <;>
  simp -implicitDefEqProofs (disch := omega) only [euphroelaw22_CtlRejects.s, cv, fv, b8_len, c_alive, t1, t2, t3, t4, m1, m2, mgD_cp, rgD_cp, r1, r2, q1, q2, e1, e2, s1, s2, s3, s4, beq_self_eq_true, go_sem, reduceIte, Nat.reduceAdd, Nat.reduceSub, Nat.reduceMul, Nat.reduceLeDiff, Nat.reduceLT, Nat.reduceEqDiff, Int.reduceToNat, Int.reduceLT, Int.reduceLE, Int.reduceEq, Int.reduceNe, Int.reduceAdd, Int.reduceSub, Int.reduceMul, Int.reduceNeg, Int.reduceBEq, Int.reduceBNe, reduceCtorEq, dreduceIte, ac_x, ac_t, setW_s, setW_0, ac_cp, ac_cpw, ac_lenw, ac_ret, ac_pop, ac_popw, cl_cp, oWS, oW8, oW16, oW32, oW64, oLtT, oLtF, oLeT, oLeF, oNLtT, oNLtF, oNLeT, oNLeF, oEqT, oEqF, oNEqT, oNEqF, oBeqT, oBeqF, oBneT, oBneF, Int.natCast_add, Int.cast_ofNat_Int, Int.toNat_natCast, List.take_length, rndE_eq, rnd_n, rnd_r, rnd_e]
end Go.Q
