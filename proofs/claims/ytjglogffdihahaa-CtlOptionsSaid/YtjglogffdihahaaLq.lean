/- What the functions of CtlOptions compute. No condition. -/
import Derived.Test.YtjglogffdihahaaLc
set_option maxRecDepth 100000
set_option linter.unusedSimpArgs false
set_option linter.unusedVariables false
namespace Go.Q
open SOp SCode
attribute [local congr] bind_c map_c

theorem c_options (l : List Opt) (hn : l.length ≤ 40) : run G 75 [.v (.slc 2 (oes l))] [] = some (.lin 2 (oes l), []) := by
  rw [xq_fn G rfl euphroelaw22_options.g _ _ rfl]
  have hM := hmax
  have L := lpFor (G := G) (kill := [6]) (body := euphroelaw22_options.l0) (fun i => [.v (.slc 2 (oes l)), .nils 2, accG 2 (oes (l.take i)), .v (.slc 2 (oes l)), .v (.int .i64 (l.length : Nat)), .v (.int .i64 i), .undef]) (fun _ => [[]]) l.length
    (fun i hi => by
      have hx := oes_at (List.getElem?_eq_getElem hi)
      have ha := ac_app 2 (oes (l.take i)) 32 [oe l[i]] (by simp) (by rw [oes_len]; simp; omega)
      have he : oes (l.take i) ++ [oe l[i]] = oes (l.take (i + 1)) := by rw [take_succ hi, ← oes_app]; rfl
      rw [he] at ha
      simp -implicitDefEqProofs (disch := omega) only [euphroelaw22_options.l0, oes_len, hx, ha, go_sem, reduceIte, Nat.reduceAdd, Nat.reduceSub, Nat.reduceMul, Nat.reduceLeDiff, Nat.reduceLT, Nat.reduceEqDiff, Int.reduceToNat, Int.reduceLT, Int.reduceLE, Int.reduceEq, Int.reduceNe, Int.reduceAdd, Int.reduceSub, Int.reduceMul, Int.reduceNeg, Int.reduceBEq, Int.reduceBNe, reduceCtorEq, dreduceIte, ac_x, ac_t, setW_s, setW_0, ac_cp, ac_cpw, ac_lenw, ac_ret, ac_pop, ac_popw, cl_cp, oWS, oW8, oW16, oW32, oW64, oLtT, oLtF, oLeT, oLeF, oNLtT, oNLtF, oNLeT, oNLeF, oEqT, oEqF, oNEqT, oNEqF, oBeqT, oBeqF, oBneT, oBneF, Int.natCast_add, Int.cast_ofNat_Int, Int.toNat_natCast, List.take_length, rndE_eq, rnd_n, rnd_r, rnd_e]) (by simp -implicitDefEqProofs (disch := omega) only [euphroelaw22_options.l0, go_sem, reduceIte, Nat.reduceAdd, Nat.reduceSub, Nat.reduceMul, Nat.reduceLeDiff, Nat.reduceLT, Nat.reduceEqDiff, Int.reduceToNat, Int.reduceLT, Int.reduceLE, Int.reduceEq, Int.reduceNe, Int.reduceAdd, Int.reduceSub, Int.reduceMul, Int.reduceNeg, Int.reduceBEq, Int.reduceBNe, reduceCtorEq, dreduceIte, ac_x, ac_t, setW_s, setW_0, ac_cp, ac_cpw, ac_lenw, ac_ret, ac_pop, ac_popw, cl_cp, oWS, oW8, oW16, oW32, oW64, oLtT, oLtF, oLeT, oLeF, oNLtT, oNLtF, oNLeT, oNLeF, oEqT, oEqF, oNEqT, oNEqF, oBeqT, oBeqF, oBneT, oBneF, Int.natCast_add, Int.cast_ofNat_Int, Int.toNat_natCast, List.take_length, rndE_eq, rnd_n, rnd_r, rnd_e]; rfl)
  simp only [oes_nil, z0, Int.cast_ofNat_Int, List.take_zero, List.map_nil, List.drop_zero, accN, b8_nil, Int.sub_zero, Int.add_zero, Int.zero_add, Nat.zero_add, Nat.sub_zero, List.nil_append, List.append_nil] at L
  simp -implicitDefEqProofs (disch := omega) only [euphroelaw22_options.s, oes_len, L, List.take_length, go_sem, reduceIte, Nat.reduceAdd, Nat.reduceSub, Nat.reduceMul, Nat.reduceLeDiff, Nat.reduceLT, Nat.reduceEqDiff, Int.reduceToNat, Int.reduceLT, Int.reduceLE, Int.reduceEq, Int.reduceNe, Int.reduceAdd, Int.reduceSub, Int.reduceMul, Int.reduceNeg, Int.reduceBEq, Int.reduceBNe, reduceCtorEq, dreduceIte, ac_x, ac_t, setW_s, setW_0, ac_cp, ac_cpw, ac_lenw, ac_ret, ac_pop, ac_popw, cl_cp, oWS, oW8, oW16, oW32, oW64, oLtT, oLtF, oLeT, oLeF, oNLtT, oNLtF, oNLeT, oNLeF, oEqT, oEqF, oNEqT, oNEqF, oBeqT, oBeqF, oBneT, oBneF, Int.natCast_add, Int.cast_ofNat_Int, Int.toNat_natCast, List.take_length, rndE_eq, rnd_n, rnd_r, rnd_e]
def confB (code : Int) : Bool := decide (1 ≤ code) && decide (code ≤ 4)
theorem c_isConf (code : Int) : run G 111 [.v (.int .u8 code)] [] = some (.v (.bool (confB code)), []) := by
  rw [xq_fn G rfl ctl_isConf.g _ _ rfl]
  unfold confB
  by_cases h1 : 1 ≤ code
  · simp -implicitDefEqProofs (disch := omega) only [ctl_isConf.s, go_sem, reduceIte, Nat.reduceAdd, Nat.reduceSub, Nat.reduceMul, Nat.reduceLeDiff, Nat.reduceLT, Nat.reduceEqDiff, Int.reduceToNat, Int.reduceLT, Int.reduceLE, Int.reduceEq, Int.reduceNe, Int.reduceAdd, Int.reduceSub, Int.reduceMul, Int.reduceNeg, Int.reduceBEq, Int.reduceBNe, reduceCtorEq, dreduceIte, ac_x, ac_t, setW_s, setW_0, ac_cp, ac_cpw, ac_lenw, ac_ret, ac_pop, ac_popw, cl_cp, oWS, oW8, oW16, oW32, oW64, oLtT, oLtF, oLeT, oLeF, oNLtT, oNLtF, oNLeT, oNLeF, oEqT, oEqF, oNEqT, oNEqF, oBeqT, oBeqF, oBneT, oBneF, Int.natCast_add, Int.cast_ofNat_Int, Int.toNat_natCast, List.take_length, rndE_eq, rnd_n, rnd_r, rnd_e]
  · simp -implicitDefEqProofs (disch := omega) only [ctl_isConf.s, go_sem, reduceIte, Nat.reduceAdd, Nat.reduceSub, Nat.reduceMul, Nat.reduceLeDiff, Nat.reduceLT, Nat.reduceEqDiff, Int.reduceToNat, Int.reduceLT, Int.reduceLE, Int.reduceEq, Int.reduceNe, Int.reduceAdd, Int.reduceSub, Int.reduceMul, Int.reduceNeg, Int.reduceBEq, Int.reduceBNe, reduceCtorEq, dreduceIte, ac_x, ac_t, setW_s, setW_0, ac_cp, ac_cpw, ac_lenw, ac_ret, ac_pop, ac_popw, cl_cp, oWS, oW8, oW16, oW32, oW64, oLtT, oLtF, oLeT, oLeF, oNLtT, oNLtF, oNLeT, oNLeF, oEqT, oEqF, oNEqT, oNEqF, oBeqT, oBeqF, oBneT, oBneF, Int.natCast_add, Int.cast_ofNat_Int, Int.toNat_natCast, List.take_length, rndE_eq, rnd_n, rnd_r, rnd_e]
theorem c_rconf1 (code : Int) : run G 112 [.v (.int .u8 code)] [] = some (.v (.bool (confB code)), []) := by
  rw [xq_fn G rfl euphroeref22_conf.g _ _ rfl]
  unfold confB
  by_cases h1 : 1 ≤ code
  · simp -implicitDefEqProofs (disch := omega) only [euphroeref22_conf.s, go_sem, reduceIte, Nat.reduceAdd, Nat.reduceSub, Nat.reduceMul, Nat.reduceLeDiff, Nat.reduceLT, Nat.reduceEqDiff, Int.reduceToNat, Int.reduceLT, Int.reduceLE, Int.reduceEq, Int.reduceNe, Int.reduceAdd, Int.reduceSub, Int.reduceMul, Int.reduceNeg, Int.reduceBEq, Int.reduceBNe, reduceCtorEq, dreduceIte, ac_x, ac_t, setW_s, setW_0, ac_cp, ac_cpw, ac_lenw, ac_ret, ac_pop, ac_popw, cl_cp, oWS, oW8, oW16, oW32, oW64, oLtT, oLtF, oLeT, oLeF, oNLtT, oNLtF, oNLeT, oNLeF, oEqT, oEqF, oNEqT, oNEqF, oBeqT, oBeqF, oBneT, oBneF, Int.natCast_add, Int.cast_ofNat_Int, Int.toNat_natCast, List.take_length, rndE_eq, rnd_n, rnd_r, rnd_e]
  · simp -implicitDefEqProofs (disch := omega) only [euphroeref22_conf.s, go_sem, reduceIte, Nat.reduceAdd, Nat.reduceSub, Nat.reduceMul, Nat.reduceLeDiff, Nat.reduceLT, Nat.reduceEqDiff, Int.reduceToNat, Int.reduceLT, Int.reduceLE, Int.reduceEq, Int.reduceNe, Int.reduceAdd, Int.reduceSub, Int.reduceMul, Int.reduceNeg, Int.reduceBEq, Int.reduceBNe, reduceCtorEq, dreduceIte, ac_x, ac_t, setW_s, setW_0, ac_cp, ac_cpw, ac_lenw, ac_ret, ac_pop, ac_popw, cl_cp, oWS, oW8, oW16, oW32, oW64, oLtT, oLtF, oLeT, oLeF, oNLtT, oNLtF, oNLeT, oNLeF, oEqT, oEqF, oNEqT, oNEqF, oBeqT, oBeqF, oBneT, oBneF, Int.natCast_add, Int.cast_ofNat_Int, Int.toNat_natCast, List.take_length, rndE_eq, rnd_n, rnd_r, rnd_e]
def confR (code id : Int) (l : List Opt) : Ctl × Int := if confB code = false then (noC, 9) else if (layR l).2 = 0 then ((code, id, (layR l).1), 0) else (noC, (layR l).2)
theorem c_conf (code id : Int) (l : List Opt) (hn : l.length ≤ 40) : run G 74 [.v (.int .u8 code), .v (.int .u8 id), .v (.slc 2 (oes l))] [] = some (.tup [.v (cv (confR code id l).1), .v (.int .i64 (confR code id l).2)], []) := by
  rw [xq_fn G rfl ctl_Conf.g _ _ rfl]
  unfold confR
  have e := c_isConf code
  have k := lay53 l hn
  cases h : confB code with
  | false => rw [h] at e; rw [if_pos rfl]; simp -implicitDefEqProofs (disch := omega) only [ctl_Conf.s, e, cv, noC, b8_nil, go_sem, reduceIte, Nat.reduceAdd, Nat.reduceSub, Nat.reduceMul, Nat.reduceLeDiff, Nat.reduceLT, Nat.reduceEqDiff, Int.reduceToNat, Int.reduceLT, Int.reduceLE, Int.reduceEq, Int.reduceNe, Int.reduceAdd, Int.reduceSub, Int.reduceMul, Int.reduceNeg, Int.reduceBEq, Int.reduceBNe, reduceCtorEq, dreduceIte, ac_x, ac_t, setW_s, setW_0, ac_cp, ac_cpw, ac_lenw, ac_ret, ac_pop, ac_popw, cl_cp, oWS, oW8, oW16, oW32, oW64, oLtT, oLtF, oLeT, oLeF, oNLtT, oNLtF, oNLeT, oNLeF, oEqT, oEqF, oNEqT, oNEqF, oBeqT, oBeqF, oBneT, oBneF, Int.natCast_add, Int.cast_ofNat_Int, Int.toNat_natCast, List.take_length, rndE_eq, rnd_n, rnd_r, rnd_e]
  | true =>
    rw [h] at e
    rw [if_neg (by decide)]
    by_cases h2 : (layR l).2 = 0
    · rw [if_pos h2]; rw [h2] at k; simp -implicitDefEqProofs (disch := omega) only [ctl_Conf.s, e, k, cv, go_sem, reduceIte, Nat.reduceAdd, Nat.reduceSub, Nat.reduceMul, Nat.reduceLeDiff, Nat.reduceLT, Nat.reduceEqDiff, Int.reduceToNat, Int.reduceLT, Int.reduceLE, Int.reduceEq, Int.reduceNe, Int.reduceAdd, Int.reduceSub, Int.reduceMul, Int.reduceNeg, Int.reduceBEq, Int.reduceBNe, reduceCtorEq, dreduceIte, ac_x, ac_t, setW_s, setW_0, ac_cp, ac_cpw, ac_lenw, ac_ret, ac_pop, ac_popw, cl_cp, oWS, oW8, oW16, oW32, oW64, oLtT, oLtF, oLeT, oLeF, oNLtT, oNLtF, oNLeT, oNLeF, oEqT, oEqF, oNEqT, oNEqF, oBeqT, oBeqF, oBneT, oBneF, Int.natCast_add, Int.cast_ofNat_Int, Int.toNat_natCast, List.take_length, rndE_eq, rnd_n, rnd_r, rnd_e]
    · rw [if_neg h2]; simp -implicitDefEqProofs (disch := omega) only [ctl_Conf.s, e, k, cv, noC, b8_nil, go_sem, reduceIte, Nat.reduceAdd, Nat.reduceSub, Nat.reduceMul, Nat.reduceLeDiff, Nat.reduceLT, Nat.reduceEqDiff, Int.reduceToNat, Int.reduceLT, Int.reduceLE, Int.reduceEq, Int.reduceNe, Int.reduceAdd, Int.reduceSub, Int.reduceMul, Int.reduceNeg, Int.reduceBEq, Int.reduceBNe, reduceCtorEq, dreduceIte, ac_x, ac_t, setW_s, setW_0, ac_cp, ac_cpw, ac_lenw, ac_ret, ac_pop, ac_popw, cl_cp, oWS, oW8, oW16, oW32, oW64, oLtT, oLtF, oLeT, oLeF, oNLtT, oNLtF, oNLeT, oNLeF, oEqT, oEqF, oNEqT, oNEqF, oBeqT, oBeqF, oBneT, oBneF, Int.natCast_add, Int.cast_ofNat_Int, Int.toNat_natCast, List.take_length, rndE_eq, rnd_n, rnd_r, rnd_e]
theorem c_rconf (code id : Int) (l : List Opt) (hn : l.length ≤ 40) : run G 76 [.v (.int .u8 code), .v (.int .u8 id), .v (.slc 2 (oes l))] [] = some (.tup [.v (cv (confR code id l).1), .v (.int .i64 (confR code id l).2)], []) := by
  rw [xq_fn G rfl euphroeref22_Conf.g _ _ rfl]
  unfold confR
  have e := c_rconf1 code
  have k := lay55 l hn
  cases h : confB code with
  | false => rw [h] at e; rw [if_pos rfl]; simp -implicitDefEqProofs (disch := omega) only [euphroeref22_Conf.s, e, cv, noC, b8_nil, go_sem, reduceIte, Nat.reduceAdd, Nat.reduceSub, Nat.reduceMul, Nat.reduceLeDiff, Nat.reduceLT, Nat.reduceEqDiff, Int.reduceToNat, Int.reduceLT, Int.reduceLE, Int.reduceEq, Int.reduceNe, Int.reduceAdd, Int.reduceSub, Int.reduceMul, Int.reduceNeg, Int.reduceBEq, Int.reduceBNe, reduceCtorEq, dreduceIte, ac_x, ac_t, setW_s, setW_0, ac_cp, ac_cpw, ac_lenw, ac_ret, ac_pop, ac_popw, cl_cp, oWS, oW8, oW16, oW32, oW64, oLtT, oLtF, oLeT, oLeF, oNLtT, oNLtF, oNLeT, oNLeF, oEqT, oEqF, oNEqT, oNEqF, oBeqT, oBeqF, oBneT, oBneF, Int.natCast_add, Int.cast_ofNat_Int, Int.toNat_natCast, List.take_length, rndE_eq, rnd_n, rnd_r, rnd_e]
  | true =>
    rw [h] at e
    rw [if_neg (by decide)]
    by_cases h2 : (layR l).2 = 0
    · rw [if_pos h2]; rw [h2] at k; simp -implicitDefEqProofs (disch := omega) only [euphroeref22_Conf.s, e, k, cv, go_sem, reduceIte, Nat.reduceAdd, Nat.reduceSub, Nat.reduceMul, Nat.reduceLeDiff, Nat.reduceLT, Nat.reduceEqDiff, Int.reduceToNat, Int.reduceLT, Int.reduceLE, Int.reduceEq, Int.reduceNe, Int.reduceAdd, Int.reduceSub, Int.reduceMul, Int.reduceNeg, Int.reduceBEq, Int.reduceBNe, reduceCtorEq, dreduceIte, ac_x, ac_t, setW_s, setW_0, ac_cp, ac_cpw, ac_lenw, ac_ret, ac_pop, ac_popw, cl_cp, oWS, oW8, oW16, oW32, oW64, oLtT, oLtF, oLeT, oLeF, oNLtT, oNLtF, oNLeT, oNLeF, oEqT, oEqF, oNEqT, oNEqF, oBeqT, oBeqF, oBneT, oBneF, Int.natCast_add, Int.cast_ofNat_Int, Int.toNat_natCast, List.take_length, rndE_eq, rnd_n, rnd_r, rnd_e]
    · rw [if_neg h2]; simp -implicitDefEqProofs (disch := omega) only [euphroeref22_Conf.s, e, k, cv, noC, b8_nil, go_sem, reduceIte, Nat.reduceAdd, Nat.reduceSub, Nat.reduceMul, Nat.reduceLeDiff, Nat.reduceLT, Nat.reduceEqDiff, Int.reduceToNat, Int.reduceLT, Int.reduceLE, Int.reduceEq, Int.reduceNe, Int.reduceAdd, Int.reduceSub, Int.reduceMul, Int.reduceNeg, Int.reduceBEq, Int.reduceBNe, reduceCtorEq, dreduceIte, ac_x, ac_t, setW_s, setW_0, ac_cp, ac_cpw, ac_lenw, ac_ret, ac_pop, ac_popw, cl_cp, oWS, oW8, oW16, oW32, oW64, oLtT, oLtF, oLeT, oLeF, oNLtT, oNLtF, oNLeT, oNLeF, oEqT, oEqF, oNEqT, oNEqF, oBeqT, oBeqF, oBneT, oBneF, Int.natCast_add, Int.cast_ofNat_Int, Int.toNat_natCast, List.take_length, rndE_eq, rnd_n, rnd_r, rnd_e]
def optsR (c : Ctl) : List Opt × Int := if confB c.1 = false then ([], 9) else prs 32 [] c.2.2
theorem c_opts (c : Ctl) (hb : okB c.2.2) (hl : c.2.2.length ≤ 10000) : run G 77 [.v (cv c)] [] = some (.tup [.lin 2 (oes (optsR c).1), .v (.int .i64 (optsR c).2)], []) := by
  rw [xq_fn G rfl ctl_Options.g _ _ rfl]
  unfold optsR
  have e := c_isConf c.1
  have k := parse56 c.2.2 hb hl
  cases h : confB c.1 with
  | false => rw [h] at e; rw [if_pos rfl]; simp -implicitDefEqProofs (disch := omega) only [ctl_Options.s, e, cv, oes_nil, go_sem, reduceIte, Nat.reduceAdd, Nat.reduceSub, Nat.reduceMul, Nat.reduceLeDiff, Nat.reduceLT, Nat.reduceEqDiff, Int.reduceToNat, Int.reduceLT, Int.reduceLE, Int.reduceEq, Int.reduceNe, Int.reduceAdd, Int.reduceSub, Int.reduceMul, Int.reduceNeg, Int.reduceBEq, Int.reduceBNe, reduceCtorEq, dreduceIte, ac_x, ac_t, setW_s, setW_0, ac_cp, ac_cpw, ac_lenw, ac_ret, ac_pop, ac_popw, cl_cp, oWS, oW8, oW16, oW32, oW64, oLtT, oLtF, oLeT, oLeF, oNLtT, oNLtF, oNLeT, oNLeF, oEqT, oEqF, oNEqT, oNEqF, oBeqT, oBeqF, oBneT, oBneF, Int.natCast_add, Int.cast_ofNat_Int, Int.toNat_natCast, List.take_length, rndE_eq, rnd_n, rnd_r, rnd_e]
  | true => rw [h] at e; rw [if_neg (by decide)]; simp -implicitDefEqProofs (disch := omega) only [ctl_Options.s, e, k, cv, go_sem, reduceIte, Nat.reduceAdd, Nat.reduceSub, Nat.reduceMul, Nat.reduceLeDiff, Nat.reduceLT, Nat.reduceEqDiff, Int.reduceToNat, Int.reduceLT, Int.reduceLE, Int.reduceEq, Int.reduceNe, Int.reduceAdd, Int.reduceSub, Int.reduceMul, Int.reduceNeg, Int.reduceBEq, Int.reduceBNe, reduceCtorEq, dreduceIte, ac_x, ac_t, setW_s, setW_0, ac_cp, ac_cpw, ac_lenw, ac_ret, ac_pop, ac_popw, cl_cp, oWS, oW8, oW16, oW32, oW64, oLtT, oLtF, oLeT, oLeF, oNLtT, oNLtF, oNLeT, oNLeF, oEqT, oEqF, oNEqT, oNEqF, oBeqT, oBeqF, oBneT, oBneF, Int.natCast_add, Int.cast_ofNat_Int, Int.toNat_natCast, List.take_length, rndE_eq, rnd_n, rnd_r, rnd_e]
theorem c_ropts (c : Ctl) (hb : okB c.2.2) (hl : c.2.2.length ≤ 10000) : run G 78 [.v (cv c)] [] = some (.tup [.lin 2 (oes (optsR c).1), .v (.int .i64 (optsR c).2)], []) := by
  rw [xq_fn G rfl euphroeref22_Options.g _ _ rfl]
  unfold optsR
  have e := c_rconf1 c.1
  have k := parse57 c.2.2 hb hl
  cases h : confB c.1 with
  | false => rw [h] at e; rw [if_pos rfl]; simp -implicitDefEqProofs (disch := omega) only [euphroeref22_Options.s, e, cv, oes_nil, go_sem, reduceIte, Nat.reduceAdd, Nat.reduceSub, Nat.reduceMul, Nat.reduceLeDiff, Nat.reduceLT, Nat.reduceEqDiff, Int.reduceToNat, Int.reduceLT, Int.reduceLE, Int.reduceEq, Int.reduceNe, Int.reduceAdd, Int.reduceSub, Int.reduceMul, Int.reduceNeg, Int.reduceBEq, Int.reduceBNe, reduceCtorEq, dreduceIte, ac_x, ac_t, setW_s, setW_0, ac_cp, ac_cpw, ac_lenw, ac_ret, ac_pop, ac_popw, cl_cp, oWS, oW8, oW16, oW32, oW64, oLtT, oLtF, oLeT, oLeF, oNLtT, oNLtF, oNLeT, oNLeF, oEqT, oEqF, oNEqT, oNEqF, oBeqT, oBeqF, oBneT, oBneF, Int.natCast_add, Int.cast_ofNat_Int, Int.toNat_natCast, List.take_length, rndE_eq, rnd_n, rnd_r, rnd_e]
  | true => rw [h] at e; rw [if_neg (by decide)]; simp -implicitDefEqProofs (disch := omega) only [euphroeref22_Options.s, e, k, cv, go_sem, reduceIte, Nat.reduceAdd, Nat.reduceSub, Nat.reduceMul, Nat.reduceLeDiff, Nat.reduceLT, Nat.reduceEqDiff, Int.reduceToNat, Int.reduceLT, Int.reduceLE, Int.reduceEq, Int.reduceNe, Int.reduceAdd, Int.reduceSub, Int.reduceMul, Int.reduceNeg, Int.reduceBEq, Int.reduceBNe, reduceCtorEq, dreduceIte, ac_x, ac_t, setW_s, setW_0, ac_cp, ac_cpw, ac_lenw, ac_ret, ac_pop, ac_popw, cl_cp, oWS, oW8, oW16, oW32, oW64, oLtT, oLtF, oLeT, oLeF, oNLtT, oNLtF, oNLeT, oNLeF, oEqT, oEqF, oNEqT, oNEqF, oBeqT, oBeqF, oBneT, oBneF, Int.natCast_add, Int.cast_ofNat_Int, Int.toNat_natCast, List.take_length, rndE_eq, rnd_n, rnd_r, rnd_e]
theorem optsR_ok (c : Ctl) (hb : okB c.2.2) : okL (optsR c).1 ∧ (optsR c).1.length ≤ 40 := by
  unfold optsR
  split
  · exact ⟨fun o h => (by cases h), by simp⟩
  · obtain ⟨k1, k2, _⟩ := prs_ok 32 [] c.2.2 hb (fun o ho => by cases ho) (fun o ho => by cases ho)
    exact ⟨k1, by simp at k2; omega⟩
theorem confR_ok (code id : Int) (l : List Opt) (h1 : 0 ≤ code ∧ code ≤ 255) (h2 : 0 ≤ id ∧ id ≤ 255) (hl : okL l) : okC (confR code id l).1 ∧ (confR code id l).1.2.2.length ≤ 10000 := by
  have n : okC noC := ⟨by decide, by decide, fun x h => (by cases h)⟩
  unfold confR
  split
  · exact ⟨n, by simp [noC]⟩
  split
  · exact ⟨⟨h1, h2, (layR_ok l hl).1⟩, (layR_ok l hl).2⟩
  · exact ⟨n, by simp [noC]⟩
abbrev coS (a b : Int) (c : Ctl) : St := [[.row [.v (.agg [.int .u8 a, .int .u8 b])], .row [.v (cv c)]]]
theorem ctlOptions (a b : Int) (l : List Opt) (c : Ctl) (ha : 0 ≤ a ∧ a ≤ 255) (hb : 0 ≤ b ∧ b ≤ 255) (hl : okL l) (hc : okC c) (hn : l.length ≤ 4611686018427387904) :
    run G 14 [.v (.agg [.int .u8 a, .int .u8 b]), .v (.slc 2 (oes l)), .v (cv c)] [] = some (.v (.bool true), []) := by
  rw [xq_fn G rfl euphroelaw22_CtlOptions.g _ _ rfl]
  have hn0 : (oes (l.take (min l.length 40))).length = min l.length 40 := by rw [oes_len, List.length_take]; omega
  have hmn : min ((l.length : Nat) : Int) 40 = ((min l.length 40 : Nat) : Int) := by omega
  let E := fun (i : Nat) => [D.v (.agg [.int .u8 a, .int .u8 b]), .v (.slc 2 (oes l)), .v (cv c), .ptr ⟨0, 0⟩ 0 0, .ptr ⟨0, 1⟩ 0 0, .v (.bool false), .v (.slc 2 (oes (l.take (min l.length 40)))), .v (.int .i64 ((min l.length 40 : Nat) : Nat)), .v (.int .i64 (i : Nat)), .undef, .undef, .undef, .undef, .undef, .undef, .undef, .undef, .undef, .undef, .undef]
  have step : ∀ i, i < min l.length 40 → (∀ h : i < l.length, (l[i]).2.length ≤ 300) → rndE G [9] euphroelaw22_CtlOptions.l0 (E i) (coS a b c) = some (.inl (E (i + 1), coS a b c)) := fun i hi h => by
    have hx : (oes (l.take (min l.length 40)))[i]? = some (oe (l[i]'(by omega))) := oes_at (by rw [List.getElem?_take_of_lt (by omega)]; exact List.getElem?_eq_getElem (by omega))
    have := h (by omega)
    simp only [E]
    simp -implicitDefEqProofs (disch := omega) only [euphroelaw22_CtlOptions.l0, hn0, b8_len, hx, go_sem, reduceIte, Nat.reduceAdd, Nat.reduceSub, Nat.reduceMul, Nat.reduceLeDiff, Nat.reduceLT, Nat.reduceEqDiff, Int.reduceToNat, Int.reduceLT, Int.reduceLE, Int.reduceEq, Int.reduceNe, Int.reduceAdd, Int.reduceSub, Int.reduceMul, Int.reduceNeg, Int.reduceBEq, Int.reduceBNe, reduceCtorEq, dreduceIte, ac_x, ac_t, setW_s, setW_0, ac_cp, ac_cpw, ac_lenw, ac_ret, ac_pop, ac_popw, cl_cp, oWS, oW8, oW16, oW32, oW64, oLtT, oLtF, oLeT, oLeF, oNLtT, oNLtF, oNLeT, oNLeF, oEqT, oEqF, oNEqT, oNEqF, oBeqT, oBeqF, oBneT, oBneF, Int.natCast_add, Int.cast_ofNat_Int, Int.toNat_natCast, List.take_length, rndE_eq, rnd_n, rnd_r, rnd_e]
  rcases first_or (fun i => ∃ h : i < l.length, 300 < (l[i]).2.length) (min l.length 40) with h | ⟨j, h1, ⟨h2, h3⟩, h4⟩
  · have L := lpFor (G := G) (kill := [9]) (body := euphroelaw22_CtlOptions.l0) E (fun _ => coS a b c) (min l.length 40) (fun i hi => step i hi (fun h5 => by have := h i hi; simp only [not_exists] at this; have := this h5; omega)) (by simp only [E]; simp -implicitDefEqProofs (disch := omega) only [euphroelaw22_CtlOptions.l0, go_sem, reduceIte, Nat.reduceAdd, Nat.reduceSub, Nat.reduceMul, Nat.reduceLeDiff, Nat.reduceLT, Nat.reduceEqDiff, Int.reduceToNat, Int.reduceLT, Int.reduceLE, Int.reduceEq, Int.reduceNe, Int.reduceAdd, Int.reduceSub, Int.reduceMul, Int.reduceNeg, Int.reduceBEq, Int.reduceBNe, reduceCtorEq, dreduceIte, ac_x, ac_t, setW_s, setW_0, ac_cp, ac_cpw, ac_lenw, ac_ret, ac_pop, ac_popw, cl_cp, oWS, oW8, oW16, oW32, oW64, oLtT, oLtF, oLeT, oLeF, oNLtT, oNLtF, oNLeT, oNLeF, oEqT, oEqF, oNEqT, oNEqF, oBeqT, oBeqF, oBneT, oBneF, Int.natCast_add, Int.cast_ofNat_Int, Int.toNat_natCast, List.take_length, rndE_eq, rnd_n, rnd_r, rnd_e]; rfl)
    simp only [E, coS, cv, z0, Int.cast_ofNat_Int, List.take_zero, List.map_nil, List.drop_zero, accN, b8_nil, Int.sub_zero, Int.add_zero, Int.zero_add, Nat.zero_add, Nat.sub_zero, List.nil_append, List.append_nil] at L
    by_cases h5 : 40 < l.length
    · simp -implicitDefEqProofs (disch := omega) only [euphroelaw22_CtlOptions.s, cv, oes_len, hmn, oes_take, hn0, L, c_alive, go_sem, reduceIte, Nat.reduceAdd, Nat.reduceSub, Nat.reduceMul, Nat.reduceLeDiff, Nat.reduceLT, Nat.reduceEqDiff, Int.reduceToNat, Int.reduceLT, Int.reduceLE, Int.reduceEq, Int.reduceNe, Int.reduceAdd, Int.reduceSub, Int.reduceMul, Int.reduceNeg, Int.reduceBEq, Int.reduceBNe, reduceCtorEq, dreduceIte, ac_x, ac_t, setW_s, setW_0, ac_cp, ac_cpw, ac_lenw, ac_ret, ac_pop, ac_popw, cl_cp, oWS, oW8, oW16, oW32, oW64, oLtT, oLtF, oLeT, oLeF, oNLtT, oNLtF, oNLeT, oNLeF, oEqT, oEqF, oNEqT, oNEqF, oBeqT, oBeqF, oBneT, oBneF, Int.natCast_add, Int.cast_ofNat_Int, Int.toNat_natCast, List.take_length, rndE_eq, rnd_n, rnd_r, rnd_e]
    by_cases h6 : 4500 < c.2.2.length
    · simp -implicitDefEqProofs (disch := omega) only [euphroelaw22_CtlOptions.s, cv, oes_len, b8_len, hmn, oes_take, hn0, L, c_alive, go_sem, reduceIte, Nat.reduceAdd, Nat.reduceSub, Nat.reduceMul, Nat.reduceLeDiff, Nat.reduceLT, Nat.reduceEqDiff, Int.reduceToNat, Int.reduceLT, Int.reduceLE, Int.reduceEq, Int.reduceNe, Int.reduceAdd, Int.reduceSub, Int.reduceMul, Int.reduceNeg, Int.reduceBEq, Int.reduceBNe, reduceCtorEq, dreduceIte, ac_x, ac_t, setW_s, setW_0, ac_cp, ac_cpw, ac_lenw, ac_ret, ac_pop, ac_popw, cl_cp, oWS, oW8, oW16, oW32, oW64, oLtT, oLtF, oLeT, oLeF, oNLtT, oNLtF, oNLeT, oNLeF, oEqT, oEqF, oNEqT, oNEqF, oBeqT, oBeqF, oBneT, oBneF, Int.natCast_add, Int.cast_ofNat_Int, Int.toNat_natCast, List.take_length, rndE_eq, rnd_n, rnd_r, rnd_e]
    have t1 := c_options l (by omega)
    have k1 := c_conf a b l (by omega)
    have k2 := c_rconf a b l (by omega)
    have t2 := c_theirs c
    have o1 := c_opts c hc.2.2 (by omega)
    have o2 := c_ropts c hc.2.2 (by omega)
    obtain ⟨q1, q2⟩ := confR_ok a b l ha hb hl
    have o3 := c_opts (confR a b l).1 q1.2.2 q2
    have t3 := c_theirs (confR a b l).1
    have s1 := c_same (confR a b l).1 (confR a b l).1 q1 q1
    rw [eqC_self] at s1
    obtain ⟨q3, q4⟩ := optsR_ok c hc.2.2
    have t4 := c_options (optsR c).1 q4
    have s2 := same58 (optsR c).1 (optsR c).1 q3 q3 q4
    rw [beq_self_eq_true] at s2
    by_cases h7 : (confR a b l).2 = 0
    · have e : optsR (confR a b l).1 = (l, 0) := by
        unfold confR at h7 ⊢
        split at h7
        · simp at h7
        · rename_i g1
          rw [if_neg g1]
          split at h7
          · rename_i g2
            rw [if_pos g2]
            simp only [optsR]
            rw [if_neg g1]
            exact prs_lay l g2
          · rename_i g2; exact absurd h7 g2
      have s3 := same58 l l hl hl (by omega)
      rw [beq_self_eq_true] at s3
      rw [e] at o3
      rw [h7] at k1 k2
      simp -implicitDefEqProofs (disch := omega) only [euphroelaw22_CtlOptions.s, cv, oes_len, b8_len, hmn, oes_take, hn0, L, c_alive, t1, k1, k2, t2, o1, o2, o3, t3, s1, t4, s2, s3, go_sem, reduceIte, Nat.reduceAdd, Nat.reduceSub, Nat.reduceMul, Nat.reduceLeDiff, Nat.reduceLT, Nat.reduceEqDiff, Int.reduceToNat, Int.reduceLT, Int.reduceLE, Int.reduceEq, Int.reduceNe, Int.reduceAdd, Int.reduceSub, Int.reduceMul, Int.reduceNeg, Int.reduceBEq, Int.reduceBNe, reduceCtorEq, dreduceIte, ac_x, ac_t, setW_s, setW_0, ac_cp, ac_cpw, ac_lenw, ac_ret, ac_pop, ac_popw, cl_cp, oWS, oW8, oW16, oW32, oW64, oLtT, oLtF, oLeT, oLeF, oNLtT, oNLtF, oNLeT, oNLeF, oEqT, oEqF, oNEqT, oNEqF, oBeqT, oBeqF, oBneT, oBneF, Int.natCast_add, Int.cast_ofNat_Int, Int.toNat_natCast, List.take_length, rndE_eq, rnd_n, rnd_r, rnd_e]
    · simp -implicitDefEqProofs (disch := omega) only [euphroelaw22_CtlOptions.s, cv, oes_len, b8_len, hmn, oes_take, hn0, L, c_alive, t1, k1, k2, t2, o1, o2, o3, t3, s1, t4, s2, go_sem, reduceIte, Nat.reduceAdd, Nat.reduceSub, Nat.reduceMul, Nat.reduceLeDiff, Nat.reduceLT, Nat.reduceEqDiff, Int.reduceToNat, Int.reduceLT, Int.reduceLE, Int.reduceEq, Int.reduceNe, Int.reduceAdd, Int.reduceSub, Int.reduceMul, Int.reduceNeg, Int.reduceBEq, Int.reduceBNe, reduceCtorEq, dreduceIte, ac_x, ac_t, setW_s, setW_0, ac_cp, ac_cpw, ac_lenw, ac_ret, ac_pop, ac_popw, cl_cp, oWS, oW8, oW16, oW32, oW64, oLtT, oLtF, oLeT, oLeF, oNLtT, oNLtF, oNLeT, oNLeF, oEqT, oEqF, oNEqT, oNEqF, oBeqT, oBeqF, oBneT, oBneF, Int.natCast_add, Int.cast_ofNat_Int, Int.toNat_natCast, List.take_length, rndE_eq, rnd_n, rnd_r, rnd_e]
  · have L := lpFor (G := G) (kill := [9]) (body := euphroelaw22_CtlOptions.l0) E (fun _ => coS a b c) j (fun i hi => step i (by omega) (fun h5 => by have := h4 i hi; simp only [not_exists] at this; have := this h5; omega)) (by
      have hx : (oes (l.take (min l.length 40)))[j]? = some (oe l[j]) := oes_at (by rw [List.getElem?_take_of_lt (by omega)]; exact List.getElem?_eq_getElem h2)
      simp only [E]
      simp -implicitDefEqProofs (disch := omega) only [euphroelaw22_CtlOptions.l0, hn0, b8_len, hx, c_alive, go_sem, reduceIte, Nat.reduceAdd, Nat.reduceSub, Nat.reduceMul, Nat.reduceLeDiff, Nat.reduceLT, Nat.reduceEqDiff, Int.reduceToNat, Int.reduceLT, Int.reduceLE, Int.reduceEq, Int.reduceNe, Int.reduceAdd, Int.reduceSub, Int.reduceMul, Int.reduceNeg, Int.reduceBEq, Int.reduceBNe, reduceCtorEq, dreduceIte, ac_x, ac_t, setW_s, setW_0, ac_cp, ac_cpw, ac_lenw, ac_ret, ac_pop, ac_popw, cl_cp, oWS, oW8, oW16, oW32, oW64, oLtT, oLtF, oLeT, oLeF, oNLtT, oNLtF, oNLeT, oNLeF, oEqT, oEqF, oNEqT, oNEqF, oBeqT, oBeqF, oBneT, oBneF, Int.natCast_add, Int.cast_ofNat_Int, Int.toNat_natCast, List.take_length, rndE_eq, rnd_n, rnd_r, rnd_e]; rfl)
    simp only [E, coS, cv, z0, Int.cast_ofNat_Int, List.take_zero, List.map_nil, List.drop_zero, accN, b8_nil, Int.sub_zero, Int.add_zero, Int.zero_add, Nat.zero_add, Nat.sub_zero, List.nil_append, List.append_nil] at L
    simp -implicitDefEqProofs (disch := omega) only [euphroelaw22_CtlOptions.s, cv, oes_len, hmn, oes_take, hn0, L, c_alive, go_sem, reduceIte, Nat.reduceAdd, Nat.reduceSub, Nat.reduceMul, Nat.reduceLeDiff, Nat.reduceLT, Nat.reduceEqDiff, Int.reduceToNat, Int.reduceLT, Int.reduceLE, Int.reduceEq, Int.reduceNe, Int.reduceAdd, Int.reduceSub, Int.reduceMul, Int.reduceNeg, Int.reduceBEq, Int.reduceBNe, reduceCtorEq, dreduceIte, ac_x, ac_t, setW_s, setW_0, ac_cp, ac_cpw, ac_lenw, ac_ret, ac_pop, ac_popw, cl_cp, oWS, oW8, oW16, oW32, oW64, oLtT, oLtF, oLeT, oLeF, oNLtT, oNLtF, oNLeT, oNLeF, oEqT, oEqF, oNEqT, oNEqF, oBeqT, oBeqF, oBneT, oBneF, Int.natCast_add, Int.cast_ofNat_Int, Int.toNat_natCast, List.take_length, rndE_eq, rnd_n, rnd_r, rnd_e]
end Go.Q
