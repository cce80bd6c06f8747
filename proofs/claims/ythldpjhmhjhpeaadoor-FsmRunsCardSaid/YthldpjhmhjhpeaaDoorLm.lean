/- The automaton: Run; the laws FsmLayers, FsmCloses. No condition. -/
import Derived.Test.YthldpjhmhjhpeaaDoorLg
set_option maxRecDepth 100000
set_option linter.unusedSimpArgs false
set_option linter.unusedVariables false
namespace Go.Q
open SOp SCode
attribute [local congr] bind_c map_c

theorem i64s_take (l : List Int) (n : Nat) : (i64s l).take n = i64s (l.take n) := by simp [i64s]
theorem ac_app0 (z b : Nat) (l : List V) (h : l.length * b ≤ maxB) : opApp z b [] (accG z l) = some (match l with | [] => .lin z [] | x :: xs => .lin z (x :: xs)) := by
  cases l with
  | nil => simp [accG, opApp]
  | cons x xs =>
    simp only [accG, opApp, List.length_nil, Nat.add_zero, h, and_self, if_true, List.append_nil]
/-! ### FsmLayers -/
theorem bqTT : (true == true) = true := rfl
theorem bqTF : (true == false) = false := rfl
theorem bqFT : (false == true) = false := rfl
theorem bqFF : (false == false) = true := rfl
def laR (s : Int) (l : List Int) : Nat → Int
  | 0 => s
  | i + 1 => match l[i]? with
    | some e => if (nxR (laR s l i) e).2.2 = 0 then (nxR (laR s l i) e).1 else laR s l i
    | none => laR s l i
theorem laR_succ {s : Int} {l : List Int} {i : Nat} (h : i < l.length) : laR s l (i + 1) = if (nxR (laR s l i) l[i]).2.2 = 0 then (nxR (laR s l i) l[i]).1 else laR s l i := by
  rw [laR, List.getElem?_eq_getElem h]
theorem ct_succ {a : List Int} {j : Nat} (h : j < a.length) (k : Int) : (a.take (j + 1)).contains k = ((a.take j).contains k || (a[j] == k)) := by
  rw [take_succ h]
  simp only [List.contains_append, List.contains_cons, List.contains_nil, Bool.or_false]
  congr 1
  by_cases e : k = a[j]
  · subst e; simp
  · rw [beq_ne e, beq_ne (Ne.symm e)]
theorem la_inner (s at_ e n : Int) (l a : List Int) (i : Nat) (ha : a.length ≤ 4) :
    ex G (.loop [17] euphroelaw23_FsmLayers.l1) [iv s, .v (.slc 1 (i64s l)), .v (.bool false), iv at_, .v (.slc 1 (i64s l)), iv (l.length : Nat), iv i, iv e, iv n, .lin 1 (i64s a), iv 0, .v (.bool false), .v (.bool false), .v (.bool false), .v (.slc 1 (i64s a)), iv (a.length : Nat), iv 0, .undef] [[], []] =
      some (.exit 2, [iv s, .v (.slc 1 (i64s l)), .v (.bool false), iv at_, .v (.slc 1 (i64s l)), iv (l.length : Nat), iv i, iv e, iv n, .lin 1 (i64s a), iv 0, .v (.bool (a.contains 1)), .v (.bool (a.contains 2)), .v (.bool (a.contains 7)), .v (.slc 1 (i64s a)), iv (a.length : Nat), iv (a.length : Nat), .undef], [[], []]) := by
  have L := lpFor (G := G) (kill := [17]) (body := euphroelaw23_FsmLayers.l1) (fun j => [iv s, .v (.slc 1 (i64s l)), .v (.bool false), iv at_, .v (.slc 1 (i64s l)), iv (l.length : Nat), iv i, iv e, iv n, .lin 1 (i64s a), iv 0, .v (.bool ((a.take j).contains 1)), .v (.bool ((a.take j).contains 2)), .v (.bool ((a.take j).contains 7)), .v (.slc 1 (i64s a)), iv (a.length : Nat), iv j, .undef]) (fun _ => [[], []]) a.length
    (fun j hj => by
      have hx := i64s_at (List.getElem?_eq_getElem hj)
      rw [ct_succ hj, ct_succ hj, ct_succ hj]
      generalize (a.take j).contains 1 = u1
      generalize (a.take j).contains 2 = u2
      generalize (a.take j).contains 7 = u7
      cases u1 <;> cases u2 <;> cases u7 <;> simp -implicitDefEqProofs (disch := omega) only [euphroelaw23_FsmLayers.l1, iv, i64s_len, hx, go_sem, reduceIte, Nat.reduceAdd, Nat.reduceSub, Nat.reduceMul, Nat.reduceLeDiff, Nat.reduceLT, Nat.reduceEqDiff, Int.reduceToNat, Int.reduceLT, Int.reduceLE, Int.reduceEq, Int.reduceNe, Int.reduceAdd, Int.reduceSub, Int.reduceMul, Int.reduceNeg, Int.reduceBEq, Int.reduceBNe, reduceCtorEq, dreduceIte, ac_x, ac_t, setW_s, setW_0, ac_cp, ac_cpw, ac_lenw, ac_ret, ac_pop, ac_popw, cl_cp, oWS, oW8, oW16, oW32, oW64, oLtT, oLtF, oLeT, oLeF, oNLtT, oNLtF, oNLeT, oNLeF, oEqT, oEqF, oNEqT, oNEqF, oBeqT, oBeqF, oBneT, oBneF, Int.natCast_add, Int.cast_ofNat_Int, Int.toNat_natCast, List.take_length, rndE_eq, rnd_n, rnd_r, rnd_e]) (by simp -implicitDefEqProofs (disch := omega) only [euphroelaw23_FsmLayers.l1, iv, go_sem, reduceIte, Nat.reduceAdd, Nat.reduceSub, Nat.reduceMul, Nat.reduceLeDiff, Nat.reduceLT, Nat.reduceEqDiff, Int.reduceToNat, Int.reduceLT, Int.reduceLE, Int.reduceEq, Int.reduceNe, Int.reduceAdd, Int.reduceSub, Int.reduceMul, Int.reduceNeg, Int.reduceBEq, Int.reduceBNe, reduceCtorEq, dreduceIte, ac_x, ac_t, setW_s, setW_0, ac_cp, ac_cpw, ac_lenw, ac_ret, ac_pop, ac_popw, cl_cp, oWS, oW8, oW16, oW32, oW64, oLtT, oLtF, oLeT, oLeF, oNLtT, oNLtF, oNLeT, oNLeF, oEqT, oEqF, oNEqT, oNEqF, oBeqT, oBeqF, oBneT, oBneF, Int.natCast_add, Int.cast_ofNat_Int, Int.toNat_natCast, List.take_length, rndE_eq, rnd_n, rnd_r, rnd_e]; rfl)
  simp only [iv, List.contains_nil, z0, Int.cast_ofNat_Int, List.take_zero, List.map_nil, List.drop_zero, accN, b8_nil, Int.sub_zero, Int.add_zero, Int.zero_add, Nat.zero_add, Nat.sub_zero, List.nil_append, List.append_nil] at L
  exact L
theorem fsmLayers (s : Int) (l : List Int) (hn : l.length ≤ 4611686018427387904) : run G 4 [iv s, .v (.slc 1 (i64s l))] [] = some (.v (.bool true), []) := by
  rw [xq_fn G rfl euphroelaw23_FsmLayers.g _ _ rfl]
  by_cases h200 : 200 < l.length
  · simp -implicitDefEqProofs (disch := omega) only [euphroelaw23_FsmLayers.s, iv, i64s_len, f_alive, go_sem, reduceIte, Nat.reduceAdd, Nat.reduceSub, Nat.reduceMul, Nat.reduceLeDiff, Nat.reduceLT, Nat.reduceEqDiff, Int.reduceToNat, Int.reduceLT, Int.reduceLE, Int.reduceEq, Int.reduceNe, Int.reduceAdd, Int.reduceSub, Int.reduceMul, Int.reduceNeg, Int.reduceBEq, Int.reduceBNe, reduceCtorEq, dreduceIte, ac_x, ac_t, setW_s, setW_0, ac_cp, ac_cpw, ac_lenw, ac_ret, ac_pop, ac_popw, cl_cp, oWS, oW8, oW16, oW32, oW64, oLtT, oLtF, oLeT, oLeF, oNLtT, oNLtF, oNLeT, oNLeF, oEqT, oEqF, oNEqT, oNEqF, oBeqT, oBeqF, oBneT, oBneF, Int.natCast_add, Int.cast_ofNat_Int, Int.toNat_natCast, List.take_length, rndE_eq, rnd_n, rnd_r, rnd_e]
  · have L := lpFor (G := G) (kill := [7, 8, 9, 10, 11, 12, 13, 14, 15, 16, 17]) (body := euphroelaw23_FsmLayers.l0) (fun i => [iv s, .v (.slc 1 (i64s l)), .v (.bool false), iv (laR s l i), .v (.slc 1 (i64s l)), iv (l.length : Nat), iv i, .undef, .undef, .undef, .undef, .undef, .undef, .undef, .undef, .undef, .undef, .undef]) (fun _ => [[]]) l.length
      (fun i hi => by
        have hx := i64s_at (List.getElem?_eq_getElem hi)
        have n := f_next (laR s l i) l[i]
        have nl := nx_len (laR s l i) l[i]
        have ng := @nx_good (laR s l i) l[i]
        rw [laR_succ hi]
        unfold nxD at n
        generalize laR s l i = a at *
        generalize l[i] = e at *
        generalize nxR a e = x at *
        by_cases hb : x.2.2 = 0
        · obtain ⟨g1, g2, g7⟩ := ng hb
          have I := la_inner s a e x.1 l x.2.1 i nl
          rw [g1, g2] at I
          rw [hb] at n
          rw [if_pos hb]
          simp only [iv, z0, Int.cast_ofNat_Int, List.take_zero, List.map_nil, List.drop_zero, accN, b8_nil, Int.sub_zero, Int.add_zero, Int.zero_add, Nat.zero_add, Nat.sub_zero, List.nil_append, List.append_nil] at I
          simp only [iv, z0, Int.cast_ofNat_Int, List.take_zero, List.map_nil, List.drop_zero, accN, b8_nil, Int.sub_zero, Int.add_zero, Int.zero_add, Nat.zero_add, Nat.sub_zero, List.nil_append, List.append_nil] at n
          by_cases p9 : x.1 = 9
          · by_cases a9 : a = 9
            · have e1 : (decide (x.1 = 9) && decide (a ≠ 9)) = false := by simp [a9]
              have e2 : (decide (a = 9) && decide (x.1 ≠ 9)) = false := by simp [p9]
              have e7 : x.2.1.contains 7 = false := by cases h7 : x.2.1.contains 7 with | false => rfl | true => have := g7 h7; omega
              rw [e1, e2, e7] at I
              simp -implicitDefEqProofs (disch := omega) only [euphroelaw23_FsmLayers.l0, iv, i64s_len, hx, n, I, bqTT, bqTF, bqFT, bqFF, go_sem, reduceIte, Nat.reduceAdd, Nat.reduceSub, Nat.reduceMul, Nat.reduceLeDiff, Nat.reduceLT, Nat.reduceEqDiff, Int.reduceToNat, Int.reduceLT, Int.reduceLE, Int.reduceEq, Int.reduceNe, Int.reduceAdd, Int.reduceSub, Int.reduceMul, Int.reduceNeg, Int.reduceBEq, Int.reduceBNe, reduceCtorEq, dreduceIte, ac_x, ac_t, setW_s, setW_0, ac_cp, ac_cpw, ac_lenw, ac_ret, ac_pop, ac_popw, cl_cp, oWS, oW8, oW16, oW32, oW64, oLtT, oLtF, oLeT, oLeF, oNLtT, oNLtF, oNLeT, oNLeF, oEqT, oEqF, oNEqT, oNEqF, oBeqT, oBeqF, oBneT, oBneF, Int.natCast_add, Int.cast_ofNat_Int, Int.toNat_natCast, List.take_length, rndE_eq, rnd_n, rnd_r, rnd_e]
            · have e1 : (decide (x.1 = 9) && decide (a ≠ 9)) = true := by simp [a9, p9]
              have e2 : (decide (a = 9) && decide (x.1 ≠ 9)) = false := by simp [p9]
              have e7 : x.2.1.contains 7 = false := by cases h7 : x.2.1.contains 7 with | false => rfl | true => have := g7 h7; omega
              rw [e1, e2, e7] at I
              simp -implicitDefEqProofs (disch := omega) only [euphroelaw23_FsmLayers.l0, iv, i64s_len, hx, n, I, bqTT, bqTF, bqFT, bqFF, go_sem, reduceIte, Nat.reduceAdd, Nat.reduceSub, Nat.reduceMul, Nat.reduceLeDiff, Nat.reduceLT, Nat.reduceEqDiff, Int.reduceToNat, Int.reduceLT, Int.reduceLE, Int.reduceEq, Int.reduceNe, Int.reduceAdd, Int.reduceSub, Int.reduceMul, Int.reduceNeg, Int.reduceBEq, Int.reduceBNe, reduceCtorEq, dreduceIte, ac_x, ac_t, setW_s, setW_0, ac_cp, ac_cpw, ac_lenw, ac_ret, ac_pop, ac_popw, cl_cp, oWS, oW8, oW16, oW32, oW64, oLtT, oLtF, oLeT, oLeF, oNLtT, oNLtF, oNLeT, oNLeF, oEqT, oEqF, oNEqT, oNEqF, oBeqT, oBeqF, oBneT, oBneF, Int.natCast_add, Int.cast_ofNat_Int, Int.toNat_natCast, List.take_length, rndE_eq, rnd_n, rnd_r, rnd_e]
          · have e1 : (decide (x.1 = 9) && decide (a ≠ 9)) = false := by simp [p9]
            by_cases a9 : a = 9
            · have e2 : (decide (a = 9) && decide (x.1 ≠ 9)) = true := by simp [a9, p9]
              rw [e1, e2] at I
              cases h7 : x.2.1.contains 7 with
              | false => rw [h7] at I; simp -implicitDefEqProofs (disch := omega) only [euphroelaw23_FsmLayers.l0, iv, i64s_len, hx, n, I, bqTT, bqTF, bqFT, bqFF, go_sem, reduceIte, Nat.reduceAdd, Nat.reduceSub, Nat.reduceMul, Nat.reduceLeDiff, Nat.reduceLT, Nat.reduceEqDiff, Int.reduceToNat, Int.reduceLT, Int.reduceLE, Int.reduceEq, Int.reduceNe, Int.reduceAdd, Int.reduceSub, Int.reduceMul, Int.reduceNeg, Int.reduceBEq, Int.reduceBNe, reduceCtorEq, dreduceIte, ac_x, ac_t, setW_s, setW_0, ac_cp, ac_cpw, ac_lenw, ac_ret, ac_pop, ac_popw, cl_cp, oWS, oW8, oW16, oW32, oW64, oLtT, oLtF, oLeT, oLeF, oNLtT, oNLtF, oNLeT, oNLeF, oEqT, oEqF, oNEqT, oNEqF, oBeqT, oBeqF, oBneT, oBneF, Int.natCast_add, Int.cast_ofNat_Int, Int.toNat_natCast, List.take_length, rndE_eq, rnd_n, rnd_r, rnd_e]
              | true =>
                rw [h7] at I
                rcases g7 h7 with h8 | h8
                · simp -implicitDefEqProofs (disch := omega) only [euphroelaw23_FsmLayers.l0, iv, i64s_len, hx, n, I, bqTT, bqTF, bqFT, bqFF, go_sem, reduceIte, Nat.reduceAdd, Nat.reduceSub, Nat.reduceMul, Nat.reduceLeDiff, Nat.reduceLT, Nat.reduceEqDiff, Int.reduceToNat, Int.reduceLT, Int.reduceLE, Int.reduceEq, Int.reduceNe, Int.reduceAdd, Int.reduceSub, Int.reduceMul, Int.reduceNeg, Int.reduceBEq, Int.reduceBNe, reduceCtorEq, dreduceIte, ac_x, ac_t, setW_s, setW_0, ac_cp, ac_cpw, ac_lenw, ac_ret, ac_pop, ac_popw, cl_cp, oWS, oW8, oW16, oW32, oW64, oLtT, oLtF, oLeT, oLeF, oNLtT, oNLtF, oNLeT, oNLeF, oEqT, oEqF, oNEqT, oNEqF, oBeqT, oBeqF, oBneT, oBneF, Int.natCast_add, Int.cast_ofNat_Int, Int.toNat_natCast, List.take_length, rndE_eq, rnd_n, rnd_r, rnd_e]
                · simp -implicitDefEqProofs (disch := omega) only [euphroelaw23_FsmLayers.l0, iv, i64s_len, hx, n, I, bqTT, bqTF, bqFT, bqFF, go_sem, reduceIte, Nat.reduceAdd, Nat.reduceSub, Nat.reduceMul, Nat.reduceLeDiff, Nat.reduceLT, Nat.reduceEqDiff, Int.reduceToNat, Int.reduceLT, Int.reduceLE, Int.reduceEq, Int.reduceNe, Int.reduceAdd, Int.reduceSub, Int.reduceMul, Int.reduceNeg, Int.reduceBEq, Int.reduceBNe, reduceCtorEq, dreduceIte, ac_x, ac_t, setW_s, setW_0, ac_cp, ac_cpw, ac_lenw, ac_ret, ac_pop, ac_popw, cl_cp, oWS, oW8, oW16, oW32, oW64, oLtT, oLtF, oLeT, oLeF, oNLtT, oNLtF, oNLeT, oNLeF, oEqT, oEqF, oNEqT, oNEqF, oBeqT, oBeqF, oBneT, oBneF, Int.natCast_add, Int.cast_ofNat_Int, Int.toNat_natCast, List.take_length, rndE_eq, rnd_n, rnd_r, rnd_e]
            · have e2 : (decide (a = 9) && decide (x.1 ≠ 9)) = false := by simp [a9]
              rw [e1, e2] at I
              cases h7 : x.2.1.contains 7 with
              | false => rw [h7] at I; simp -implicitDefEqProofs (disch := omega) only [euphroelaw23_FsmLayers.l0, iv, i64s_len, hx, n, I, bqTT, bqTF, bqFT, bqFF, go_sem, reduceIte, Nat.reduceAdd, Nat.reduceSub, Nat.reduceMul, Nat.reduceLeDiff, Nat.reduceLT, Nat.reduceEqDiff, Int.reduceToNat, Int.reduceLT, Int.reduceLE, Int.reduceEq, Int.reduceNe, Int.reduceAdd, Int.reduceSub, Int.reduceMul, Int.reduceNeg, Int.reduceBEq, Int.reduceBNe, reduceCtorEq, dreduceIte, ac_x, ac_t, setW_s, setW_0, ac_cp, ac_cpw, ac_lenw, ac_ret, ac_pop, ac_popw, cl_cp, oWS, oW8, oW16, oW32, oW64, oLtT, oLtF, oLeT, oLeF, oNLtT, oNLtF, oNLeT, oNLeF, oEqT, oEqF, oNEqT, oNEqF, oBeqT, oBeqF, oBneT, oBneF, Int.natCast_add, Int.cast_ofNat_Int, Int.toNat_natCast, List.take_length, rndE_eq, rnd_n, rnd_r, rnd_e]
              | true =>
                rw [h7] at I
                rcases g7 h7 with h8 | h8
                · simp -implicitDefEqProofs (disch := omega) only [euphroelaw23_FsmLayers.l0, iv, i64s_len, hx, n, I, bqTT, bqTF, bqFT, bqFF, go_sem, reduceIte, Nat.reduceAdd, Nat.reduceSub, Nat.reduceMul, Nat.reduceLeDiff, Nat.reduceLT, Nat.reduceEqDiff, Int.reduceToNat, Int.reduceLT, Int.reduceLE, Int.reduceEq, Int.reduceNe, Int.reduceAdd, Int.reduceSub, Int.reduceMul, Int.reduceNeg, Int.reduceBEq, Int.reduceBNe, reduceCtorEq, dreduceIte, ac_x, ac_t, setW_s, setW_0, ac_cp, ac_cpw, ac_lenw, ac_ret, ac_pop, ac_popw, cl_cp, oWS, oW8, oW16, oW32, oW64, oLtT, oLtF, oLeT, oLeF, oNLtT, oNLtF, oNLeT, oNLeF, oEqT, oEqF, oNEqT, oNEqF, oBeqT, oBeqF, oBneT, oBneF, Int.natCast_add, Int.cast_ofNat_Int, Int.toNat_natCast, List.take_length, rndE_eq, rnd_n, rnd_r, rnd_e]
                · simp -implicitDefEqProofs (disch := omega) only [euphroelaw23_FsmLayers.l0, iv, i64s_len, hx, n, I, bqTT, bqTF, bqFT, bqFF, go_sem, reduceIte, Nat.reduceAdd, Nat.reduceSub, Nat.reduceMul, Nat.reduceLeDiff, Nat.reduceLT, Nat.reduceEqDiff, Int.reduceToNat, Int.reduceLT, Int.reduceLE, Int.reduceEq, Int.reduceNe, Int.reduceAdd, Int.reduceSub, Int.reduceMul, Int.reduceNeg, Int.reduceBEq, Int.reduceBNe, reduceCtorEq, dreduceIte, ac_x, ac_t, setW_s, setW_0, ac_cp, ac_cpw, ac_lenw, ac_ret, ac_pop, ac_popw, cl_cp, oWS, oW8, oW16, oW32, oW64, oLtT, oLtF, oLeT, oLeF, oNLtT, oNLtF, oNLeT, oNLeF, oEqT, oEqF, oNEqT, oNEqF, oBeqT, oBeqF, oBneT, oBneF, Int.natCast_add, Int.cast_ofNat_Int, Int.toNat_natCast, List.take_length, rndE_eq, rnd_n, rnd_r, rnd_e]
        · rw [if_neg hb]
          simp -implicitDefEqProofs (disch := omega) only [euphroelaw23_FsmLayers.l0, iv, i64s_len, hx, n, go_sem, reduceIte, Nat.reduceAdd, Nat.reduceSub, Nat.reduceMul, Nat.reduceLeDiff, Nat.reduceLT, Nat.reduceEqDiff, Int.reduceToNat, Int.reduceLT, Int.reduceLE, Int.reduceEq, Int.reduceNe, Int.reduceAdd, Int.reduceSub, Int.reduceMul, Int.reduceNeg, Int.reduceBEq, Int.reduceBNe, reduceCtorEq, dreduceIte, ac_x, ac_t, setW_s, setW_0, ac_cp, ac_cpw, ac_lenw, ac_ret, ac_pop, ac_popw, cl_cp, oWS, oW8, oW16, oW32, oW64, oLtT, oLtF, oLeT, oLeF, oNLtT, oNLtF, oNLeT, oNLeF, oEqT, oEqF, oNEqT, oNEqF, oBeqT, oBeqF, oBneT, oBneF, Int.natCast_add, Int.cast_ofNat_Int, Int.toNat_natCast, List.take_length, rndE_eq, rnd_n, rnd_r, rnd_e]) (by simp -implicitDefEqProofs (disch := omega) only [euphroelaw23_FsmLayers.l0, iv, go_sem, reduceIte, Nat.reduceAdd, Nat.reduceSub, Nat.reduceMul, Nat.reduceLeDiff, Nat.reduceLT, Nat.reduceEqDiff, Int.reduceToNat, Int.reduceLT, Int.reduceLE, Int.reduceEq, Int.reduceNe, Int.reduceAdd, Int.reduceSub, Int.reduceMul, Int.reduceNeg, Int.reduceBEq, Int.reduceBNe, reduceCtorEq, dreduceIte, ac_x, ac_t, setW_s, setW_0, ac_cp, ac_cpw, ac_lenw, ac_ret, ac_pop, ac_popw, cl_cp, oWS, oW8, oW16, oW32, oW64, oLtT, oLtF, oLeT, oLeF, oNLtT, oNLtF, oNLeT, oNLeF, oEqT, oEqF, oNEqT, oNEqF, oBeqT, oBeqF, oBneT, oBneF, Int.natCast_add, Int.cast_ofNat_Int, Int.toNat_natCast, List.take_length, rndE_eq, rnd_n, rnd_r, rnd_e]; rfl)
    have l0 : laR s l 0 = s := rfl
    simp only [iv, l0, z0, Int.cast_ofNat_Int, List.take_zero, List.map_nil, List.drop_zero, accN, b8_nil, Int.sub_zero, Int.add_zero, Int.zero_add, Nat.zero_add, Nat.sub_zero, List.nil_append, List.append_nil] at L
    simp -implicitDefEqProofs (disch := omega) only [euphroelaw23_FsmLayers.s, iv, i64s_len, L, f_alive, go_sem, reduceIte, Nat.reduceAdd, Nat.reduceSub, Nat.reduceMul, Nat.reduceLeDiff, Nat.reduceLT, Nat.reduceEqDiff, Int.reduceToNat, Int.reduceLT, Int.reduceLE, Int.reduceEq, Int.reduceNe, Int.reduceAdd, Int.reduceSub, Int.reduceMul, Int.reduceNeg, Int.reduceBEq, Int.reduceBNe, reduceCtorEq, dreduceIte, ac_x, ac_t, setW_s, setW_0, ac_cp, ac_cpw, ac_lenw, ac_ret, ac_pop, ac_popw, cl_cp, oWS, oW8, oW16, oW32, oW64, oLtT, oLtF, oLeT, oLeF, oNLtT, oNLtF, oNLeT, oNLeF, oEqT, oEqF, oNEqT, oNEqF, oBeqT, oBeqF, oBneT, oBneF, Int.natCast_add, Int.cast_ofNat_Int, Int.toNat_natCast, List.take_length, rndE_eq, rnd_n, rnd_r, rnd_e]
/-! ### Run -/
def rnR (s : Int) (l : List Int) : Nat → Int × List Int
  | 0 => (s, [])
  | i + 1 => match l[i]? with
    | some e => ((nxR (rnR s l i).1 e).1, (rnR s l i).2 ++ (nxR (rnR s l i).1 e).2.1)
    | none => rnR s l i
theorem rnR_succ {s : Int} {l : List Int} {i : Nat} (h : i < l.length) : rnR s l (i + 1) = ((nxR (rnR s l i).1 l[i]).1, (rnR s l i).2 ++ (nxR (rnR s l i).1 l[i]).2.1) := by
  rw [rnR, List.getElem?_eq_getElem h]
theorem rn_rng {s : Int} (hs : 0 ≤ s ∧ s ≤ 9) (l : List Int) : ∀ i, 0 ≤ (rnR s l i).1 ∧ (rnR s l i).1 ≤ 9
  | 0 => hs
  | i + 1 => by
    rw [rnR]
    split
    · exact nx_rng _ _
    · exact rn_rng hs l i
theorem rn_len (s : Int) (l : List Int) : ∀ i, (rnR s l i).2.length ≤ 4 * i
  | 0 => Nat.le_refl _
  | i + 1 => by
    have ih := rn_len s l i
    rw [rnR]
    split
    · rename_i e _
      have := nx_len (rnR s l i).1 e
      simp only [List.length_append]; omega
    · omega
def acQ (l : List Int) : Nat → D
  | 0 => .nils 1
  | _ + 1 => .lin 1 (i64s l)
theorem acQ_or (s : Int) (l : List Int) (i : Nat) : (acQ (rnR s l i).2 i = .nils 1 ∧ (rnR s l i).2 = []) ∨ acQ (rnR s l i).2 i = .lin 1 (i64s (rnR s l i).2) := by
  cases i with
  | zero => exact .inl ⟨rfl, rfl⟩
  | succ i => exact .inr rfl
theorem acQ_z (l : List Int) : acQ l 0 = .nils 1 := rfl
theorem acQ_s (l : List Int) (i : Nat) : acQ l (i + 1) = .lin 1 (i64s l) := rfl
theorem f_run (s : Int) (l : List Int) (hn : l.length ≤ 200) : ∃ n a d, (0 ≤ n ∧ n ≤ 9) ∧ run G 20 [iv s, .v (.slc 1 (i64s l))] [] = some (.tup [iv n, .lin 1 (i64s a), iv d], []) := by
  by_cases hs : 0 ≤ s ∧ s ≤ 9
  · have hM := hmax
    let E := fun (i : Nat) => [iv (rnR s l i).1, .v (.slc 1 (i64s l)), iv 0, .nils 1, iv 0, acQ (rnR s l i).2 i, .v (.slc 1 (i64s l)), iv (l.length : Nat), iv (i : Nat), .undef, .undef, .undef, .undef, .undef]
    have step : ∀ i, i < l.length → (∀ h : i < l.length, (nxR (rnR s l i).1 l[i]).2.2 = 0) → rndE G [9, 10, 11, 12, 13] fsm_Run.l0 (E i) [[]] = some (.inl (E (i + 1), [[]])) := fun i hi hb => by
      have hx := i64s_at (List.getElem?_eq_getElem hi)
      have n := f_next (rnR s l i).1 l[i]
      have nl := nx_len (rnR s l i).1 l[i]
      have rl := rn_len s l i
      have hb := hb hi
      simp only [E]
      rw [rnR_succ hi]
      unfold nxD at n
      rw [hb] at n
      have q := acQ_or s l i
      rw [acQ_s]
      generalize rnR s l i = r at *
      generalize nxR r.1 l[i] = x at *
      generalize acQ r.2 i = aq at *
      rcases q with ⟨q1, q2⟩ | q1
      · rw [q1]
        rw [q2]
        simp -implicitDefEqProofs (disch := omega) only [fsm_Run.l0, iv, i64s_len, i64s_app, hx, n, List.nil_append, go_sem, reduceIte, Nat.reduceAdd, Nat.reduceSub, Nat.reduceMul, Nat.reduceLeDiff, Nat.reduceLT, Nat.reduceEqDiff, Int.reduceToNat, Int.reduceLT, Int.reduceLE, Int.reduceEq, Int.reduceNe, Int.reduceAdd, Int.reduceSub, Int.reduceMul, Int.reduceNeg, Int.reduceBEq, Int.reduceBNe, reduceCtorEq, dreduceIte, ac_x, ac_t, setW_s, setW_0, ac_cp, ac_cpw, ac_lenw, ac_ret, ac_pop, ac_popw, cl_cp, oWS, oW8, oW16, oW32, oW64, oLtT, oLtF, oLeT, oLeF, oNLtT, oNLtF, oNLeT, oNLeF, oEqT, oEqF, oNEqT, oNEqF, oBeqT, oBeqF, oBneT, oBneF, Int.natCast_add, Int.cast_ofNat_Int, Int.toNat_natCast, List.take_length, rndE_eq, rnd_n, rnd_r, rnd_e]
      · rw [q1]
        simp -implicitDefEqProofs (disch := omega) only [fsm_Run.l0, iv, i64s_len, i64s_app, hx, n, go_sem, reduceIte, Nat.reduceAdd, Nat.reduceSub, Nat.reduceMul, Nat.reduceLeDiff, Nat.reduceLT, Nat.reduceEqDiff, Int.reduceToNat, Int.reduceLT, Int.reduceLE, Int.reduceEq, Int.reduceNe, Int.reduceAdd, Int.reduceSub, Int.reduceMul, Int.reduceNeg, Int.reduceBEq, Int.reduceBNe, reduceCtorEq, dreduceIte, ac_x, ac_t, setW_s, setW_0, ac_cp, ac_cpw, ac_lenw, ac_ret, ac_pop, ac_popw, cl_cp, oWS, oW8, oW16, oW32, oW64, oLtT, oLtF, oLeT, oLeF, oNLtT, oNLtF, oNLeT, oNLeF, oEqT, oEqF, oNEqT, oNEqF, oBeqT, oBeqF, oBneT, oBneF, Int.natCast_add, Int.cast_ofNat_Int, Int.toNat_natCast, List.take_length, rndE_eq, rnd_n, rnd_r, rnd_e]
    rcases first_or (fun i => ∃ h : i < l.length, (nxR (rnR s l i).1 l[i]).2.2 ≠ 0) l.length with h | ⟨j, h1, ⟨h2, h3⟩, h4⟩
    · have hno : ∀ i, ∀ h : i < l.length, (nxR (rnR s l i).1 l[i]).2.2 = 0 := fun i hi => by
        have := h i hi
        simp only [not_exists] at this
        simpa using this hi
      have o := f_ok s
      rw [decide_eq_true hs] at o
      refine ⟨(rnR s l l.length).1, (rnR s l l.length).2, l.length, rn_rng hs l _, ?_⟩
      have L := lpFor (G := G) (kill := [9, 10, 11, 12, 13]) (body := fsm_Run.l0) E (fun _ => [[]]) l.length (fun i hi => step i hi (hno i)) (by simp only [E]; simp -implicitDefEqProofs (disch := omega) only [fsm_Run.l0, iv, go_sem, reduceIte, Nat.reduceAdd, Nat.reduceSub, Nat.reduceMul, Nat.reduceLeDiff, Nat.reduceLT, Nat.reduceEqDiff, Int.reduceToNat, Int.reduceLT, Int.reduceLE, Int.reduceEq, Int.reduceNe, Int.reduceAdd, Int.reduceSub, Int.reduceMul, Int.reduceNeg, Int.reduceBEq, Int.reduceBNe, reduceCtorEq, dreduceIte, ac_x, ac_t, setW_s, setW_0, ac_cp, ac_cpw, ac_lenw, ac_ret, ac_pop, ac_popw, cl_cp, oWS, oW8, oW16, oW32, oW64, oLtT, oLtF, oLeT, oLeF, oNLtT, oNLtF, oNLeT, oNLeF, oEqT, oEqF, oNEqT, oNEqF, oBeqT, oBeqF, oBneT, oBneF, Int.natCast_add, Int.cast_ofNat_Int, Int.toNat_natCast, List.take_length, rndE_eq, rnd_n, rnd_r, rnd_e]; rfl)
      have r0 : rnR s l 0 = (s, []) := rfl
      simp only [E, iv, r0, acQ_z, z0, Int.cast_ofNat_Int, List.take_zero, List.map_nil, List.drop_zero, accN, b8_nil, Int.sub_zero, Int.add_zero, Int.zero_add, Nat.zero_add, Nat.sub_zero, List.nil_append, List.append_nil] at L
      rw [xq_fn G rfl fsm_Run.g _ _ rfl]
      have q := acQ_or s l l.length
      generalize rnR s l l.length = r at *
      generalize acQ r.2 l.length = aq at *
      rcases q with ⟨q1, q2⟩ | q1
      · rw [q1] at L
        rw [q2, i64s_nil]
        simp -implicitDefEqProofs (disch := omega) only [fsm_Run.s, iv, i64s_len, o, L, go_sem, reduceIte, Nat.reduceAdd, Nat.reduceSub, Nat.reduceMul, Nat.reduceLeDiff, Nat.reduceLT, Nat.reduceEqDiff, Int.reduceToNat, Int.reduceLT, Int.reduceLE, Int.reduceEq, Int.reduceNe, Int.reduceAdd, Int.reduceSub, Int.reduceMul, Int.reduceNeg, Int.reduceBEq, Int.reduceBNe, reduceCtorEq, dreduceIte, ac_x, ac_t, setW_s, setW_0, ac_cp, ac_cpw, ac_lenw, ac_ret, ac_pop, ac_popw, cl_cp, oWS, oW8, oW16, oW32, oW64, oLtT, oLtF, oLeT, oLeF, oNLtT, oNLtF, oNLeT, oNLeF, oEqT, oEqF, oNEqT, oNEqF, oBeqT, oBeqF, oBneT, oBneF, Int.natCast_add, Int.cast_ofNat_Int, Int.toNat_natCast, List.take_length, rndE_eq, rnd_n, rnd_r, rnd_e]
      · rw [q1] at L
        simp -implicitDefEqProofs (disch := omega) only [fsm_Run.s, iv, i64s_len, o, L, go_sem, reduceIte, Nat.reduceAdd, Nat.reduceSub, Nat.reduceMul, Nat.reduceLeDiff, Nat.reduceLT, Nat.reduceEqDiff, Int.reduceToNat, Int.reduceLT, Int.reduceLE, Int.reduceEq, Int.reduceNe, Int.reduceAdd, Int.reduceSub, Int.reduceMul, Int.reduceNeg, Int.reduceBEq, Int.reduceBNe, reduceCtorEq, dreduceIte, ac_x, ac_t, setW_s, setW_0, ac_cp, ac_cpw, ac_lenw, ac_ret, ac_pop, ac_popw, cl_cp, oWS, oW8, oW16, oW32, oW64, oLtT, oLtF, oLeT, oLeF, oNLtT, oNLtF, oNLeT, oNLeF, oEqT, oEqF, oNEqT, oNEqF, oBeqT, oBeqF, oBneT, oBneF, Int.natCast_add, Int.cast_ofNat_Int, Int.toNat_natCast, List.take_length, rndE_eq, rnd_n, rnd_r, rnd_e]
    · have hno : ∀ i, i < j → ∀ h : i < l.length, (nxR (rnR s l i).1 l[i]).2.2 = 0 := fun i hi hil => by
        have := h4 i hi
        simp only [not_exists] at this
        simpa using this hil
      have o := f_ok s
      rw [decide_eq_true hs] at o
      refine ⟨(rnR s l j).1, (rnR s l j).2, j, rn_rng hs l _, ?_⟩
      have hx := i64s_at (List.getElem?_eq_getElem h2)
      have n := f_next (rnR s l j).1 l[j]
      unfold nxD at n
      have r0 : rnR s l 0 = (s, []) := rfl
      rcases acQ_or s l j with ⟨q1, q2⟩ | q1
      · have L := lpFor (G := G) (kill := [9, 10, 11, 12, 13]) (body := fsm_Run.l0) E (fun _ => [[]]) j (fun i hi => step i (by omega) (hno i hi)) (by simp only [E]; rw [q1]; simp -implicitDefEqProofs (disch := omega) only [fsm_Run.l0, iv, i64s_len, hx, n, go_sem, reduceIte, Nat.reduceAdd, Nat.reduceSub, Nat.reduceMul, Nat.reduceLeDiff, Nat.reduceLT, Nat.reduceEqDiff, Int.reduceToNat, Int.reduceLT, Int.reduceLE, Int.reduceEq, Int.reduceNe, Int.reduceAdd, Int.reduceSub, Int.reduceMul, Int.reduceNeg, Int.reduceBEq, Int.reduceBNe, reduceCtorEq, dreduceIte, ac_x, ac_t, setW_s, setW_0, ac_cp, ac_cpw, ac_lenw, ac_ret, ac_pop, ac_popw, cl_cp, oWS, oW8, oW16, oW32, oW64, oLtT, oLtF, oLeT, oLeF, oNLtT, oNLtF, oNLeT, oNLeF, oEqT, oEqF, oNEqT, oNEqF, oBeqT, oBeqF, oBneT, oBneF, Int.natCast_add, Int.cast_ofNat_Int, Int.toNat_natCast, List.take_length, rndE_eq, rnd_n, rnd_r, rnd_e]; rfl)
        simp only [E, iv, r0, acQ_z, z0, Int.cast_ofNat_Int, List.take_zero, List.map_nil, List.drop_zero, accN, b8_nil, Int.sub_zero, Int.add_zero, Int.zero_add, Nat.zero_add, Nat.sub_zero, List.nil_append, List.append_nil] at L
        rw [q2, i64s_nil]
        rw [xq_fn G rfl fsm_Run.g _ _ rfl]
        simp -implicitDefEqProofs (disch := omega) only [fsm_Run.s, iv, i64s_len, o, L, go_sem, reduceIte, Nat.reduceAdd, Nat.reduceSub, Nat.reduceMul, Nat.reduceLeDiff, Nat.reduceLT, Nat.reduceEqDiff, Int.reduceToNat, Int.reduceLT, Int.reduceLE, Int.reduceEq, Int.reduceNe, Int.reduceAdd, Int.reduceSub, Int.reduceMul, Int.reduceNeg, Int.reduceBEq, Int.reduceBNe, reduceCtorEq, dreduceIte, ac_x, ac_t, setW_s, setW_0, ac_cp, ac_cpw, ac_lenw, ac_ret, ac_pop, ac_popw, cl_cp, oWS, oW8, oW16, oW32, oW64, oLtT, oLtF, oLeT, oLeF, oNLtT, oNLtF, oNLeT, oNLeF, oEqT, oEqF, oNEqT, oNEqF, oBeqT, oBeqF, oBneT, oBneF, Int.natCast_add, Int.cast_ofNat_Int, Int.toNat_natCast, List.take_length, rndE_eq, rnd_n, rnd_r, rnd_e]
      · have L := lpFor (G := G) (kill := [9, 10, 11, 12, 13]) (body := fsm_Run.l0) E (fun _ => [[]]) j (fun i hi => step i (by omega) (hno i hi)) (by simp only [E]; rw [q1]; simp -implicitDefEqProofs (disch := omega) only [fsm_Run.l0, iv, i64s_len, hx, n, go_sem, reduceIte, Nat.reduceAdd, Nat.reduceSub, Nat.reduceMul, Nat.reduceLeDiff, Nat.reduceLT, Nat.reduceEqDiff, Int.reduceToNat, Int.reduceLT, Int.reduceLE, Int.reduceEq, Int.reduceNe, Int.reduceAdd, Int.reduceSub, Int.reduceMul, Int.reduceNeg, Int.reduceBEq, Int.reduceBNe, reduceCtorEq, dreduceIte, ac_x, ac_t, setW_s, setW_0, ac_cp, ac_cpw, ac_lenw, ac_ret, ac_pop, ac_popw, cl_cp, oWS, oW8, oW16, oW32, oW64, oLtT, oLtF, oLeT, oLeF, oNLtT, oNLtF, oNLeT, oNLeF, oEqT, oEqF, oNEqT, oNEqF, oBeqT, oBeqF, oBneT, oBneF, Int.natCast_add, Int.cast_ofNat_Int, Int.toNat_natCast, List.take_length, rndE_eq, rnd_n, rnd_r, rnd_e]; rfl)
        simp only [E, iv, r0, acQ_z, z0, Int.cast_ofNat_Int, List.take_zero, List.map_nil, List.drop_zero, accN, b8_nil, Int.sub_zero, Int.add_zero, Int.zero_add, Nat.zero_add, Nat.sub_zero, List.nil_append, List.append_nil] at L
        rw [xq_fn G rfl fsm_Run.g _ _ rfl]
        simp -implicitDefEqProofs (disch := omega) only [fsm_Run.s, iv, i64s_len, o, L, go_sem, reduceIte, Nat.reduceAdd, Nat.reduceSub, Nat.reduceMul, Nat.reduceLeDiff, Nat.reduceLT, Nat.reduceEqDiff, Int.reduceToNat, Int.reduceLT, Int.reduceLE, Int.reduceEq, Int.reduceNe, Int.reduceAdd, Int.reduceSub, Int.reduceMul, Int.reduceNeg, Int.reduceBEq, Int.reduceBNe, reduceCtorEq, dreduceIte, ac_x, ac_t, setW_s, setW_0, ac_cp, ac_cpw, ac_lenw, ac_ret, ac_pop, ac_popw, cl_cp, oWS, oW8, oW16, oW32, oW64, oLtT, oLtF, oLeT, oLeF, oNLtT, oNLtF, oNLeT, oNLeF, oEqT, oEqF, oNEqT, oNEqF, oBeqT, oBeqF, oBneT, oBneF, Int.natCast_add, Int.cast_ofNat_Int, Int.toNat_natCast, List.take_length, rndE_eq, rnd_n, rnd_r, rnd_e]
  · refine ⟨0, [], 0, by omega, ?_⟩
    rw [xq_fn G rfl fsm_Run.g _ _ rfl]
    have o := f_ok s
    rw [decide_eq_false hs] at o
    simp -implicitDefEqProofs (disch := omega) only [fsm_Run.s, iv, o, i64s_nil, go_sem, reduceIte, Nat.reduceAdd, Nat.reduceSub, Nat.reduceMul, Nat.reduceLeDiff, Nat.reduceLT, Nat.reduceEqDiff, Int.reduceToNat, Int.reduceLT, Int.reduceLE, Int.reduceEq, Int.reduceNe, Int.reduceAdd, Int.reduceSub, Int.reduceMul, Int.reduceNeg, Int.reduceBEq, Int.reduceBNe, reduceCtorEq, dreduceIte, ac_x, ac_t, setW_s, setW_0, ac_cp, ac_cpw, ac_lenw, ac_ret, ac_pop, ac_popw, cl_cp, oWS, oW8, oW16, oW32, oW64, oLtT, oLtF, oLeT, oLeF, oNLtT, oNLtF, oNLeT, oNLeF, oEqT, oEqF, oNEqT, oNEqF, oBeqT, oBeqF, oBneT, oBneF, Int.natCast_add, Int.cast_ofNat_Int, Int.toNat_natCast, List.take_length, rndE_eq, rnd_n, rnd_r, rnd_e]
/-! ### FsmCloses -/
theorem f_cl (n : Int) (h : 0 ≤ n ∧ n ≤ 9) : ∃ m g : Int, nxR n 3 = (m, (nxR n 3).2.1, 0) ∧ ((nxR m 5).2.2 = 0 → (nxR m 5).1 = g) ∧ ((nxR m 5).2.2 ≠ 0 → m = g) ∧ (g = 0 ∨ g = 2) ∧ (nxR g 4).2.2 ≠ 0 ∧ run G 23 [iv n, iv g] [] = some (.v (.bool true), []) := by
  have hh : n = 0 ∨ n = 1 ∨ n = 2 ∨ n = 3 ∨ n = 4 ∨ n = 5 ∨ n = 6 ∨ n = 7 ∨ n = 8 ∨ n = 9 := by omega
  rcases hh with rfl | rfl | rfl | rfl | rfl | rfl | rfl | rfl | rfl | rfl
  · exact ⟨0, 0, by decide, by decide, by decide, by decide, by decide, sw 60 _ _ _ _ rcC0⟩
  · exact ⟨0, 0, by decide, by decide, by decide, by decide, by decide, sw 60 _ _ _ _ rcC1⟩
  · exact ⟨2, 2, by decide, by decide, by decide, by decide, by decide, sw 60 _ _ _ _ rcC2⟩
  · exact ⟨2, 2, by decide, by decide, by decide, by decide, by decide, sw 60 _ _ _ _ rcC3⟩
  · exact ⟨4, 2, by decide, by decide, by decide, by decide, by decide, sw 60 _ _ _ _ rcC4⟩
  · exact ⟨4, 2, by decide, by decide, by decide, by decide, by decide, sw 60 _ _ _ _ rcC5⟩
  · exact ⟨4, 2, by decide, by decide, by decide, by decide, by decide, sw 60 _ _ _ _ rcC6⟩
  · exact ⟨4, 2, by decide, by decide, by decide, by decide, by decide, sw 60 _ _ _ _ rcC7⟩
  · exact ⟨4, 2, by decide, by decide, by decide, by decide, by decide, sw 60 _ _ _ _ rcC8⟩
  · exact ⟨4, 2, by decide, by decide, by decide, by decide, by decide, sw 60 _ _ _ _ rcC9⟩
theorem cl_copy (s : Int) (l : List Int) (hn : l.length ≤ 200) :
    ex G (.loop [7] euphroelaw23_FsmCloses.l0) [iv s, .v (.slc 1 (i64s l)), .v (.bool false), .nils 1, .v (.slc 1 (i64s l)), iv (l.length : Nat), iv 0, .undef, .undef, .undef, .undef, .undef, .undef] [[]] =
      some (.exit 0, [iv s, .v (.slc 1 (i64s l)), .v (.bool false), accG 1 (i64s l), .v (.slc 1 (i64s l)), iv (l.length : Nat), iv (l.length : Nat), .undef, .undef, .undef, .undef, .undef, .undef], [[]]) := by
  have hM := hmax
  have L := lpFor (G := G) (kill := [7]) (body := euphroelaw23_FsmCloses.l0) (fun i => [iv s, .v (.slc 1 (i64s l)), .v (.bool false), accG 1 (i64s (l.take i)), .v (.slc 1 (i64s l)), iv (l.length : Nat), iv i, .undef, .undef, .undef, .undef, .undef, .undef]) (fun _ => [[]]) l.length
    (fun i hi => by
      have hx := i64s_at (List.getElem?_eq_getElem hi)
      have ha := ac_app 1 (i64s (l.take i)) 8 [.int .i64 l[i]] (by simp) (by rw [i64s_len]; simp; omega)
      have he : i64s (l.take i) ++ [V.int .i64 l[i]] = i64s (l.take (i + 1)) := by rw [take_succ hi, ← i64s_app]; rfl
      rw [he] at ha
      simp -implicitDefEqProofs (disch := omega) only [euphroelaw23_FsmCloses.l0, iv, i64s_len, hx, ha, go_sem, reduceIte, Nat.reduceAdd, Nat.reduceSub, Nat.reduceMul, Nat.reduceLeDiff, Nat.reduceLT, Nat.reduceEqDiff, Int.reduceToNat, Int.reduceLT, Int.reduceLE, Int.reduceEq, Int.reduceNe, Int.reduceAdd, Int.reduceSub, Int.reduceMul, Int.reduceNeg, Int.reduceBEq, Int.reduceBNe, reduceCtorEq, dreduceIte, ac_x, ac_t, setW_s, setW_0, ac_cp, ac_cpw, ac_lenw, ac_ret, ac_pop, ac_popw, cl_cp, oWS, oW8, oW16, oW32, oW64, oLtT, oLtF, oLeT, oLeF, oNLtT, oNLtF, oNLeT, oNLeF, oEqT, oEqF, oNEqT, oNEqF, oBeqT, oBeqF, oBneT, oBneF, Int.natCast_add, Int.cast_ofNat_Int, Int.toNat_natCast, List.take_length, rndE_eq, rnd_n, rnd_r, rnd_e]) (by simp -implicitDefEqProofs (disch := omega) only [euphroelaw23_FsmCloses.l0, iv, go_sem, reduceIte, Nat.reduceAdd, Nat.reduceSub, Nat.reduceMul, Nat.reduceLeDiff, Nat.reduceLT, Nat.reduceEqDiff, Int.reduceToNat, Int.reduceLT, Int.reduceLE, Int.reduceEq, Int.reduceNe, Int.reduceAdd, Int.reduceSub, Int.reduceMul, Int.reduceNeg, Int.reduceBEq, Int.reduceBNe, reduceCtorEq, dreduceIte, ac_x, ac_t, setW_s, setW_0, ac_cp, ac_cpw, ac_lenw, ac_ret, ac_pop, ac_popw, cl_cp, oWS, oW8, oW16, oW32, oW64, oLtT, oLtF, oLeT, oLeF, oNLtT, oNLtF, oNLeT, oNLeF, oEqT, oEqF, oNEqT, oNEqF, oBeqT, oBeqF, oBneT, oBneF, Int.natCast_add, Int.cast_ofNat_Int, Int.toNat_natCast, List.take_length, rndE_eq, rnd_n, rnd_r, rnd_e]; rfl)
  simp only [iv, i64s_nil, z0, Int.cast_ofNat_Int, List.take_zero, List.map_nil, List.drop_zero, accN, b8_nil, Int.sub_zero, Int.add_zero, Int.zero_add, Nat.zero_add, Nat.sub_zero, List.nil_append, List.append_nil] at L
  exact L
theorem wk_sub (l : List Int) : wkG 1 (i64s l) = .nils 1 ∨ wkG 1 (i64s l) = .v (.slc 1 (i64s l)) := by
  cases l with
  | nil => exact .inl rfl
  | cons x l => exact .inr rfl
theorem fsmCloses (s : Int) (l : List Int) (hn : l.length ≤ 4611686018427387904) : run G 6 [iv s, .v (.slc 1 (i64s l))] [] = some (.v (.bool true), []) := by
  rw [xq_fn G rfl euphroelaw23_FsmCloses.g _ _ rfl]
  by_cases h200 : 200 < l.length
  · simp -implicitDefEqProofs (disch := omega) only [euphroelaw23_FsmCloses.s, iv, i64s_len, f_alive, go_sem, reduceIte, Nat.reduceAdd, Nat.reduceSub, Nat.reduceMul, Nat.reduceLeDiff, Nat.reduceLT, Nat.reduceEqDiff, Int.reduceToNat, Int.reduceLT, Int.reduceLE, Int.reduceEq, Int.reduceNe, Int.reduceAdd, Int.reduceSub, Int.reduceMul, Int.reduceNeg, Int.reduceBEq, Int.reduceBNe, reduceCtorEq, dreduceIte, ac_x, ac_t, setW_s, setW_0, ac_cp, ac_cpw, ac_lenw, ac_ret, ac_pop, ac_popw, cl_cp, oWS, oW8, oW16, oW32, oW64, oLtT, oLtF, oLeT, oLeF, oNLtT, oNLtF, oNLeT, oNLeF, oEqT, oEqF, oNEqT, oNEqF, oBeqT, oBeqF, oBneT, oBneF, Int.natCast_add, Int.cast_ofNat_Int, Int.toNat_natCast, List.take_length, rndE_eq, rnd_n, rnd_r, rnd_e]
  · have L := cl_copy s l (by omega)
    obtain ⟨n, a, d, hr, R⟩ := f_run s l (by omega)
    obtain ⟨m, g, c1, c2, c3, c4, c5, c6⟩ := f_cl n hr
    have n3 := f_next n 3
    have n5 := f_next m 5
    have t := f_timed g
    rw [decide_eq_false c5] at t
    unfold nxD at n3 n5
    rw [c1] at n3
    have al := f_alive
    generalize nxR m 5 = x at *
    generalize (nxR n 3).2.1 = y at *
    rcases l with _ | ⟨l0, l⟩
    · simp only [iv, i64s_nil, List.length_nil, z0, Int.cast_ofNat_Int, List.take_zero, List.map_nil, List.drop_zero, accN, b8_nil, Int.sub_zero, Int.add_zero, Int.zero_add, Nat.zero_add, Nat.sub_zero, List.nil_append, List.append_nil] at L
      simp only [i64s_nil, z0, Int.cast_ofNat_Int, List.take_zero, List.map_nil, List.drop_zero, accN, b8_nil, Int.sub_zero, Int.add_zero, Int.zero_add, Nat.zero_add, Nat.sub_zero, List.nil_append, List.append_nil] at R
      by_cases hx : x.2.2 = 0
      · have := c2 hx
        rw [this] at n5
        rcases c4 with c4 | c4
        · simp -implicitDefEqProofs (disch := omega) only [euphroelaw23_FsmCloses.s, iv, i64s_nil, L, R, n3, n5, t, c6, al, go_sem, reduceIte, Nat.reduceAdd, Nat.reduceSub, Nat.reduceMul, Nat.reduceLeDiff, Nat.reduceLT, Nat.reduceEqDiff, Int.reduceToNat, Int.reduceLT, Int.reduceLE, Int.reduceEq, Int.reduceNe, Int.reduceAdd, Int.reduceSub, Int.reduceMul, Int.reduceNeg, Int.reduceBEq, Int.reduceBNe, reduceCtorEq, dreduceIte, ac_x, ac_t, setW_s, setW_0, ac_cp, ac_cpw, ac_lenw, ac_ret, ac_pop, ac_popw, cl_cp, oWS, oW8, oW16, oW32, oW64, oLtT, oLtF, oLeT, oLeF, oNLtT, oNLtF, oNLeT, oNLeF, oEqT, oEqF, oNEqT, oNEqF, oBeqT, oBeqF, oBneT, oBneF, Int.natCast_add, Int.cast_ofNat_Int, Int.toNat_natCast, List.take_length, rndE_eq, rnd_n, rnd_r, rnd_e]
        · simp -implicitDefEqProofs (disch := omega) only [euphroelaw23_FsmCloses.s, iv, i64s_nil, L, R, n3, n5, t, c6, al, go_sem, reduceIte, Nat.reduceAdd, Nat.reduceSub, Nat.reduceMul, Nat.reduceLeDiff, Nat.reduceLT, Nat.reduceEqDiff, Int.reduceToNat, Int.reduceLT, Int.reduceLE, Int.reduceEq, Int.reduceNe, Int.reduceAdd, Int.reduceSub, Int.reduceMul, Int.reduceNeg, Int.reduceBEq, Int.reduceBNe, reduceCtorEq, dreduceIte, ac_x, ac_t, setW_s, setW_0, ac_cp, ac_cpw, ac_lenw, ac_ret, ac_pop, ac_popw, cl_cp, oWS, oW8, oW16, oW32, oW64, oLtT, oLtF, oLeT, oLeF, oNLtT, oNLtF, oNLeT, oNLeF, oEqT, oEqF, oNEqT, oNEqF, oBeqT, oBeqF, oBneT, oBneF, Int.natCast_add, Int.cast_ofNat_Int, Int.toNat_natCast, List.take_length, rndE_eq, rnd_n, rnd_r, rnd_e]
      · have := c3 hx
        subst this
        rcases c4 with c4 | c4
        · simp -implicitDefEqProofs (disch := omega) only [euphroelaw23_FsmCloses.s, iv, i64s_nil, L, R, n3, n5, t, c6, al, go_sem, reduceIte, Nat.reduceAdd, Nat.reduceSub, Nat.reduceMul, Nat.reduceLeDiff, Nat.reduceLT, Nat.reduceEqDiff, Int.reduceToNat, Int.reduceLT, Int.reduceLE, Int.reduceEq, Int.reduceNe, Int.reduceAdd, Int.reduceSub, Int.reduceMul, Int.reduceNeg, Int.reduceBEq, Int.reduceBNe, reduceCtorEq, dreduceIte, ac_x, ac_t, setW_s, setW_0, ac_cp, ac_cpw, ac_lenw, ac_ret, ac_pop, ac_popw, cl_cp, oWS, oW8, oW16, oW32, oW64, oLtT, oLtF, oLeT, oLeF, oNLtT, oNLtF, oNLeT, oNLeF, oEqT, oEqF, oNEqT, oNEqF, oBeqT, oBeqF, oBneT, oBneF, Int.natCast_add, Int.cast_ofNat_Int, Int.toNat_natCast, List.take_length, rndE_eq, rnd_n, rnd_r, rnd_e]
        · simp -implicitDefEqProofs (disch := omega) only [euphroelaw23_FsmCloses.s, iv, i64s_nil, L, R, n3, n5, t, c6, al, go_sem, reduceIte, Nat.reduceAdd, Nat.reduceSub, Nat.reduceMul, Nat.reduceLeDiff, Nat.reduceLT, Nat.reduceEqDiff, Int.reduceToNat, Int.reduceLT, Int.reduceLE, Int.reduceEq, Int.reduceNe, Int.reduceAdd, Int.reduceSub, Int.reduceMul, Int.reduceNeg, Int.reduceBEq, Int.reduceBNe, reduceCtorEq, dreduceIte, ac_x, ac_t, setW_s, setW_0, ac_cp, ac_cpw, ac_lenw, ac_ret, ac_pop, ac_popw, cl_cp, oWS, oW8, oW16, oW32, oW64, oLtT, oLtF, oLeT, oLeF, oNLtT, oNLtF, oNLeT, oNLeF, oEqT, oEqF, oNEqT, oNEqF, oBeqT, oBeqF, oBneT, oBneF, Int.natCast_add, Int.cast_ofNat_Int, Int.toNat_natCast, List.take_length, rndE_eq, rnd_n, rnd_r, rnd_e]
    · have ea : accG 1 (i64s (l0 :: l)) = .lin 1 (i64s (l0 :: l)) := rfl
      rw [ea] at L
      generalize hl : l0 :: l = ll at *
      by_cases hx : x.2.2 = 0
      · have := c2 hx
        rw [this] at n5
        rcases c4 with c4 | c4
        · simp -implicitDefEqProofs (disch := omega) only [euphroelaw23_FsmCloses.s, iv, i64s_len, L, R, n3, n5, t, c6, al, go_sem, reduceIte, Nat.reduceAdd, Nat.reduceSub, Nat.reduceMul, Nat.reduceLeDiff, Nat.reduceLT, Nat.reduceEqDiff, Int.reduceToNat, Int.reduceLT, Int.reduceLE, Int.reduceEq, Int.reduceNe, Int.reduceAdd, Int.reduceSub, Int.reduceMul, Int.reduceNeg, Int.reduceBEq, Int.reduceBNe, reduceCtorEq, dreduceIte, ac_x, ac_t, setW_s, setW_0, ac_cp, ac_cpw, ac_lenw, ac_ret, ac_pop, ac_popw, cl_cp, oWS, oW8, oW16, oW32, oW64, oLtT, oLtF, oLeT, oLeF, oNLtT, oNLtF, oNLeT, oNLeF, oEqT, oEqF, oNEqT, oNEqF, oBeqT, oBeqF, oBneT, oBneF, Int.natCast_add, Int.cast_ofNat_Int, Int.toNat_natCast, List.take_length, rndE_eq, rnd_n, rnd_r, rnd_e]
        · simp -implicitDefEqProofs (disch := omega) only [euphroelaw23_FsmCloses.s, iv, i64s_len, L, R, n3, n5, t, c6, al, go_sem, reduceIte, Nat.reduceAdd, Nat.reduceSub, Nat.reduceMul, Nat.reduceLeDiff, Nat.reduceLT, Nat.reduceEqDiff, Int.reduceToNat, Int.reduceLT, Int.reduceLE, Int.reduceEq, Int.reduceNe, Int.reduceAdd, Int.reduceSub, Int.reduceMul, Int.reduceNeg, Int.reduceBEq, Int.reduceBNe, reduceCtorEq, dreduceIte, ac_x, ac_t, setW_s, setW_0, ac_cp, ac_cpw, ac_lenw, ac_ret, ac_pop, ac_popw, cl_cp, oWS, oW8, oW16, oW32, oW64, oLtT, oLtF, oLeT, oLeF, oNLtT, oNLtF, oNLeT, oNLeF, oEqT, oEqF, oNEqT, oNEqF, oBeqT, oBeqF, oBneT, oBneF, Int.natCast_add, Int.cast_ofNat_Int, Int.toNat_natCast, List.take_length, rndE_eq, rnd_n, rnd_r, rnd_e]
      · have := c3 hx
        subst this
        rcases c4 with c4 | c4
        · simp -implicitDefEqProofs (disch := omega) only [euphroelaw23_FsmCloses.s, iv, i64s_len, L, R, n3, n5, t, c6, al, go_sem, reduceIte, Nat.reduceAdd, Nat.reduceSub, Nat.reduceMul, Nat.reduceLeDiff, Nat.reduceLT, Nat.reduceEqDiff, Int.reduceToNat, Int.reduceLT, Int.reduceLE, Int.reduceEq, Int.reduceNe, Int.reduceAdd, Int.reduceSub, Int.reduceMul, Int.reduceNeg, Int.reduceBEq, Int.reduceBNe, reduceCtorEq, dreduceIte, ac_x, ac_t, setW_s, setW_0, ac_cp, ac_cpw, ac_lenw, ac_ret, ac_pop, ac_popw, cl_cp, oWS, oW8, oW16, oW32, oW64, oLtT, oLtF, oLeT, oLeF, oNLtT, oNLtF, oNLeT, oNLeF, oEqT, oEqF, oNEqT, oNEqF, oBeqT, oBeqF, oBneT, oBneF, Int.natCast_add, Int.cast_ofNat_Int, Int.toNat_natCast, List.take_length, rndE_eq, rnd_n, rnd_r, rnd_e]
        · simp -implicitDefEqProofs (disch := omega) only [euphroelaw23_FsmCloses.s, iv, i64s_len, L, R, n3, n5, t, c6, al, go_sem, reduceIte, Nat.reduceAdd, Nat.reduceSub, Nat.reduceMul, Nat.reduceLeDiff, Nat.reduceLT, Nat.reduceEqDiff, Int.reduceToNat, Int.reduceLT, Int.reduceLE, Int.reduceEq, Int.reduceNe, Int.reduceAdd, Int.reduceSub, Int.reduceMul, Int.reduceNeg, Int.reduceBEq, Int.reduceBNe, reduceCtorEq, dreduceIte, ac_x, ac_t, setW_s, setW_0, ac_cp, ac_cpw, ac_lenw, ac_ret, ac_pop, ac_popw, cl_cp, oWS, oW8, oW16, oW32, oW64, oLtT, oLtF, oLeT, oLeF, oNLtT, oNLtF, oNLeT, oNLeF, oEqT, oEqF, oNEqT, oNEqF, oBeqT, oBeqF, oBneT, oBneF, Int.natCast_add, Int.cast_ofNat_Int, Int.toNat_natCast, List.take_length, rndE_eq, rnd_n, rnd_r, rnd_e]
end Go.Q
