/- The automaton: Run, the document's too; the law FsmRuns. No condition. -/
import Derived.Test.YthldpjhmhjhpeaaDoorLv
set_option maxRecDepth 100000
set_option linter.unusedSimpArgs false
set_option linter.unusedVariables false
namespace Go.Q
open SOp SCode
attribute [local congr] bind_c map_c

/-- the runs of both, ended at j -/
def RunAt (s : Int) (l : List Int) (j : Nat) : Prop := run G 20 [iv s, .v (.slc 1 (i64s l))] [] = some (.tup [iv (rnR s l j).1, .lin 1 (i64s (rnR s l j).2), iv j], [])
def RunBt (s : Int) (l : List Int) (j : Nat) : Prop := run G 21 [iv s, .v (.slc 1 (i64s l))] [] = some (.tup [iv (rnR s l j).1, .lin 1 (i64s (rnR s l j).2), iv j], [])
theorem f_runs (s : Int) (l : List Int) (hn : l.length ≤ 200) (hs : 0 ≤ s ∧ s ≤ 9) : ∃ j, j ≤ l.length ∧ RunAt s l j ∧ RunBt s l j := by
    have hM := hmax
    have hcmp : decide (s < 0) = false ∧ decide (9 < s) = false := ⟨decide_eq_false (by omega), decide_eq_false (by omega)⟩
    let E2 := fun (i : Nat) => [iv (rnR s l i).1, .v (.slc 1 (i64s l)), iv 0, .nils 1, iv 0, acQ (rnR s l i).2 i, iv (i : Nat), .undef, .undef, .undef]
    have step2 : ∀ i, i < l.length → (∀ h : i < l.length, (nxR (rnR s l i).1 l[i]).2.2 = 0) → rndE G [7, 8, 9] euphroeref23_Run.l0 (E2 i) [[]] = some (.inl (E2 (i + 1), [[]])) := fun i hi hb => by
      have hx := i64s_at (List.getElem?_eq_getElem hi)
      have n := f_rnext (rnR s l i).1 l[i]
      have nl := nx_len (rnR s l i).1 l[i]
      have rl := rn_len s l i
      have hb := hb hi
      simp only [E2]
      rw [rnR_succ hi]
      unfold rxD at n
      rw [hb, if_pos rfl] at n
      have q := acQ_or s l i
      rw [acQ_s]
      generalize rnR s l i = r at *
      generalize nxR r.1 l[i] = x at *
      generalize acQ r.2 i = aq at *
      rcases q with ⟨q1, q2⟩ | q1
      · rw [q1]
        rw [q2]
        simp -implicitDefEqProofs (disch := omega) only [euphroeref23_Run.l0, iv, i64s_len, i64s_app, hx, n, List.nil_append, go_sem, reduceIte, Nat.reduceAdd, Nat.reduceSub, Nat.reduceMul, Nat.reduceLeDiff, Nat.reduceLT, Nat.reduceEqDiff, Int.reduceToNat, Int.reduceLT, Int.reduceLE, Int.reduceEq, Int.reduceNe, Int.reduceAdd, Int.reduceSub, Int.reduceMul, Int.reduceNeg, Int.reduceBEq, Int.reduceBNe, reduceCtorEq, dreduceIte, ac_x, ac_t, setW_s, setW_0, ac_cp, ac_cpw, ac_lenw, ac_ret, ac_pop, ac_popw, cl_cp, oWS, oW8, oW16, oW32, oW64, oLtT, oLtF, oLeT, oLeF, oNLtT, oNLtF, oNLeT, oNLeF, oEqT, oEqF, oNEqT, oNEqF, oBeqT, oBeqF, oBneT, oBneF, Int.natCast_add, Int.cast_ofNat_Int, Int.toNat_natCast, List.take_length, rndE_eq, rnd_n, rnd_r, rnd_e]
      · rw [q1]
        simp -implicitDefEqProofs (disch := omega) only [euphroeref23_Run.l0, iv, i64s_len, i64s_app, hx, n, go_sem, reduceIte, Nat.reduceAdd, Nat.reduceSub, Nat.reduceMul, Nat.reduceLeDiff, Nat.reduceLT, Nat.reduceEqDiff, Int.reduceToNat, Int.reduceLT, Int.reduceLE, Int.reduceEq, Int.reduceNe, Int.reduceAdd, Int.reduceSub, Int.reduceMul, Int.reduceNeg, Int.reduceBEq, Int.reduceBNe, reduceCtorEq, dreduceIte, ac_x, ac_t, setW_s, setW_0, ac_cp, ac_cpw, ac_lenw, ac_ret, ac_pop, ac_popw, cl_cp, oWS, oW8, oW16, oW32, oW64, oLtT, oLtF, oLeT, oLeF, oNLtT, oNLtF, oNLeT, oNLeF, oEqT, oEqF, oNEqT, oNEqF, oBeqT, oBeqF, oBneT, oBneF, Int.natCast_add, Int.cast_ofNat_Int, Int.toNat_natCast, List.take_length, rndE_eq, rnd_n, rnd_r, rnd_e]
    let E := fun (i : Nat) => [iv (rnR s l i).1, .v (.slc 1 (i64s l)), iv 0, .nils 1, iv 0, acQ (rnR s l i).2 i, .v (.slc 1 (i64s l)), iv (l.length : Nat), iv (i : Nat), .undef, .undef, .undef, .undef, .undef]
    have step : ∀ i, i < l.length → (∀ h : i < l.length, (nxR (rnR s l i).1 l[i]).2.2 = 0) → rndE G [9, 10, 11, 12, 13] fsm_Run.l0 (E i) [[]] = some (.inl (E (i + 1), [[]])) := fun i hi hb => by
      have hx := i64s_at (List.getElem?_eq_getElem hi)
      have n := f_next (rnR s l i).1 l[i]
      have nl := nx_len (rnR s l i).1 l[i]
      have rl := rn_len s l i
      have hb := hb hi
      simp only [E]
      rw [rnR_succ hi]
      unfold nxD at n
      rw [hb] at n
      have q := acQ_or s l i
      rw [acQ_s]
      generalize rnR s l i = r at *
      generalize nxR r.1 l[i] = x at *
      generalize acQ r.2 i = aq at *
      rcases q with ⟨q1, q2⟩ | q1
      · rw [q1]
        rw [q2]
        simp -implicitDefEqProofs (disch := omega) only [fsm_Run.l0, iv, i64s_len, i64s_app, hx, n, List.nil_append, go_sem, reduceIte, Nat.reduceAdd, Nat.reduceSub, Nat.reduceMul, Nat.reduceLeDiff, Nat.reduceLT, Nat.reduceEqDiff, Int.reduceToNat, Int.reduceLT, Int.reduceLE, Int.reduceEq, Int.reduceNe, Int.reduceAdd, Int.reduceSub, Int.reduceMul, Int.reduceNeg, Int.reduceBEq, Int.reduceBNe, reduceCtorEq, dreduceIte, ac_x, ac_t, setW_s, setW_0, ac_cp, ac_cpw, ac_lenw, ac_ret, ac_pop, ac_popw, cl_cp, oWS, oW8, oW16, oW32, oW64, oLtT, oLtF, oLeT, oLeF, oNLtT, oNLtF, oNLeT, oNLeF, oEqT, oEqF, oNEqT, oNEqF, oBeqT, oBeqF, oBneT, oBneF, Int.natCast_add, Int.cast_ofNat_Int, Int.toNat_natCast, List.take_length, rndE_eq, rnd_n, rnd_r, rnd_e]
      · rw [q1]
        simp -implicitDefEqProofs (disch := omega) only [fsm_Run.l0, iv, i64s_len, i64s_app, hx, n, go_sem, reduceIte, Nat.reduceAdd, Nat.reduceSub, Nat.reduceMul, Nat.reduceLeDiff, Nat.reduceLT, Nat.reduceEqDiff, Int.reduceToNat, Int.reduceLT, Int.reduceLE, Int.reduceEq, Int.reduceNe, Int.reduceAdd, Int.reduceSub, Int.reduceMul, Int.reduceNeg, Int.reduceBEq, Int.reduceBNe, reduceCtorEq, dreduceIte, ac_x, ac_t, setW_s, setW_0, ac_cp, ac_cpw, ac_lenw, ac_ret, ac_pop, ac_popw, cl_cp, oWS, oW8, oW16, oW32, oW64, oLtT, oLtF, oLeT, oLeF, oNLtT, oNLtF, oNLeT, oNLeF, oEqT, oEqF, oNEqT, oNEqF, oBeqT, oBeqF, oBneT, oBneF, Int.natCast_add, Int.cast_ofNat_Int, Int.toNat_natCast, List.take_length, rndE_eq, rnd_n, rnd_r, rnd_e]
    rcases first_or (fun i => ∃ h : i < l.length, (nxR (rnR s l i).1 l[i]).2.2 ≠ 0) l.length with h | ⟨j, h1, ⟨h2, h3⟩, h4⟩
    · have hno : ∀ i, ∀ h : i < l.length, (nxR (rnR s l i).1 l[i]).2.2 = 0 := fun i hi => by
        have := h i hi
        simp only [not_exists] at this
        simpa using this hi
      have o := f_ok s
      rw [decide_eq_true hs] at o
      have r0 : rnR s l 0 = (s, []) := rfl
      have L2 := lpFor (G := G) (kill := [7, 8, 9]) (body := euphroeref23_Run.l0) E2 (fun _ => [[]]) l.length (fun i hi => step2 i hi (hno i)) (by simp only [E2]; simp -implicitDefEqProofs (disch := omega) only [euphroeref23_Run.l0, iv, i64s_len, go_sem, reduceIte, Nat.reduceAdd, Nat.reduceSub, Nat.reduceMul, Nat.reduceLeDiff, Nat.reduceLT, Nat.reduceEqDiff, Int.reduceToNat, Int.reduceLT, Int.reduceLE, Int.reduceEq, Int.reduceNe, Int.reduceAdd, Int.reduceSub, Int.reduceMul, Int.reduceNeg, Int.reduceBEq, Int.reduceBNe, reduceCtorEq, dreduceIte, ac_x, ac_t, setW_s, setW_0, ac_cp, ac_cpw, ac_lenw, ac_ret, ac_pop, ac_popw, cl_cp, oWS, oW8, oW16, oW32, oW64, oLtT, oLtF, oLeT, oLeF, oNLtT, oNLtF, oNLeT, oNLeF, oEqT, oEqF, oNEqT, oNEqF, oBeqT, oBeqF, oBneT, oBneF, Int.natCast_add, Int.cast_ofNat_Int, Int.toNat_natCast, List.take_length, rndE_eq, rnd_n, rnd_r, rnd_e]; rfl)
      simp only [E2, iv, r0, acQ_z, z0, Int.cast_ofNat_Int, List.take_zero, List.map_nil, List.drop_zero, accN, b8_nil, Int.sub_zero, Int.add_zero, Int.zero_add, Nat.zero_add, Nat.sub_zero, List.nil_append, List.append_nil] at L2
      refine ⟨l.length, Nat.le_refl _, ?_⟩
      unfold RunAt RunBt
      have L := lpFor (G := G) (kill := [9, 10, 11, 12, 13]) (body := fsm_Run.l0) E (fun _ => [[]]) l.length (fun i hi => step i hi (hno i)) (by simp only [E]; simp -implicitDefEqProofs (disch := omega) only [fsm_Run.l0, iv, go_sem, reduceIte, Nat.reduceAdd, Nat.reduceSub, Nat.reduceMul, Nat.reduceLeDiff, Nat.reduceLT, Nat.reduceEqDiff, Int.reduceToNat, Int.reduceLT, Int.reduceLE, Int.reduceEq, Int.reduceNe, Int.reduceAdd, Int.reduceSub, Int.reduceMul, Int.reduceNeg, Int.reduceBEq, Int.reduceBNe, reduceCtorEq, dreduceIte, ac_x, ac_t, setW_s, setW_0, ac_cp, ac_cpw, ac_lenw, ac_ret, ac_pop, ac_popw, cl_cp, oWS, oW8, oW16, oW32, oW64, oLtT, oLtF, oLeT, oLeF, oNLtT, oNLtF, oNLeT, oNLeF, oEqT, oEqF, oNEqT, oNEqF, oBeqT, oBeqF, oBneT, oBneF, Int.natCast_add, Int.cast_ofNat_Int, Int.toNat_natCast, List.take_length, rndE_eq, rnd_n, rnd_r, rnd_e]; rfl)
      have r0 : rnR s l 0 = (s, []) := rfl
      simp only [E, iv, r0, acQ_z, z0, Int.cast_ofNat_Int, List.take_zero, List.map_nil, List.drop_zero, accN, b8_nil, Int.sub_zero, Int.add_zero, Int.zero_add, Nat.zero_add, Nat.sub_zero, List.nil_append, List.append_nil] at L
      have q := acQ_or s l l.length
      generalize rnR s l l.length = r at *
      generalize acQ r.2 l.length = aq at *
      rcases q with ⟨q1, q2⟩ | q1
      · rw [q1] at L L2
        rw [q2, i64s_nil]
        constructor
        · rw [xq_fn G rfl fsm_Run.g _ _ rfl]
          simp -implicitDefEqProofs (disch := omega) only [fsm_Run.s, iv, i64s_len, o, L, go_sem, reduceIte, Nat.reduceAdd, Nat.reduceSub, Nat.reduceMul, Nat.reduceLeDiff, Nat.reduceLT, Nat.reduceEqDiff, Int.reduceToNat, Int.reduceLT, Int.reduceLE, Int.reduceEq, Int.reduceNe, Int.reduceAdd, Int.reduceSub, Int.reduceMul, Int.reduceNeg, Int.reduceBEq, Int.reduceBNe, reduceCtorEq, dreduceIte, ac_x, ac_t, setW_s, setW_0, ac_cp, ac_cpw, ac_lenw, ac_ret, ac_pop, ac_popw, cl_cp, oWS, oW8, oW16, oW32, oW64, oLtT, oLtF, oLeT, oLeF, oNLtT, oNLtF, oNLeT, oNLeF, oEqT, oEqF, oNEqT, oNEqF, oBeqT, oBeqF, oBneT, oBneF, Int.natCast_add, Int.cast_ofNat_Int, Int.toNat_natCast, List.take_length, rndE_eq, rnd_n, rnd_r, rnd_e]
        · rw [xq_fn G rfl euphroeref23_Run.g _ _ rfl]
          simp -implicitDefEqProofs (disch := omega) only [euphroeref23_Run.s, iv, i64s_len, L2, go_sem, reduceIte, Nat.reduceAdd, Nat.reduceSub, Nat.reduceMul, Nat.reduceLeDiff, Nat.reduceLT, Nat.reduceEqDiff, Int.reduceToNat, Int.reduceLT, Int.reduceLE, Int.reduceEq, Int.reduceNe, Int.reduceAdd, Int.reduceSub, Int.reduceMul, Int.reduceNeg, Int.reduceBEq, Int.reduceBNe, reduceCtorEq, dreduceIte, ac_x, ac_t, setW_s, setW_0, ac_cp, ac_cpw, ac_lenw, ac_ret, ac_pop, ac_popw, cl_cp, oWS, oW8, oW16, oW32, oW64, oLtT, oLtF, oLeT, oLeF, oNLtT, oNLtF, oNLeT, oNLeF, oEqT, oEqF, oNEqT, oNEqF, oBeqT, oBeqF, oBneT, oBneF, Int.natCast_add, Int.cast_ofNat_Int, Int.toNat_natCast, List.take_length, rndE_eq, rnd_n, rnd_r, rnd_e]
      · rw [q1] at L L2
        constructor
        · rw [xq_fn G rfl fsm_Run.g _ _ rfl]
          simp -implicitDefEqProofs (disch := omega) only [fsm_Run.s, iv, i64s_len, o, L, go_sem, reduceIte, Nat.reduceAdd, Nat.reduceSub, Nat.reduceMul, Nat.reduceLeDiff, Nat.reduceLT, Nat.reduceEqDiff, Int.reduceToNat, Int.reduceLT, Int.reduceLE, Int.reduceEq, Int.reduceNe, Int.reduceAdd, Int.reduceSub, Int.reduceMul, Int.reduceNeg, Int.reduceBEq, Int.reduceBNe, reduceCtorEq, dreduceIte, ac_x, ac_t, setW_s, setW_0, ac_cp, ac_cpw, ac_lenw, ac_ret, ac_pop, ac_popw, cl_cp, oWS, oW8, oW16, oW32, oW64, oLtT, oLtF, oLeT, oLeF, oNLtT, oNLtF, oNLeT, oNLeF, oEqT, oEqF, oNEqT, oNEqF, oBeqT, oBeqF, oBneT, oBneF, Int.natCast_add, Int.cast_ofNat_Int, Int.toNat_natCast, List.take_length, rndE_eq, rnd_n, rnd_r, rnd_e]
        · rw [xq_fn G rfl euphroeref23_Run.g _ _ rfl]
          simp -implicitDefEqProofs (disch := omega) only [euphroeref23_Run.s, iv, i64s_len, L2, go_sem, reduceIte, Nat.reduceAdd, Nat.reduceSub, Nat.reduceMul, Nat.reduceLeDiff, Nat.reduceLT, Nat.reduceEqDiff, Int.reduceToNat, Int.reduceLT, Int.reduceLE, Int.reduceEq, Int.reduceNe, Int.reduceAdd, Int.reduceSub, Int.reduceMul, Int.reduceNeg, Int.reduceBEq, Int.reduceBNe, reduceCtorEq, dreduceIte, ac_x, ac_t, setW_s, setW_0, ac_cp, ac_cpw, ac_lenw, ac_ret, ac_pop, ac_popw, cl_cp, oWS, oW8, oW16, oW32, oW64, oLtT, oLtF, oLeT, oLeF, oNLtT, oNLtF, oNLeT, oNLeF, oEqT, oEqF, oNEqT, oNEqF, oBeqT, oBeqF, oBneT, oBneF, Int.natCast_add, Int.cast_ofNat_Int, Int.toNat_natCast, List.take_length, rndE_eq, rnd_n, rnd_r, rnd_e]
    · have hno : ∀ i, i < j → ∀ h : i < l.length, (nxR (rnR s l i).1 l[i]).2.2 = 0 := fun i hi hil => by
        have := h4 i hi
        simp only [not_exists] at this
        simpa using this hil
      have o := f_ok s
      rw [decide_eq_true hs] at o
      refine ⟨j, by omega, ?_⟩
      unfold RunAt RunBt
      have n2 := f_rnext (rnR s l j).1 l[j]
      unfold rxD at n2
      rw [if_neg h3] at n2
      have hx := i64s_at (List.getElem?_eq_getElem h2)
      have n := f_next (rnR s l j).1 l[j]
      unfold nxD at n
      have r0 : rnR s l 0 = (s, []) := rfl
      rcases acQ_or s l j with ⟨q1, q2⟩ | q1
      · have L := lpFor (G := G) (kill := [9, 10, 11, 12, 13]) (body := fsm_Run.l0) E (fun _ => [[]]) j (fun i hi => step i (by omega) (hno i hi)) (by simp only [E]; rw [q1]; simp -implicitDefEqProofs (disch := omega) only [fsm_Run.l0, iv, i64s_len, hx, n, go_sem, reduceIte, Nat.reduceAdd, Nat.reduceSub, Nat.reduceMul, Nat.reduceLeDiff, Nat.reduceLT, Nat.reduceEqDiff, Int.reduceToNat, Int.reduceLT, Int.reduceLE, Int.reduceEq, Int.reduceNe, Int.reduceAdd, Int.reduceSub, Int.reduceMul, Int.reduceNeg, Int.reduceBEq, Int.reduceBNe, reduceCtorEq, dreduceIte, ac_x, ac_t, setW_s, setW_0, ac_cp, ac_cpw, ac_lenw, ac_ret, ac_pop, ac_popw, cl_cp, oWS, oW8, oW16, oW32, oW64, oLtT, oLtF, oLeT, oLeF, oNLtT, oNLtF, oNLeT, oNLeF, oEqT, oEqF, oNEqT, oNEqF, oBeqT, oBeqF, oBneT, oBneF, Int.natCast_add, Int.cast_ofNat_Int, Int.toNat_natCast, List.take_length, rndE_eq, rnd_n, rnd_r, rnd_e]; rfl)
        simp only [E, iv, r0, acQ_z, z0, Int.cast_ofNat_Int, List.take_zero, List.map_nil, List.drop_zero, accN, b8_nil, Int.sub_zero, Int.add_zero, Int.zero_add, Nat.zero_add, Nat.sub_zero, List.nil_append, List.append_nil] at L
        have L2 := lpFor (G := G) (kill := [7, 8, 9]) (body := euphroeref23_Run.l0) E2 (fun _ => [[]]) j (fun i hi => step2 i (by omega) (hno i hi)) (by simp only [E2]; rw [q1]; simp -implicitDefEqProofs (disch := omega) only [euphroeref23_Run.l0, iv, i64s_len, hx, n2, go_sem, reduceIte, Nat.reduceAdd, Nat.reduceSub, Nat.reduceMul, Nat.reduceLeDiff, Nat.reduceLT, Nat.reduceEqDiff, Int.reduceToNat, Int.reduceLT, Int.reduceLE, Int.reduceEq, Int.reduceNe, Int.reduceAdd, Int.reduceSub, Int.reduceMul, Int.reduceNeg, Int.reduceBEq, Int.reduceBNe, reduceCtorEq, dreduceIte, ac_x, ac_t, setW_s, setW_0, ac_cp, ac_cpw, ac_lenw, ac_ret, ac_pop, ac_popw, cl_cp, oWS, oW8, oW16, oW32, oW64, oLtT, oLtF, oLeT, oLeF, oNLtT, oNLtF, oNLeT, oNLeF, oEqT, oEqF, oNEqT, oNEqF, oBeqT, oBeqF, oBneT, oBneF, Int.natCast_add, Int.cast_ofNat_Int, Int.toNat_natCast, List.take_length, rndE_eq, rnd_n, rnd_r, rnd_e]; rfl)
        simp only [E2, iv, r0, acQ_z, z0, Int.cast_ofNat_Int, List.take_zero, List.map_nil, List.drop_zero, accN, b8_nil, Int.sub_zero, Int.add_zero, Int.zero_add, Nat.zero_add, Nat.sub_zero, List.nil_append, List.append_nil] at L2
        rw [q2, i64s_nil]
        constructor
        · rw [xq_fn G rfl fsm_Run.g _ _ rfl]
          simp -implicitDefEqProofs (disch := omega) only [fsm_Run.s, iv, i64s_len, o, L, go_sem, reduceIte, Nat.reduceAdd, Nat.reduceSub, Nat.reduceMul, Nat.reduceLeDiff, Nat.reduceLT, Nat.reduceEqDiff, Int.reduceToNat, Int.reduceLT, Int.reduceLE, Int.reduceEq, Int.reduceNe, Int.reduceAdd, Int.reduceSub, Int.reduceMul, Int.reduceNeg, Int.reduceBEq, Int.reduceBNe, reduceCtorEq, dreduceIte, ac_x, ac_t, setW_s, setW_0, ac_cp, ac_cpw, ac_lenw, ac_ret, ac_pop, ac_popw, cl_cp, oWS, oW8, oW16, oW32, oW64, oLtT, oLtF, oLeT, oLeF, oNLtT, oNLtF, oNLeT, oNLeF, oEqT, oEqF, oNEqT, oNEqF, oBeqT, oBeqF, oBneT, oBneF, Int.natCast_add, Int.cast_ofNat_Int, Int.toNat_natCast, List.take_length, rndE_eq, rnd_n, rnd_r, rnd_e]
        · rw [xq_fn G rfl euphroeref23_Run.g _ _ rfl]
          simp -implicitDefEqProofs (disch := omega) only [euphroeref23_Run.s, iv, i64s_len, L2, go_sem, reduceIte, Nat.reduceAdd, Nat.reduceSub, Nat.reduceMul, Nat.reduceLeDiff, Nat.reduceLT, Nat.reduceEqDiff, Int.reduceToNat, Int.reduceLT, Int.reduceLE, Int.reduceEq, Int.reduceNe, Int.reduceAdd, Int.reduceSub, Int.reduceMul, Int.reduceNeg, Int.reduceBEq, Int.reduceBNe, reduceCtorEq, dreduceIte, ac_x, ac_t, setW_s, setW_0, ac_cp, ac_cpw, ac_lenw, ac_ret, ac_pop, ac_popw, cl_cp, oWS, oW8, oW16, oW32, oW64, oLtT, oLtF, oLeT, oLeF, oNLtT, oNLtF, oNLeT, oNLeF, oEqT, oEqF, oNEqT, oNEqF, oBeqT, oBeqF, oBneT, oBneF, Int.natCast_add, Int.cast_ofNat_Int, Int.toNat_natCast, List.take_length, rndE_eq, rnd_n, rnd_r, rnd_e]
      · have L := lpFor (G := G) (kill := [9, 10, 11, 12, 13]) (body := fsm_Run.l0) E (fun _ => [[]]) j (fun i hi => step i (by omega) (hno i hi)) (by simp only [E]; rw [q1]; simp -implicitDefEqProofs (disch := omega) only [fsm_Run.l0, iv, i64s_len, hx, n, go_sem, reduceIte, Nat.reduceAdd, Nat.reduceSub, Nat.reduceMul, Nat.reduceLeDiff, Nat.reduceLT, Nat.reduceEqDiff, Int.reduceToNat, Int.reduceLT, Int.reduceLE, Int.reduceEq, Int.reduceNe, Int.reduceAdd, Int.reduceSub, Int.reduceMul, Int.reduceNeg, Int.reduceBEq, Int.reduceBNe, reduceCtorEq, dreduceIte, ac_x, ac_t, setW_s, setW_0, ac_cp, ac_cpw, ac_lenw, ac_ret, ac_pop, ac_popw, cl_cp, oWS, oW8, oW16, oW32, oW64, oLtT, oLtF, oLeT, oLeF, oNLtT, oNLtF, oNLeT, oNLeF, oEqT, oEqF, oNEqT, oNEqF, oBeqT, oBeqF, oBneT, oBneF, Int.natCast_add, Int.cast_ofNat_Int, Int.toNat_natCast, List.take_length, rndE_eq, rnd_n, rnd_r, rnd_e]; rfl)
        simp only [E, iv, r0, acQ_z, z0, Int.cast_ofNat_Int, List.take_zero, List.map_nil, List.drop_zero, accN, b8_nil, Int.sub_zero, Int.add_zero, Int.zero_add, Nat.zero_add, Nat.sub_zero, List.nil_append, List.append_nil] at L
        have L2 := lpFor (G := G) (kill := [7, 8, 9]) (body := euphroeref23_Run.l0) E2 (fun _ => [[]]) j (fun i hi => step2 i (by omega) (hno i hi)) (by simp only [E2]; rw [q1]; simp -implicitDefEqProofs (disch := omega) only [euphroeref23_Run.l0, iv, i64s_len, hx, n2, go_sem, reduceIte, Nat.reduceAdd, Nat.reduceSub, Nat.reduceMul, Nat.reduceLeDiff, Nat.reduceLT, Nat.reduceEqDiff, Int.reduceToNat, Int.reduceLT, Int.reduceLE, Int.reduceEq, Int.reduceNe, Int.reduceAdd, Int.reduceSub, Int.reduceMul, Int.reduceNeg, Int.reduceBEq, Int.reduceBNe, reduceCtorEq, dreduceIte, ac_x, ac_t, setW_s, setW_0, ac_cp, ac_cpw, ac_lenw, ac_ret, ac_pop, ac_popw, cl_cp, oWS, oW8, oW16, oW32, oW64, oLtT, oLtF, oLeT, oLeF, oNLtT, oNLtF, oNLeT, oNLeF, oEqT, oEqF, oNEqT, oNEqF, oBeqT, oBeqF, oBneT, oBneF, Int.natCast_add, Int.cast_ofNat_Int, Int.toNat_natCast, List.take_length, rndE_eq, rnd_n, rnd_r, rnd_e]; rfl)
        simp only [E2, iv, r0, acQ_z, z0, Int.cast_ofNat_Int, List.take_zero, List.map_nil, List.drop_zero, accN, b8_nil, Int.sub_zero, Int.add_zero, Int.zero_add, Nat.zero_add, Nat.sub_zero, List.nil_append, List.append_nil] at L2
        constructor
        · rw [xq_fn G rfl fsm_Run.g _ _ rfl]
          simp -implicitDefEqProofs (disch := omega) only [fsm_Run.s, iv, i64s_len, o, L, go_sem, reduceIte, Nat.reduceAdd, Nat.reduceSub, Nat.reduceMul, Nat.reduceLeDiff, Nat.reduceLT, Nat.reduceEqDiff, Int.reduceToNat, Int.reduceLT, Int.reduceLE, Int.reduceEq, Int.reduceNe, Int.reduceAdd, Int.reduceSub, Int.reduceMul, Int.reduceNeg, Int.reduceBEq, Int.reduceBNe, reduceCtorEq, dreduceIte, ac_x, ac_t, setW_s, setW_0, ac_cp, ac_cpw, ac_lenw, ac_ret, ac_pop, ac_popw, cl_cp, oWS, oW8, oW16, oW32, oW64, oLtT, oLtF, oLeT, oLeF, oNLtT, oNLtF, oNLeT, oNLeF, oEqT, oEqF, oNEqT, oNEqF, oBeqT, oBeqF, oBneT, oBneF, Int.natCast_add, Int.cast_ofNat_Int, Int.toNat_natCast, List.take_length, rndE_eq, rnd_n, rnd_r, rnd_e]
        · rw [xq_fn G rfl euphroeref23_Run.g _ _ rfl]
          simp -implicitDefEqProofs (disch := omega) only [euphroeref23_Run.s, iv, i64s_len, L2, go_sem, reduceIte, Nat.reduceAdd, Nat.reduceSub, Nat.reduceMul, Nat.reduceLeDiff, Nat.reduceLT, Nat.reduceEqDiff, Int.reduceToNat, Int.reduceLT, Int.reduceLE, Int.reduceEq, Int.reduceNe, Int.reduceAdd, Int.reduceSub, Int.reduceMul, Int.reduceNeg, Int.reduceBEq, Int.reduceBNe, reduceCtorEq, dreduceIte, ac_x, ac_t, setW_s, setW_0, ac_cp, ac_cpw, ac_lenw, ac_ret, ac_pop, ac_popw, cl_cp, oWS, oW8, oW16, oW32, oW64, oLtT, oLtF, oLeT, oLeF, oNLtT, oNLtF, oNLeT, oNLeF, oEqT, oEqF, oNEqT, oNEqF, oBeqT, oBeqF, oBneT, oBneF, Int.natCast_add, Int.cast_ofNat_Int, Int.toNat_natCast, List.take_length, rndE_eq, rnd_n, rnd_r, rnd_e]
theorem f_runBoth (s : Int) (l : List Int) (hn : l.length ≤ 200) : ∃ (n : Int) (a : List Int) (d : Int), a.length ≤ 800 ∧ run G 20 [iv s, .v (.slc 1 (i64s l))] [] = some (.tup [iv n, .lin 1 (i64s a), iv d], []) ∧ run G 21 [iv s, .v (.slc 1 (i64s l))] [] = some (.tup [iv n, .lin 1 (i64s a), iv d], []) := by
  by_cases hs : 0 ≤ s ∧ s ≤ 9
  · obtain ⟨j, h1, h2, h3⟩ := f_runs s l hn hs
    exact ⟨_, _, _, by have := rn_len s l j; omega, h2, h3⟩
  · refine ⟨0, [], 0, by simp, ?_, ?_⟩
    · rw [xq_fn G rfl fsm_Run.g _ _ rfl]
      have o := f_ok s
      rw [decide_eq_false hs] at o
      simp -implicitDefEqProofs (disch := omega) only [fsm_Run.s, iv, o, i64s_nil, go_sem, reduceIte, Nat.reduceAdd, Nat.reduceSub, Nat.reduceMul, Nat.reduceLeDiff, Nat.reduceLT, Nat.reduceEqDiff, Int.reduceToNat, Int.reduceLT, Int.reduceLE, Int.reduceEq, Int.reduceNe, Int.reduceAdd, Int.reduceSub, Int.reduceMul, Int.reduceNeg, Int.reduceBEq, Int.reduceBNe, reduceCtorEq, dreduceIte, ac_x, ac_t, setW_s, setW_0, ac_cp, ac_cpw, ac_lenw, ac_ret, ac_pop, ac_popw, cl_cp, oWS, oW8, oW16, oW32, oW64, oLtT, oLtF, oLeT, oLeF, oNLtT, oNLtF, oNLeT, oNLeF, oEqT, oEqF, oNEqT, oNEqF, oBeqT, oBeqF, oBneT, oBneF, Int.natCast_add, Int.cast_ofNat_Int, Int.toNat_natCast, List.take_length, rndE_eq, rnd_n, rnd_r, rnd_e]
    · rw [xq_fn G rfl euphroeref23_Run.g _ _ rfl]
      by_cases g : s < 0
      · simp -implicitDefEqProofs (disch := omega) only [euphroeref23_Run.s, iv, i64s_nil, go_sem, reduceIte, Nat.reduceAdd, Nat.reduceSub, Nat.reduceMul, Nat.reduceLeDiff, Nat.reduceLT, Nat.reduceEqDiff, Int.reduceToNat, Int.reduceLT, Int.reduceLE, Int.reduceEq, Int.reduceNe, Int.reduceAdd, Int.reduceSub, Int.reduceMul, Int.reduceNeg, Int.reduceBEq, Int.reduceBNe, reduceCtorEq, dreduceIte, ac_x, ac_t, setW_s, setW_0, ac_cp, ac_cpw, ac_lenw, ac_ret, ac_pop, ac_popw, cl_cp, oWS, oW8, oW16, oW32, oW64, oLtT, oLtF, oLeT, oLeF, oNLtT, oNLtF, oNLeT, oNLeF, oEqT, oEqF, oNEqT, oNEqF, oBeqT, oBeqF, oBneT, oBneF, Int.natCast_add, Int.cast_ofNat_Int, Int.toNat_natCast, List.take_length, rndE_eq, rnd_n, rnd_r, rnd_e]
      · simp -implicitDefEqProofs (disch := omega) only [euphroeref23_Run.s, iv, i64s_nil, go_sem, reduceIte, Nat.reduceAdd, Nat.reduceSub, Nat.reduceMul, Nat.reduceLeDiff, Nat.reduceLT, Nat.reduceEqDiff, Int.reduceToNat, Int.reduceLT, Int.reduceLE, Int.reduceEq, Int.reduceNe, Int.reduceAdd, Int.reduceSub, Int.reduceMul, Int.reduceNeg, Int.reduceBEq, Int.reduceBNe, reduceCtorEq, dreduceIte, ac_x, ac_t, setW_s, setW_0, ac_cp, ac_cpw, ac_lenw, ac_ret, ac_pop, ac_popw, cl_cp, oWS, oW8, oW16, oW32, oW64, oLtT, oLtF, oLeT, oLeF, oNLtT, oNLtF, oNLeT, oNLeF, oEqT, oEqF, oNEqT, oNEqF, oBeqT, oBeqF, oBneT, oBneF, Int.natCast_add, Int.cast_ofNat_Int, Int.toNat_natCast, List.take_length, rndE_eq, rnd_n, rnd_r, rnd_e]
theorem rn_copy (s t : Int) (l : List Int) (hn : l.length ≤ 200) :
    ex G (.loop [8] euphroelaw23_FsmRuns.l0) [iv s, iv t, .v (.slc 1 (i64s l)), .v (.bool false), .nils 1, .v (.slc 1 (i64s l)), iv (l.length : Nat), iv 0, .undef, .undef, .undef, .undef, .undef, .undef, .undef, .undef] [[]] =
      some (.exit 0, [iv s, iv t, .v (.slc 1 (i64s l)), .v (.bool false), accG 1 (i64s l), .v (.slc 1 (i64s l)), iv (l.length : Nat), iv (l.length : Nat), .undef, .undef, .undef, .undef, .undef, .undef, .undef, .undef], [[]]) := by
  have hM := hmax
  have L := lpFor (G := G) (kill := [8]) (body := euphroelaw23_FsmRuns.l0) (fun i => [iv s, iv t, .v (.slc 1 (i64s l)), .v (.bool false), accG 1 (i64s (l.take i)), .v (.slc 1 (i64s l)), iv (l.length : Nat), iv i, .undef, .undef, .undef, .undef, .undef, .undef, .undef, .undef]) (fun _ => [[]]) l.length
    (fun i hi => by
      have hx := i64s_at (List.getElem?_eq_getElem hi)
      have ha := ac_app 1 (i64s (l.take i)) 8 [.int .i64 l[i]] (by simp) (by rw [i64s_len]; simp; omega)
      have he : i64s (l.take i) ++ [V.int .i64 l[i]] = i64s (l.take (i + 1)) := by rw [take_succ hi, ← i64s_app]; rfl
      rw [he] at ha
      simp -implicitDefEqProofs (disch := omega) only [euphroelaw23_FsmRuns.l0, iv, i64s_len, hx, ha, go_sem, reduceIte, Nat.reduceAdd, Nat.reduceSub, Nat.reduceMul, Nat.reduceLeDiff, Nat.reduceLT, Nat.reduceEqDiff, Int.reduceToNat, Int.reduceLT, Int.reduceLE, Int.reduceEq, Int.reduceNe, Int.reduceAdd, Int.reduceSub, Int.reduceMul, Int.reduceNeg, Int.reduceBEq, Int.reduceBNe, reduceCtorEq, dreduceIte, ac_x, ac_t, setW_s, setW_0, ac_cp, ac_cpw, ac_lenw, ac_ret, ac_pop, ac_popw, cl_cp, oWS, oW8, oW16, oW32, oW64, oLtT, oLtF, oLeT, oLeF, oNLtT, oNLtF, oNLeT, oNLeF, oEqT, oEqF, oNEqT, oNEqF, oBeqT, oBeqF, oBneT, oBneF, Int.natCast_add, Int.cast_ofNat_Int, Int.toNat_natCast, List.take_length, rndE_eq, rnd_n, rnd_r, rnd_e]) (by simp -implicitDefEqProofs (disch := omega) only [euphroelaw23_FsmRuns.l0, iv, go_sem, reduceIte, Nat.reduceAdd, Nat.reduceSub, Nat.reduceMul, Nat.reduceLeDiff, Nat.reduceLT, Nat.reduceEqDiff, Int.reduceToNat, Int.reduceLT, Int.reduceLE, Int.reduceEq, Int.reduceNe, Int.reduceAdd, Int.reduceSub, Int.reduceMul, Int.reduceNeg, Int.reduceBEq, Int.reduceBNe, reduceCtorEq, dreduceIte, ac_x, ac_t, setW_s, setW_0, ac_cp, ac_cpw, ac_lenw, ac_ret, ac_pop, ac_popw, cl_cp, oWS, oW8, oW16, oW32, oW64, oLtT, oLtF, oLeT, oLeF, oNLtT, oNLtF, oNLeT, oNLeF, oEqT, oEqF, oNEqT, oNEqF, oBeqT, oBeqF, oBneT, oBneF, Int.natCast_add, Int.cast_ofNat_Int, Int.toNat_natCast, List.take_length, rndE_eq, rnd_n, rnd_r, rnd_e]; rfl)
  simp only [iv, i64s_nil, z0, Int.cast_ofNat_Int, List.take_zero, List.map_nil, List.drop_zero, accN, b8_nil, Int.sub_zero, Int.add_zero, Int.zero_add, Nat.zero_add, Nat.sub_zero, List.nil_append, List.append_nil] at L
  exact L
theorem fsmRuns (s t : Int) (l : List Int) (hn : l.length ≤ 4611686018427387904) : run G 5 [iv s, iv t, .v (.slc 1 (i64s l))] [] = some (.v (.bool true), []) := by
  rw [xq_fn G rfl euphroelaw23_FsmRuns.g _ _ rfl]
  have al := f_alive
  by_cases h200 : 200 < l.length
  · simp -implicitDefEqProofs (disch := omega) only [euphroelaw23_FsmRuns.s, iv, i64s_len, al, go_sem, reduceIte, Nat.reduceAdd, Nat.reduceSub, Nat.reduceMul, Nat.reduceLeDiff, Nat.reduceLT, Nat.reduceEqDiff, Int.reduceToNat, Int.reduceLT, Int.reduceLE, Int.reduceEq, Int.reduceNe, Int.reduceAdd, Int.reduceSub, Int.reduceMul, Int.reduceNeg, Int.reduceBEq, Int.reduceBNe, reduceCtorEq, dreduceIte, ac_x, ac_t, setW_s, setW_0, ac_cp, ac_cpw, ac_lenw, ac_ret, ac_pop, ac_popw, cl_cp, oWS, oW8, oW16, oW32, oW64, oLtT, oLtF, oLeT, oLeF, oNLtT, oNLtF, oNLeT, oNLeF, oEqT, oEqF, oNEqT, oNEqF, oBeqT, oBeqF, oBneT, oBneF, Int.natCast_add, Int.cast_ofNat_Int, Int.toNat_natCast, List.take_length, rndE_eq, rnd_n, rnd_r, rnd_e]
  · have L := rn_copy s t l (by omega)
    obtain ⟨n, a, d, h8, R1, R2⟩ := f_runBoth s l (by omega)
    have sm := f_same a (by have : M = 100000 := rfl; omega)
    have rd := f_reached s
    have key : ∃ b, run G 23 [iv s, iv t] [] = some (.v (.bool b), []) ∧ (0 ≤ t → t ≤ 9 → ((bl (rdR s)).map D.v)[t.toNat]? = some (.v (.bool b))) ∧ (¬ (0 ≤ t ∧ t ≤ 9) → b = false) := by
      by_cases ht : 0 ≤ t ∧ t ≤ 9
      · by_cases hs : 0 ≤ s ∧ s ≤ 9
        · refine ⟨_, f_reaches s t hs ht, fun _ _ => ?_, fun h => absurd ht h⟩
          rw [blv_at (by rw [rd_len]; omega), rcR, if_pos ht]
        · refine ⟨_, f_reacho s t (by omega), fun _ _ => ?_, fun _ => rfl⟩
          rw [blv_at (by rw [rd_len]; omega), rdR, if_neg hs]
          have : (List.range 10).all (fun k => (List.replicate 10 false).getD k false == false) = true := by decide
          have := List.all_eq_true.1 this t.toNat (List.mem_range.2 (by omega))
          rw [eq_of_beq this]
      · exact ⟨_, f_reacho s t (by omega), fun h1 h2 => absurd ⟨h1, h2⟩ ht, fun _ => rfl⟩
    obtain ⟨b, K, K1, K2⟩ := key
    have bb : (b == b) = true := by cases b <;> rfl
    have bf : (false == false) = true := rfl
    have lc : l = [] ∨ accG 1 (i64s l) = .lin 1 (i64s l) := by
      cases l with
      | nil => exact .inl rfl
      | cons x l => exact .inr rfl
    by_cases t0 : 0 ≤ t
    · by_cases t9 : t ≤ 9
      · have hx := K1 t0 t9
        have hmn : min t 9 = t := by omega
        have hmx : max 0 t = t := by omega
        have h10 : (bl (rdR s)).length = 10 := by rw [bl_len, rd_len]
        generalize bl (rdR s) = BL at *
        rcases lc with rfl | lc
        · simp only [iv, i64s_nil, List.length_nil, z0, Int.cast_ofNat_Int, List.take_zero, List.map_nil, List.drop_zero, accN, b8_nil, Int.sub_zero, Int.add_zero, Int.zero_add, Nat.zero_add, Nat.sub_zero, List.nil_append, List.append_nil] at L
          simp only [i64s_nil, z0, Int.cast_ofNat_Int, List.take_zero, List.map_nil, List.drop_zero, accN, b8_nil, Int.sub_zero, Int.add_zero, Int.zero_add, Nat.zero_add, Nat.sub_zero, List.nil_append, List.append_nil] at R1
          simp only [i64s_nil, z0, Int.cast_ofNat_Int, List.take_zero, List.map_nil, List.drop_zero, accN, b8_nil, Int.sub_zero, Int.add_zero, Int.zero_add, Nat.zero_add, Nat.sub_zero, List.nil_append, List.append_nil] at R2
          simp -implicitDefEqProofs (disch := omega) only [euphroelaw23_FsmRuns.s, iv, i64s_nil, L, R1, R2, sm, rd, K, hx, hmn, hmx, h10, bb, al, beq_self_eq_true, Nat.mul_one, go_sem, reduceIte, Nat.reduceAdd, Nat.reduceSub, Nat.reduceMul, Nat.reduceLeDiff, Nat.reduceLT, Nat.reduceEqDiff, Int.reduceToNat, Int.reduceLT, Int.reduceLE, Int.reduceEq, Int.reduceNe, Int.reduceAdd, Int.reduceSub, Int.reduceMul, Int.reduceNeg, Int.reduceBEq, Int.reduceBNe, reduceCtorEq, dreduceIte, ac_x, ac_t, setW_s, setW_0, ac_cp, ac_cpw, ac_lenw, ac_ret, ac_pop, ac_popw, cl_cp, oWS, oW8, oW16, oW32, oW64, oLtT, oLtF, oLeT, oLeF, oNLtT, oNLtF, oNLeT, oNLeF, oEqT, oEqF, oNEqT, oNEqF, oBeqT, oBeqF, oBneT, oBneF, Int.natCast_add, Int.cast_ofNat_Int, Int.toNat_natCast, List.take_length, rndE_eq, rnd_n, rnd_r, rnd_e]
        · rw [lc] at L
          simp -implicitDefEqProofs (disch := omega) only [euphroelaw23_FsmRuns.s, iv, i64s_len, L, R1, R2, sm, rd, K, hx, hmn, hmx, h10, bb, al, beq_self_eq_true, Nat.mul_one, go_sem, reduceIte, Nat.reduceAdd, Nat.reduceSub, Nat.reduceMul, Nat.reduceLeDiff, Nat.reduceLT, Nat.reduceEqDiff, Int.reduceToNat, Int.reduceLT, Int.reduceLE, Int.reduceEq, Int.reduceNe, Int.reduceAdd, Int.reduceSub, Int.reduceMul, Int.reduceNeg, Int.reduceBEq, Int.reduceBNe, reduceCtorEq, dreduceIte, ac_x, ac_t, setW_s, setW_0, ac_cp, ac_cpw, ac_lenw, ac_ret, ac_pop, ac_popw, cl_cp, oWS, oW8, oW16, oW32, oW64, oLtT, oLtF, oLeT, oLeF, oNLtT, oNLtF, oNLeT, oNLeF, oEqT, oEqF, oNEqT, oNEqF, oBeqT, oBeqF, oBneT, oBneF, Int.natCast_add, Int.cast_ofNat_Int, Int.toNat_natCast, List.take_length, rndE_eq, rnd_n, rnd_r, rnd_e]
      · rw [K2 (by omega)] at K
        rcases lc with rfl | lc
        · simp only [iv, i64s_nil, List.length_nil, z0, Int.cast_ofNat_Int, List.take_zero, List.map_nil, List.drop_zero, accN, b8_nil, Int.sub_zero, Int.add_zero, Int.zero_add, Nat.zero_add, Nat.sub_zero, List.nil_append, List.append_nil] at L
          simp only [i64s_nil, z0, Int.cast_ofNat_Int, List.take_zero, List.map_nil, List.drop_zero, accN, b8_nil, Int.sub_zero, Int.add_zero, Int.zero_add, Nat.zero_add, Nat.sub_zero, List.nil_append, List.append_nil] at R1
          simp only [i64s_nil, z0, Int.cast_ofNat_Int, List.take_zero, List.map_nil, List.drop_zero, accN, b8_nil, Int.sub_zero, Int.add_zero, Int.zero_add, Nat.zero_add, Nat.sub_zero, List.nil_append, List.append_nil] at R2
          simp -implicitDefEqProofs (disch := omega) only [euphroelaw23_FsmRuns.s, iv, i64s_nil, L, R1, R2, sm, rd, K, bf, al, beq_self_eq_true, go_sem, reduceIte, Nat.reduceAdd, Nat.reduceSub, Nat.reduceMul, Nat.reduceLeDiff, Nat.reduceLT, Nat.reduceEqDiff, Int.reduceToNat, Int.reduceLT, Int.reduceLE, Int.reduceEq, Int.reduceNe, Int.reduceAdd, Int.reduceSub, Int.reduceMul, Int.reduceNeg, Int.reduceBEq, Int.reduceBNe, reduceCtorEq, dreduceIte, ac_x, ac_t, setW_s, setW_0, ac_cp, ac_cpw, ac_lenw, ac_ret, ac_pop, ac_popw, cl_cp, oWS, oW8, oW16, oW32, oW64, oLtT, oLtF, oLeT, oLeF, oNLtT, oNLtF, oNLeT, oNLeF, oEqT, oEqF, oNEqT, oNEqF, oBeqT, oBeqF, oBneT, oBneF, Int.natCast_add, Int.cast_ofNat_Int, Int.toNat_natCast, List.take_length, rndE_eq, rnd_n, rnd_r, rnd_e]
        · rw [lc] at L
          simp -implicitDefEqProofs (disch := omega) only [euphroelaw23_FsmRuns.s, iv, i64s_len, L, R1, R2, sm, rd, K, bf, al, beq_self_eq_true, go_sem, reduceIte, Nat.reduceAdd, Nat.reduceSub, Nat.reduceMul, Nat.reduceLeDiff, Nat.reduceLT, Nat.reduceEqDiff, Int.reduceToNat, Int.reduceLT, Int.reduceLE, Int.reduceEq, Int.reduceNe, Int.reduceAdd, Int.reduceSub, Int.reduceMul, Int.reduceNeg, Int.reduceBEq, Int.reduceBNe, reduceCtorEq, dreduceIte, ac_x, ac_t, setW_s, setW_0, ac_cp, ac_cpw, ac_lenw, ac_ret, ac_pop, ac_popw, cl_cp, oWS, oW8, oW16, oW32, oW64, oLtT, oLtF, oLeT, oLeF, oNLtT, oNLtF, oNLeT, oNLeF, oEqT, oEqF, oNEqT, oNEqF, oBeqT, oBeqF, oBneT, oBneF, Int.natCast_add, Int.cast_ofNat_Int, Int.toNat_natCast, List.take_length, rndE_eq, rnd_n, rnd_r, rnd_e]
    · rw [K2 (by omega)] at K
      rcases lc with rfl | lc
      · simp only [iv, i64s_nil, List.length_nil, z0, Int.cast_ofNat_Int, List.take_zero, List.map_nil, List.drop_zero, accN, b8_nil, Int.sub_zero, Int.add_zero, Int.zero_add, Nat.zero_add, Nat.sub_zero, List.nil_append, List.append_nil] at L
        simp only [i64s_nil, z0, Int.cast_ofNat_Int, List.take_zero, List.map_nil, List.drop_zero, accN, b8_nil, Int.sub_zero, Int.add_zero, Int.zero_add, Nat.zero_add, Nat.sub_zero, List.nil_append, List.append_nil] at R1
        simp only [i64s_nil, z0, Int.cast_ofNat_Int, List.take_zero, List.map_nil, List.drop_zero, accN, b8_nil, Int.sub_zero, Int.add_zero, Int.zero_add, Nat.zero_add, Nat.sub_zero, List.nil_append, List.append_nil] at R2
        simp -implicitDefEqProofs (disch := omega) only [euphroelaw23_FsmRuns.s, iv, i64s_nil, L, R1, R2, sm, rd, K, bf, al, beq_self_eq_true, go_sem, reduceIte, Nat.reduceAdd, Nat.reduceSub, Nat.reduceMul, Nat.reduceLeDiff, Nat.reduceLT, Nat.reduceEqDiff, Int.reduceToNat, Int.reduceLT, Int.reduceLE, Int.reduceEq, Int.reduceNe, Int.reduceAdd, Int.reduceSub, Int.reduceMul, Int.reduceNeg, Int.reduceBEq, Int.reduceBNe, reduceCtorEq, dreduceIte, ac_x, ac_t, setW_s, setW_0, ac_cp, ac_cpw, ac_lenw, ac_ret, ac_pop, ac_popw, cl_cp, oWS, oW8, oW16, oW32, oW64, oLtT, oLtF, oLeT, oLeF, oNLtT, oNLtF, oNLeT, oNLeF, oEqT, oEqF, oNEqT, oNEqF, oBeqT, oBeqF, oBneT, oBneF, Int.natCast_add, Int.cast_ofNat_Int, Int.toNat_natCast, List.take_length, rndE_eq, rnd_n, rnd_r, rnd_e]
      · rw [lc] at L
        simp -implicitDefEqProofs (disch := omega) only [euphroelaw23_FsmRuns.s, iv, i64s_len, L, R1, R2, sm, rd, K, bf, al, beq_self_eq_true, go_sem, reduceIte, Nat.reduceAdd, Nat.reduceSub, Nat.reduceMul, Nat.reduceLeDiff, Nat.reduceLT, Nat.reduceEqDiff, Int.reduceToNat, Int.reduceLT, Int.reduceLE, Int.reduceEq, Int.reduceNe, Int.reduceAdd, Int.reduceSub, Int.reduceMul, Int.reduceNeg, Int.reduceBEq, Int.reduceBNe, reduceCtorEq, dreduceIte, ac_x, ac_t, setW_s, setW_0, ac_cp, ac_cpw, ac_lenw, ac_ret, ac_pop, ac_popw, cl_cp, oWS, oW8, oW16, oW32, oW64, oLtT, oLtF, oLeT, oLeF, oNLtT, oNLtF, oNLeT, oNLeF, oEqT, oEqF, oNEqT, oNEqF, oBeqT, oBeqF, oBneT, oBneF, Int.natCast_add, Int.cast_ofNat_Int, Int.toNat_natCast, List.take_length, rndE_eq, rnd_n, rnd_r, rnd_e]
end Go.Q
