/- Options wanted: the document's first, Of, Options; Naked, Rejected; the law LcpoWants. No condition. -/
import Derived.Test.YthldpjhmhjhpeaaLh
set_option maxRecDepth 100000
set_option linter.unusedSimpArgs false
set_option linter.unusedVariables false
namespace Go.Q
open SOp SCode
attribute [local congr] bind_c map_c

theorem j_rfirst (l : List Opt) (k : Int) (hn : l.length ≤ 40) : run G 46 [.v (.slc 2 (oes l)), .v (.int .u8 k)] [] = some (.tup [.v (oe (fsR l k).1), .v (.bool (fsR l k).2)], []) := by
  rw [xq_fn G rfl euphroeref25_first.g _ _ rfl]
  let E := fun (i : Nat) => [D.v (.slc 2 (oes l)), .v (.int .u8 k), .ptr ⟨0, 0⟩ 0 0, .v (.bool false), .v (.int .i64 (i : Nat))]
  have step : ∀ i, i < l.length → (∀ h : i < l.length, fsB k l[i] = false) → rndE G [] euphroeref25_first.l0 (E i) [[.row [noD]]] = some (.inl (E (i + 1), [[.row [noD]]])) := fun i hi h => by
    have hx := oes_at (List.getElem?_eq_getElem hi)
    have r := j_rright l[i]
    have hb := h hi
    unfold fsB at hb
    simp only [E]
    by_cases e : l[i].1 = k
    · have hr : rightR l[i] = false := by simpa [e] using hb
      rw [hr] at r
      simp -implicitDefEqProofs (disch := omega) only [euphroeref25_first.l0, noD, oes_len, hx, r, go_sem, reduceIte, Nat.reduceAdd, Nat.reduceSub, Nat.reduceMul, Nat.reduceLeDiff, Nat.reduceLT, Nat.reduceEqDiff, Int.reduceToNat, Int.reduceLT, Int.reduceLE, Int.reduceEq, Int.reduceNe, Int.reduceAdd, Int.reduceSub, Int.reduceMul, Int.reduceNeg, Int.reduceBEq, Int.reduceBNe, reduceCtorEq, dreduceIte, ac_x, ac_t, setW_s, setW_0, ac_cp, ac_cpw, ac_lenw, ac_ret, ac_pop, ac_popw, cl_cp, oWS, oW8, oW16, oW32, oW64, oLtT, oLtF, oLeT, oLeF, oNLtT, oNLtF, oNLeT, oNLeF, oEqT, oEqF, oNEqT, oNEqF, oBeqT, oBeqF, oBneT, oBneF, Int.natCast_add, Int.cast_ofNat_Int, Int.toNat_natCast, List.take_length, rndE_eq, rnd_n, rnd_r, rnd_e]
    · simp -implicitDefEqProofs (disch := omega) only [euphroeref25_first.l0, noD, oes_len, hx, r, go_sem, reduceIte, Nat.reduceAdd, Nat.reduceSub, Nat.reduceMul, Nat.reduceLeDiff, Nat.reduceLT, Nat.reduceEqDiff, Int.reduceToNat, Int.reduceLT, Int.reduceLE, Int.reduceEq, Int.reduceNe, Int.reduceAdd, Int.reduceSub, Int.reduceMul, Int.reduceNeg, Int.reduceBEq, Int.reduceBNe, reduceCtorEq, dreduceIte, ac_x, ac_t, setW_s, setW_0, ac_cp, ac_cpw, ac_lenw, ac_ret, ac_pop, ac_popw, cl_cp, oWS, oW8, oW16, oW32, oW64, oLtT, oLtF, oLeT, oLeF, oNLtT, oNLtF, oNLeT, oNLeF, oEqT, oEqF, oNEqT, oNEqF, oBeqT, oBeqF, oBneT, oBneF, Int.natCast_add, Int.cast_ofNat_Int, Int.toNat_natCast, List.take_length, rndE_eq, rnd_n, rnd_r, rnd_e]
  rcases first_or (fun i => ∃ h : i < l.length, fsB k l[i] = true) l.length with h | ⟨j, h1, ⟨h2, h3⟩, h4⟩
  · have hno : ∀ i, ∀ h : i < l.length, fsB k l[i] = false := fun i hi => by
      have := h i hi
      simp only [not_exists] at this
      simpa using this hi
    have L := lpFor (G := G) (kill := []) (body := euphroeref25_first.l0) E (fun _ => [[.row [noD]]]) l.length (fun i hi => step i hi (hno i)) (by simp only [E]; simp -implicitDefEqProofs (disch := omega) only [euphroeref25_first.l0, oes_len, go_sem, reduceIte, Nat.reduceAdd, Nat.reduceSub, Nat.reduceMul, Nat.reduceLeDiff, Nat.reduceLT, Nat.reduceEqDiff, Int.reduceToNat, Int.reduceLT, Int.reduceLE, Int.reduceEq, Int.reduceNe, Int.reduceAdd, Int.reduceSub, Int.reduceMul, Int.reduceNeg, Int.reduceBEq, Int.reduceBNe, reduceCtorEq, dreduceIte, ac_x, ac_t, setW_s, setW_0, ac_cp, ac_cpw, ac_lenw, ac_ret, ac_pop, ac_popw, cl_cp, oWS, oW8, oW16, oW32, oW64, oLtT, oLtF, oLeT, oLeF, oNLtT, oNLtF, oNLeT, oNLeF, oEqT, oEqF, oNEqT, oNEqF, oBeqT, oBeqF, oBneT, oBneF, Int.natCast_add, Int.cast_ofNat_Int, Int.toNat_natCast, List.take_length, rndE_eq, rnd_n, rnd_r, rnd_e]; rfl)
    simp only [E, noD, z0, Int.cast_ofNat_Int, List.take_zero, List.map_nil, List.drop_zero, accN, b8_nil, Int.sub_zero, Int.add_zero, Int.zero_add, Nat.zero_add, Nat.sub_zero, List.nil_append, List.append_nil] at L
    have e : fsR l k = (noO, false) := by rw [fsR, fs_not hno]
    rw [e]
    simp -implicitDefEqProofs (disch := omega) only [euphroeref25_first.s, oes_len, L, noO, oe, b8_nil, go_sem, reduceIte, Nat.reduceAdd, Nat.reduceSub, Nat.reduceMul, Nat.reduceLeDiff, Nat.reduceLT, Nat.reduceEqDiff, Int.reduceToNat, Int.reduceLT, Int.reduceLE, Int.reduceEq, Int.reduceNe, Int.reduceAdd, Int.reduceSub, Int.reduceMul, Int.reduceNeg, Int.reduceBEq, Int.reduceBNe, reduceCtorEq, dreduceIte, ac_x, ac_t, setW_s, setW_0, ac_cp, ac_cpw, ac_lenw, ac_ret, ac_pop, ac_popw, cl_cp, oWS, oW8, oW16, oW32, oW64, oLtT, oLtF, oLeT, oLeF, oNLtT, oNLtF, oNLeT, oNLeF, oEqT, oEqF, oNEqT, oNEqF, oBeqT, oBeqF, oBneT, oBneF, Int.natCast_add, Int.cast_ofNat_Int, Int.toNat_natCast, List.take_length, rndE_eq, rnd_n, rnd_r, rnd_e]
  · have hno : ∀ i, i < j → ∀ h : i < l.length, fsB k l[i] = false := fun i hi hil => by
      have := h4 i hi
      simp only [not_exists] at this
      simpa using this hil
    have L := lpFor (G := G) (kill := []) (body := euphroeref25_first.l0) E (fun i => if i ≤ j then [[.row [noD]]] else []) j (fun i hi => by
      have := step i (by omega) (hno i hi)
      simp only [show i ≤ j from by omega, show i + 1 ≤ j from by omega, if_true]; exact this) (o := (.ret, [D.v (.slc 2 (oes l)), .v (.int .u8 k), .ptr ⟨0, 0⟩ 0 0, .v (.bool true), .v (.int .i64 (j : Nat))], [[.row [.v (oe l[j])]]])) (by
      have hx := oes_at (List.getElem?_eq_getElem h2)
      have r := j_rright l[j]
      unfold fsB at h3
      have h5 : l[j].1 = k ∧ rightR l[j] = true := by simpa using h3
      rw [h5.2] at r
      simp only [E, Nat.le_refl, if_true]
      simp -implicitDefEqProofs (disch := omega) only [euphroeref25_first.l0, noD, oes_len, hx, r, go_sem, reduceIte, Nat.reduceAdd, Nat.reduceSub, Nat.reduceMul, Nat.reduceLeDiff, Nat.reduceLT, Nat.reduceEqDiff, Int.reduceToNat, Int.reduceLT, Int.reduceLE, Int.reduceEq, Int.reduceNe, Int.reduceAdd, Int.reduceSub, Int.reduceMul, Int.reduceNeg, Int.reduceBEq, Int.reduceBNe, reduceCtorEq, dreduceIte, ac_x, ac_t, setW_s, setW_0, ac_cp, ac_cpw, ac_lenw, ac_ret, ac_pop, ac_popw, cl_cp, oWS, oW8, oW16, oW32, oW64, oLtT, oLtF, oLeT, oLeF, oNLtT, oNLtF, oNLeT, oNLeF, oEqT, oEqF, oNEqT, oNEqF, oBeqT, oBeqF, oBneT, oBneF, Int.natCast_add, Int.cast_ofNat_Int, Int.toNat_natCast, List.take_length, rndE_eq, rnd_n, rnd_r, rnd_e])
    simp only [E, noD, Nat.zero_le, if_true, z0, Int.cast_ofNat_Int, List.take_zero, List.map_nil, List.drop_zero, accN, b8_nil, Int.sub_zero, Int.add_zero, Int.zero_add, Nat.zero_add, Nat.sub_zero, List.nil_append, List.append_nil] at L
    have e : fsR l k = (l[j], true) := by rw [fsR, fs_first h2 h3 hno]
    rw [e]
    simp -implicitDefEqProofs (disch := omega) only [euphroeref25_first.s, oes_len, L, oe, go_sem, reduceIte, Nat.reduceAdd, Nat.reduceSub, Nat.reduceMul, Nat.reduceLeDiff, Nat.reduceLT, Nat.reduceEqDiff, Int.reduceToNat, Int.reduceLT, Int.reduceLE, Int.reduceEq, Int.reduceNe, Int.reduceAdd, Int.reduceSub, Int.reduceMul, Int.reduceNeg, Int.reduceBEq, Int.reduceBNe, reduceCtorEq, dreduceIte, ac_x, ac_t, setW_s, setW_0, ac_cp, ac_cpw, ac_lenw, ac_ret, ac_pop, ac_popw, cl_cp, oWS, oW8, oW16, oW32, oW64, oLtT, oLtF, oLeT, oLeF, oNLtT, oNLtF, oNLeT, oNLeF, oEqT, oEqF, oNEqT, oNEqF, oBeqT, oBeqF, oBneT, oBneF, Int.natCast_add, Int.cast_ofNat_Int, Int.toNat_natCast, List.take_length, rndE_eq, rnd_n, rnd_r, rnd_e]
theorem j_roptions (w : Want) (hw : okW w) : run G 13 [.v (wv w)] [] = some (.lin 2 (oes (optW w)), []) := by
  rw [xq_fn G rfl euphroeref25_Options.g _ _ rfl]
  have hM := hmax
  have c := j_rchap
  have q1 := big87 w.1 (by omega) (by omega) 2 (by omega)
  have q2 := big87 w.2.1 (by omega) (by omega) 4 (by omega)
  simp only [z0, Int.cast_ofNat_Int, List.take_zero, List.map_nil, List.drop_zero, accN, b8_nil, Int.sub_zero, Int.add_zero, Int.zero_add, Nat.zero_add, Nat.sub_zero, List.nil_append, List.append_nil] at q1
  simp only [z0, Int.cast_ofNat_Int, List.take_zero, List.map_nil, List.drop_zero, accN, b8_nil, Int.sub_zero, Int.add_zero, Int.zero_add, Nat.zero_add, Nat.sub_zero, List.nil_append, List.append_nil] at q2
  unfold optW
  by_cases h1 : w.1 = 0
  · by_cases h2 : w.2.1 = 0
    · cases h3 : w.2.2 with
      | false => simp -implicitDefEqProofs (disch := omega) only [euphroeref25_Options.s, wv, h3, c, q1, q2, oes_cons, oes_nil, oe, go_sem, reduceIte, Nat.reduceAdd, Nat.reduceSub, Nat.reduceMul, Nat.reduceLeDiff, Nat.reduceLT, Nat.reduceEqDiff, Int.reduceToNat, Int.reduceLT, Int.reduceLE, Int.reduceEq, Int.reduceNe, Int.reduceAdd, Int.reduceSub, Int.reduceMul, Int.reduceNeg, Int.reduceBEq, Int.reduceBNe, reduceCtorEq, dreduceIte, ac_x, ac_t, setW_s, setW_0, ac_cp, ac_cpw, ac_lenw, ac_ret, ac_pop, ac_popw, cl_cp, oWS, oW8, oW16, oW32, oW64, oLtT, oLtF, oLeT, oLeF, oNLtT, oNLtF, oNLeT, oNLeF, oEqT, oEqF, oNEqT, oNEqF, oBeqT, oBeqF, oBneT, oBneF, Int.natCast_add, Int.cast_ofNat_Int, Int.toNat_natCast, List.take_length, rndE_eq, rnd_n, rnd_r, rnd_e]
      | true => simp -implicitDefEqProofs (disch := omega) only [euphroeref25_Options.s, wv, h3, c, q1, q2, oes_cons, oes_nil, oe, go_sem, reduceIte, Nat.reduceAdd, Nat.reduceSub, Nat.reduceMul, Nat.reduceLeDiff, Nat.reduceLT, Nat.reduceEqDiff, Int.reduceToNat, Int.reduceLT, Int.reduceLE, Int.reduceEq, Int.reduceNe, Int.reduceAdd, Int.reduceSub, Int.reduceMul, Int.reduceNeg, Int.reduceBEq, Int.reduceBNe, reduceCtorEq, dreduceIte, ac_x, ac_t, setW_s, setW_0, ac_cp, ac_cpw, ac_lenw, ac_ret, ac_pop, ac_popw, cl_cp, oWS, oW8, oW16, oW32, oW64, oLtT, oLtF, oLeT, oLeF, oNLtT, oNLtF, oNLeT, oNLeF, oEqT, oEqF, oNEqT, oNEqF, oBeqT, oBeqF, oBneT, oBneF, Int.natCast_add, Int.cast_ofNat_Int, Int.toNat_natCast, List.take_length, rndE_eq, rnd_n, rnd_r, rnd_e]
    · cases h3 : w.2.2 with
      | false => simp -implicitDefEqProofs (disch := omega) only [euphroeref25_Options.s, wv, h3, c, q1, q2, oes_cons, oes_nil, oe, go_sem, reduceIte, Nat.reduceAdd, Nat.reduceSub, Nat.reduceMul, Nat.reduceLeDiff, Nat.reduceLT, Nat.reduceEqDiff, Int.reduceToNat, Int.reduceLT, Int.reduceLE, Int.reduceEq, Int.reduceNe, Int.reduceAdd, Int.reduceSub, Int.reduceMul, Int.reduceNeg, Int.reduceBEq, Int.reduceBNe, reduceCtorEq, dreduceIte, ac_x, ac_t, setW_s, setW_0, ac_cp, ac_cpw, ac_lenw, ac_ret, ac_pop, ac_popw, cl_cp, oWS, oW8, oW16, oW32, oW64, oLtT, oLtF, oLeT, oLeF, oNLtT, oNLtF, oNLeT, oNLeF, oEqT, oEqF, oNEqT, oNEqF, oBeqT, oBeqF, oBneT, oBneF, Int.natCast_add, Int.cast_ofNat_Int, Int.toNat_natCast, List.take_length, rndE_eq, rnd_n, rnd_r, rnd_e]
      | true => simp -implicitDefEqProofs (disch := omega) only [euphroeref25_Options.s, wv, h3, c, q1, q2, oes_cons, oes_nil, oe, go_sem, reduceIte, Nat.reduceAdd, Nat.reduceSub, Nat.reduceMul, Nat.reduceLeDiff, Nat.reduceLT, Nat.reduceEqDiff, Int.reduceToNat, Int.reduceLT, Int.reduceLE, Int.reduceEq, Int.reduceNe, Int.reduceAdd, Int.reduceSub, Int.reduceMul, Int.reduceNeg, Int.reduceBEq, Int.reduceBNe, reduceCtorEq, dreduceIte, ac_x, ac_t, setW_s, setW_0, ac_cp, ac_cpw, ac_lenw, ac_ret, ac_pop, ac_popw, cl_cp, oWS, oW8, oW16, oW32, oW64, oLtT, oLtF, oLeT, oLeF, oNLtT, oNLtF, oNLeT, oNLeF, oEqT, oEqF, oNEqT, oNEqF, oBeqT, oBeqF, oBneT, oBneF, Int.natCast_add, Int.cast_ofNat_Int, Int.toNat_natCast, List.take_length, rndE_eq, rnd_n, rnd_r, rnd_e]
  · by_cases h2 : w.2.1 = 0
    · cases h3 : w.2.2 with
      | false => simp -implicitDefEqProofs (disch := omega) only [euphroeref25_Options.s, wv, h3, c, q1, q2, oes_cons, oes_nil, oe, go_sem, reduceIte, Nat.reduceAdd, Nat.reduceSub, Nat.reduceMul, Nat.reduceLeDiff, Nat.reduceLT, Nat.reduceEqDiff, Int.reduceToNat, Int.reduceLT, Int.reduceLE, Int.reduceEq, Int.reduceNe, Int.reduceAdd, Int.reduceSub, Int.reduceMul, Int.reduceNeg, Int.reduceBEq, Int.reduceBNe, reduceCtorEq, dreduceIte, ac_x, ac_t, setW_s, setW_0, ac_cp, ac_cpw, ac_lenw, ac_ret, ac_pop, ac_popw, cl_cp, oWS, oW8, oW16, oW32, oW64, oLtT, oLtF, oLeT, oLeF, oNLtT, oNLtF, oNLeT, oNLeF, oEqT, oEqF, oNEqT, oNEqF, oBeqT, oBeqF, oBneT, oBneF, Int.natCast_add, Int.cast_ofNat_Int, Int.toNat_natCast, List.take_length, rndE_eq, rnd_n, rnd_r, rnd_e]
      | true => simp -implicitDefEqProofs (disch := omega) only [euphroeref25_Options.s, wv, h3, c, q1, q2, oes_cons, oes_nil, oe, go_sem, reduceIte, Nat.reduceAdd, Nat.reduceSub, Nat.reduceMul, Nat.reduceLeDiff, Nat.reduceLT, Nat.reduceEqDiff, Int.reduceToNat, Int.reduceLT, Int.reduceLE, Int.reduceEq, Int.reduceNe, Int.reduceAdd, Int.reduceSub, Int.reduceMul, Int.reduceNeg, Int.reduceBEq, Int.reduceBNe, reduceCtorEq, dreduceIte, ac_x, ac_t, setW_s, setW_0, ac_cp, ac_cpw, ac_lenw, ac_ret, ac_pop, ac_popw, cl_cp, oWS, oW8, oW16, oW32, oW64, oLtT, oLtF, oLeT, oLeF, oNLtT, oNLtF, oNLeT, oNLeF, oEqT, oEqF, oNEqT, oNEqF, oBeqT, oBeqF, oBneT, oBneF, Int.natCast_add, Int.cast_ofNat_Int, Int.toNat_natCast, List.take_length, rndE_eq, rnd_n, rnd_r, rnd_e]
    · cases h3 : w.2.2 with
      | false => simp -implicitDefEqProofs (disch := omega) only [euphroeref25_Options.s, wv, h3, c, q1, q2, oes_cons, oes_nil, oe, go_sem, reduceIte, Nat.reduceAdd, Nat.reduceSub, Nat.reduceMul, Nat.reduceLeDiff, Nat.reduceLT, Nat.reduceEqDiff, Int.reduceToNat, Int.reduceLT, Int.reduceLE, Int.reduceEq, Int.reduceNe, Int.reduceAdd, Int.reduceSub, Int.reduceMul, Int.reduceNeg, Int.reduceBEq, Int.reduceBNe, reduceCtorEq, dreduceIte, ac_x, ac_t, setW_s, setW_0, ac_cp, ac_cpw, ac_lenw, ac_ret, ac_pop, ac_popw, cl_cp, oWS, oW8, oW16, oW32, oW64, oLtT, oLtF, oLeT, oLeF, oNLtT, oNLtF, oNLeT, oNLeF, oEqT, oEqF, oNEqT, oNEqF, oBeqT, oBeqF, oBneT, oBneF, Int.natCast_add, Int.cast_ofNat_Int, Int.toNat_natCast, List.take_length, rndE_eq, rnd_n, rnd_r, rnd_e]
      | true => simp -implicitDefEqProofs (disch := omega) only [euphroeref25_Options.s, wv, h3, c, q1, q2, oes_cons, oes_nil, oe, go_sem, reduceIte, Nat.reduceAdd, Nat.reduceSub, Nat.reduceMul, Nat.reduceLeDiff, Nat.reduceLT, Nat.reduceEqDiff, Int.reduceToNat, Int.reduceLT, Int.reduceLE, Int.reduceEq, Int.reduceNe, Int.reduceAdd, Int.reduceSub, Int.reduceMul, Int.reduceNeg, Int.reduceBEq, Int.reduceBNe, reduceCtorEq, dreduceIte, ac_x, ac_t, setW_s, setW_0, ac_cp, ac_cpw, ac_lenw, ac_ret, ac_pop, ac_popw, cl_cp, oWS, oW8, oW16, oW32, oW64, oLtT, oLtF, oLeT, oLeF, oNLtT, oNLtF, oNLeT, oNLeF, oEqT, oEqF, oNEqT, oNEqF, oBeqT, oBeqF, oBneT, oBneF, Int.natCast_add, Int.cast_ofNat_Int, Int.toNat_natCast, List.take_length, rndE_eq, rnd_n, rnd_r, rnd_e]
theorem fs_right (l : List Opt) (k : Int) (h : (fsR l k).2 = true) : (fsR l k).1.1 = k ∧ rightR (fsR l k).1 = true := by
  unfold fsR at h ⊢
  split at h
  · rename_i o ho
    have := List.find?_some ho
    simpa [fsB] using this
  · cases h
theorem fs_none (l : List Opt) (k : Int) (h : (fsR l k).2 = false) : (fsR l k).1 = noO := by
  unfold fsR at h ⊢
  split at h
  · cases h
  · rfl
theorem right_num {o : Opt} (h : rightR o = true) (hk : o.1 = 1 ∨ o.1 = 5) : numR o.2 = num o.2 := by
  have h1 := of_decide_eq_true h
  have h2 : (o.2.length : Int) = 2 ∨ (o.2.length : Int) = 4 := by
    rcases hk with e | e
    · rw [e] at h1; exact .inl h1
    · rw [e] at h1; exact .inr h1
  rw [numR, if_neg (by omega)]
theorem j_rof (l : List Opt) (hl : okL l) (hn : l.length ≤ 40) : run G 15 [.v (.slc 2 (oes l))] [] = some (.v (gv (ofR l)), []) := by
  rw [xq_fn G rfl euphroeref25_Of.g _ _ rfl]
  have c := j_rchap
  have f1 := j_rfirst l 1 hn
  have f5 := j_rfirst l 5 hn
  have f3 := j_rfirst l 3 hn
  have f7 := j_rfirst l 7 hn
  have f8 := j_rfirst l 8 hn
  have n1 : (fsR l 1).2 = true → _ := fun h => num90 (fsR l 1).1.2 (fs_ok l 1 hl).2 (by have := right_len (fs_right l 1 h).2; omega)
  have n5 : (fsR l 5).2 = true → _ := fun h => num90 (fsR l 5).1.2 (fs_ok l 5 hl).2 (by have := right_len (fs_right l 5 h).2; omega)
  have m1 : (fsR l 1).2 = true → _ := fun h => right_num (fs_right l 1 h).2 (.inl (fs_right l 1 h).1)
  have m5 : (fsR l 5).2 = true → _ := fun h => right_num (fs_right l 5 h).2 (.inr (fs_right l 5 h).1)
  have e : (fsR l 3).2 = true → _ := fun h => same40 (fsR l 3).1.2 chapL (by have := right_len (fs_right l 3 h).2; have : M = 100000 := rfl; omega)
  have z3 := fs_none l 3
  unfold ofR
  cases h1 : (fsR l 1).2 with
  | false =>
    rw [h1] at f1
    cases h3 : (fsR l 3).2 with
    | false =>
      rw [h3] at f3
      have z : ((fsR l 3).1.2 == chapL) = false := by rw [z3 h3]; rfl
      cases h5 : (fsR l 5).2 with
      | false => rw [h5] at f5; simp -implicitDefEqProofs (disch := omega) only [euphroeref25_Of.s, gv, oe, c, f1, f5, f3, f7, f8, z, go_sem, reduceIte, Nat.reduceAdd, Nat.reduceSub, Nat.reduceMul, Nat.reduceLeDiff, Nat.reduceLT, Nat.reduceEqDiff, Int.reduceToNat, Int.reduceLT, Int.reduceLE, Int.reduceEq, Int.reduceNe, Int.reduceAdd, Int.reduceSub, Int.reduceMul, Int.reduceNeg, Int.reduceBEq, Int.reduceBNe, reduceCtorEq, dreduceIte, ac_x, ac_t, setW_s, setW_0, ac_cp, ac_cpw, ac_lenw, ac_ret, ac_pop, ac_popw, cl_cp, oWS, oW8, oW16, oW32, oW64, oLtT, oLtF, oLeT, oLeF, oNLtT, oNLtF, oNLeT, oNLeF, oEqT, oEqF, oNEqT, oNEqF, oBeqT, oBeqF, oBneT, oBneF, Int.natCast_add, Int.cast_ofNat_Int, Int.toNat_natCast, List.take_length, rndE_eq, rnd_n, rnd_r, rnd_e]
      | true => rw [h5] at f5; rw [m5 h5]; have n5 := n5 h5; simp -implicitDefEqProofs (disch := omega) only [euphroeref25_Of.s, gv, oe, c, f1, f5, f3, f7, f8, n5, z, go_sem, reduceIte, Nat.reduceAdd, Nat.reduceSub, Nat.reduceMul, Nat.reduceLeDiff, Nat.reduceLT, Nat.reduceEqDiff, Int.reduceToNat, Int.reduceLT, Int.reduceLE, Int.reduceEq, Int.reduceNe, Int.reduceAdd, Int.reduceSub, Int.reduceMul, Int.reduceNeg, Int.reduceBEq, Int.reduceBNe, reduceCtorEq, dreduceIte, ac_x, ac_t, setW_s, setW_0, ac_cp, ac_cpw, ac_lenw, ac_ret, ac_pop, ac_popw, cl_cp, oWS, oW8, oW16, oW32, oW64, oLtT, oLtF, oLeT, oLeF, oNLtT, oNLtF, oNLeT, oNLeF, oEqT, oEqF, oNEqT, oNEqF, oBeqT, oBeqF, oBneT, oBneF, Int.natCast_add, Int.cast_ofNat_Int, Int.toNat_natCast, List.take_length, rndE_eq, rnd_n, rnd_r, rnd_e]
    | true =>
      rw [h3] at f3
      have e := e h3
      cases h5 : (fsR l 5).2 with
      | false => rw [h5] at f5; simp -implicitDefEqProofs (disch := omega) only [euphroeref25_Of.s, gv, oe, c, f1, f5, f3, f7, f8, e, go_sem, reduceIte, Nat.reduceAdd, Nat.reduceSub, Nat.reduceMul, Nat.reduceLeDiff, Nat.reduceLT, Nat.reduceEqDiff, Int.reduceToNat, Int.reduceLT, Int.reduceLE, Int.reduceEq, Int.reduceNe, Int.reduceAdd, Int.reduceSub, Int.reduceMul, Int.reduceNeg, Int.reduceBEq, Int.reduceBNe, reduceCtorEq, dreduceIte, ac_x, ac_t, setW_s, setW_0, ac_cp, ac_cpw, ac_lenw, ac_ret, ac_pop, ac_popw, cl_cp, oWS, oW8, oW16, oW32, oW64, oLtT, oLtF, oLeT, oLeF, oNLtT, oNLtF, oNLeT, oNLeF, oEqT, oEqF, oNEqT, oNEqF, oBeqT, oBeqF, oBneT, oBneF, Int.natCast_add, Int.cast_ofNat_Int, Int.toNat_natCast, List.take_length, rndE_eq, rnd_n, rnd_r, rnd_e]
      | true => rw [h5] at f5; rw [m5 h5]; have n5 := n5 h5; simp -implicitDefEqProofs (disch := omega) only [euphroeref25_Of.s, gv, oe, c, f1, f5, f3, f7, f8, n5, e, go_sem, reduceIte, Nat.reduceAdd, Nat.reduceSub, Nat.reduceMul, Nat.reduceLeDiff, Nat.reduceLT, Nat.reduceEqDiff, Int.reduceToNat, Int.reduceLT, Int.reduceLE, Int.reduceEq, Int.reduceNe, Int.reduceAdd, Int.reduceSub, Int.reduceMul, Int.reduceNeg, Int.reduceBEq, Int.reduceBNe, reduceCtorEq, dreduceIte, ac_x, ac_t, setW_s, setW_0, ac_cp, ac_cpw, ac_lenw, ac_ret, ac_pop, ac_popw, cl_cp, oWS, oW8, oW16, oW32, oW64, oLtT, oLtF, oLeT, oLeF, oNLtT, oNLtF, oNLeT, oNLeF, oEqT, oEqF, oNEqT, oNEqF, oBeqT, oBeqF, oBneT, oBneF, Int.natCast_add, Int.cast_ofNat_Int, Int.toNat_natCast, List.take_length, rndE_eq, rnd_n, rnd_r, rnd_e]
  | true =>
    rw [h1] at f1
    have n1 := n1 h1
    rw [m1 h1]
    cases h3 : (fsR l 3).2 with
    | false =>
      rw [h3] at f3
      have z : ((fsR l 3).1.2 == chapL) = false := by rw [z3 h3]; rfl
      cases h5 : (fsR l 5).2 with
      | false => rw [h5] at f5; simp -implicitDefEqProofs (disch := omega) only [euphroeref25_Of.s, gv, oe, c, f1, f5, f3, f7, f8, n1, z, go_sem, reduceIte, Nat.reduceAdd, Nat.reduceSub, Nat.reduceMul, Nat.reduceLeDiff, Nat.reduceLT, Nat.reduceEqDiff, Int.reduceToNat, Int.reduceLT, Int.reduceLE, Int.reduceEq, Int.reduceNe, Int.reduceAdd, Int.reduceSub, Int.reduceMul, Int.reduceNeg, Int.reduceBEq, Int.reduceBNe, reduceCtorEq, dreduceIte, ac_x, ac_t, setW_s, setW_0, ac_cp, ac_cpw, ac_lenw, ac_ret, ac_pop, ac_popw, cl_cp, oWS, oW8, oW16, oW32, oW64, oLtT, oLtF, oLeT, oLeF, oNLtT, oNLtF, oNLeT, oNLeF, oEqT, oEqF, oNEqT, oNEqF, oBeqT, oBeqF, oBneT, oBneF, Int.natCast_add, Int.cast_ofNat_Int, Int.toNat_natCast, List.take_length, rndE_eq, rnd_n, rnd_r, rnd_e]
      | true => rw [h5] at f5; rw [m5 h5]; have n5 := n5 h5; simp -implicitDefEqProofs (disch := omega) only [euphroeref25_Of.s, gv, oe, c, f1, f5, f3, f7, f8, n1, n5, z, go_sem, reduceIte, Nat.reduceAdd, Nat.reduceSub, Nat.reduceMul, Nat.reduceLeDiff, Nat.reduceLT, Nat.reduceEqDiff, Int.reduceToNat, Int.reduceLT, Int.reduceLE, Int.reduceEq, Int.reduceNe, Int.reduceAdd, Int.reduceSub, Int.reduceMul, Int.reduceNeg, Int.reduceBEq, Int.reduceBNe, reduceCtorEq, dreduceIte, ac_x, ac_t, setW_s, setW_0, ac_cp, ac_cpw, ac_lenw, ac_ret, ac_pop, ac_popw, cl_cp, oWS, oW8, oW16, oW32, oW64, oLtT, oLtF, oLeT, oLeF, oNLtT, oNLtF, oNLeT, oNLeF, oEqT, oEqF, oNEqT, oNEqF, oBeqT, oBeqF, oBneT, oBneF, Int.natCast_add, Int.cast_ofNat_Int, Int.toNat_natCast, List.take_length, rndE_eq, rnd_n, rnd_r, rnd_e]
    | true =>
      rw [h3] at f3
      have e := e h3
      cases h5 : (fsR l 5).2 with
      | false => rw [h5] at f5; simp -implicitDefEqProofs (disch := omega) only [euphroeref25_Of.s, gv, oe, c, f1, f5, f3, f7, f8, n1, e, go_sem, reduceIte, Nat.reduceAdd, Nat.reduceSub, Nat.reduceMul, Nat.reduceLeDiff, Nat.reduceLT, Nat.reduceEqDiff, Int.reduceToNat, Int.reduceLT, Int.reduceLE, Int.reduceEq, Int.reduceNe, Int.reduceAdd, Int.reduceSub, Int.reduceMul, Int.reduceNeg, Int.reduceBEq, Int.reduceBNe, reduceCtorEq, dreduceIte, ac_x, ac_t, setW_s, setW_0, ac_cp, ac_cpw, ac_lenw, ac_ret, ac_pop, ac_popw, cl_cp, oWS, oW8, oW16, oW32, oW64, oLtT, oLtF, oLeT, oLeF, oNLtT, oNLtF, oNLeT, oNLeF, oEqT, oEqF, oNEqT, oNEqF, oBeqT, oBeqF, oBneT, oBneF, Int.natCast_add, Int.cast_ofNat_Int, Int.toNat_natCast, List.take_length, rndE_eq, rnd_n, rnd_r, rnd_e]
      | true => rw [h5] at f5; rw [m5 h5]; have n5 := n5 h5; simp -implicitDefEqProofs (disch := omega) only [euphroeref25_Of.s, gv, oe, c, f1, f5, f3, f7, f8, n1, n5, e, go_sem, reduceIte, Nat.reduceAdd, Nat.reduceSub, Nat.reduceMul, Nat.reduceLeDiff, Nat.reduceLT, Nat.reduceEqDiff, Int.reduceToNat, Int.reduceLT, Int.reduceLE, Int.reduceEq, Int.reduceNe, Int.reduceAdd, Int.reduceSub, Int.reduceMul, Int.reduceNeg, Int.reduceBEq, Int.reduceBNe, reduceCtorEq, dreduceIte, ac_x, ac_t, setW_s, setW_0, ac_cp, ac_cpw, ac_lenw, ac_ret, ac_pop, ac_popw, cl_cp, oWS, oW8, oW16, oW32, oW64, oLtT, oLtF, oLeT, oLeF, oNLtT, oNLtF, oNLeT, oNLeF, oEqT, oEqF, oNEqT, oNEqF, oBeqT, oBeqF, oBneT, oBneF, Int.natCast_add, Int.cast_ofNat_Int, Int.toNat_natCast, List.take_length, rndE_eq, rnd_n, rnd_r, rnd_e]
/-! ### Naked -/
def nmW (l : List Opt) : Int := IntKind.u16.wrap (numR (fsR l 1).1.2)
def nkR (w : Want) (l : List Opt) (fresh : Int) : Want := (if (fsR l 1).2 = true then (if 128 ≤ nmW l then (if w.1 = 0 then nmW l else if nmW l ≤ w.1 then nmW l else w.1) else w.1) else w.1, if (fdR l 5).2 = true then fresh else w.2.1, w.2.2)
theorem j_naked (w : Want) (l : List Opt) (fresh : Int) (hl : okL l) (hn : l.length ≤ 40) : run G 16 [.v (wv w), .v (.slc 2 (oes l)), .v (.int .u32 fresh)] [] = some (.v (wv (nkR w l fresh)), []) := by
  rw [xq_fn G rfl lcpo_Naked.g _ _ rfl]
  have f1 := j_first l 1 hn
  have f5 := find59 l 5 hn
  have n1 := j_number (fsR l 1).1 (fs_ok l 1 hl).2
  have nw : nmW l = IntKind.u16.wrap (numR (fsR l 1).1.2) := rfl
  unfold nkR
  cases h1 : (fsR l 1).2 with
  | false =>
    rw [h1] at f1
    cases h5 : (fdR l 5).2 with
    | false => rw [h5] at f5; simp -implicitDefEqProofs (disch := omega) only [lcpo_Naked.s, wv, oe, f1, f5, go_sem, reduceIte, Nat.reduceAdd, Nat.reduceSub, Nat.reduceMul, Nat.reduceLeDiff, Nat.reduceLT, Nat.reduceEqDiff, Int.reduceToNat, Int.reduceLT, Int.reduceLE, Int.reduceEq, Int.reduceNe, Int.reduceAdd, Int.reduceSub, Int.reduceMul, Int.reduceNeg, Int.reduceBEq, Int.reduceBNe, reduceCtorEq, dreduceIte, ac_x, ac_t, setW_s, setW_0, ac_cp, ac_cpw, ac_lenw, ac_ret, ac_pop, ac_popw, cl_cp, oWS, oW8, oW16, oW32, oW64, oLtT, oLtF, oLeT, oLeF, oNLtT, oNLtF, oNLeT, oNLeF, oEqT, oEqF, oNEqT, oNEqF, oBeqT, oBeqF, oBneT, oBneF, Int.natCast_add, Int.cast_ofNat_Int, Int.toNat_natCast, List.take_length, rndE_eq, rnd_n, rnd_r, rnd_e]
    | true => rw [h5] at f5; simp -implicitDefEqProofs (disch := omega) only [lcpo_Naked.s, wv, oe, f1, f5, go_sem, reduceIte, Nat.reduceAdd, Nat.reduceSub, Nat.reduceMul, Nat.reduceLeDiff, Nat.reduceLT, Nat.reduceEqDiff, Int.reduceToNat, Int.reduceLT, Int.reduceLE, Int.reduceEq, Int.reduceNe, Int.reduceAdd, Int.reduceSub, Int.reduceMul, Int.reduceNeg, Int.reduceBEq, Int.reduceBNe, reduceCtorEq, dreduceIte, ac_x, ac_t, setW_s, setW_0, ac_cp, ac_cpw, ac_lenw, ac_ret, ac_pop, ac_popw, cl_cp, oWS, oW8, oW16, oW32, oW64, oLtT, oLtF, oLeT, oLeF, oNLtT, oNLtF, oNLeT, oNLeF, oEqT, oEqF, oNEqT, oNEqF, oBeqT, oBeqF, oBneT, oBneF, Int.natCast_add, Int.cast_ofNat_Int, Int.toNat_natCast, List.take_length, rndE_eq, rnd_n, rnd_r, rnd_e]
  | true =>
    rw [h1] at f1
    cases h5 : (fdR l 5).2 with
    | false =>
      rw [h5] at f5
      by_cases c1 : 128 ≤ nmW l
      · by_cases c2 : w.1 = 0
        · simp -implicitDefEqProofs (disch := omega) only [lcpo_Naked.s, wv, oe, f1, f5, n1, ← nw, go_sem, reduceIte, Nat.reduceAdd, Nat.reduceSub, Nat.reduceMul, Nat.reduceLeDiff, Nat.reduceLT, Nat.reduceEqDiff, Int.reduceToNat, Int.reduceLT, Int.reduceLE, Int.reduceEq, Int.reduceNe, Int.reduceAdd, Int.reduceSub, Int.reduceMul, Int.reduceNeg, Int.reduceBEq, Int.reduceBNe, reduceCtorEq, dreduceIte, ac_x, ac_t, setW_s, setW_0, ac_cp, ac_cpw, ac_lenw, ac_ret, ac_pop, ac_popw, cl_cp, oWS, oW8, oW16, oW32, oW64, oLtT, oLtF, oLeT, oLeF, oNLtT, oNLtF, oNLeT, oNLeF, oEqT, oEqF, oNEqT, oNEqF, oBeqT, oBeqF, oBneT, oBneF, Int.natCast_add, Int.cast_ofNat_Int, Int.toNat_natCast, List.take_length, rndE_eq, rnd_n, rnd_r, rnd_e]
        · by_cases c3 : nmW l ≤ w.1
          · simp -implicitDefEqProofs (disch := omega) only [lcpo_Naked.s, wv, oe, f1, f5, n1, ← nw, go_sem, reduceIte, Nat.reduceAdd, Nat.reduceSub, Nat.reduceMul, Nat.reduceLeDiff, Nat.reduceLT, Nat.reduceEqDiff, Int.reduceToNat, Int.reduceLT, Int.reduceLE, Int.reduceEq, Int.reduceNe, Int.reduceAdd, Int.reduceSub, Int.reduceMul, Int.reduceNeg, Int.reduceBEq, Int.reduceBNe, reduceCtorEq, dreduceIte, ac_x, ac_t, setW_s, setW_0, ac_cp, ac_cpw, ac_lenw, ac_ret, ac_pop, ac_popw, cl_cp, oWS, oW8, oW16, oW32, oW64, oLtT, oLtF, oLeT, oLeF, oNLtT, oNLtF, oNLeT, oNLeF, oEqT, oEqF, oNEqT, oNEqF, oBeqT, oBeqF, oBneT, oBneF, Int.natCast_add, Int.cast_ofNat_Int, Int.toNat_natCast, List.take_length, rndE_eq, rnd_n, rnd_r, rnd_e]
          · simp -implicitDefEqProofs (disch := omega) only [lcpo_Naked.s, wv, oe, f1, f5, n1, ← nw, go_sem, reduceIte, Nat.reduceAdd, Nat.reduceSub, Nat.reduceMul, Nat.reduceLeDiff, Nat.reduceLT, Nat.reduceEqDiff, Int.reduceToNat, Int.reduceLT, Int.reduceLE, Int.reduceEq, Int.reduceNe, Int.reduceAdd, Int.reduceSub, Int.reduceMul, Int.reduceNeg, Int.reduceBEq, Int.reduceBNe, reduceCtorEq, dreduceIte, ac_x, ac_t, setW_s, setW_0, ac_cp, ac_cpw, ac_lenw, ac_ret, ac_pop, ac_popw, cl_cp, oWS, oW8, oW16, oW32, oW64, oLtT, oLtF, oLeT, oLeF, oNLtT, oNLtF, oNLeT, oNLeF, oEqT, oEqF, oNEqT, oNEqF, oBeqT, oBeqF, oBneT, oBneF, Int.natCast_add, Int.cast_ofNat_Int, Int.toNat_natCast, List.take_length, rndE_eq, rnd_n, rnd_r, rnd_e]
      · simp -implicitDefEqProofs (disch := omega) only [lcpo_Naked.s, wv, oe, f1, f5, n1, ← nw, go_sem, reduceIte, Nat.reduceAdd, Nat.reduceSub, Nat.reduceMul, Nat.reduceLeDiff, Nat.reduceLT, Nat.reduceEqDiff, Int.reduceToNat, Int.reduceLT, Int.reduceLE, Int.reduceEq, Int.reduceNe, Int.reduceAdd, Int.reduceSub, Int.reduceMul, Int.reduceNeg, Int.reduceBEq, Int.reduceBNe, reduceCtorEq, dreduceIte, ac_x, ac_t, setW_s, setW_0, ac_cp, ac_cpw, ac_lenw, ac_ret, ac_pop, ac_popw, cl_cp, oWS, oW8, oW16, oW32, oW64, oLtT, oLtF, oLeT, oLeF, oNLtT, oNLtF, oNLeT, oNLeF, oEqT, oEqF, oNEqT, oNEqF, oBeqT, oBeqF, oBneT, oBneF, Int.natCast_add, Int.cast_ofNat_Int, Int.toNat_natCast, List.take_length, rndE_eq, rnd_n, rnd_r, rnd_e]
    | true =>
      rw [h5] at f5
      by_cases c1 : 128 ≤ nmW l
      · by_cases c2 : w.1 = 0
        · simp -implicitDefEqProofs (disch := omega) only [lcpo_Naked.s, wv, oe, f1, f5, n1, ← nw, go_sem, reduceIte, Nat.reduceAdd, Nat.reduceSub, Nat.reduceMul, Nat.reduceLeDiff, Nat.reduceLT, Nat.reduceEqDiff, Int.reduceToNat, Int.reduceLT, Int.reduceLE, Int.reduceEq, Int.reduceNe, Int.reduceAdd, Int.reduceSub, Int.reduceMul, Int.reduceNeg, Int.reduceBEq, Int.reduceBNe, reduceCtorEq, dreduceIte, ac_x, ac_t, setW_s, setW_0, ac_cp, ac_cpw, ac_lenw, ac_ret, ac_pop, ac_popw, cl_cp, oWS, oW8, oW16, oW32, oW64, oLtT, oLtF, oLeT, oLeF, oNLtT, oNLtF, oNLeT, oNLeF, oEqT, oEqF, oNEqT, oNEqF, oBeqT, oBeqF, oBneT, oBneF, Int.natCast_add, Int.cast_ofNat_Int, Int.toNat_natCast, List.take_length, rndE_eq, rnd_n, rnd_r, rnd_e]
        · by_cases c3 : nmW l ≤ w.1
          · simp -implicitDefEqProofs (disch := omega) only [lcpo_Naked.s, wv, oe, f1, f5, n1, ← nw, go_sem, reduceIte, Nat.reduceAdd, Nat.reduceSub, Nat.reduceMul, Nat.reduceLeDiff, Nat.reduceLT, Nat.reduceEqDiff, Int.reduceToNat, Int.reduceLT, Int.reduceLE, Int.reduceEq, Int.reduceNe, Int.reduceAdd, Int.reduceSub, Int.reduceMul, Int.reduceNeg, Int.reduceBEq, Int.reduceBNe, reduceCtorEq, dreduceIte, ac_x, ac_t, setW_s, setW_0, ac_cp, ac_cpw, ac_lenw, ac_ret, ac_pop, ac_popw, cl_cp, oWS, oW8, oW16, oW32, oW64, oLtT, oLtF, oLeT, oLeF, oNLtT, oNLtF, oNLeT, oNLeF, oEqT, oEqF, oNEqT, oNEqF, oBeqT, oBeqF, oBneT, oBneF, Int.natCast_add, Int.cast_ofNat_Int, Int.toNat_natCast, List.take_length, rndE_eq, rnd_n, rnd_r, rnd_e]
          · simp -implicitDefEqProofs (disch := omega) only [lcpo_Naked.s, wv, oe, f1, f5, n1, ← nw, go_sem, reduceIte, Nat.reduceAdd, Nat.reduceSub, Nat.reduceMul, Nat.reduceLeDiff, Nat.reduceLT, Nat.reduceEqDiff, Int.reduceToNat, Int.reduceLT, Int.reduceLE, Int.reduceEq, Int.reduceNe, Int.reduceAdd, Int.reduceSub, Int.reduceMul, Int.reduceNeg, Int.reduceBEq, Int.reduceBNe, reduceCtorEq, dreduceIte, ac_x, ac_t, setW_s, setW_0, ac_cp, ac_cpw, ac_lenw, ac_ret, ac_pop, ac_popw, cl_cp, oWS, oW8, oW16, oW32, oW64, oLtT, oLtF, oLeT, oLeF, oNLtT, oNLtF, oNLeT, oNLeF, oEqT, oEqF, oNEqT, oNEqF, oBeqT, oBeqF, oBneT, oBneF, Int.natCast_add, Int.cast_ofNat_Int, Int.toNat_natCast, List.take_length, rndE_eq, rnd_n, rnd_r, rnd_e]
      · simp -implicitDefEqProofs (disch := omega) only [lcpo_Naked.s, wv, oe, f1, f5, n1, ← nw, go_sem, reduceIte, Nat.reduceAdd, Nat.reduceSub, Nat.reduceMul, Nat.reduceLeDiff, Nat.reduceLT, Nat.reduceEqDiff, Int.reduceToNat, Int.reduceLT, Int.reduceLE, Int.reduceEq, Int.reduceNe, Int.reduceAdd, Int.reduceSub, Int.reduceMul, Int.reduceNeg, Int.reduceBEq, Int.reduceBNe, reduceCtorEq, dreduceIte, ac_x, ac_t, setW_s, setW_0, ac_cp, ac_cpw, ac_lenw, ac_ret, ac_pop, ac_popw, cl_cp, oWS, oW8, oW16, oW32, oW64, oLtT, oLtF, oLeT, oLeF, oNLtT, oNLtF, oNLeT, oNLeF, oEqT, oEqF, oNEqT, oNEqF, oBeqT, oBeqF, oBneT, oBneF, Int.natCast_add, Int.cast_ofNat_Int, Int.toNat_natCast, List.take_length, rndE_eq, rnd_n, rnd_r, rnd_e]
theorem j_rnaked (w : Want) (l : List Opt) (fresh : Int) (hl : okL l) (hn : l.length ≤ 40) : run G 17 [.v (wv w), .v (.slc 2 (oes l)), .v (.int .u32 fresh)] [] = some (.v (wv (nkR w l fresh)), []) := by
  rw [xq_fn G rfl euphroeref25_Naked.g _ _ rfl]
  have f1 := j_rfirst l 1 hn
  have f5 := find60 l 5 hn
  unfold nkR
  cases h1 : (fsR l 1).2 with
  | false =>
    rw [h1] at f1
    cases h5 : (fdR l 5).2 with
    | false => rw [h5] at f5; simp -implicitDefEqProofs (disch := omega) only [euphroeref25_Naked.s, wv, oe, f1, f5, go_sem, reduceIte, Nat.reduceAdd, Nat.reduceSub, Nat.reduceMul, Nat.reduceLeDiff, Nat.reduceLT, Nat.reduceEqDiff, Int.reduceToNat, Int.reduceLT, Int.reduceLE, Int.reduceEq, Int.reduceNe, Int.reduceAdd, Int.reduceSub, Int.reduceMul, Int.reduceNeg, Int.reduceBEq, Int.reduceBNe, reduceCtorEq, dreduceIte, ac_x, ac_t, setW_s, setW_0, ac_cp, ac_cpw, ac_lenw, ac_ret, ac_pop, ac_popw, cl_cp, oWS, oW8, oW16, oW32, oW64, oLtT, oLtF, oLeT, oLeF, oNLtT, oNLtF, oNLeT, oNLeF, oEqT, oEqF, oNEqT, oNEqF, oBeqT, oBeqF, oBneT, oBneF, Int.natCast_add, Int.cast_ofNat_Int, Int.toNat_natCast, List.take_length, rndE_eq, rnd_n, rnd_r, rnd_e]
    | true => rw [h5] at f5; simp -implicitDefEqProofs (disch := omega) only [euphroeref25_Naked.s, wv, oe, f1, f5, go_sem, reduceIte, Nat.reduceAdd, Nat.reduceSub, Nat.reduceMul, Nat.reduceLeDiff, Nat.reduceLT, Nat.reduceEqDiff, Int.reduceToNat, Int.reduceLT, Int.reduceLE, Int.reduceEq, Int.reduceNe, Int.reduceAdd, Int.reduceSub, Int.reduceMul, Int.reduceNeg, Int.reduceBEq, Int.reduceBNe, reduceCtorEq, dreduceIte, ac_x, ac_t, setW_s, setW_0, ac_cp, ac_cpw, ac_lenw, ac_ret, ac_pop, ac_popw, cl_cp, oWS, oW8, oW16, oW32, oW64, oLtT, oLtF, oLeT, oLeF, oNLtT, oNLtF, oNLeT, oNLeF, oEqT, oEqF, oNEqT, oNEqF, oBeqT, oBeqF, oBneT, oBneF, Int.natCast_add, Int.cast_ofNat_Int, Int.toNat_natCast, List.take_length, rndE_eq, rnd_n, rnd_r, rnd_e]
  | true =>
    rw [h1] at f1
    have n1 := num90 (fsR l 1).1.2 (fs_ok l 1 hl).2 (by have := right_len (fs_right l 1 h1).2; omega)
    rw [← right_num (fs_right l 1 h1).2 (.inl (fs_right l 1 h1).1)] at n1
    have nw : nmW l = IntKind.u16.wrap (numR (fsR l 1).1.2) := rfl
    cases h5 : (fdR l 5).2 with
    | false =>
      rw [h5] at f5
      by_cases c1 : 128 ≤ nmW l
      · by_cases c2 : w.1 = 0
        · simp -implicitDefEqProofs (disch := omega) only [euphroeref25_Naked.s, wv, oe, f1, f5, n1, ← nw, go_sem, reduceIte, Nat.reduceAdd, Nat.reduceSub, Nat.reduceMul, Nat.reduceLeDiff, Nat.reduceLT, Nat.reduceEqDiff, Int.reduceToNat, Int.reduceLT, Int.reduceLE, Int.reduceEq, Int.reduceNe, Int.reduceAdd, Int.reduceSub, Int.reduceMul, Int.reduceNeg, Int.reduceBEq, Int.reduceBNe, reduceCtorEq, dreduceIte, ac_x, ac_t, setW_s, setW_0, ac_cp, ac_cpw, ac_lenw, ac_ret, ac_pop, ac_popw, cl_cp, oWS, oW8, oW16, oW32, oW64, oLtT, oLtF, oLeT, oLeF, oNLtT, oNLtF, oNLeT, oNLeF, oEqT, oEqF, oNEqT, oNEqF, oBeqT, oBeqF, oBneT, oBneF, Int.natCast_add, Int.cast_ofNat_Int, Int.toNat_natCast, List.take_length, rndE_eq, rnd_n, rnd_r, rnd_e]
        · by_cases c3 : nmW l ≤ w.1
          · simp -implicitDefEqProofs (disch := omega) only [euphroeref25_Naked.s, wv, oe, f1, f5, n1, ← nw, go_sem, reduceIte, Nat.reduceAdd, Nat.reduceSub, Nat.reduceMul, Nat.reduceLeDiff, Nat.reduceLT, Nat.reduceEqDiff, Int.reduceToNat, Int.reduceLT, Int.reduceLE, Int.reduceEq, Int.reduceNe, Int.reduceAdd, Int.reduceSub, Int.reduceMul, Int.reduceNeg, Int.reduceBEq, Int.reduceBNe, reduceCtorEq, dreduceIte, ac_x, ac_t, setW_s, setW_0, ac_cp, ac_cpw, ac_lenw, ac_ret, ac_pop, ac_popw, cl_cp, oWS, oW8, oW16, oW32, oW64, oLtT, oLtF, oLeT, oLeF, oNLtT, oNLtF, oNLeT, oNLeF, oEqT, oEqF, oNEqT, oNEqF, oBeqT, oBeqF, oBneT, oBneF, Int.natCast_add, Int.cast_ofNat_Int, Int.toNat_natCast, List.take_length, rndE_eq, rnd_n, rnd_r, rnd_e]
          · simp -implicitDefEqProofs (disch := omega) only [euphroeref25_Naked.s, wv, oe, f1, f5, n1, ← nw, go_sem, reduceIte, Nat.reduceAdd, Nat.reduceSub, Nat.reduceMul, Nat.reduceLeDiff, Nat.reduceLT, Nat.reduceEqDiff, Int.reduceToNat, Int.reduceLT, Int.reduceLE, Int.reduceEq, Int.reduceNe, Int.reduceAdd, Int.reduceSub, Int.reduceMul, Int.reduceNeg, Int.reduceBEq, Int.reduceBNe, reduceCtorEq, dreduceIte, ac_x, ac_t, setW_s, setW_0, ac_cp, ac_cpw, ac_lenw, ac_ret, ac_pop, ac_popw, cl_cp, oWS, oW8, oW16, oW32, oW64, oLtT, oLtF, oLeT, oLeF, oNLtT, oNLtF, oNLeT, oNLeF, oEqT, oEqF, oNEqT, oNEqF, oBeqT, oBeqF, oBneT, oBneF, Int.natCast_add, Int.cast_ofNat_Int, Int.toNat_natCast, List.take_length, rndE_eq, rnd_n, rnd_r, rnd_e]
      · simp -implicitDefEqProofs (disch := omega) only [euphroeref25_Naked.s, wv, oe, f1, f5, n1, ← nw, go_sem, reduceIte, Nat.reduceAdd, Nat.reduceSub, Nat.reduceMul, Nat.reduceLeDiff, Nat.reduceLT, Nat.reduceEqDiff, Int.reduceToNat, Int.reduceLT, Int.reduceLE, Int.reduceEq, Int.reduceNe, Int.reduceAdd, Int.reduceSub, Int.reduceMul, Int.reduceNeg, Int.reduceBEq, Int.reduceBNe, reduceCtorEq, dreduceIte, ac_x, ac_t, setW_s, setW_0, ac_cp, ac_cpw, ac_lenw, ac_ret, ac_pop, ac_popw, cl_cp, oWS, oW8, oW16, oW32, oW64, oLtT, oLtF, oLeT, oLeF, oNLtT, oNLtF, oNLeT, oNLeF, oEqT, oEqF, oNEqT, oNEqF, oBeqT, oBeqF, oBneT, oBneF, Int.natCast_add, Int.cast_ofNat_Int, Int.toNat_natCast, List.take_length, rndE_eq, rnd_n, rnd_r, rnd_e]
    | true =>
      rw [h5] at f5
      by_cases c1 : 128 ≤ nmW l
      · by_cases c2 : w.1 = 0
        · simp -implicitDefEqProofs (disch := omega) only [euphroeref25_Naked.s, wv, oe, f1, f5, n1, ← nw, go_sem, reduceIte, Nat.reduceAdd, Nat.reduceSub, Nat.reduceMul, Nat.reduceLeDiff, Nat.reduceLT, Nat.reduceEqDiff, Int.reduceToNat, Int.reduceLT, Int.reduceLE, Int.reduceEq, Int.reduceNe, Int.reduceAdd, Int.reduceSub, Int.reduceMul, Int.reduceNeg, Int.reduceBEq, Int.reduceBNe, reduceCtorEq, dreduceIte, ac_x, ac_t, setW_s, setW_0, ac_cp, ac_cpw, ac_lenw, ac_ret, ac_pop, ac_popw, cl_cp, oWS, oW8, oW16, oW32, oW64, oLtT, oLtF, oLeT, oLeF, oNLtT, oNLtF, oNLeT, oNLeF, oEqT, oEqF, oNEqT, oNEqF, oBeqT, oBeqF, oBneT, oBneF, Int.natCast_add, Int.cast_ofNat_Int, Int.toNat_natCast, List.take_length, rndE_eq, rnd_n, rnd_r, rnd_e]
        · by_cases c3 : nmW l ≤ w.1
          · simp -implicitDefEqProofs (disch := omega) only [euphroeref25_Naked.s, wv, oe, f1, f5, n1, ← nw, go_sem, reduceIte, Nat.reduceAdd, Nat.reduceSub, Nat.reduceMul, Nat.reduceLeDiff, Nat.reduceLT, Nat.reduceEqDiff, Int.reduceToNat, Int.reduceLT, Int.reduceLE, Int.reduceEq, Int.reduceNe, Int.reduceAdd, Int.reduceSub, Int.reduceMul, Int.reduceNeg, Int.reduceBEq, Int.reduceBNe, reduceCtorEq, dreduceIte, ac_x, ac_t, setW_s, setW_0, ac_cp, ac_cpw, ac_lenw, ac_ret, ac_pop, ac_popw, cl_cp, oWS, oW8, oW16, oW32, oW64, oLtT, oLtF, oLeT, oLeF, oNLtT, oNLtF, oNLeT, oNLeF, oEqT, oEqF, oNEqT, oNEqF, oBeqT, oBeqF, oBneT, oBneF, Int.natCast_add, Int.cast_ofNat_Int, Int.toNat_natCast, List.take_length, rndE_eq, rnd_n, rnd_r, rnd_e]
          · simp -implicitDefEqProofs (disch := omega) only [euphroeref25_Naked.s, wv, oe, f1, f5, n1, ← nw, go_sem, reduceIte, Nat.reduceAdd, Nat.reduceSub, Nat.reduceMul, Nat.reduceLeDiff, Nat.reduceLT, Nat.reduceEqDiff, Int.reduceToNat, Int.reduceLT, Int.reduceLE, Int.reduceEq, Int.reduceNe, Int.reduceAdd, Int.reduceSub, Int.reduceMul, Int.reduceNeg, Int.reduceBEq, Int.reduceBNe, reduceCtorEq, dreduceIte, ac_x, ac_t, setW_s, setW_0, ac_cp, ac_cpw, ac_lenw, ac_ret, ac_pop, ac_popw, cl_cp, oWS, oW8, oW16, oW32, oW64, oLtT, oLtF, oLeT, oLeF, oNLtT, oNLtF, oNLeT, oNLeF, oEqT, oEqF, oNEqT, oNEqF, oBeqT, oBeqF, oBneT, oBneF, Int.natCast_add, Int.cast_ofNat_Int, Int.toNat_natCast, List.take_length, rndE_eq, rnd_n, rnd_r, rnd_e]
      · simp -implicitDefEqProofs (disch := omega) only [euphroeref25_Naked.s, wv, oe, f1, f5, n1, ← nw, go_sem, reduceIte, Nat.reduceAdd, Nat.reduceSub, Nat.reduceMul, Nat.reduceLeDiff, Nat.reduceLT, Nat.reduceEqDiff, Int.reduceToNat, Int.reduceLT, Int.reduceLE, Int.reduceEq, Int.reduceNe, Int.reduceAdd, Int.reduceSub, Int.reduceMul, Int.reduceNeg, Int.reduceBEq, Int.reduceBNe, reduceCtorEq, dreduceIte, ac_x, ac_t, setW_s, setW_0, ac_cp, ac_cpw, ac_lenw, ac_ret, ac_pop, ac_popw, cl_cp, oWS, oW8, oW16, oW32, oW64, oLtT, oLtF, oLeT, oLeF, oNLtT, oNLtF, oNLeT, oNLeF, oEqT, oEqF, oNEqT, oNEqF, oBeqT, oBeqF, oBneT, oBneF, Int.natCast_add, Int.cast_ofNat_Int, Int.toNat_natCast, List.take_length, rndE_eq, rnd_n, rnd_r, rnd_e]
/-! ### Rejected -/
def rjR (w : Want) (l : List Opt) : Want := (if (kds l).contains 1 = true then 0 else w.1, if (kds l).contains 5 = true then 0 else w.2.1, w.2.2)
theorem rj_step (w : Want) (l : List Opt) (o : Opt) : rjR w (l ++ [o]) = if o.1 = 1 then (0, (rjR w l).2.1, w.2.2) else if o.1 = 5 then ((rjR w l).1, 0, w.2.2) else rjR w l := by
  have e : kds (l ++ [o]) = kds l ++ [o.1] := by simp [kds]
  unfold rjR
  simp only [e, List.contains_append, List.contains_cons, List.contains_nil, Bool.or_false]
  by_cases h1 : o.1 = 1
  · simp [h1]
  · by_cases h5 : o.1 = 5
    · simp [h5]
    · have a1 : ((1 : Int) == o.1) = false := by simp; omega
      have a5 : ((5 : Int) == o.1) = false := by simp; omega
      simp [h1, h5, a1, a5]
theorem j_rejected (w : Want) (l : List Opt) (hn : l.length ≤ 40) : run G 8 [.v (wv w), .v (.slc 2 (oes l))] [] = some (.tup [.v (wv (rjR w l)), .v (.bool (!(fdR l 3).2))], []) := by
  rw [xq_fn G rfl lcpo_Rejected.g _ _ rfl]
  have f3 := find59 l 3 hn
  have L := lpFor (G := G) (kill := [8, 9]) (body := lcpo_Rejected.l0) (fun i => [.v (wv w), .v (.slc 2 (oes l)), .ptr ⟨0, 0⟩ 0 0, .ptr ⟨0, 1⟩ 0 0, .v (.bool false), .v (.slc 2 (oes l)), .v (.int .i64 (l.length : Nat)), .v (.int .i64 i), .undef, .undef, .undef]) (fun i => [[.row [.v (wv (rjR w (l.take i)))], .row [.v (wv (0, 0, false))]]]) l.length
    (fun i hi => by
      have hx := oes_at (List.getElem?_eq_getElem hi)
      rw [take_succ hi, rj_step]
      have e3 : (rjR w (l.take i)).2.2 = w.2.2 := rfl
      generalize rjR w (l.take i) = r at *
      by_cases h1 : l[i].1 = 1
      · simp -implicitDefEqProofs (disch := omega) only [lcpo_Rejected.l0, wv, e3, oes_len, hx, go_sem, reduceIte, Nat.reduceAdd, Nat.reduceSub, Nat.reduceMul, Nat.reduceLeDiff, Nat.reduceLT, Nat.reduceEqDiff, Int.reduceToNat, Int.reduceLT, Int.reduceLE, Int.reduceEq, Int.reduceNe, Int.reduceAdd, Int.reduceSub, Int.reduceMul, Int.reduceNeg, Int.reduceBEq, Int.reduceBNe, reduceCtorEq, dreduceIte, ac_x, ac_t, setW_s, setW_0, ac_cp, ac_cpw, ac_lenw, ac_ret, ac_pop, ac_popw, cl_cp, oWS, oW8, oW16, oW32, oW64, oLtT, oLtF, oLeT, oLeF, oNLtT, oNLtF, oNLeT, oNLeF, oEqT, oEqF, oNEqT, oNEqF, oBeqT, oBeqF, oBneT, oBneF, Int.natCast_add, Int.cast_ofNat_Int, Int.toNat_natCast, List.take_length, rndE_eq, rnd_n, rnd_r, rnd_e]
      · by_cases h5 : l[i].1 = 5
        · simp -implicitDefEqProofs (disch := omega) only [lcpo_Rejected.l0, wv, e3, oes_len, hx, go_sem, reduceIte, Nat.reduceAdd, Nat.reduceSub, Nat.reduceMul, Nat.reduceLeDiff, Nat.reduceLT, Nat.reduceEqDiff, Int.reduceToNat, Int.reduceLT, Int.reduceLE, Int.reduceEq, Int.reduceNe, Int.reduceAdd, Int.reduceSub, Int.reduceMul, Int.reduceNeg, Int.reduceBEq, Int.reduceBNe, reduceCtorEq, dreduceIte, ac_x, ac_t, setW_s, setW_0, ac_cp, ac_cpw, ac_lenw, ac_ret, ac_pop, ac_popw, cl_cp, oWS, oW8, oW16, oW32, oW64, oLtT, oLtF, oLeT, oLeF, oNLtT, oNLtF, oNLeT, oNLeF, oEqT, oEqF, oNEqT, oNEqF, oBeqT, oBeqF, oBneT, oBneF, Int.natCast_add, Int.cast_ofNat_Int, Int.toNat_natCast, List.take_length, rndE_eq, rnd_n, rnd_r, rnd_e]
        · simp -implicitDefEqProofs (disch := omega) only [lcpo_Rejected.l0, wv, e3, oes_len, hx, go_sem, reduceIte, Nat.reduceAdd, Nat.reduceSub, Nat.reduceMul, Nat.reduceLeDiff, Nat.reduceLT, Nat.reduceEqDiff, Int.reduceToNat, Int.reduceLT, Int.reduceLE, Int.reduceEq, Int.reduceNe, Int.reduceAdd, Int.reduceSub, Int.reduceMul, Int.reduceNeg, Int.reduceBEq, Int.reduceBNe, reduceCtorEq, dreduceIte, ac_x, ac_t, setW_s, setW_0, ac_cp, ac_cpw, ac_lenw, ac_ret, ac_pop, ac_popw, cl_cp, oWS, oW8, oW16, oW32, oW64, oLtT, oLtF, oLeT, oLeF, oNLtT, oNLtF, oNLeT, oNLeF, oEqT, oEqF, oNEqT, oNEqF, oBeqT, oBeqF, oBneT, oBneF, Int.natCast_add, Int.cast_ofNat_Int, Int.toNat_natCast, List.take_length, rndE_eq, rnd_n, rnd_r, rnd_e]) (by simp -implicitDefEqProofs (disch := omega) only [lcpo_Rejected.l0, go_sem, reduceIte, Nat.reduceAdd, Nat.reduceSub, Nat.reduceMul, Nat.reduceLeDiff, Nat.reduceLT, Nat.reduceEqDiff, Int.reduceToNat, Int.reduceLT, Int.reduceLE, Int.reduceEq, Int.reduceNe, Int.reduceAdd, Int.reduceSub, Int.reduceMul, Int.reduceNeg, Int.reduceBEq, Int.reduceBNe, reduceCtorEq, dreduceIte, ac_x, ac_t, setW_s, setW_0, ac_cp, ac_cpw, ac_lenw, ac_ret, ac_pop, ac_popw, cl_cp, oWS, oW8, oW16, oW32, oW64, oLtT, oLtF, oLeT, oLeF, oNLtT, oNLtF, oNLeT, oNLeF, oEqT, oEqF, oNEqT, oNEqF, oBeqT, oBeqF, oBneT, oBneF, Int.natCast_add, Int.cast_ofNat_Int, Int.toNat_natCast, List.take_length, rndE_eq, rnd_n, rnd_r, rnd_e]; rfl)
  have r0 : rjR w [] = w := rfl
  simp only [r0, z0, Int.cast_ofNat_Int, List.take_zero, List.map_nil, List.drop_zero, accN, b8_nil, Int.sub_zero, Int.add_zero, Int.zero_add, Nat.zero_add, Nat.sub_zero, List.nil_append, List.append_nil] at L
  simp -implicitDefEqProofs (disch := omega) only [lcpo_Rejected.s, oes_len, L, f3, go_sem, reduceIte, Nat.reduceAdd, Nat.reduceSub, Nat.reduceMul, Nat.reduceLeDiff, Nat.reduceLT, Nat.reduceEqDiff, Int.reduceToNat, Int.reduceLT, Int.reduceLE, Int.reduceEq, Int.reduceNe, Int.reduceAdd, Int.reduceSub, Int.reduceMul, Int.reduceNeg, Int.reduceBEq, Int.reduceBNe, reduceCtorEq, dreduceIte, ac_x, ac_t, setW_s, setW_0, ac_cp, ac_cpw, ac_lenw, ac_ret, ac_pop, ac_popw, cl_cp, oWS, oW8, oW16, oW32, oW64, oLtT, oLtF, oLeT, oLeF, oNLtT, oNLtF, oNLeT, oNLeF, oEqT, oEqF, oNEqT, oNEqF, oBeqT, oBeqF, oBneT, oBneF, Int.natCast_add, Int.cast_ofNat_Int, Int.toNat_natCast, List.take_length, rndE_eq, rnd_n, rnd_r, rnd_e]
theorem j_rrejected (w : Want) (l : List Opt) (hn : l.length ≤ 40) : run G 10 [.v (wv w), .v (.slc 2 (oes l))] [] = some (.tup [.v (wv (rjR w l)), .v (.bool (!(fdR l 3).2))], []) := by
  rw [xq_fn G rfl euphroeref25_Rejected.g _ _ rfl]
  have f1 := find60 l 1 hn
  have f5 := find60 l 5 hn
  have f3 := find60 l 3 hn
  unfold rjR
  rw [← met_fd, ← met_fd]
  cases h1 : (fdR l 1).2 with
  | false =>
    rw [h1] at f1
    cases h5 : (fdR l 5).2 with
    | false => rw [h5] at f5; simp -implicitDefEqProofs (disch := omega) only [euphroeref25_Rejected.s, wv, f1, f5, f3, go_sem, reduceIte, Nat.reduceAdd, Nat.reduceSub, Nat.reduceMul, Nat.reduceLeDiff, Nat.reduceLT, Nat.reduceEqDiff, Int.reduceToNat, Int.reduceLT, Int.reduceLE, Int.reduceEq, Int.reduceNe, Int.reduceAdd, Int.reduceSub, Int.reduceMul, Int.reduceNeg, Int.reduceBEq, Int.reduceBNe, reduceCtorEq, dreduceIte, ac_x, ac_t, setW_s, setW_0, ac_cp, ac_cpw, ac_lenw, ac_ret, ac_pop, ac_popw, cl_cp, oWS, oW8, oW16, oW32, oW64, oLtT, oLtF, oLeT, oLeF, oNLtT, oNLtF, oNLeT, oNLeF, oEqT, oEqF, oNEqT, oNEqF, oBeqT, oBeqF, oBneT, oBneF, Int.natCast_add, Int.cast_ofNat_Int, Int.toNat_natCast, List.take_length, rndE_eq, rnd_n, rnd_r, rnd_e]
    | true => rw [h5] at f5; simp -implicitDefEqProofs (disch := omega) only [euphroeref25_Rejected.s, wv, f1, f5, f3, go_sem, reduceIte, Nat.reduceAdd, Nat.reduceSub, Nat.reduceMul, Nat.reduceLeDiff, Nat.reduceLT, Nat.reduceEqDiff, Int.reduceToNat, Int.reduceLT, Int.reduceLE, Int.reduceEq, Int.reduceNe, Int.reduceAdd, Int.reduceSub, Int.reduceMul, Int.reduceNeg, Int.reduceBEq, Int.reduceBNe, reduceCtorEq, dreduceIte, ac_x, ac_t, setW_s, setW_0, ac_cp, ac_cpw, ac_lenw, ac_ret, ac_pop, ac_popw, cl_cp, oWS, oW8, oW16, oW32, oW64, oLtT, oLtF, oLeT, oLeF, oNLtT, oNLtF, oNLeT, oNLeF, oEqT, oEqF, oNEqT, oNEqF, oBeqT, oBeqF, oBneT, oBneF, Int.natCast_add, Int.cast_ofNat_Int, Int.toNat_natCast, List.take_length, rndE_eq, rnd_n, rnd_r, rnd_e]
  | true =>
    rw [h1] at f1
    cases h5 : (fdR l 5).2 with
    | false => rw [h5] at f5; simp -implicitDefEqProofs (disch := omega) only [euphroeref25_Rejected.s, wv, f1, f5, f3, go_sem, reduceIte, Nat.reduceAdd, Nat.reduceSub, Nat.reduceMul, Nat.reduceLeDiff, Nat.reduceLT, Nat.reduceEqDiff, Int.reduceToNat, Int.reduceLT, Int.reduceLE, Int.reduceEq, Int.reduceNe, Int.reduceAdd, Int.reduceSub, Int.reduceMul, Int.reduceNeg, Int.reduceBEq, Int.reduceBNe, reduceCtorEq, dreduceIte, ac_x, ac_t, setW_s, setW_0, ac_cp, ac_cpw, ac_lenw, ac_ret, ac_pop, ac_popw, cl_cp, oWS, oW8, oW16, oW32, oW64, oLtT, oLtF, oLeT, oLeF, oNLtT, oNLtF, oNLeT, oNLeF, oEqT, oEqF, oNEqT, oNEqF, oBeqT, oBeqF, oBneT, oBneF, Int.natCast_add, Int.cast_ofNat_Int, Int.toNat_natCast, List.take_length, rndE_eq, rnd_n, rnd_r, rnd_e]
    | true => rw [h5] at f5; simp -implicitDefEqProofs (disch := omega) only [euphroeref25_Rejected.s, wv, f1, f5, f3, go_sem, reduceIte, Nat.reduceAdd, Nat.reduceSub, Nat.reduceMul, Nat.reduceLeDiff, Nat.reduceLT, Nat.reduceEqDiff, Int.reduceToNat, Int.reduceLT, Int.reduceLE, Int.reduceEq, Int.reduceNe, Int.reduceAdd, Int.reduceSub, Int.reduceMul, Int.reduceNeg, Int.reduceBEq, Int.reduceBNe, reduceCtorEq, dreduceIte, ac_x, ac_t, setW_s, setW_0, ac_cp, ac_cpw, ac_lenw, ac_ret, ac_pop, ac_popw, cl_cp, oWS, oW8, oW16, oW32, oW64, oLtT, oLtF, oLeT, oLeF, oNLtT, oNLtF, oNLeT, oNLeF, oEqT, oEqF, oNEqT, oNEqF, oBeqT, oBeqF, oBneT, oBneF, Int.natCast_add, Int.cast_ofNat_Int, Int.toNat_natCast, List.take_length, rndE_eq, rnd_n, rnd_r, rnd_e]
theorem lcpoWants (w : Want) (l : List Opt) (fresh : Int) (hw : okW w) (hl : okL l) (hn : l.length ≤ 4611686018427387904) :
    run G 3 [.v (wv w), .v (.slc 2 (oes l)), .v (.int .u32 fresh)] [] = some (.v (.bool true), []) := by
  rw [xq_fn G rfl euphroelaw25_LcpoWants.g _ _ rfl]
  have hf := j_far l hn
  cases hfar : farP l with
  | true => rw [hfar] at hf; simp -implicitDefEqProofs (disch := omega) only [euphroelaw25_LcpoWants.s, hf, j_alive, go_sem, reduceIte, Nat.reduceAdd, Nat.reduceSub, Nat.reduceMul, Nat.reduceLeDiff, Nat.reduceLT, Nat.reduceEqDiff, Int.reduceToNat, Int.reduceLT, Int.reduceLE, Int.reduceEq, Int.reduceNe, Int.reduceAdd, Int.reduceSub, Int.reduceMul, Int.reduceNeg, Int.reduceBEq, Int.reduceBNe, reduceCtorEq, dreduceIte, ac_x, ac_t, setW_s, setW_0, ac_cp, ac_cpw, ac_lenw, ac_ret, ac_pop, ac_popw, cl_cp, oWS, oW8, oW16, oW32, oW64, oLtT, oLtF, oLeT, oLeF, oNLtT, oNLtF, oNLeT, oNLeF, oEqT, oEqF, oNEqT, oNEqF, oBeqT, oBeqF, oBneT, oBneF, Int.natCast_add, Int.cast_ofNat_Int, Int.toNat_natCast, List.take_length, rndE_eq, rnd_n, rnd_r, rnd_e]
  | false =>
    rw [hfar] at hf
    obtain ⟨l40, _⟩ := far_sh hfar
    have t := j_theirs l l40
    obtain ⟨k1, k2⟩ := optW_ok w
    have p1 := j_options w hw
    have p2 := j_roptions w hw
    have t2 := j_theirs (optW w) (by omega)
    have s := same58 (optW w) (optW w) k1 k1 (by omega)
    rw [beq_self_eq_true] at s
    have o1 := j_of l hl l40
    have o2 := j_rof l hl l40
    have a1 := j_naked w l fresh hl l40
    have a2 := j_rnaked w l fresh hl l40
    have r1 := j_rejected w l l40
    have r2 := j_rrejected w l l40
    generalize rjR w l = rj at *
    generalize nkR w l fresh = nk at *
    generalize ofR l = og at *
    generalize optW w = ow at *
    simp -implicitDefEqProofs (disch := omega) only [euphroelaw25_LcpoWants.s, hf, t, p1, p2, t2, s, o1, o2, a1, a2, r1, r2, j_alive, beq_self_eq_true, Bool.and_true, go_sem, reduceIte, Nat.reduceAdd, Nat.reduceSub, Nat.reduceMul, Nat.reduceLeDiff, Nat.reduceLT, Nat.reduceEqDiff, Int.reduceToNat, Int.reduceLT, Int.reduceLE, Int.reduceEq, Int.reduceNe, Int.reduceAdd, Int.reduceSub, Int.reduceMul, Int.reduceNeg, Int.reduceBEq, Int.reduceBNe, reduceCtorEq, dreduceIte, ac_x, ac_t, setW_s, setW_0, ac_cp, ac_cpw, ac_lenw, ac_ret, ac_pop, ac_popw, cl_cp, oWS, oW8, oW16, oW32, oW64, oLtT, oLtF, oLeT, oLeF, oNLtT, oNLtF, oNLeT, oNLeF, oEqT, oEqF, oNEqT, oNEqF, oBeqT, oBeqF, oBneT, oBneF, Int.natCast_add, Int.cast_ofNat_Int, Int.toNat_natCast, List.take_length, rndE_eq, rnd_n, rnd_r, rnd_e]
end Go.Q
