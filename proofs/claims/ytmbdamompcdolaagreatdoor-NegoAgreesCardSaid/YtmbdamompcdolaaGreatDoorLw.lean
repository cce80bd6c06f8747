/- Options wanted: the document's first, Of, Options; Naked, Rejected; the law LcpoWants. No condition. -/
import Derived.Test.YtmbdamompcdolaaGreatDoorLh
set_option linter.all false
set_option maxRecDepth 100000
namespace Go.Q
open SOp SCode
attribute [local congr] bind_c map_c

theorem fs_right (l : List Opt) (k : Int) (h : (fsR l k).2 = true) : (fsR l k).1.1 = k ∧ rightR (fsR l k).1 = true := by
  unfold fsR at h ⊢
  split at h
  · rename_i o ho
    have := List.find?_some ho
    simpa [fsB] using this
  · cases h
theorem fs_none (l : List Opt) (k : Int) (h : (fsR l k).2 = false) : (fsR l k).1 = noO := by
  unfold fsR at h ⊢
  split at h
  · cases h
  · rfl
theorem right_num {o : Opt} (h : rightR o = true) (hk : o.1 = 1 ∨ o.1 = 5) : numR o.2 = num o.2 := by
  have h1 := of_decide_eq_true h
  have h2 : (o.2.length : Int) = 2 ∨ (o.2.length : Int) = 4 := by
    rcases hk with e | e
    · rw [e] at h1; exact .inl h1
    · rw [e] at h1; exact .inr h1
  rw [numR, if_neg (by omega)]
def nmW (l : List Opt) : Int := IntKind.u16.wrap (numR (fsR l 1).1.2)
def nkR (w : Want) (l : List Opt) (fresh : Int) : Want := (if (fsR l 1).2 = true then (if 128 ≤ nmW l then (if w.1 = 0 then nmW l else if nmW l ≤ w.1 then nmW l else w.1) else w.1) else w.1, if (fdR l 5).2 = true then fresh else w.2.1, w.2.2)
theorem j_naked (w : Want) (l : List Opt) (fresh : Int) (hl : okL l) (hn : l.length ≤ 40) : run G 136 [.v (wv w), .v (.slc 2 (oes l)), .v (.int .u32 fresh)] [] = some (.v (wv (nkR w l fresh)), []) := by
  rw [xq_fn G rfl lcpo_Naked.g _ _ rfl]
  have f1 := j_first l 1 hn
  have f5 := find59 l 5 hn
  have n1 := j_number (fsR l 1).1 (fs_ok l 1 hl).2
  have nw : nmW l = IntKind.u16.wrap (numR (fsR l 1).1.2) := rfl
  unfold nkR
  cases h1 : (fsR l 1).2 with
  | false =>
    rw [h1] at f1
    cases h5 : (fdR l 5).2 with
    | false => rw [h5] at f5; simp -implicitDefEqProofs (maxSteps := 2000000) (disch := omega) only [lcpo_Naked.s, wv, oe, f1, f5, go_sem, reduceIte, Nat.reduceAdd, Nat.reduceSub, Nat.reduceMul, Nat.reduceLeDiff, Nat.reduceLT, Nat.reduceEqDiff, Int.reduceToNat, Int.reduceLT, Int.reduceLE, Int.reduceEq, Int.reduceNe, Int.reduceAdd, Int.reduceSub, Int.reduceMul, Int.reduceNeg, Int.reduceBEq, Int.reduceBNe, reduceCtorEq, dreduceIte, oWS, oW8, oW16, oW32, oW64, oLtT, oLtF, oLeT, oLeF, oNLtT, oNLtF, oNLeT, oNLeF, oEqT, oEqF, oNEqT, oNEqF, oBeqT, oBeqF, oBneT, oBneF, Int.natCast_add, List.take_length]
    | true => rw [h5] at f5; simp -implicitDefEqProofs (maxSteps := 2000000) (disch := omega) only [lcpo_Naked.s, wv, oe, f1, f5, go_sem, reduceIte, Nat.reduceAdd, Nat.reduceSub, Nat.reduceMul, Nat.reduceLeDiff, Nat.reduceLT, Nat.reduceEqDiff, Int.reduceToNat, Int.reduceLT, Int.reduceLE, Int.reduceEq, Int.reduceNe, Int.reduceAdd, Int.reduceSub, Int.reduceMul, Int.reduceNeg, Int.reduceBEq, Int.reduceBNe, reduceCtorEq, dreduceIte, oWS, oW8, oW16, oW32, oW64, oLtT, oLtF, oLeT, oLeF, oNLtT, oNLtF, oNLeT, oNLeF, oEqT, oEqF, oNEqT, oNEqF, oBeqT, oBeqF, oBneT, oBneF, Int.natCast_add, List.take_length]
  | true =>
    rw [h1] at f1
    cases h5 : (fdR l 5).2 with
    | false =>
      rw [h5] at f5
      by_cases c1 : 128 ≤ nmW l
      · by_cases c2 : w.1 = 0
        · simp -implicitDefEqProofs (maxSteps := 2000000) (disch := omega) only [lcpo_Naked.s, wv, oe, f1, f5, n1, ← nw, go_sem, reduceIte, Nat.reduceAdd, Nat.reduceSub, Nat.reduceMul, Nat.reduceLeDiff, Nat.reduceLT, Nat.reduceEqDiff, Int.reduceToNat, Int.reduceLT, Int.reduceLE, Int.reduceEq, Int.reduceNe, Int.reduceAdd, Int.reduceSub, Int.reduceMul, Int.reduceNeg, Int.reduceBEq, Int.reduceBNe, reduceCtorEq, dreduceIte, oWS, oW8, oW16, oW32, oW64, oLtT, oLtF, oLeT, oLeF, oNLtT, oNLtF, oNLeT, oNLeF, oEqT, oEqF, oNEqT, oNEqF, oBeqT, oBeqF, oBneT, oBneF, Int.natCast_add, List.take_length]
        · by_cases c3 : nmW l ≤ w.1
          · simp -implicitDefEqProofs (maxSteps := 2000000) (disch := omega) only [lcpo_Naked.s, wv, oe, f1, f5, n1, ← nw, go_sem, reduceIte, Nat.reduceAdd, Nat.reduceSub, Nat.reduceMul, Nat.reduceLeDiff, Nat.reduceLT, Nat.reduceEqDiff, Int.reduceToNat, Int.reduceLT, Int.reduceLE, Int.reduceEq, Int.reduceNe, Int.reduceAdd, Int.reduceSub, Int.reduceMul, Int.reduceNeg, Int.reduceBEq, Int.reduceBNe, reduceCtorEq, dreduceIte, oWS, oW8, oW16, oW32, oW64, oLtT, oLtF, oLeT, oLeF, oNLtT, oNLtF, oNLeT, oNLeF, oEqT, oEqF, oNEqT, oNEqF, oBeqT, oBeqF, oBneT, oBneF, Int.natCast_add, List.take_length]
          · simp -implicitDefEqProofs (maxSteps := 2000000) (disch := omega) only [lcpo_Naked.s, wv, oe, f1, f5, n1, ← nw, go_sem, reduceIte, Nat.reduceAdd, Nat.reduceSub, Nat.reduceMul, Nat.reduceLeDiff, Nat.reduceLT, Nat.reduceEqDiff, Int.reduceToNat, Int.reduceLT, Int.reduceLE, Int.reduceEq, Int.reduceNe, Int.reduceAdd, Int.reduceSub, Int.reduceMul, Int.reduceNeg, Int.reduceBEq, Int.reduceBNe, reduceCtorEq, dreduceIte, oWS, oW8, oW16, oW32, oW64, oLtT, oLtF, oLeT, oLeF, oNLtT, oNLtF, oNLeT, oNLeF, oEqT, oEqF, oNEqT, oNEqF, oBeqT, oBeqF, oBneT, oBneF, Int.natCast_add, List.take_length]
      · simp -implicitDefEqProofs (maxSteps := 2000000) (disch := omega) only [lcpo_Naked.s, wv, oe, f1, f5, n1, ← nw, go_sem, reduceIte, Nat.reduceAdd, Nat.reduceSub, Nat.reduceMul, Nat.reduceLeDiff, Nat.reduceLT, Nat.reduceEqDiff, Int.reduceToNat, Int.reduceLT, Int.reduceLE, Int.reduceEq, Int.reduceNe, Int.reduceAdd, Int.reduceSub, Int.reduceMul, Int.reduceNeg, Int.reduceBEq, Int.reduceBNe, reduceCtorEq, dreduceIte, oWS, oW8, oW16, oW32, oW64, oLtT, oLtF, oLeT, oLeF, oNLtT, oNLtF, oNLeT, oNLeF, oEqT, oEqF, oNEqT, oNEqF, oBeqT, oBeqF, oBneT, oBneF, Int.natCast_add, List.take_length]
    | true =>
      rw [h5] at f5
      by_cases c1 : 128 ≤ nmW l
      · by_cases c2 : w.1 = 0
        · simp -implicitDefEqProofs (maxSteps := 2000000) (disch := omega) only [lcpo_Naked.s, wv, oe, f1, f5, n1, ← nw, go_sem, reduceIte, Nat.reduceAdd, Nat.reduceSub, Nat.reduceMul, Nat.reduceLeDiff, Nat.reduceLT, Nat.reduceEqDiff, Int.reduceToNat, Int.reduceLT, Int.reduceLE, Int.reduceEq, Int.reduceNe, Int.reduceAdd, Int.reduceSub, Int.reduceMul, Int.reduceNeg, Int.reduceBEq, Int.reduceBNe, reduceCtorEq, dreduceIte, oWS, oW8, oW16, oW32, oW64, oLtT, oLtF, oLeT, oLeF, oNLtT, oNLtF, oNLeT, oNLeF, oEqT, oEqF, oNEqT, oNEqF, oBeqT, oBeqF, oBneT, oBneF, Int.natCast_add, List.take_length]
        · by_cases c3 : nmW l ≤ w.1
          · simp -implicitDefEqProofs (maxSteps := 2000000) (disch := omega) only [lcpo_Naked.s, wv, oe, f1, f5, n1, ← nw, go_sem, reduceIte, Nat.reduceAdd, Nat.reduceSub, Nat.reduceMul, Nat.reduceLeDiff, Nat.reduceLT, Nat.reduceEqDiff, Int.reduceToNat, Int.reduceLT, Int.reduceLE, Int.reduceEq, Int.reduceNe, Int.reduceAdd, Int.reduceSub, Int.reduceMul, Int.reduceNeg, Int.reduceBEq, Int.reduceBNe, reduceCtorEq, dreduceIte, oWS, oW8, oW16, oW32, oW64, oLtT, oLtF, oLeT, oLeF, oNLtT, oNLtF, oNLeT, oNLeF, oEqT, oEqF, oNEqT, oNEqF, oBeqT, oBeqF, oBneT, oBneF, Int.natCast_add, List.take_length]
          · simp -implicitDefEqProofs (maxSteps := 2000000) (disch := omega) only [lcpo_Naked.s, wv, oe, f1, f5, n1, ← nw, go_sem, reduceIte, Nat.reduceAdd, Nat.reduceSub, Nat.reduceMul, Nat.reduceLeDiff, Nat.reduceLT, Nat.reduceEqDiff, Int.reduceToNat, Int.reduceLT, Int.reduceLE, Int.reduceEq, Int.reduceNe, Int.reduceAdd, Int.reduceSub, Int.reduceMul, Int.reduceNeg, Int.reduceBEq, Int.reduceBNe, reduceCtorEq, dreduceIte, oWS, oW8, oW16, oW32, oW64, oLtT, oLtF, oLeT, oLeF, oNLtT, oNLtF, oNLeT, oNLeF, oEqT, oEqF, oNEqT, oNEqF, oBeqT, oBeqF, oBneT, oBneF, Int.natCast_add, List.take_length]
      · simp -implicitDefEqProofs (maxSteps := 2000000) (disch := omega) only [lcpo_Naked.s, wv, oe, f1, f5, n1, ← nw, go_sem, reduceIte, Nat.reduceAdd, Nat.reduceSub, Nat.reduceMul, Nat.reduceLeDiff, Nat.reduceLT, Nat.reduceEqDiff, Int.reduceToNat, Int.reduceLT, Int.reduceLE, Int.reduceEq, Int.reduceNe, Int.reduceAdd, Int.reduceSub, Int.reduceMul, Int.reduceNeg, Int.reduceBEq, Int.reduceBNe, reduceCtorEq, dreduceIte, oWS, oW8, oW16, oW32, oW64, oLtT, oLtF, oLeT, oLeF, oNLtT, oNLtF, oNLeT, oNLeF, oEqT, oEqF, oNEqT, oNEqF, oBeqT, oBeqF, oBneT, oBneF, Int.natCast_add, List.take_length]
def rjR (w : Want) (l : List Opt) : Want := (if (kds l).contains 1 = true then 0 else w.1, if (kds l).contains 5 = true then 0 else w.2.1, w.2.2)
theorem rj_step (w : Want) (l : List Opt) (o : Opt) : rjR w (l ++ [o]) = if o.1 = 1 then (0, (rjR w l).2.1, w.2.2) else if o.1 = 5 then ((rjR w l).1, 0, w.2.2) else rjR w l := by
  have e : kds (l ++ [o]) = kds l ++ [o.1] := by simp [kds]
  unfold rjR
  simp only [e, List.contains_append, List.contains_cons, List.contains_nil, Bool.or_false]
  by_cases h1 : o.1 = 1
  · simp [h1]
  · by_cases h5 : o.1 = 5
    · simp [h5]
    · have a1 : ((1 : Int) == o.1) = false := by simp; omega
      have a5 : ((5 : Int) == o.1) = false := by simp; omega
      simp [h1, h5, a1, a5]
theorem j_rejected (w : Want) (l : List Opt) (hn : l.length ≤ 40) : run G 138 [.v (wv w), .v (.slc 2 (oes l))] [] = some (.tup [.v (wv (rjR w l)), .v (.bool (!(fdR l 3).2))], []) := by
  rw [xq_fn G rfl lcpo_Rejected.g _ _ rfl]
  have f3 := find59 l 3 hn
  have L := lpFor (G := G) (kill := [8, 9]) (body := lcpo_Rejected.l0) (fun i => [.v (wv w), .v (.slc 2 (oes l)), .ptr ⟨0, 0⟩ 0 0, .ptr ⟨0, 1⟩ 0 0, .v (.bool false), .v (.slc 2 (oes l)), .v (.int .i64 (l.length : Nat)), .v (.int .i64 i), .undef, .undef, .undef]) (fun i => [[.row [.v (wv (rjR w (l.take i)))], .row [.v (wv (0, 0, false))]]]) l.length
    (fun i hi => by
      have hx := oes_at (List.getElem?_eq_getElem hi)
      rw [take_succ hi, rj_step]
      have e3 : (rjR w (l.take i)).2.2 = w.2.2 := rfl
      generalize rjR w (l.take i) = r at *
      by_cases h1 : l[i].1 = 1
      · simp -implicitDefEqProofs (maxSteps := 2000000) (disch := omega) only [lcpo_Rejected.l0, wv, e3, oes_len, hx, go_sem, reduceIte, Nat.reduceAdd, Nat.reduceSub, Nat.reduceMul, Nat.reduceLeDiff, Nat.reduceLT, Nat.reduceEqDiff, Int.reduceToNat, Int.reduceLT, Int.reduceLE, Int.reduceEq, Int.reduceNe, Int.reduceAdd, Int.reduceSub, Int.reduceMul, Int.reduceNeg, Int.reduceBEq, Int.reduceBNe, reduceCtorEq, dreduceIte, oWS, oW8, oW16, oW32, oW64, oLtT, oLtF, oLeT, oLeF, oNLtT, oNLtF, oNLeT, oNLeF, oEqT, oEqF, oNEqT, oNEqF, oBeqT, oBeqF, oBneT, oBneF, Int.natCast_add, List.take_length]
      · by_cases h5 : l[i].1 = 5
        · simp -implicitDefEqProofs (maxSteps := 2000000) (disch := omega) only [lcpo_Rejected.l0, wv, e3, oes_len, hx, go_sem, reduceIte, Nat.reduceAdd, Nat.reduceSub, Nat.reduceMul, Nat.reduceLeDiff, Nat.reduceLT, Nat.reduceEqDiff, Int.reduceToNat, Int.reduceLT, Int.reduceLE, Int.reduceEq, Int.reduceNe, Int.reduceAdd, Int.reduceSub, Int.reduceMul, Int.reduceNeg, Int.reduceBEq, Int.reduceBNe, reduceCtorEq, dreduceIte, oWS, oW8, oW16, oW32, oW64, oLtT, oLtF, oLeT, oLeF, oNLtT, oNLtF, oNLeT, oNLeF, oEqT, oEqF, oNEqT, oNEqF, oBeqT, oBeqF, oBneT, oBneF, Int.natCast_add, List.take_length]
        · simp -implicitDefEqProofs (maxSteps := 2000000) (disch := omega) only [lcpo_Rejected.l0, wv, e3, oes_len, hx, go_sem, reduceIte, Nat.reduceAdd, Nat.reduceSub, Nat.reduceMul, Nat.reduceLeDiff, Nat.reduceLT, Nat.reduceEqDiff, Int.reduceToNat, Int.reduceLT, Int.reduceLE, Int.reduceEq, Int.reduceNe, Int.reduceAdd, Int.reduceSub, Int.reduceMul, Int.reduceNeg, Int.reduceBEq, Int.reduceBNe, reduceCtorEq, dreduceIte, oWS, oW8, oW16, oW32, oW64, oLtT, oLtF, oLeT, oLeF, oNLtT, oNLtF, oNLeT, oNLeF, oEqT, oEqF, oNEqT, oNEqF, oBeqT, oBeqF, oBneT, oBneF, Int.natCast_add, List.take_length]) (by simp -implicitDefEqProofs (maxSteps := 2000000) (disch := omega) only [lcpo_Rejected.l0, go_sem, reduceIte, Nat.reduceAdd, Nat.reduceSub, Nat.reduceMul, Nat.reduceLeDiff, Nat.reduceLT, Nat.reduceEqDiff, Int.reduceToNat, Int.reduceLT, Int.reduceLE, Int.reduceEq, Int.reduceNe, Int.reduceAdd, Int.reduceSub, Int.reduceMul, Int.reduceNeg, Int.reduceBEq, Int.reduceBNe, reduceCtorEq, dreduceIte, oWS, oW8, oW16, oW32, oW64, oLtT, oLtF, oLeT, oLeF, oNLtT, oNLtF, oNLeT, oNLeF, oEqT, oEqF, oNEqT, oNEqF, oBeqT, oBeqF, oBneT, oBneF, Int.natCast_add, List.take_length]; rfl)
  have r0 : rjR w [] = w := rfl
  simp only [r0, z0, Int.cast_ofNat_Int, List.take_zero, List.map_nil, List.drop_zero, accN, b8_nil, Int.sub_zero, Int.add_zero, Int.zero_add, Nat.zero_add, Nat.sub_zero, List.nil_append, List.append_nil] at L
  simp -implicitDefEqProofs (maxSteps := 2000000) (disch := omega) only [lcpo_Rejected.s, oes_len, L, f3, go_sem, reduceIte, Nat.reduceAdd, Nat.reduceSub, Nat.reduceMul, Nat.reduceLeDiff, Nat.reduceLT, Nat.reduceEqDiff, Int.reduceToNat, Int.reduceLT, Int.reduceLE, Int.reduceEq, Int.reduceNe, Int.reduceAdd, Int.reduceSub, Int.reduceMul, Int.reduceNeg, Int.reduceBEq, Int.reduceBNe, reduceCtorEq, dreduceIte, oWS, oW8, oW16, oW32, oW64, oLtT, oLtF, oLeT, oLeF, oNLtT, oNLtF, oNLeT, oNLeF, oEqT, oEqF, oNEqT, oNEqF, oBeqT, oBeqF, oBneT, oBneF, Int.natCast_add, List.take_length]
end Go.Q
