/- The law WordsLines, in the machine. No condition. -/
import Derived.Test.YtaakegacmjnmoaaDoorHf
set_option linter.all false
set_option maxRecDepth 100000
namespace Go.Q
open SOp SCode
attribute [local congr] bind_c map_c
theorem flt_app (a b : List (List UInt8)) : flt (a ++ b) = flt a ++ flt b := by
  induction a with
  | nil => rfl
  | cons x a ih => simp [flt, ih]
theorem flt_len_le (l : List (List UInt8)) : l.length ≤ (flt l).length := by
  induction l with
  | nil => exact Nat.le_refl _
  | cons x l ih => simp only [flt, List.length_append, List.length_cons]; omega
theorem flt_take_le (l : List (List UInt8)) (i : Nat) : (flt (l.take i)).length ≤ (flt l).length := by
  conv => rhs; rw [← List.take_append_drop i l, flt_app]
  rw [List.length_append]; omega
theorem item_le (l : List (List UInt8)) (i : Nat) (h : i < l.length) : (l[i]).length ≤ (flt l).length := by
  conv => rhs; rw [← List.take_append_drop i l, flt_app, List.drop_eq_getElem_cons h]
  simp [flt]; omega
abbrev wlE (b : List UInt8) (x2 x6 : D) (n : Int) (ls : List (List UInt8)) (i : Nat) (x9 : D) : List D := [.v (.slc 1 (u8L b)), .v (.bool false), x2, .v (.int .i64 n), .v (.int .i64 0), .v (.str (flt (ls.take i))), x6, .v (.int .i64 (ls.length : Nat)), .v (.int .i64 (i : Nat)), x9]
theorem wl_step (b : List UInt8) (ls : List (List UInt8)) (g : goodL ls) (hb : (flt ls).length ≤ 100000) (n : Int) (i : Nat) (hi : i < ls.length) : rndE G [9] euphroelaw14_WordsLines.l0 (wlE b (.v (.slc 1 (sL ls))) (.v (.slc 1 (sL ls))) n ls i .undef) [[]] = some (.inl (wlE b (.v (.slc 1 (sL ls))) (.v (.slc 1 (sL ls))) n ls (i + 1) .undef, [[]])) := by
  have hx := sL_at hi
  have hl := sL_len ls
  have hne : (ls[i] == ([] : List UInt8)) = false := by
    have := (g ls[i] (List.getElem_mem hi)).1
    simpa using this
  have e1 : flt (ls.take (i + 1)) = flt (ls.take i) ++ (ls[i] ++ [13, 10]) := by
    rw [take_succ hi, flt_app]
    simp [flt]
  have h1 := flt_take_le ls i
  have h2 := item_le ls i hi
  have h5 := flt_len_le ls
  have h3 : (ls[i] ++ [13, 10]).length = ls[i].length + 2 := by simp
  have h4 : ([13, 10] : List UInt8).length = 2 := rfl
  simp only [wlE]
  rw [e1]
  generalize ls[i] = x at *
  generalize flt (ls.take i) = y at *
  simp -implicitDefEqProofs (maxSteps := 2000000) (disch := omega) only [euphroelaw14_WordsLines.l0, hx, hl, hne, h3, h4, go_sem, reduceIte, Nat.reduceAdd, Nat.reduceSub, Nat.reduceMul, Nat.reduceLeDiff, Nat.reduceLT, Nat.reduceEqDiff, Int.reduceToNat, Int.reduceLT, Int.reduceLE, Int.reduceEq, Int.reduceNe, Int.reduceAdd, Int.reduceSub, Int.reduceMul, Int.reduceNeg, Int.reduceBEq, Int.reduceBNe, reduceCtorEq, dreduceIte, oWS, oW8, oW16, oW32, oW64, oLtT, oLtF, oLeT, oLeF, oNLtT, oNLtF, oNLeT, oNLeF, oEqT, oEqF, oNEqT, oNEqF, oBeqT, oBeqF, oBneT, oBneF, Int.natCast_add, List.take_length]
theorem wordsLines (b : List UInt8) : run G 8 [.v (.slc 1 (u8L b))] [] = some (.v (.bool true), []) := by
  have A := w_alive
  have hub := u8L_len b
  rw [xq_fn G rfl euphroelaw14_WordsLines.g _ _ rfl]
  by_cases h : 4000 < b.length
  · simp -implicitDefEqProofs (maxSteps := 2000000) (disch := omega) only [euphroelaw14_WordsLines.s, A, hub, go_sem, reduceIte, Nat.reduceAdd, Nat.reduceSub, Nat.reduceMul, Nat.reduceLeDiff, Nat.reduceLT, Nat.reduceEqDiff, Int.reduceToNat, Int.reduceLT, Int.reduceLE, Int.reduceEq, Int.reduceNe, Int.reduceAdd, Int.reduceSub, Int.reduceMul, Int.reduceNeg, Int.reduceBEq, Int.reduceBNe, reduceCtorEq, dreduceIte, oWS, oW8, oW16, oW32, oW64, oLtT, oLtF, oLeT, oLeF, oNLtT, oNLtF, oNLeT, oNLeF, oEqT, oEqF, oNEqT, oNEqF, oBeqT, oBeqF, oBneT, oBneF, Int.natCast_add, List.take_length]
  have I1 := w_Head b (by omega)
  rw [progR_eq] at I1
  rcases hdR_cases b with ⟨ls, n, rest, hr, g, hn, h1, h2, e⟩ | ⟨e, hr, he⟩
  · rw [hr] at I1
    have e5 : bytesOf (List.take n (u8L b)) = some (flt ls ++ [13, 10]) := by
      rw [u8L_take, bytesOf_u8L, hn, e]
      have : (flt ls ++ 13 :: 10 :: rest).take ((flt ls).length + 2) = flt ls ++ [13, 10] := by
        rw [List.take_append]
        simp [List.take_of_length_le]
      rw [this]
    have e6 : (flt ls ++ [13, 10]).length = n := by rw [hn]; simp
    have e7 : ([13, 10] : List UInt8).length = 2 := rfl
    cases ls with
    | nil =>
      have e1 : clW (sL []) = .lin 1 [] := rfl
      have hn2 : n = 2 := by rw [hn]; rfl
      subst hn2
      have e5 : bytesOf (List.take 2 (u8L b)) = some [13, 10] := e5
      have L : ex G (.loop [9] euphroelaw14_WordsLines.l0) [.v (.slc 1 (u8L b)), .v (.bool false), .lin 1 [], .v (.int .i64 2), .v (.int .i64 0), .v (.str []), .v (.slc 1 []), .v (.int .i64 0), .v (.int .i64 0), .undef] [[]] = some (.exit 0, [.v (.slc 1 (u8L b)), .v (.bool false), .lin 1 [], .v (.int .i64 2), .v (.int .i64 0), .v (.str []), .v (.slc 1 []), .v (.int .i64 0), .v (.int .i64 0), .undef], [[]]) := rnd_end (by simp -implicitDefEqProofs (maxSteps := 2000000) (disch := omega) only [euphroelaw14_WordsLines.l0, go_sem, reduceIte, Nat.reduceAdd, Nat.reduceSub, Nat.reduceMul, Nat.reduceLeDiff, Nat.reduceLT, Nat.reduceEqDiff, Int.reduceToNat, Int.reduceLT, Int.reduceLE, Int.reduceEq, Int.reduceNe, Int.reduceAdd, Int.reduceSub, Int.reduceMul, Int.reduceNeg, Int.reduceBEq, Int.reduceBNe, reduceCtorEq, dreduceIte, oWS, oW8, oW16, oW32, oW64, oLtT, oLtF, oLeT, oLeF, oNLtT, oNLtF, oNLeT, oNLeF, oEqT, oEqF, oNEqT, oNEqF, oBeqT, oBeqF, oBneT, oBneF, Int.natCast_add, List.take_length])
      have bq : (([13, 10] : List UInt8) == [13, 10]) = true := rfl
      simp only [hdO, e1] at I1
      simp -implicitDefEqProofs (maxSteps := 2000000) (disch := omega) only [euphroelaw14_WordsLines.s, A, hub, I1, L, e5, e7, bq, List.length_nil, List.nil_append, go_sem, reduceIte, Nat.reduceAdd, Nat.reduceSub, Nat.reduceMul, Nat.reduceLeDiff, Nat.reduceLT, Nat.reduceEqDiff, Int.reduceToNat, Int.reduceLT, Int.reduceLE, Int.reduceEq, Int.reduceNe, Int.reduceAdd, Int.reduceSub, Int.reduceMul, Int.reduceNeg, Int.reduceBEq, Int.reduceBNe, reduceCtorEq, dreduceIte, oWS, oW8, oW16, oW32, oW64, oLtT, oLtF, oLeT, oLeF, oNLtT, oNLtF, oNLeT, oNLeF, oEqT, oEqF, oNEqT, oNEqF, oBeqT, oBeqF, oBneT, oBneF, Int.natCast_add, List.take_length]
    | cons a as =>
      have e1 : clW (sL (a :: as)) = .v (.slc 1 (sL (a :: as))) := rfl
      have e2 : (sL (a :: as)).length = (a :: as).length := sL_len _
      simp only [hdO, e1] at I1
      generalize hq : (a :: as) = ls at *
      have L := lpFor (G := G) (kill := [9]) (body := euphroelaw14_WordsLines.l0) (fun i => wlE b (.v (.slc 1 (sL ls))) (.v (.slc 1 (sL ls))) n ls i .undef) (fun i => [[]]) ls.length (fun i hi => wl_step b ls g (by omega) n i hi) (by simp -implicitDefEqProofs (maxSteps := 2000000) (disch := omega) only [euphroelaw14_WordsLines.l0, wlE, go_sem, reduceIte, Nat.reduceAdd, Nat.reduceSub, Nat.reduceMul, Nat.reduceLeDiff, Nat.reduceLT, Nat.reduceEqDiff, Int.reduceToNat, Int.reduceLT, Int.reduceLE, Int.reduceEq, Int.reduceNe, Int.reduceAdd, Int.reduceSub, Int.reduceMul, Int.reduceNeg, Int.reduceBEq, Int.reduceBNe, reduceCtorEq, dreduceIte, oWS, oW8, oW16, oW32, oW64, oLtT, oLtF, oLeT, oLeF, oNLtT, oNLtF, oNLeT, oNLeF, oEqT, oEqF, oNEqT, oNEqF, oBeqT, oBeqF, oBneT, oBneF, Int.natCast_add, List.take_length]; rfl)
      have t0 : flt (ls.take 0) = [] := rfl
      simp only [wlE, t0] at L
      have bq : (flt ls ++ [13, 10] == flt ls ++ [13, 10]) = true := beq_self_eq_true _
      have hfl : (flt ls).length ≤ 100000 := by omega
      simp only [z0, Int.cast_ofNat_Int, List.take_zero, List.map_nil, List.drop_zero, accN, b8_nil, Int.sub_zero, Int.add_zero, Int.zero_add, Nat.zero_add, Nat.sub_zero, List.nil_append, List.append_nil] at L
      simp -implicitDefEqProofs (maxSteps := 2000000) (disch := omega) only [euphroelaw14_WordsLines.s, A, hub, I1, L, e2, e5, e6, e7, bq, go_sem, reduceIte, Nat.reduceAdd, Nat.reduceSub, Nat.reduceMul, Nat.reduceLeDiff, Nat.reduceLT, Nat.reduceEqDiff, Int.reduceToNat, Int.reduceLT, Int.reduceLE, Int.reduceEq, Int.reduceNe, Int.reduceAdd, Int.reduceSub, Int.reduceMul, Int.reduceNeg, Int.reduceBEq, Int.reduceBNe, reduceCtorEq, dreduceIte, oWS, oW8, oW16, oW32, oW64, oLtT, oLtF, oLeT, oLeF, oNLtT, oNLtF, oNLeT, oNLeF, oEqT, oEqF, oNEqT, oNEqF, oBeqT, oBeqF, oBneT, oBneF, Int.natCast_add, List.take_length]
  · rw [hr] at I1
    have e1 : clW (sL []) = .lin 1 [] := rfl
    simp only [hdO, e1] at I1
    have hne : ¬ e = 0 := by omega
    simp -implicitDefEqProofs (maxSteps := 2000000) (disch := omega) only [euphroelaw14_WordsLines.s, A, hub, I1, hne, List.length_nil, go_sem, reduceIte, Nat.reduceAdd, Nat.reduceSub, Nat.reduceMul, Nat.reduceLeDiff, Nat.reduceLT, Nat.reduceEqDiff, Int.reduceToNat, Int.reduceLT, Int.reduceLE, Int.reduceEq, Int.reduceNe, Int.reduceAdd, Int.reduceSub, Int.reduceMul, Int.reduceNeg, Int.reduceBEq, Int.reduceBNe, reduceCtorEq, dreduceIte, oWS, oW8, oW16, oW32, oW64, oLtT, oLtF, oLeT, oLeF, oNLtT, oNLtF, oNLeT, oNLeF, oEqT, oEqF, oNEqT, oNEqF, oBeqT, oBeqF, oBneT, oBneF, Int.natCast_add, List.take_length]
end Go.Q
