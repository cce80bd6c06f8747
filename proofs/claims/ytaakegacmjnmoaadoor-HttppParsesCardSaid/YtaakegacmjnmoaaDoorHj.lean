/- Responses: what httpp computes; the law HttppParses, in the machine. No condition. -/
import Derived.Test.YtaakegacmjnmoaaDoorHi
set_option linter.all false
set_option maxRecDepth 100000
namespace Go.Q
open SOp SCode
attribute [local congr] bind_c map_c
theorem fl_len (l : List (List UInt8)) : l.length ≤ (flt l).length := by
  induction l with
  | nil => exact Nat.le_refl _
  | cons x l ih => simp only [flt, List.length_append, List.length_cons]; omega
theorem fl_item : ∀ (l : List (List UInt8)) (x : List UInt8), x ∈ l → x.length ≤ (flt l).length
  | [], x, h => by cases h
  | y :: l, x, h => by
    simp only [flt, List.length_append, List.length_cons]
    rcases List.mem_cons.1 h with rfl | h
    · omega
    · have := fl_item l x h; omega
theorem fldR_len : ∀ (ls : List (List UInt8)) (l : List Fld), fldR ls = some l → (∀ x ∈ ls, x.length ≤ 100000) → ∀ p ∈ l, p.1.length ≤ 100000
  | [], l, h, _, p, hp => by cases h; cases hp
  | s :: r, l, h, hs, p, hp => by
    simp only [fldR] at h
    cases hc : cut1 58 s with
    | none => rw [hc] at h; cases h
    | some q =>
      obtain ⟨n, v⟩ := q
      rw [hc] at h
      simp only at h
      cases ht : tokS n with
      | false => rw [ht] at h; simp at h
      | true =>
        rw [ht, if_pos rfl] at h
        cases h2 : fldR r with
        | none => rw [h2] at h; cases h
        | some l2 =>
          rw [h2] at h
          cases h
          rcases List.mem_cons.1 hp with rfl | hp
          · have := (cut1_at hc).1
            have := hs s (by simp)
            show n.length ≤ 100000
            omega
          · exact fldR_len r l2 h2 (fun x hx => hs x (by simp [hx])) p hp
theorem fieldsR_len (ls : List (List UInt8)) (hs : ∀ x ∈ ls, x.length ≤ 100000) : (fieldsR ls).1.length ≤ 32 ∧ ∀ p ∈ (fieldsR ls).1, p.1.length ≤ 100000 := by
  unfold fieldsR
  split
  · exact ⟨Nat.zero_le _, by simp⟩
  · cases h : fldR ls with
    | none => exact ⟨Nat.zero_le _, by simp⟩
    | some l =>
      refine ⟨?_, fldR_len ls l h hs⟩
      have key : ∀ (ls : List (List UInt8)) (l : List Fld), fldR ls = some l → l.length = ls.length := by
        intro ls
        induction ls with
        | nil => intro l h; cases h; rfl
        | cons s r ih =>
          intro l h
          simp only [fldR] at h
          split at h
          · cases h
          · split at h
            · cases h2 : fldR r with
              | none => rw [h2] at h; cases h
              | some l2 => rw [h2] at h; cases h; simp [ih l2 h2]
            · cases h
      have := key ls l h
      show l.length ≤ 32
      omega
def mayR (n : Int) : Bool := decide (100 ≤ n ∧ n ≤ 599)
theorem p_may (n : Int) : run G 102 [.v (.int .i64 n)] [] = some (.v (.bool (mayR n)), []) := by
  rw [xq_fn G rfl httpp_may.g _ _ rfl]
  unfold mayR
  by_cases h1 : 100 ≤ n
  · by_cases h2 : n ≤ 599
    · rw [decide_eq_true ⟨h1, h2⟩]; simp -implicitDefEqProofs (maxSteps := 2000000) (disch := omega) only [httpp_may.s, go_sem, reduceIte, Nat.reduceAdd, Nat.reduceSub, Nat.reduceMul, Nat.reduceLeDiff, Nat.reduceLT, Nat.reduceEqDiff, Int.reduceToNat, Int.reduceLT, Int.reduceLE, Int.reduceEq, Int.reduceNe, Int.reduceAdd, Int.reduceSub, Int.reduceMul, Int.reduceNeg, Int.reduceBEq, Int.reduceBNe, reduceCtorEq, dreduceIte, oWS, oW8, oW16, oW32, oW64, oLtT, oLtF, oLeT, oLeF, oNLtT, oNLtF, oNLeT, oNLeF, oEqT, oEqF, oNEqT, oNEqF, oBeqT, oBeqF, oBneT, oBneF, Int.natCast_add, List.take_length]
    · rw [decide_eq_false (fun h => h2 h.2)]; simp -implicitDefEqProofs (maxSteps := 2000000) (disch := omega) only [httpp_may.s, go_sem, reduceIte, Nat.reduceAdd, Nat.reduceSub, Nat.reduceMul, Nat.reduceLeDiff, Nat.reduceLT, Nat.reduceEqDiff, Int.reduceToNat, Int.reduceLT, Int.reduceLE, Int.reduceEq, Int.reduceNe, Int.reduceAdd, Int.reduceSub, Int.reduceMul, Int.reduceNeg, Int.reduceBEq, Int.reduceBNe, reduceCtorEq, dreduceIte, oWS, oW8, oW16, oW32, oW64, oLtT, oLtF, oLeT, oLeF, oNLtT, oNLtF, oNLeT, oNLeF, oEqT, oEqF, oNEqT, oNEqF, oBeqT, oBeqF, oBneT, oBneF, Int.natCast_add, List.take_length]
  · rw [decide_eq_false (fun h => h1 h.1)]; simp -implicitDefEqProofs (maxSteps := 2000000) (disch := omega) only [httpp_may.s, go_sem, reduceIte, Nat.reduceAdd, Nat.reduceSub, Nat.reduceMul, Nat.reduceLeDiff, Nat.reduceLT, Nat.reduceEqDiff, Int.reduceToNat, Int.reduceLT, Int.reduceLE, Int.reduceEq, Int.reduceNe, Int.reduceAdd, Int.reduceSub, Int.reduceMul, Int.reduceNeg, Int.reduceBEq, Int.reduceBNe, reduceCtorEq, dreduceIte, oWS, oW8, oW16, oW32, oW64, oLtT, oLtF, oLeT, oLeF, oNLtT, oNLtF, oNLeT, oNLeF, oEqT, oEqF, oNEqT, oNEqF, oBeqT, oBeqF, oBneT, oBneF, Int.natCast_add, List.take_length]
theorem q_may (n : Int) : run G 69 [.v (.int .i64 n)] [] = some (.v (.bool (mayR n)), []) := by
  rw [xq_fn G rfl euphroeref16_may.g _ _ rfl]
  unfold mayR
  by_cases h1 : 100 ≤ n
  · by_cases h2 : n ≤ 599
    · rw [decide_eq_true ⟨h1, h2⟩]; simp -implicitDefEqProofs (maxSteps := 2000000) (disch := omega) only [euphroeref16_may.s, go_sem, reduceIte, Nat.reduceAdd, Nat.reduceSub, Nat.reduceMul, Nat.reduceLeDiff, Nat.reduceLT, Nat.reduceEqDiff, Int.reduceToNat, Int.reduceLT, Int.reduceLE, Int.reduceEq, Int.reduceNe, Int.reduceAdd, Int.reduceSub, Int.reduceMul, Int.reduceNeg, Int.reduceBEq, Int.reduceBNe, reduceCtorEq, dreduceIte, oWS, oW8, oW16, oW32, oW64, oLtT, oLtF, oLeT, oLeF, oNLtT, oNLtF, oNLeT, oNLeF, oEqT, oEqF, oNEqT, oNEqF, oBeqT, oBeqF, oBneT, oBneF, Int.natCast_add, List.take_length]
    · rw [decide_eq_false (fun h => h2 h.2)]; simp -implicitDefEqProofs (maxSteps := 2000000) (disch := omega) only [euphroeref16_may.s, go_sem, reduceIte, Nat.reduceAdd, Nat.reduceSub, Nat.reduceMul, Nat.reduceLeDiff, Nat.reduceLT, Nat.reduceEqDiff, Int.reduceToNat, Int.reduceLT, Int.reduceLE, Int.reduceEq, Int.reduceNe, Int.reduceAdd, Int.reduceSub, Int.reduceMul, Int.reduceNeg, Int.reduceBEq, Int.reduceBNe, reduceCtorEq, dreduceIte, oWS, oW8, oW16, oW32, oW64, oLtT, oLtF, oLeT, oLeF, oNLtT, oNLtF, oNLeT, oNLeF, oEqT, oEqF, oNEqT, oNEqF, oBeqT, oBeqF, oBneT, oBneF, Int.natCast_add, List.take_length]
  · rw [decide_eq_false (fun h => h1 h.1)]; simp -implicitDefEqProofs (maxSteps := 2000000) (disch := omega) only [euphroeref16_may.s, go_sem, reduceIte, Nat.reduceAdd, Nat.reduceSub, Nat.reduceMul, Nat.reduceLeDiff, Nat.reduceLT, Nat.reduceEqDiff, Int.reduceToNat, Int.reduceLT, Int.reduceLE, Int.reduceEq, Int.reduceNe, Int.reduceAdd, Int.reduceSub, Int.reduceMul, Int.reduceNeg, Int.reduceBEq, Int.reduceBNe, reduceCtorEq, dreduceIte, oWS, oW8, oW16, oW32, oW64, oLtT, oLtF, oLeT, oLeF, oNLtT, oNLtF, oNLeT, oNLeF, oEqT, oEqF, oNEqT, oNEqF, oBeqT, oBeqF, oBneT, oBneF, Int.natCast_add, List.take_length]
abbrev endL : List UInt8 := [49, 56, 52, 52, 54, 55, 52, 52, 48, 55, 51, 55, 48, 57, 53, 53, 49, 54, 49, 53]
def longR (n : Int) : List UInt8 := if n = 200 then endL else [48]
theorem p_Fine (n : Int) : run G 65 [.v (.int .i64 n)] [] = some (.v (.bool (decide (n = 200))), []) := by
  rw [xq_fn G rfl httpp_Fine.g _ _ rfl]
  by_cases h : n = 200
  · rw [decide_eq_true h]; simp -implicitDefEqProofs (maxSteps := 2000000) (disch := omega) only [httpp_Fine.s, go_sem, reduceIte, Nat.reduceAdd, Nat.reduceSub, Nat.reduceMul, Nat.reduceLeDiff, Nat.reduceLT, Nat.reduceEqDiff, Int.reduceToNat, Int.reduceLT, Int.reduceLE, Int.reduceEq, Int.reduceNe, Int.reduceAdd, Int.reduceSub, Int.reduceMul, Int.reduceNeg, Int.reduceBEq, Int.reduceBNe, reduceCtorEq, dreduceIte, oWS, oW8, oW16, oW32, oW64, oLtT, oLtF, oLeT, oLeF, oNLtT, oNLtF, oNLeT, oNLeF, oEqT, oEqF, oNEqT, oNEqF, oBeqT, oBeqF, oBneT, oBneF, Int.natCast_add, List.take_length]
  · rw [decide_eq_false h]; simp -implicitDefEqProofs (maxSteps := 2000000) (disch := omega) only [httpp_Fine.s, go_sem, reduceIte, Nat.reduceAdd, Nat.reduceSub, Nat.reduceMul, Nat.reduceLeDiff, Nat.reduceLT, Nat.reduceEqDiff, Int.reduceToNat, Int.reduceLT, Int.reduceLE, Int.reduceEq, Int.reduceNe, Int.reduceAdd, Int.reduceSub, Int.reduceMul, Int.reduceNeg, Int.reduceBEq, Int.reduceBNe, reduceCtorEq, dreduceIte, oWS, oW8, oW16, oW32, oW64, oLtT, oLtF, oLeT, oLeF, oNLtT, oNLtF, oNLeT, oNLeF, oEqT, oEqF, oNEqT, oNEqF, oBeqT, oBeqF, oBneT, oBneF, Int.natCast_add, List.take_length]
theorem p_long (n : Int) : run G 68 [.v (.int .i64 n)] [] = some (.v (.str (longR n)), []) := by
  have I := p_Fine n
  unfold longR
  rw [xq_fn G rfl httpp_long.g _ _ rfl]
  by_cases h : n = 200
  · rw [decide_eq_true h] at I
    rw [if_pos h]
    simp -implicitDefEqProofs (maxSteps := 2000000) (disch := omega) only [httpp_long.s, I, go_sem, reduceIte, Nat.reduceAdd, Nat.reduceSub, Nat.reduceMul, Nat.reduceLeDiff, Nat.reduceLT, Nat.reduceEqDiff, Int.reduceToNat, Int.reduceLT, Int.reduceLE, Int.reduceEq, Int.reduceNe, Int.reduceAdd, Int.reduceSub, Int.reduceMul, Int.reduceNeg, Int.reduceBEq, Int.reduceBNe, reduceCtorEq, dreduceIte, oWS, oW8, oW16, oW32, oW64, oLtT, oLtF, oLeT, oLeF, oNLtT, oNLtF, oNLeT, oNLeF, oEqT, oEqF, oNEqT, oNEqF, oBeqT, oBeqF, oBneT, oBneF, Int.natCast_add, List.take_length]
  · rw [decide_eq_false h] at I
    rw [if_neg h]
    have hq : (([] : List UInt8) == []) = true := rfl
    simp -implicitDefEqProofs (maxSteps := 2000000) (disch := omega) only [httpp_long.s, I, hq, go_sem, reduceIte, Nat.reduceAdd, Nat.reduceSub, Nat.reduceMul, Nat.reduceLeDiff, Nat.reduceLT, Nat.reduceEqDiff, Int.reduceToNat, Int.reduceLT, Int.reduceLE, Int.reduceEq, Int.reduceNe, Int.reduceAdd, Int.reduceSub, Int.reduceMul, Int.reduceNeg, Int.reduceBEq, Int.reduceBNe, reduceCtorEq, dreduceIte, oWS, oW8, oW16, oW32, oW64, oLtT, oLtF, oLeT, oLeF, oNLtT, oNLtF, oNLeT, oNLeF, oEqT, oEqF, oNEqT, oNEqF, oBeqT, oBeqF, oBneT, oBneF, Int.natCast_add, List.take_length]
theorem q_long (n : Int) : run G 72 [.v (.int .i64 n)] [] = some (.v (.str (longR n)), []) := by
  unfold longR
  rw [xq_fn G rfl euphroeref16_length.g _ _ rfl]
  by_cases h : n = 200
  · rw [if_pos h]
    simp -implicitDefEqProofs (maxSteps := 2000000) (disch := omega) only [euphroeref16_length.s, go_sem, reduceIte, Nat.reduceAdd, Nat.reduceSub, Nat.reduceMul, Nat.reduceLeDiff, Nat.reduceLT, Nat.reduceEqDiff, Int.reduceToNat, Int.reduceLT, Int.reduceLE, Int.reduceEq, Int.reduceNe, Int.reduceAdd, Int.reduceSub, Int.reduceMul, Int.reduceNeg, Int.reduceBEq, Int.reduceBNe, reduceCtorEq, dreduceIte, oWS, oW8, oW16, oW32, oW64, oLtT, oLtF, oLeT, oLeF, oNLtT, oNLtF, oNLeT, oNLeF, oEqT, oEqF, oNEqT, oNEqF, oBeqT, oBeqF, oBneT, oBneF, Int.natCast_add, List.take_length]
  · rw [if_neg h]
    simp -implicitDefEqProofs (maxSteps := 2000000) (disch := omega) only [euphroeref16_length.s, go_sem, reduceIte, Nat.reduceAdd, Nat.reduceSub, Nat.reduceMul, Nat.reduceLeDiff, Nat.reduceLT, Nat.reduceEqDiff, Int.reduceToNat, Int.reduceLT, Int.reduceLE, Int.reduceEq, Int.reduceNe, Int.reduceAdd, Int.reduceSub, Int.reduceMul, Int.reduceNeg, Int.reduceBEq, Int.reduceBNe, reduceCtorEq, dreduceIte, oWS, oW8, oW16, oW32, oW64, oLtT, oLtF, oLeT, oLeF, oNLtT, oNLtF, oNLeT, oNLeF, oEqT, oEqF, oNEqT, oNEqF, oBeqT, oBeqF, oBneT, oBneF, Int.natCast_add, List.take_length]
abbrev verL : List UInt8 := [72, 84, 84, 80, 47, 49, 46, 49]
def digR (r : List UInt8) : List UInt8 := match cut1 32 r with
  | none => r
  | some p => p.1
def stR (d : List UInt8) : Option Nat := if d.length = 3 ∧ d.all digB = true ∧ mayR (numV d) = true then some (numV d) else none
def lineR (s : List UInt8) : Int × Int := match cut1 32 s with
  | none => (0, 3)
  | some (a, r) => if a = verL then (match stR (digR r) with
    | none => (0, 3)
    | some n => (n, 0)) else (0, 15)
theorem numV3 (x y z : UInt8) (h : ([x, y, z] : List UInt8).all digB = true) : (48 ≤ x.toNat ∧ x.toNat ≤ 57) ∧ (48 ≤ y.toNat ∧ y.toNat ≤ 57) ∧ (48 ≤ z.toNat ∧ z.toNat ≤ 57) ∧ numV [x, y, z] = 100 * (x.toNat - 48) + 10 * (y.toNat - 48) + (z.toNat - 48) := by
  simp only [List.all_cons, List.all_nil, Bool.and_eq_true, decide_eq_true_eq, Bool.and_true] at h
  obtain ⟨h1, h2, h3⟩ := h
  refine ⟨h1, h2, h3, ?_⟩
  simp only [numV, digV]
  rw [if_pos h1, if_pos h2, if_pos h3]
  show (((0 * 10 + (x.toNat - 48)) * 10 + (y.toNat - 48)) * 10 + (z.toNat - 48)) = _
  omega
theorem stR_num (d : List UInt8) (h : d.length = 3) : (stR d = none ∧ ((numR d).2 ≠ 0 ∨ mayR (numR d).1 = false) ∧ 0 ≤ (numR d).1 ∧ (numR d).1 ≤ 999) ∨ (∃ n : Nat, stR d = some n ∧ numR d = ((n : Int), 0) ∧ mayR n = true) := by
  obtain ⟨x, y, z, rfl⟩ : ∃ x y z, d = [x, y, z] := by
    match d, h with
    | [x, y, z], _ => exact ⟨x, y, z, rfl⟩
  have hb : badN [x, y, z] = decide (x = 48) := by simp [badN]
  cases ha : ([x, y, z] : List UInt8).all digB with
  | false =>
    left
    refine ⟨by unfold stR; rw [if_neg (fun h => by rw [ha] at h; exact absurd h.2.1 (by simp))], ?_⟩
    unfold numR
    split
    · simp
    · rw [ha]; simp
  | true =>
    obtain ⟨h1, h2, h3, h4⟩ := numV3 x y z ha
    by_cases hx : x = 48
    · left
      have hm : mayR (numV [x, y, z]) = false := by
        unfold mayR
        have : x.toNat = 48 := by rw [hx]; rfl
        exact decide_eq_false (by rw [h4]; omega)
      refine ⟨by unfold stR; rw [if_neg (fun h => by rw [hm] at h; exact absurd h.2.2 (by simp))], ?_⟩
      unfold numR
      rw [hb, decide_eq_true hx, if_pos rfl]
      simp
    · have e : numR [x, y, z] = ((numV [x, y, z] : Int), 0) := by
        unfold numR
        rw [hb, decide_eq_false hx, if_neg (by simp), ha, if_pos rfl, if_pos (by rw [h4]; omega)]
      cases hm : mayR (numV [x, y, z]) with
      | false =>
        left
        refine ⟨by unfold stR; rw [if_neg (fun h => by rw [hm] at h; exact absurd h.2.2 (by simp))], .inr ?_, ?_⟩
        · rw [e]; exact hm
        · rw [e, h4]; simp only; omega
      | true =>
        right
        exact ⟨numV [x, y, z], by unfold stR; rw [if_pos ⟨rfl, ha, hm⟩], e, hm⟩
theorem digR_le (r : List UInt8) : (digR r).length ≤ r.length := by
  unfold digR
  cases h : cut1 32 r with
  | none => exact Nat.le_refl _
  | some p =>
    obtain ⟨a, b⟩ := p
    have := (cut1_at h).1
    show a.length ≤ r.length
    omega
theorem p_line (s : List UInt8) (h : s.length ≤ 100000) : run G 67 [.v (.str s)] [] = some (.tup [.v (.int .i64 (lineR s).1), .v (.int .i64 (lineR s).2)], []) := by
  have I1 := p_cut 32 s h
  unfold lineR
  rw [xq_fn G rfl httpp_line.g _ _ rfl]
  cases hc : cut1 32 s with
  | none =>
    simp only [cutO, hc] at I1
    simp -implicitDefEqProofs (maxSteps := 2000000) (disch := omega) only [httpp_line.s, I1, go_sem, reduceIte, Nat.reduceAdd, Nat.reduceSub, Nat.reduceMul, Nat.reduceLeDiff, Nat.reduceLT, Nat.reduceEqDiff, Int.reduceToNat, Int.reduceLT, Int.reduceLE, Int.reduceEq, Int.reduceNe, Int.reduceAdd, Int.reduceSub, Int.reduceMul, Int.reduceNeg, Int.reduceBEq, Int.reduceBNe, reduceCtorEq, dreduceIte, oWS, oW8, oW16, oW32, oW64, oLtT, oLtF, oLeT, oLeF, oNLtT, oNLtF, oNLeT, oNLeF, oEqT, oEqF, oNEqT, oNEqF, oBeqT, oBeqF, oBneT, oBneF, Int.natCast_add, List.take_length]
  | some p =>
    obtain ⟨a, r⟩ := p
    simp only [cutO, hc] at I1
    have hal := (cut1_some hc).1
    have hrl : r.length ≤ 100000 := by
      have := congrArg List.length hal
      simp at this; omega
    by_cases ha : a = verL
    · simp only
      rw [if_pos ha]
      have hq : (a == [72, 84, 84, 80, 47, 49, 46, 49]) = true := by rw [ha]; rfl
      have I2 := p_cut 32 r hrl
      have I2 : ∃ u v, run G 81 [.v (.str r), .v (.str [32])] [] = some (.tup [.v (.str (digR r)), .v (.str u), .v (.bool v)], []) := by
        rw [I2]
        unfold cutO digR
        cases cut1 32 r with
        | none => exact ⟨_, _, rfl⟩
        | some p => exact ⟨_, _, rfl⟩
      obtain ⟨u, v, I2⟩ := I2
      have hdl := digR_le r
      have I3 := w_Number (digR r) (by omega)
      by_cases h3 : (digR r).length = 3
      · rcases stR_num _ h3 with ⟨e, k, k2, k3⟩ | ⟨n, e, k, hm⟩
        · rw [e]
          by_cases hz : (numR (digR r)).2 = 0
          · have hmf : mayR (numR (digR r)).1 = false := by
              rcases k with k | k
              · exact absurd hz k
              · exact k
            have I4 := p_may (numR (digR r)).1
            rw [hmf] at I4
            rw [hz] at I3
            generalize (numR (digR r)).1 = q at *
            generalize digR r = d at *
            simp -implicitDefEqProofs (maxSteps := 2000000) (disch := omega) only [httpp_line.s, I1, hq, I2, I3, I4, h3, go_sem, reduceIte, Nat.reduceAdd, Nat.reduceSub, Nat.reduceMul, Nat.reduceLeDiff, Nat.reduceLT, Nat.reduceEqDiff, Int.reduceToNat, Int.reduceLT, Int.reduceLE, Int.reduceEq, Int.reduceNe, Int.reduceAdd, Int.reduceSub, Int.reduceMul, Int.reduceNeg, Int.reduceBEq, Int.reduceBNe, reduceCtorEq, dreduceIte, oWS, oW8, oW16, oW32, oW64, oLtT, oLtF, oLeT, oLeF, oNLtT, oNLtF, oNLeT, oNLeF, oEqT, oEqF, oNEqT, oNEqF, oBeqT, oBeqF, oBneT, oBneF, Int.natCast_add, List.take_length]
          · generalize digR r = d at *
            simp -implicitDefEqProofs (maxSteps := 2000000) (disch := omega) only [httpp_line.s, I1, hq, I2, I3, hz, h3, go_sem, reduceIte, Nat.reduceAdd, Nat.reduceSub, Nat.reduceMul, Nat.reduceLeDiff, Nat.reduceLT, Nat.reduceEqDiff, Int.reduceToNat, Int.reduceLT, Int.reduceLE, Int.reduceEq, Int.reduceNe, Int.reduceAdd, Int.reduceSub, Int.reduceMul, Int.reduceNeg, Int.reduceBEq, Int.reduceBNe, reduceCtorEq, dreduceIte, oWS, oW8, oW16, oW32, oW64, oLtT, oLtF, oLeT, oLeF, oNLtT, oNLtF, oNLeT, oNLeF, oEqT, oEqF, oNEqT, oNEqF, oBeqT, oBeqF, oBneT, oBneF, Int.natCast_add, List.take_length]
        · rw [e]
          rw [k] at I3
          have I4 := p_may n
          rw [hm] at I4
          have hn : (n : Int) ≤ 599 := by simp [mayR] at hm; omega
          generalize digR r = d at *
          simp -implicitDefEqProofs (maxSteps := 2000000) (disch := omega) only [httpp_line.s, I1, hq, I2, I3, I4, h3, go_sem, reduceIte, Nat.reduceAdd, Nat.reduceSub, Nat.reduceMul, Nat.reduceLeDiff, Nat.reduceLT, Nat.reduceEqDiff, Int.reduceToNat, Int.reduceLT, Int.reduceLE, Int.reduceEq, Int.reduceNe, Int.reduceAdd, Int.reduceSub, Int.reduceMul, Int.reduceNeg, Int.reduceBEq, Int.reduceBNe, reduceCtorEq, dreduceIte, oWS, oW8, oW16, oW32, oW64, oLtT, oLtF, oLeT, oLeF, oNLtT, oNLtF, oNLeT, oNLeF, oEqT, oEqF, oNEqT, oNEqF, oBeqT, oBeqF, oBneT, oBneF, Int.natCast_add, List.take_length]
      · have e : stR (digR r) = none := by unfold stR; rw [if_neg (fun h => h3 h.1)]
        rw [e]
        have h3' : ¬ ((digR r).length : Int) = 3 := by omega
        generalize digR r = d at *
        by_cases hz : (numR d).2 = 0
        · rw [hz] at I3
          simp -implicitDefEqProofs (maxSteps := 2000000) (disch := omega) only [httpp_line.s, I1, hq, I2, I3, h3', go_sem, reduceIte, Nat.reduceAdd, Nat.reduceSub, Nat.reduceMul, Nat.reduceLeDiff, Nat.reduceLT, Nat.reduceEqDiff, Int.reduceToNat, Int.reduceLT, Int.reduceLE, Int.reduceEq, Int.reduceNe, Int.reduceAdd, Int.reduceSub, Int.reduceMul, Int.reduceNeg, Int.reduceBEq, Int.reduceBNe, reduceCtorEq, dreduceIte, oWS, oW8, oW16, oW32, oW64, oLtT, oLtF, oLeT, oLeF, oNLtT, oNLtF, oNLeT, oNLeF, oEqT, oEqF, oNEqT, oNEqF, oBeqT, oBeqF, oBneT, oBneF, Int.natCast_add, List.take_length]
        · simp -implicitDefEqProofs (maxSteps := 2000000) (disch := omega) only [httpp_line.s, I1, hq, I2, I3, hz, h3', go_sem, reduceIte, Nat.reduceAdd, Nat.reduceSub, Nat.reduceMul, Nat.reduceLeDiff, Nat.reduceLT, Nat.reduceEqDiff, Int.reduceToNat, Int.reduceLT, Int.reduceLE, Int.reduceEq, Int.reduceNe, Int.reduceAdd, Int.reduceSub, Int.reduceMul, Int.reduceNeg, Int.reduceBEq, Int.reduceBNe, reduceCtorEq, dreduceIte, oWS, oW8, oW16, oW32, oW64, oLtT, oLtF, oLeT, oLeF, oNLtT, oNLtF, oNLeT, oNLeF, oEqT, oEqF, oNEqT, oNEqF, oBeqT, oBeqF, oBneT, oBneF, Int.natCast_add, List.take_length]
    · simp only
      rw [if_neg ha]
      have hq : (a == [72, 84, 84, 80, 47, 49, 46, 49]) = false := by simpa using ha
      simp -implicitDefEqProofs (maxSteps := 2000000) (disch := omega) only [httpp_line.s, I1, hq, go_sem, reduceIte, Nat.reduceAdd, Nat.reduceSub, Nat.reduceMul, Nat.reduceLeDiff, Nat.reduceLT, Nat.reduceEqDiff, Int.reduceToNat, Int.reduceLT, Int.reduceLE, Int.reduceEq, Int.reduceNe, Int.reduceAdd, Int.reduceSub, Int.reduceMul, Int.reduceNeg, Int.reduceBEq, Int.reduceBNe, reduceCtorEq, dreduceIte, oWS, oW8, oW16, oW32, oW64, oLtT, oLtF, oLeT, oLeF, oNLtT, oNLtF, oNLeT, oNLeF, oEqT, oEqF, oNEqT, oNEqF, oBeqT, oBeqF, oBneT, oBneF, Int.natCast_add, List.take_length]
abbrev clL : List UInt8 := [67, 111, 110, 116, 101, 110, 116, 45, 76, 101, 110, 103, 116, 104]
def parse2 (n : Int) : List (List UInt8) → Int × Int × Int
  | [] => (0, 0, 3)
  | s :: r => if (lineR s).2 = 0 then (if (fieldsR r).2 = 0 then (if (findR clL (fieldsR r).1).2 = 0 then (if (findR clL (fieldsR r).1).1 = longR (lineR s).1 then ((lineR s).1, n, 0) else (0, 0, 3)) else (0, 0, (findR clL (fieldsR r).1).2)) else (0, 0, (fieldsR r).2)) else (0, 0, (lineR s).2)
def parseR (b : List UInt8) : Int × Int × Int := if (hdR b).2.2 = 0 then parse2 (hdR b).2.1 (hdR b).1 else (0, 0, (hdR b).2.2)
abbrev paO (q : Int × Int × Int) : D := .tup [.v (.int .i64 q.1), .v (.int .i64 q.2.1), .v (.int .i64 q.2.2)]
theorem p_Parse (b : List UInt8) (h : b.length ≤ 100000) : run G 34 [.v (.slc 1 (u8L b))] [] = some (paO (parseR b), []) := by
  have I1 := w_Head b h
  rw [progR_eq] at I1
  unfold parseR
  rw [xq_fn G rfl httpp_Parse.g _ _ rfl]
  rcases hdR_cases b with ⟨ls, n, rest, hr, g, hn, h1, h2, e⟩ | ⟨e, hr, he⟩
  · rw [hr] at I1 ⊢
    simp only [if_true]
    cases ls with
    | nil =>
      have e1 : clW (sL []) = .lin 1 [] := rfl
      simp only [hdO, e1] at I1
      simp only [parse2]
      simp -implicitDefEqProofs (maxSteps := 2000000) (disch := omega) only [httpp_Parse.s, I1, List.length_nil, go_sem, reduceIte, Nat.reduceAdd, Nat.reduceSub, Nat.reduceMul, Nat.reduceLeDiff, Nat.reduceLT, Nat.reduceEqDiff, Int.reduceToNat, Int.reduceLT, Int.reduceLE, Int.reduceEq, Int.reduceNe, Int.reduceAdd, Int.reduceSub, Int.reduceMul, Int.reduceNeg, Int.reduceBEq, Int.reduceBNe, reduceCtorEq, dreduceIte, oWS, oW8, oW16, oW32, oW64, oLtT, oLtF, oLeT, oLeF, oNLtT, oNLtF, oNLeT, oNLeF, oEqT, oEqF, oNEqT, oNEqF, oBeqT, oBeqF, oBneT, oBneF, Int.natCast_add, List.take_length]
    | cons s r =>
      have e1 : clW (sL (s :: r)) = .v (.slc 1 (.str s :: sL r)) := rfl
      simp only [hdO, e1] at I1
      have hfl := fl_len (s :: r)
      have hit := fl_item (s :: r)
      have hsl : s.length ≤ 100000 := by have := hit s (by simp); omega
      have I2 := p_line s hsl
      have hrl : r.length ≤ 100000 := by simp at hfl; omega
      have hri : ∀ x ∈ r, x.length ≤ 100000 := fun x hx => by have := hit x (by simp [hx]); omega
      have I3 := w_Fields r hrl hri
      obtain ⟨k1, k2⟩ := fieldsR_len r hri
      have I4 := w_Find clL (by decide) (fieldsR r).1 (by omega) k2
      have I5 := p_long (lineR s).1
      have hd : List.take r.length (sL r) = sL r := by rw [← sL_len r, List.take_length]
      have hsr := sL_len r
      simp only [parse2]
      by_cases c1 : (lineR s).2 = 0
      · rw [if_pos c1]
        rw [c1] at I2
        by_cases c2 : (fieldsR r).2 = 0
        · rw [if_pos c2]
          simp only [flO] at I3
          rw [c2] at I3
          by_cases c3 : (findR clL (fieldsR r).1).2 = 0
          · rw [if_pos c3]
            simp only [fdO] at I4
            rw [c3] at I4
            by_cases c4 : (findR clL (fieldsR r).1).1 = longR (lineR s).1
            · rw [if_pos c4]
              have hq : ((findR clL (fieldsR r).1).1 == longR (lineR s).1) = true := by simpa using c4
              generalize (findR clL (fieldsR r).1).1 = v at *
              generalize longR (lineR s).1 = u at *
              generalize (fieldsR r).1 = fl at *
              generalize (lineR s).1 = st at *
              simp -implicitDefEqProofs (maxSteps := 2000000) (disch := omega) only [httpp_Parse.s, I1, I2, I3, I4, I5, hq, hd, hsr, List.length_cons, go_sem, reduceIte, Nat.reduceAdd, Nat.reduceSub, Nat.reduceMul, Nat.reduceLeDiff, Nat.reduceLT, Nat.reduceEqDiff, Int.reduceToNat, Int.reduceLT, Int.reduceLE, Int.reduceEq, Int.reduceNe, Int.reduceAdd, Int.reduceSub, Int.reduceMul, Int.reduceNeg, Int.reduceBEq, Int.reduceBNe, reduceCtorEq, dreduceIte, oWS, oW8, oW16, oW32, oW64, oLtT, oLtF, oLeT, oLeF, oNLtT, oNLtF, oNLeT, oNLeF, oEqT, oEqF, oNEqT, oNEqF, oBeqT, oBeqF, oBneT, oBneF, Int.natCast_add, List.take_length]
            · rw [if_neg c4]
              have hq : ((findR clL (fieldsR r).1).1 == longR (lineR s).1) = false := by simpa using c4
              generalize (findR clL (fieldsR r).1).1 = v at *
              generalize longR (lineR s).1 = u at *
              generalize (fieldsR r).1 = fl at *
              generalize (lineR s).1 = st at *
              simp -implicitDefEqProofs (maxSteps := 2000000) (disch := omega) only [httpp_Parse.s, I1, I2, I3, I4, I5, hq, hd, hsr, List.length_cons, go_sem, reduceIte, Nat.reduceAdd, Nat.reduceSub, Nat.reduceMul, Nat.reduceLeDiff, Nat.reduceLT, Nat.reduceEqDiff, Int.reduceToNat, Int.reduceLT, Int.reduceLE, Int.reduceEq, Int.reduceNe, Int.reduceAdd, Int.reduceSub, Int.reduceMul, Int.reduceNeg, Int.reduceBEq, Int.reduceBNe, reduceCtorEq, dreduceIte, oWS, oW8, oW16, oW32, oW64, oLtT, oLtF, oLeT, oLeF, oNLtT, oNLtF, oNLeT, oNLeF, oEqT, oEqF, oNEqT, oNEqF, oBeqT, oBeqF, oBneT, oBneF, Int.natCast_add, List.take_length]
          · rw [if_neg c3]
            simp only [fdO] at I4
            generalize (findR clL (fieldsR r).1).1 = v at *
            generalize (findR clL (fieldsR r).1).2 = w at *
            generalize (fieldsR r).1 = fl at *
            generalize (lineR s).1 = st at *
            simp -implicitDefEqProofs (maxSteps := 2000000) (disch := omega) only [httpp_Parse.s, I1, I2, I3, I4, I5, c3, hd, hsr, List.length_cons, go_sem, reduceIte, Nat.reduceAdd, Nat.reduceSub, Nat.reduceMul, Nat.reduceLeDiff, Nat.reduceLT, Nat.reduceEqDiff, Int.reduceToNat, Int.reduceLT, Int.reduceLE, Int.reduceEq, Int.reduceNe, Int.reduceAdd, Int.reduceSub, Int.reduceMul, Int.reduceNeg, Int.reduceBEq, Int.reduceBNe, reduceCtorEq, dreduceIte, oWS, oW8, oW16, oW32, oW64, oLtT, oLtF, oLeT, oLeF, oNLtT, oNLtF, oNLeT, oNLeF, oEqT, oEqF, oNEqT, oNEqF, oBeqT, oBeqF, oBneT, oBneF, Int.natCast_add, List.take_length]
        · rw [if_neg c2]
          simp only [flO] at I3
          generalize (fieldsR r).1 = fl at *
          generalize (fieldsR r).2 = w at *
          generalize (lineR s).1 = st at *
          simp -implicitDefEqProofs (maxSteps := 2000000) (disch := omega) only [httpp_Parse.s, I1, I2, I3, c2, hd, hsr, List.length_cons, go_sem, reduceIte, Nat.reduceAdd, Nat.reduceSub, Nat.reduceMul, Nat.reduceLeDiff, Nat.reduceLT, Nat.reduceEqDiff, Int.reduceToNat, Int.reduceLT, Int.reduceLE, Int.reduceEq, Int.reduceNe, Int.reduceAdd, Int.reduceSub, Int.reduceMul, Int.reduceNeg, Int.reduceBEq, Int.reduceBNe, reduceCtorEq, dreduceIte, oWS, oW8, oW16, oW32, oW64, oLtT, oLtF, oLeT, oLeF, oNLtT, oNLtF, oNLeT, oNLeF, oEqT, oEqF, oNEqT, oNEqF, oBeqT, oBeqF, oBneT, oBneF, Int.natCast_add, List.take_length]
      · rw [if_neg c1]
        generalize (lineR s).1 = st at *
        generalize (lineR s).2 = w at *
        simp -implicitDefEqProofs (maxSteps := 2000000) (disch := omega) only [httpp_Parse.s, I1, I2, c1, hd, hsr, List.length_cons, go_sem, reduceIte, Nat.reduceAdd, Nat.reduceSub, Nat.reduceMul, Nat.reduceLeDiff, Nat.reduceLT, Nat.reduceEqDiff, Int.reduceToNat, Int.reduceLT, Int.reduceLE, Int.reduceEq, Int.reduceNe, Int.reduceAdd, Int.reduceSub, Int.reduceMul, Int.reduceNeg, Int.reduceBEq, Int.reduceBNe, reduceCtorEq, dreduceIte, oWS, oW8, oW16, oW32, oW64, oLtT, oLtF, oLeT, oLeF, oNLtT, oNLtF, oNLeT, oNLeF, oEqT, oEqF, oNEqT, oNEqF, oBeqT, oBeqF, oBneT, oBneF, Int.natCast_add, List.take_length]
  · rw [hr] at I1 ⊢
    have e1 : clW (sL []) = .lin 1 [] := rfl
    simp only [hdO, e1] at I1
    have hne : ¬ e = 0 := by omega
    simp only
    rw [if_neg hne]
    simp -implicitDefEqProofs (maxSteps := 2000000) (disch := omega) only [httpp_Parse.s, I1, hne, go_sem, reduceIte, Nat.reduceAdd, Nat.reduceSub, Nat.reduceMul, Nat.reduceLeDiff, Nat.reduceLT, Nat.reduceEqDiff, Int.reduceToNat, Int.reduceLT, Int.reduceLE, Int.reduceEq, Int.reduceNe, Int.reduceAdd, Int.reduceSub, Int.reduceMul, Int.reduceNeg, Int.reduceBEq, Int.reduceBNe, reduceCtorEq, dreduceIte, oWS, oW8, oW16, oW32, oW64, oLtT, oLtF, oLeT, oLeF, oNLtT, oNLtF, oNLeT, oNLeF, oEqT, oEqF, oNEqT, oNEqF, oBeqT, oBeqF, oBneT, oBneF, Int.natCast_add, List.take_length]
abbrev qA (b : List UInt8) (ls : List V) (n : Int) (s : List UInt8) (i : Nat) : List D := [.v (.slc 1 (u8L b)), .v (.int .i64 0), .v (.int .i64 0), .v (.int .i64 0), .lin 1 ls, .v (.int .i64 n), .v (.int .i64 0), .v (.str s), .v (.int .i64 i), .undef, .undef, .undef, .undef, .undef]
theorem q_at (b : List UInt8) (ls : List V) (n : Int) (s : List UInt8) (hs : s.length ≤ 100000) (m : Nat) (hm : m ≤ s.length) (hb : ∀ j, j < m → ∃ x, s[j]? = some x ∧ ¬ x = 32) (he : m = s.length ∨ s[m]? = some 32) :
    ex G (.loop [] euphroeref16_Parse.l0) (qA b ls n s 0) [[]] = some (.exit 0, qA b ls n s m, [[]]) := by
  refine lpFor (G := G) (kill := []) (body := euphroeref16_Parse.l0) (fun j => qA b ls n s j) (fun _ => [[]]) m (fun j hj => ?_) ?_
  · obtain ⟨x, h1, h2⟩ := hb j hj
    have h3 : ¬ (x.toNat : Int) = 32 := fun h => h2 (UInt8.toNat_inj.1 (by show x.toNat = 32; omega))
    simp -implicitDefEqProofs (maxSteps := 2000000) (disch := omega) only [euphroeref16_Parse.l0, qA, h1, h3, go_sem, reduceIte, Nat.reduceAdd, Nat.reduceSub, Nat.reduceMul, Nat.reduceLeDiff, Nat.reduceLT, Nat.reduceEqDiff, Int.reduceToNat, Int.reduceLT, Int.reduceLE, Int.reduceEq, Int.reduceNe, Int.reduceAdd, Int.reduceSub, Int.reduceMul, Int.reduceNeg, Int.reduceBEq, Int.reduceBNe, reduceCtorEq, dreduceIte, oWS, oW8, oW16, oW32, oW64, oLtT, oLtF, oLeT, oLeF, oNLtT, oNLtF, oNLeT, oNLeF, oEqT, oEqF, oNEqT, oNEqF, oBeqT, oBeqF, oBneT, oBneF, Int.natCast_add, List.take_length]
  · rcases he with he | he
    · simp -implicitDefEqProofs (maxSteps := 2000000) (disch := omega) only [euphroeref16_Parse.l0, qA, he, go_sem, reduceIte, Nat.reduceAdd, Nat.reduceSub, Nat.reduceMul, Nat.reduceLeDiff, Nat.reduceLT, Nat.reduceEqDiff, Int.reduceToNat, Int.reduceLT, Int.reduceLE, Int.reduceEq, Int.reduceNe, Int.reduceAdd, Int.reduceSub, Int.reduceMul, Int.reduceNeg, Int.reduceBEq, Int.reduceBNe, reduceCtorEq, dreduceIte, oWS, oW8, oW16, oW32, oW64, oLtT, oLtF, oLeT, oLeF, oNLtT, oNLtF, oNLeT, oNLeF, oEqT, oEqF, oNEqT, oNEqF, oBeqT, oBeqF, oBneT, oBneF, Int.natCast_add, List.take_length]
    · have h1 : m < s.length := (List.getElem?_eq_some_iff.1 he).1
      have h3 : ((32 : UInt8).toNat : Int) = 32 := rfl
      simp -implicitDefEqProofs (maxSteps := 2000000) (disch := omega) only [euphroeref16_Parse.l0, qA, he, h3, go_sem, reduceIte, Nat.reduceAdd, Nat.reduceSub, Nat.reduceMul, Nat.reduceLeDiff, Nat.reduceLT, Nat.reduceEqDiff, Int.reduceToNat, Int.reduceLT, Int.reduceLE, Int.reduceEq, Int.reduceNe, Int.reduceAdd, Int.reduceSub, Int.reduceMul, Int.reduceNeg, Int.reduceBEq, Int.reduceBNe, reduceCtorEq, dreduceIte, oWS, oW8, oW16, oW32, oW64, oLtT, oLtF, oLeT, oLeF, oNLtT, oNLtF, oNLeT, oNLeF, oEqT, oEqF, oNEqT, oNEqF, oBeqT, oBeqF, oBneT, oBneF, Int.natCast_add, List.take_length]
abbrev qB (b : List UInt8) (ls : List V) (n : Int) (s : List UInt8) (a : Nat) (r : List UInt8) (e st : Int) (i : Nat) : List D := [.v (.slc 1 (u8L b)), .v (.int .i64 0), .v (.int .i64 0), .v (.int .i64 e), .lin 1 ls, .v (.int .i64 n), .v (.int .i64 0), .v (.str s), .v (.int .i64 a), .v (.str r), .v (.int .i64 st), .v (.int .i64 i), .undef, .undef]
theorem q_step (b : List UInt8) (ls : List V) (n : Int) (s : List UInt8) (a : Nat) (r : List UInt8) (st : Nat) (hst : st ≤ 1000) (i : Nat) (hi : i < 3) (hr : 3 ≤ r.length) (hrl : r.length ≤ 100000) (c : UInt8) (hc : r[i]? = some c) (hd : digB c = true) :
    rndE G [] euphroeref16_Parse.l1 (qB b ls n s a r 0 st i) [[]] = some (.inl (qB b ls n s a r 0 ((st * 10 + (c.toNat - 48) : Nat) : Int) (i + 1), [[]])) := by
  have hd1 : 48 ≤ c.toNat ∧ c.toNat ≤ 57 := by simpa using hd
  have e1 : ((st * 10 + (c.toNat - 48) : Nat) : Int) = 10 * (st : Int) + ((c.toNat : Int) - 48) := by omega
  have h1 : ¬ (c.toNat : Int) < 48 := by omega
  have h2 : ¬ (57 : Int) < (c.toNat : Int) := by omega
  rw [e1]
  have w1 : IntKind.u8.wrap ((c.toNat : Int) - 48) = (c.toNat : Int) - 48 := oW8 (by omega)
  simp -implicitDefEqProofs (maxSteps := 2000000) (disch := omega) only [euphroeref16_Parse.l1, qB, hc, h1, h2, w1, go_sem, reduceIte, Nat.reduceAdd, Nat.reduceSub, Nat.reduceMul, Nat.reduceLeDiff, Nat.reduceLT, Nat.reduceEqDiff, Int.reduceToNat, Int.reduceLT, Int.reduceLE, Int.reduceEq, Int.reduceNe, Int.reduceAdd, Int.reduceSub, Int.reduceMul, Int.reduceNeg, Int.reduceBEq, Int.reduceBNe, reduceCtorEq, dreduceIte, oWS, oW8, oW16, oW32, oW64, oLtT, oLtF, oLeT, oLeF, oNLtT, oNLtF, oNLeT, oNLeF, oEqT, oEqF, oNEqT, oNEqF, oBeqT, oBeqF, oBneT, oBneF, Int.natCast_add, List.take_length]
theorem q_bad (b : List UInt8) (ls : List V) (n : Int) (s : List UInt8) (a : Nat) (r : List UInt8) (st : Int) (i : Nat) (hi : i < 3) (hr : 3 ≤ r.length) (hrl : r.length ≤ 100000) (c : UInt8) (hc : r[i]? = some c) (hd : digB c = false) :
    rndE G [] euphroeref16_Parse.l1 (qB b ls n s a r 0 st i) [[]] = some (.inr (.ret, qB b ls n s a r 3 st i, [[]])) := by
  have hd1 : ¬ (48 ≤ c.toNat ∧ c.toNat ≤ 57) := by simpa using hd
  by_cases h1 : (c.toNat : Int) < 48
  · simp -implicitDefEqProofs (maxSteps := 2000000) (disch := omega) only [euphroeref16_Parse.l1, qB, hc, h1, go_sem, reduceIte, Nat.reduceAdd, Nat.reduceSub, Nat.reduceMul, Nat.reduceLeDiff, Nat.reduceLT, Nat.reduceEqDiff, Int.reduceToNat, Int.reduceLT, Int.reduceLE, Int.reduceEq, Int.reduceNe, Int.reduceAdd, Int.reduceSub, Int.reduceMul, Int.reduceNeg, Int.reduceBEq, Int.reduceBNe, reduceCtorEq, dreduceIte, oWS, oW8, oW16, oW32, oW64, oLtT, oLtF, oLeT, oLeF, oNLtT, oNLtF, oNLeT, oNLeF, oEqT, oEqF, oNEqT, oNEqF, oBeqT, oBeqF, oBneT, oBneF, Int.natCast_add, List.take_length]
  · have h2 : (57 : Int) < (c.toNat : Int) := by omega
    simp -implicitDefEqProofs (maxSteps := 2000000) (disch := omega) only [euphroeref16_Parse.l1, qB, hc, h1, h2, go_sem, reduceIte, Nat.reduceAdd, Nat.reduceSub, Nat.reduceMul, Nat.reduceLeDiff, Nat.reduceLT, Nat.reduceEqDiff, Int.reduceToNat, Int.reduceLT, Int.reduceLE, Int.reduceEq, Int.reduceNe, Int.reduceAdd, Int.reduceSub, Int.reduceMul, Int.reduceNeg, Int.reduceBEq, Int.reduceBNe, reduceCtorEq, dreduceIte, oWS, oW8, oW16, oW32, oW64, oLtT, oLtF, oLeT, oLeF, oNLtT, oNLtF, oNLeT, oNLeF, oEqT, oEqF, oNEqT, oNEqF, oBeqT, oBeqF, oBneT, oBneF, Int.natCast_add, List.take_length]
theorem q_digits (b : List UInt8) (ls : List V) (n : Int) (s : List UInt8) (a : Nat) (x y z : UInt8) (w : List UInt8) (hw : w.length ≤ 99000) :
    (([x, y, z] : List UInt8).all digB = true → ex G (.loop [] euphroeref16_Parse.l1) (qB b ls n s a (x :: y :: z :: w) 0 0 0) [[]] = some (.exit 2, qB b ls n s a (x :: y :: z :: w) 0 (numV [x, y, z]) 3, [[]])) ∧
    (([x, y, z] : List UInt8).all digB = false → ∃ st i, ex G (.loop [] euphroeref16_Parse.l1) (qB b ls n s a (x :: y :: z :: w) 0 0 0) [[]] = some (.ret, qB b ls n s a (x :: y :: z :: w) 3 st i, [[]])) := by
  have hr : 3 ≤ (x :: y :: z :: w).length := by simp
  have hrl : (x :: y :: z :: w).length ≤ 100000 := by simp; omega
  have g0 : (x :: y :: z :: w)[0]? = some x := rfl
  have g1 : (x :: y :: z :: w)[1]? = some y := rfl
  have g2 : (x :: y :: z :: w)[2]? = some z := rfl
  generalize hq : (x :: y :: z :: w) = r at *
  have xl := x.toNat_lt
  have yl := y.toNat_lt
  have zl := z.toNat_lt
  cases hx : digB x with
  | false =>
    refine ⟨fun h => by simp [hx] at h, fun _ => ⟨0, 0, ?_⟩⟩
    exact rnd_end (q_bad b ls n s a r 0 0 (by omega) hr hrl x g0 hx)
  | true =>
    have hx1 : 48 ≤ x.toNat ∧ x.toNat ≤ 57 := by simpa using hx
    have s1 := rnd_step (q_step b ls n s a r 0 (by omega) 0 (by omega) hr hrl x g0 hx)
    have s1 : ex G (.loop [] euphroeref16_Parse.l1) (qB b ls n s a r 0 0 0) [[]] = _ := s1
    rw [s1]
    cases hy : digB y with
    | false =>
      refine ⟨fun h => by simp [hy] at h, fun _ => ⟨((0 * 10 + (x.toNat - 48) : Nat) : Int), 1, ?_⟩⟩
      exact rnd_end (q_bad b ls n s a r _ 1 (by omega) hr hrl y g1 hy)
    | true =>
      have hy1 : 48 ≤ y.toNat ∧ y.toNat ≤ 57 := by simpa using hy
      rw [rnd_step (q_step b ls n s a r (0 * 10 + (x.toNat - 48)) (by omega) 1 (by omega) hr hrl y g1 hy)]
      cases hz : digB z with
      | false =>
        refine ⟨fun h => by simp [hz] at h, fun _ => ⟨(((0 * 10 + (x.toNat - 48)) * 10 + (y.toNat - 48) : Nat) : Int), 2, ?_⟩⟩
        exact rnd_end (q_bad b ls n s a r _ 2 (by omega) hr hrl z g2 hz)
      | true =>
        have hz1 : 48 ≤ z.toNat ∧ z.toNat ≤ 57 := by simpa using hz
        rw [rnd_step (q_step b ls n s a r ((0 * 10 + (x.toNat - 48)) * 10 + (y.toNat - 48)) (by omega) 2 (by omega) hr hrl z g2 hz)]
        refine ⟨fun h => ?_, fun h => by simp [hx, hy, hz] at h⟩
        obtain ⟨_, _, _, e⟩ := numV3 x y z h
        have e2 : numV [x, y, z] = ((0 * 10 + (x.toNat - 48)) * 10 + (y.toNat - 48)) * 10 + (z.toNat - 48) := by rw [e]; omega
        rw [e2]
        generalize ((0 * 10 + (x.toNat - 48)) * 10 + (y.toNat - 48)) * 10 + (z.toNat - 48) = q
        refine rnd_end ?_
        simp -implicitDefEqProofs (maxSteps := 2000000) (disch := omega) only [euphroeref16_Parse.l1, qB, go_sem, reduceIte, Nat.reduceAdd, Nat.reduceSub, Nat.reduceMul, Nat.reduceLeDiff, Nat.reduceLT, Nat.reduceEqDiff, Int.reduceToNat, Int.reduceLT, Int.reduceLE, Int.reduceEq, Int.reduceNe, Int.reduceAdd, Int.reduceSub, Int.reduceMul, Int.reduceNeg, Int.reduceBEq, Int.reduceBNe, reduceCtorEq, dreduceIte, oWS, oW8, oW16, oW32, oW64, oLtT, oLtF, oLeT, oLeF, oNLtT, oNLtF, oNLeT, oNLeF, oEqT, oEqF, oNEqT, oNEqF, oBeqT, oBeqF, oBneT, oBneF, Int.natCast_add, List.take_length]
theorem st_eq (r : List UInt8) : (r.length < 3 ∧ stR (digR r) = none) ∨ ∃ x y z w, r = x :: y :: z :: w ∧ ((∃ v u, w = v :: u ∧ ¬ v = 32 ∧ stR (digR r) = none) ∨ ((w = [] ∨ ∃ u, w = 32 :: u) ∧ stR (digR r) = (if ([x, y, z] : List UInt8).all digB = true ∧ mayR (numV [x, y, z]) = true then some (numV [x, y, z]) else none))) := by
  by_cases h3 : r.length < 3
  · left
    have := digR_le r
    exact ⟨h3, by unfold stR; rw [if_neg (fun h => by omega)]⟩
  right
  obtain ⟨x, y, z, w, rfl⟩ : ∃ x y z w, r = x :: y :: z :: w := by
    match r, h3 with
    | x :: y :: z :: w, _ => exact ⟨x, y, z, w, rfl⟩
    | [], h => simp at h
    | [_], h => simp at h
    | [_, _], h => simp at h
  refine ⟨x, y, z, w, rfl, ?_⟩
  have d32 : ∀ c : UInt8, digB c = true → ¬ c = 32 := fun c h e => by subst e; revert h; decide
  by_cases hb : x = 32 ∨ y = 32 ∨ z = 32
  · have hlt : (digR (x :: y :: z :: w)).length < 3 := by
      unfold digR
      simp only [cut1]
      by_cases hx : x = 32
      · rw [if_pos hx]; simp
      · rw [if_neg hx]
        by_cases hy : y = 32
        · rw [if_pos hy]; simp
        · rw [if_neg hy]
          have hz : z = 32 := by
            rcases hb with h | h | h
            · exact absurd h hx
            · exact absurd h hy
            · exact h
          rw [if_pos hz]; simp
    have e : stR (digR (x :: y :: z :: w)) = none := by unfold stR; rw [if_neg (fun h => by omega)]
    have hnd : ¬ ([x, y, z] : List UInt8).all digB = true := fun h => by
      simp only [List.all_cons, List.all_nil, Bool.and_eq_true, Bool.and_true] at h
      rcases hb with hh | hh | hh
      · exact d32 x h.1 hh
      · exact d32 y h.2.1 hh
      · exact d32 z h.2.2 hh
    cases w with
    | nil => exact .inr ⟨.inl rfl, by rw [e, if_neg (fun h => hnd h.1)]⟩
    | cons v u =>
      by_cases hv : v = 32
      · exact .inr ⟨.inr ⟨u, by rw [hv]⟩, by rw [e, if_neg (fun h => hnd h.1)]⟩
      · exact .inl ⟨v, u, rfl, hv, e⟩
  · have hx : ¬ x = 32 := fun h => hb (.inl h)
    have hy : ¬ y = 32 := fun h => hb (.inr (.inl h))
    have hz : ¬ z = 32 := fun h => hb (.inr (.inr h))
    have ed : digR (x :: y :: z :: w) = x :: y :: z :: digR w := by
      unfold digR
      simp only [cut1]
      rw [if_neg hx, if_neg hy, if_neg hz]
      cases cut1 32 w <;> rfl
    rw [ed]
    cases w with
    | nil =>
      refine .inr ⟨.inl rfl, ?_⟩
      have e0 : digR [] = [] := rfl
      rw [e0]
      unfold stR
      by_cases hh : ([x, y, z] : List UInt8).all digB = true ∧ mayR (numV [x, y, z]) = true
      · rw [if_pos hh, if_pos ⟨rfl, hh⟩]
      · rw [if_neg hh, if_neg (fun h => hh h.2)]
    | cons v u =>
      by_cases hv : v = 32
      · refine .inr ⟨.inr ⟨u, by rw [hv]⟩, ?_⟩
        have e0 : digR (v :: u) = [] := by
          unfold digR
          simp only [cut1]
          rw [if_pos hv]
        rw [e0]
        unfold stR
        by_cases hh : ([x, y, z] : List UInt8).all digB = true ∧ mayR (numV [x, y, z]) = true
        · rw [if_pos hh, if_pos ⟨rfl, hh⟩]
        · rw [if_neg hh, if_neg (fun h => hh h.2)]
      · refine .inl ⟨v, u, rfl, hv, ?_⟩
        have e0 : digR (v :: u) = v :: digR u := by
          unfold digR
          simp only [cut1]
          rw [if_neg hv]
          cases cut1 32 u <;> rfl
        rw [e0]
        unfold stR
        rw [if_neg (fun h => by have := h.1; simp at this)]
theorem lineR_none {s : List UInt8} (h : cut1 32 s = none) : lineR s = (0, 3) := by unfold lineR; rw [h]
theorem lineR_ver {s a r : List UInt8} (h : cut1 32 s = some (a, r)) (ha : ¬ a = verL) : lineR s = (0, 15) := by unfold lineR; rw [h]; simp only; rw [if_neg ha]
theorem lineR_no {s a r : List UInt8} (h : cut1 32 s = some (a, r)) (ha : a = verL) (hs : stR (digR r) = none) : lineR s = (0, 3) := by unfold lineR; rw [h]; simp only; rw [if_pos ha, hs]
theorem lineR_ok {s a r : List UInt8} (h : cut1 32 s = some (a, r)) (ha : a = verL) {n : Nat} (hs : stR (digR r) = some n) : lineR s = ((n : Int), 0) := by unfold lineR; rw [h]; simp only; rw [if_pos ha, hs]
theorem parse2_line {n : Int} {s : List UInt8} {r : List (List UInt8)} {e : Int} (h : lineR s = (0, e)) (he : ¬ e = 0) : parse2 n (s :: r) = (0, 0, e) := by simp only [parse2, h]; rw [if_neg he]
theorem r_Parse (b : List UInt8) (h : b.length ≤ 100000) : run G 35 [.v (.slc 1 (u8L b))] [] = some (paO (parseR b), []) := by
  have I1 := r_Head b h
  unfold parseR
  rw [xq_fn G rfl euphroeref16_Parse.g _ _ rfl]
  rcases hdR_cases b with ⟨ls, n, rest, hr, g, hn, h1, h2, e⟩ | ⟨e, hr, he⟩
  · rw [hr] at I1 ⊢
    simp only [if_true]
    simp only [hdP] at I1
    cases ls with
    | nil =>
      simp only [parse2]
      have I1 : run G 31 [.v (.slc 1 (u8L b))] [] = some (.tup [.lin 1 [], .v (.int .i64 n), .v (.int .i64 0)], []) := I1
      simp -implicitDefEqProofs (maxSteps := 2000000) (disch := omega) only [euphroeref16_Parse.s, I1, List.length_nil, go_sem, reduceIte, Nat.reduceAdd, Nat.reduceSub, Nat.reduceMul, Nat.reduceLeDiff, Nat.reduceLT, Nat.reduceEqDiff, Int.reduceToNat, Int.reduceLT, Int.reduceLE, Int.reduceEq, Int.reduceNe, Int.reduceAdd, Int.reduceSub, Int.reduceMul, Int.reduceNeg, Int.reduceBEq, Int.reduceBNe, reduceCtorEq, dreduceIte, oWS, oW8, oW16, oW32, oW64, oLtT, oLtF, oLeT, oLeF, oNLtT, oNLtF, oNLeT, oNLeF, oEqT, oEqF, oNEqT, oNEqF, oBeqT, oBeqF, oBneT, oBneF, Int.natCast_add, List.take_length]
    | cons s r =>
      have I1 : run G 31 [.v (.slc 1 (u8L b))] [] = some (.tup [.lin 1 (.str s :: sL r), .v (.int .i64 n), .v (.int .i64 0)], []) := I1
      have hfl := fl_len (s :: r)
      have hit := fl_item (s :: r)
      have hsl : s.length ≤ 100000 := by have := hit s (by simp); omega
      have hrl : r.length ≤ 100000 := by simp at hfl; omega
      have hri : ∀ x ∈ r, x.length ≤ 100000 := fun x hx => by have := hit x (by simp [hx]); omega
      have hsr := sL_len r
      cases hc : cut1 32 s with
      | none =>
        rw [parse2_line (lineR_none hc) (by decide)]
        have L := q_at b (.str s :: sL r) n s hsl s.length (Nat.le_refl _) (cut1_atN hc) (.inl rfl)
        simp only [qA, z0, Int.cast_ofNat_Int, List.take_zero, List.map_nil, List.drop_zero, accN, b8_nil, Int.sub_zero, Int.add_zero, Int.zero_add, Nat.zero_add, Nat.sub_zero, List.nil_append, List.append_nil] at L
        simp -implicitDefEqProofs (maxSteps := 2000000) (disch := omega) only [euphroeref16_Parse.s, I1, L, hsr, List.length_cons, go_sem, reduceIte, Nat.reduceAdd, Nat.reduceSub, Nat.reduceMul, Nat.reduceLeDiff, Nat.reduceLT, Nat.reduceEqDiff, Int.reduceToNat, Int.reduceLT, Int.reduceLE, Int.reduceEq, Int.reduceNe, Int.reduceAdd, Int.reduceSub, Int.reduceMul, Int.reduceNeg, Int.reduceBEq, Int.reduceBNe, reduceCtorEq, dreduceIte, oWS, oW8, oW16, oW32, oW64, oLtT, oLtF, oLeT, oLeF, oNLtT, oNLtF, oNLeT, oNLeF, oEqT, oEqF, oNEqT, oNEqF, oBeqT, oBeqF, oBneT, oBneF, Int.natCast_add, List.take_length]
      | some p =>
        obtain ⟨a, q⟩ := p
        obtain ⟨k1, k2, k3, k4, k5⟩ := cut1_at hc
        have L := q_at b (.str s :: sL r) n s hsl a.length (by omega) k2 (.inr k3)
        simp only [qA, z0, Int.cast_ofNat_Int, List.take_zero, List.map_nil, List.drop_zero, accN, b8_nil, Int.sub_zero, Int.add_zero, Int.zero_add, Nat.zero_add, Nat.sub_zero, List.nil_append, List.append_nil] at L
        have k6 : List.drop ((a.length : Int) + 1).toNat s = q := by rw [show ((a.length : Int) + 1).toNat = a.length + 1 by omega, k5]
        have hql : q.length ≤ s.length := by rw [← k5]; simp
        have hsl2 : s.length ≤ 2048 := by have := hit s (by simp); omega
        by_cases ha : a = verL
        · have hq : (a == [72, 84, 84, 80, 47, 49, 46, 49]) = true := by rw [ha]; rfl
          rcases st_eq q with ⟨m1, m2⟩ | ⟨x, y, z, w, rfl, hw⟩
          · rw [parse2_line (lineR_no hc ha m2) (by decide)]
            simp -implicitDefEqProofs (maxSteps := 2000000) (disch := omega) only [euphroeref16_Parse.s, I1, L, hsr, hq, k4, k6, List.length_cons, go_sem, reduceIte, Nat.reduceAdd, Nat.reduceSub, Nat.reduceMul, Nat.reduceLeDiff, Nat.reduceLT, Nat.reduceEqDiff, Int.reduceToNat, Int.reduceLT, Int.reduceLE, Int.reduceEq, Int.reduceNe, Int.reduceAdd, Int.reduceSub, Int.reduceMul, Int.reduceNeg, Int.reduceBEq, Int.reduceBNe, reduceCtorEq, dreduceIte, oWS, oW8, oW16, oW32, oW64, oLtT, oLtF, oLeT, oLeF, oNLtT, oNLtF, oNLeT, oNLeF, oEqT, oEqF, oNEqT, oNEqF, oBeqT, oBeqF, oBneT, oBneF, Int.natCast_add, List.take_length]
          · have hwl : w.length ≤ 99000 := by simp at hql; omega
            rcases hw with ⟨v, u, rfl, hv, m2⟩ | ⟨hw, m2⟩
            · rw [parse2_line (lineR_no hc ha m2) (by decide)]
              have g3 : (x :: y :: z :: v :: u)[3]? = some v := rfl
              have hv : ¬ (v.toNat : Int) = 32 := fun h => hv (UInt8.toNat_inj.1 (by show v.toNat = 32; omega))
              have gl : 3 < (x :: y :: z :: v :: u).length := by simp
              generalize (x :: y :: z :: v :: u) = q at *
              simp -implicitDefEqProofs (maxSteps := 2000000) (disch := omega) only [euphroeref16_Parse.s, I1, L, hsr, hq, k4, k6, g3, hv, List.length_cons, go_sem, reduceIte, Nat.reduceAdd, Nat.reduceSub, Nat.reduceMul, Nat.reduceLeDiff, Nat.reduceLT, Nat.reduceEqDiff, Int.reduceToNat, Int.reduceLT, Int.reduceLE, Int.reduceEq, Int.reduceNe, Int.reduceAdd, Int.reduceSub, Int.reduceMul, Int.reduceNeg, Int.reduceBEq, Int.reduceBNe, reduceCtorEq, dreduceIte, oWS, oW8, oW16, oW32, oW64, oLtT, oLtF, oLeT, oLeF, oNLtT, oNLtF, oNLeT, oNLeF, oEqT, oEqF, oNEqT, oNEqF, oBeqT, oBeqF, oBneT, oBneF, Int.natCast_add, List.take_length]
            · have D := q_digits b (.str s :: sL r) n s a.length x y z w hwl
              have gd : (x :: y :: z :: w).length = 3 ∨ (3 < (x :: y :: z :: w).length ∧ (x :: y :: z :: w)[3]? = some 32) := by
                rcases hw with rfl | ⟨u, rfl⟩
                · exact .inl rfl
                · exact .inr ⟨by simp, rfl⟩
              have g32 : ((32 : UInt8).toNat : Int) = 32 := rfl
              have I3 := r_Fields r hrl hri
              obtain ⟨f1, f2⟩ := fieldsR_len r hri
              have I4 := r_Find clL (by decide) (fieldsR r).1 (by omega) f2
              have hd : List.take r.length (sL r) = sL r := by rw [← sL_len r, List.take_length]
              generalize (x :: y :: z :: w) = q at *
              cases hall : ([x, y, z] : List UInt8).all digB with
              | false =>
                rw [hall, if_neg (fun h => by simp at h)] at m2
                rw [parse2_line (lineR_no hc ha m2) (by decide)]
                obtain ⟨st, i, D⟩ := D.2 hall
                simp only [qB, z0, Int.cast_ofNat_Int, List.take_zero, List.map_nil, List.drop_zero, accN, b8_nil, Int.sub_zero, Int.add_zero, Int.zero_add, Nat.zero_add, Nat.sub_zero, List.nil_append, List.append_nil] at D
                rcases gd with gd | ⟨gd, g3⟩
                · simp -implicitDefEqProofs (maxSteps := 2000000) (disch := omega) only [euphroeref16_Parse.s, I1, L, hsr, hq, k4, k6, gd, D, List.length_cons, go_sem, reduceIte, Nat.reduceAdd, Nat.reduceSub, Nat.reduceMul, Nat.reduceLeDiff, Nat.reduceLT, Nat.reduceEqDiff, Int.reduceToNat, Int.reduceLT, Int.reduceLE, Int.reduceEq, Int.reduceNe, Int.reduceAdd, Int.reduceSub, Int.reduceMul, Int.reduceNeg, Int.reduceBEq, Int.reduceBNe, reduceCtorEq, dreduceIte, oWS, oW8, oW16, oW32, oW64, oLtT, oLtF, oLeT, oLeF, oNLtT, oNLtF, oNLeT, oNLeF, oEqT, oEqF, oNEqT, oNEqF, oBeqT, oBeqF, oBneT, oBneF, Int.natCast_add, List.take_length]
                · simp -implicitDefEqProofs (maxSteps := 2000000) (disch := omega) only [euphroeref16_Parse.s, I1, L, hsr, hq, k4, k6, gd, g3, g32, D, List.length_cons, go_sem, reduceIte, Nat.reduceAdd, Nat.reduceSub, Nat.reduceMul, Nat.reduceLeDiff, Nat.reduceLT, Nat.reduceEqDiff, Int.reduceToNat, Int.reduceLT, Int.reduceLE, Int.reduceEq, Int.reduceNe, Int.reduceAdd, Int.reduceSub, Int.reduceMul, Int.reduceNeg, Int.reduceBEq, Int.reduceBNe, reduceCtorEq, dreduceIte, oWS, oW8, oW16, oW32, oW64, oLtT, oLtF, oLeT, oLeF, oNLtT, oNLtF, oNLeT, oNLeF, oEqT, oEqF, oNEqT, oNEqF, oBeqT, oBeqF, oBneT, oBneF, Int.natCast_add, List.take_length]
              | true =>
                have D := D.1 hall
                rw [hall] at m2
                simp only [true_and] at m2
                generalize numV [x, y, z] = k at *
                have I2 := q_may k
                have I5 := q_long k
                simp only [qB, z0, Int.cast_ofNat_Int, List.take_zero, List.map_nil, List.drop_zero, accN, b8_nil, Int.sub_zero, Int.add_zero, Int.zero_add, Nat.zero_add, Nat.sub_zero, List.nil_append, List.append_nil] at D
                cases hm : mayR k with
                | false =>
                  rw [hm] at I2 m2
                  rw [parse2_line (lineR_no hc ha m2) (by decide)]
                  rcases gd with gd | ⟨gd, g3⟩
                  · simp -implicitDefEqProofs (maxSteps := 2000000) (disch := omega) only [euphroeref16_Parse.s, I1, L, hsr, hq, k4, k6, gd, D, I2, List.length_cons, go_sem, reduceIte, Nat.reduceAdd, Nat.reduceSub, Nat.reduceMul, Nat.reduceLeDiff, Nat.reduceLT, Nat.reduceEqDiff, Int.reduceToNat, Int.reduceLT, Int.reduceLE, Int.reduceEq, Int.reduceNe, Int.reduceAdd, Int.reduceSub, Int.reduceMul, Int.reduceNeg, Int.reduceBEq, Int.reduceBNe, reduceCtorEq, dreduceIte, oWS, oW8, oW16, oW32, oW64, oLtT, oLtF, oLeT, oLeF, oNLtT, oNLtF, oNLeT, oNLeF, oEqT, oEqF, oNEqT, oNEqF, oBeqT, oBeqF, oBneT, oBneF, Int.natCast_add, List.take_length]
                  · simp -implicitDefEqProofs (maxSteps := 2000000) (disch := omega) only [euphroeref16_Parse.s, I1, L, hsr, hq, k4, k6, gd, g3, g32, D, I2, List.length_cons, go_sem, reduceIte, Nat.reduceAdd, Nat.reduceSub, Nat.reduceMul, Nat.reduceLeDiff, Nat.reduceLT, Nat.reduceEqDiff, Int.reduceToNat, Int.reduceLT, Int.reduceLE, Int.reduceEq, Int.reduceNe, Int.reduceAdd, Int.reduceSub, Int.reduceMul, Int.reduceNeg, Int.reduceBEq, Int.reduceBNe, reduceCtorEq, dreduceIte, oWS, oW8, oW16, oW32, oW64, oLtT, oLtF, oLeT, oLeF, oNLtT, oNLtF, oNLeT, oNLeF, oEqT, oEqF, oNEqT, oNEqF, oBeqT, oBeqF, oBneT, oBneF, Int.natCast_add, List.take_length]
                | true =>
                  rw [hm] at I2 m2
                  have hk : (k : Int) ≤ 599 := by simp [mayR] at hm; omega
                  have hline := lineR_ok hc ha m2
                  simp only [parse2, hline, if_true]
                  by_cases c2 : (fieldsR r).2 = 0
                  · rw [if_pos c2]
                    simp only [flO] at I3
                    rw [c2] at I3
                    by_cases c3 : (findR clL (fieldsR r).1).2 = 0
                    · rw [if_pos c3]
                      simp only [fdO] at I4
                      rw [c3] at I4
                      by_cases c4 : (findR clL (fieldsR r).1).1 = longR k
                      · rw [if_pos c4]
                        have hq4 : ((findR clL (fieldsR r).1).1 == longR k) = true := by simpa using c4
                        generalize (findR clL (fieldsR r).1).1 = v at *
                        generalize longR k = u at *
                        generalize (fieldsR r).1 = fl at *
                        rcases gd with gd | ⟨gd, g3⟩
                        · simp -implicitDefEqProofs (maxSteps := 2000000) (disch := omega) only [euphroeref16_Parse.s, I1, L, hsr, hq, k4, k6, gd, D, I2, I3, I4, I5, hq4, hd, List.length_cons, go_sem, reduceIte, Nat.reduceAdd, Nat.reduceSub, Nat.reduceMul, Nat.reduceLeDiff, Nat.reduceLT, Nat.reduceEqDiff, Int.reduceToNat, Int.reduceLT, Int.reduceLE, Int.reduceEq, Int.reduceNe, Int.reduceAdd, Int.reduceSub, Int.reduceMul, Int.reduceNeg, Int.reduceBEq, Int.reduceBNe, reduceCtorEq, dreduceIte, oWS, oW8, oW16, oW32, oW64, oLtT, oLtF, oLeT, oLeF, oNLtT, oNLtF, oNLeT, oNLeF, oEqT, oEqF, oNEqT, oNEqF, oBeqT, oBeqF, oBneT, oBneF, Int.natCast_add, List.take_length]
                        · simp -implicitDefEqProofs (maxSteps := 2000000) (disch := omega) only [euphroeref16_Parse.s, I1, L, hsr, hq, k4, k6, gd, g3, g32, D, I2, I3, I4, I5, hq4, hd, List.length_cons, go_sem, reduceIte, Nat.reduceAdd, Nat.reduceSub, Nat.reduceMul, Nat.reduceLeDiff, Nat.reduceLT, Nat.reduceEqDiff, Int.reduceToNat, Int.reduceLT, Int.reduceLE, Int.reduceEq, Int.reduceNe, Int.reduceAdd, Int.reduceSub, Int.reduceMul, Int.reduceNeg, Int.reduceBEq, Int.reduceBNe, reduceCtorEq, dreduceIte, oWS, oW8, oW16, oW32, oW64, oLtT, oLtF, oLeT, oLeF, oNLtT, oNLtF, oNLeT, oNLeF, oEqT, oEqF, oNEqT, oNEqF, oBeqT, oBeqF, oBneT, oBneF, Int.natCast_add, List.take_length]
                      · rw [if_neg c4]
                        have hq4 : ((findR clL (fieldsR r).1).1 == longR k) = false := by simpa using c4
                        generalize (findR clL (fieldsR r).1).1 = v at *
                        generalize longR k = u at *
                        generalize (fieldsR r).1 = fl at *
                        rcases gd with gd | ⟨gd, g3⟩
                        · simp -implicitDefEqProofs (maxSteps := 2000000) (disch := omega) only [euphroeref16_Parse.s, I1, L, hsr, hq, k4, k6, gd, D, I2, I3, I4, I5, hq4, hd, List.length_cons, go_sem, reduceIte, Nat.reduceAdd, Nat.reduceSub, Nat.reduceMul, Nat.reduceLeDiff, Nat.reduceLT, Nat.reduceEqDiff, Int.reduceToNat, Int.reduceLT, Int.reduceLE, Int.reduceEq, Int.reduceNe, Int.reduceAdd, Int.reduceSub, Int.reduceMul, Int.reduceNeg, Int.reduceBEq, Int.reduceBNe, reduceCtorEq, dreduceIte, oWS, oW8, oW16, oW32, oW64, oLtT, oLtF, oLeT, oLeF, oNLtT, oNLtF, oNLeT, oNLeF, oEqT, oEqF, oNEqT, oNEqF, oBeqT, oBeqF, oBneT, oBneF, Int.natCast_add, List.take_length]
                        · simp -implicitDefEqProofs (maxSteps := 2000000) (disch := omega) only [euphroeref16_Parse.s, I1, L, hsr, hq, k4, k6, gd, g3, g32, D, I2, I3, I4, I5, hq4, hd, List.length_cons, go_sem, reduceIte, Nat.reduceAdd, Nat.reduceSub, Nat.reduceMul, Nat.reduceLeDiff, Nat.reduceLT, Nat.reduceEqDiff, Int.reduceToNat, Int.reduceLT, Int.reduceLE, Int.reduceEq, Int.reduceNe, Int.reduceAdd, Int.reduceSub, Int.reduceMul, Int.reduceNeg, Int.reduceBEq, Int.reduceBNe, reduceCtorEq, dreduceIte, oWS, oW8, oW16, oW32, oW64, oLtT, oLtF, oLeT, oLeF, oNLtT, oNLtF, oNLeT, oNLeF, oEqT, oEqF, oNEqT, oNEqF, oBeqT, oBeqF, oBneT, oBneF, Int.natCast_add, List.take_length]
                    · rw [if_neg c3]
                      simp only [fdO] at I4
                      generalize (findR clL (fieldsR r).1).1 = v at *
                      generalize (findR clL (fieldsR r).1).2 = e4 at *
                      generalize (fieldsR r).1 = fl at *
                      rcases gd with gd | ⟨gd, g3⟩
                      · simp -implicitDefEqProofs (maxSteps := 2000000) (disch := omega) only [euphroeref16_Parse.s, I1, L, hsr, hq, k4, k6, gd, D, I2, I3, I4, c3, hd, List.length_cons, go_sem, reduceIte, Nat.reduceAdd, Nat.reduceSub, Nat.reduceMul, Nat.reduceLeDiff, Nat.reduceLT, Nat.reduceEqDiff, Int.reduceToNat, Int.reduceLT, Int.reduceLE, Int.reduceEq, Int.reduceNe, Int.reduceAdd, Int.reduceSub, Int.reduceMul, Int.reduceNeg, Int.reduceBEq, Int.reduceBNe, reduceCtorEq, dreduceIte, oWS, oW8, oW16, oW32, oW64, oLtT, oLtF, oLeT, oLeF, oNLtT, oNLtF, oNLeT, oNLeF, oEqT, oEqF, oNEqT, oNEqF, oBeqT, oBeqF, oBneT, oBneF, Int.natCast_add, List.take_length]
                      · simp -implicitDefEqProofs (maxSteps := 2000000) (disch := omega) only [euphroeref16_Parse.s, I1, L, hsr, hq, k4, k6, gd, g3, g32, D, I2, I3, I4, c3, hd, List.length_cons, go_sem, reduceIte, Nat.reduceAdd, Nat.reduceSub, Nat.reduceMul, Nat.reduceLeDiff, Nat.reduceLT, Nat.reduceEqDiff, Int.reduceToNat, Int.reduceLT, Int.reduceLE, Int.reduceEq, Int.reduceNe, Int.reduceAdd, Int.reduceSub, Int.reduceMul, Int.reduceNeg, Int.reduceBEq, Int.reduceBNe, reduceCtorEq, dreduceIte, oWS, oW8, oW16, oW32, oW64, oLtT, oLtF, oLeT, oLeF, oNLtT, oNLtF, oNLeT, oNLeF, oEqT, oEqF, oNEqT, oNEqF, oBeqT, oBeqF, oBneT, oBneF, Int.natCast_add, List.take_length]
                  · rw [if_neg c2]
                    simp only [flO] at I3
                    generalize (fieldsR r).1 = fl at *
                    generalize (fieldsR r).2 = e3 at *
                    rcases gd with gd | ⟨gd, g3⟩
                    · simp -implicitDefEqProofs (maxSteps := 2000000) (disch := omega) only [euphroeref16_Parse.s, I1, L, hsr, hq, k4, k6, gd, D, I2, I3, c2, hd, List.length_cons, go_sem, reduceIte, Nat.reduceAdd, Nat.reduceSub, Nat.reduceMul, Nat.reduceLeDiff, Nat.reduceLT, Nat.reduceEqDiff, Int.reduceToNat, Int.reduceLT, Int.reduceLE, Int.reduceEq, Int.reduceNe, Int.reduceAdd, Int.reduceSub, Int.reduceMul, Int.reduceNeg, Int.reduceBEq, Int.reduceBNe, reduceCtorEq, dreduceIte, oWS, oW8, oW16, oW32, oW64, oLtT, oLtF, oLeT, oLeF, oNLtT, oNLtF, oNLeT, oNLeF, oEqT, oEqF, oNEqT, oNEqF, oBeqT, oBeqF, oBneT, oBneF, Int.natCast_add, List.take_length]
                    · simp -implicitDefEqProofs (maxSteps := 2000000) (disch := omega) only [euphroeref16_Parse.s, I1, L, hsr, hq, k4, k6, gd, g3, g32, D, I2, I3, c2, hd, List.length_cons, go_sem, reduceIte, Nat.reduceAdd, Nat.reduceSub, Nat.reduceMul, Nat.reduceLeDiff, Nat.reduceLT, Nat.reduceEqDiff, Int.reduceToNat, Int.reduceLT, Int.reduceLE, Int.reduceEq, Int.reduceNe, Int.reduceAdd, Int.reduceSub, Int.reduceMul, Int.reduceNeg, Int.reduceBEq, Int.reduceBNe, reduceCtorEq, dreduceIte, oWS, oW8, oW16, oW32, oW64, oLtT, oLtF, oLeT, oLeF, oNLtT, oNLtF, oNLeT, oNLeF, oEqT, oEqF, oNEqT, oNEqF, oBeqT, oBeqF, oBneT, oBneF, Int.natCast_add, List.take_length]
        · have hq : (a == [72, 84, 84, 80, 47, 49, 46, 49]) = false := by simpa using ha
          rw [parse2_line (lineR_ver hc ha) (by decide)]
          simp -implicitDefEqProofs (maxSteps := 2000000) (disch := omega) only [euphroeref16_Parse.s, I1, L, hsr, hq, k4, List.length_cons, go_sem, reduceIte, Nat.reduceAdd, Nat.reduceSub, Nat.reduceMul, Nat.reduceLeDiff, Nat.reduceLT, Nat.reduceEqDiff, Int.reduceToNat, Int.reduceLT, Int.reduceLE, Int.reduceEq, Int.reduceNe, Int.reduceAdd, Int.reduceSub, Int.reduceMul, Int.reduceNeg, Int.reduceBEq, Int.reduceBNe, reduceCtorEq, dreduceIte, oWS, oW8, oW16, oW32, oW64, oLtT, oLtF, oLeT, oLeF, oNLtT, oNLtF, oNLeT, oNLeF, oEqT, oEqF, oNEqT, oNEqF, oBeqT, oBeqF, oBneT, oBneF, Int.natCast_add, List.take_length]
  · rw [hr] at I1 ⊢
    have I1 : run G 31 [.v (.slc 1 (u8L b))] [] = some (.tup [.lin 1 [], .v (.int .i64 0), .v (.int .i64 e)], []) := I1
    have hne : ¬ e = 0 := by omega
    simp only
    rw [if_neg hne]
    simp -implicitDefEqProofs (maxSteps := 2000000) (disch := omega) only [euphroeref16_Parse.s, I1, hne, go_sem, reduceIte, Nat.reduceAdd, Nat.reduceSub, Nat.reduceMul, Nat.reduceLeDiff, Nat.reduceLT, Nat.reduceEqDiff, Int.reduceToNat, Int.reduceLT, Int.reduceLE, Int.reduceEq, Int.reduceNe, Int.reduceAdd, Int.reduceSub, Int.reduceMul, Int.reduceNeg, Int.reduceBEq, Int.reduceBNe, reduceCtorEq, dreduceIte, oWS, oW8, oW16, oW32, oW64, oLtT, oLtF, oLeT, oLeF, oNLtT, oNLtF, oNLeT, oNLeF, oEqT, oEqF, oNEqT, oNEqF, oBeqT, oBeqF, oBneT, oBneF, Int.natCast_add, List.take_length]
theorem a16 : run G 33 [] [] = some (.v (.bool true), []) := run_of (n := 150) (by kernel_rfl)
theorem httppParses (b : List UInt8) : run G 9 [.v (.slc 1 (u8L b))] [] = some (.v (.bool true), []) := by
  have A := a16
  have hub := u8L_len b
  rw [xq_fn G rfl euphroelaw16_HttppParses.g _ _ rfl]
  by_cases h : 3000 < b.length
  · simp -implicitDefEqProofs (maxSteps := 2000000) (disch := omega) only [euphroelaw16_HttppParses.s, A, hub, go_sem, reduceIte, Nat.reduceAdd, Nat.reduceSub, Nat.reduceMul, Nat.reduceLeDiff, Nat.reduceLT, Nat.reduceEqDiff, Int.reduceToNat, Int.reduceLT, Int.reduceLE, Int.reduceEq, Int.reduceNe, Int.reduceAdd, Int.reduceSub, Int.reduceMul, Int.reduceNeg, Int.reduceBEq, Int.reduceBNe, reduceCtorEq, dreduceIte, oWS, oW8, oW16, oW32, oW64, oLtT, oLtF, oLeT, oLeF, oNLtT, oNLtF, oNLeT, oNLeF, oEqT, oEqF, oNEqT, oNEqF, oBeqT, oBeqF, oBneT, oBneF, Int.natCast_add, List.take_length]
  have I1 := p_Parse b (by omega)
  have I2 := r_Parse b (by omega)
  obtain ⟨p, n, e⟩ := parseR b
  simp only [paO] at I1 I2
  simp -implicitDefEqProofs (maxSteps := 2000000) (disch := omega) only [euphroelaw16_HttppParses.s, A, hub, I1, I2, go_sem, reduceIte, Nat.reduceAdd, Nat.reduceSub, Nat.reduceMul, Nat.reduceLeDiff, Nat.reduceLT, Nat.reduceEqDiff, Int.reduceToNat, Int.reduceLT, Int.reduceLE, Int.reduceEq, Int.reduceNe, Int.reduceAdd, Int.reduceSub, Int.reduceMul, Int.reduceNeg, Int.reduceBEq, Int.reduceBNe, reduceCtorEq, dreduceIte, oWS, oW8, oW16, oW32, oW64, oLtT, oLtF, oLeT, oLeF, oNLtT, oNLtF, oNLeT, oNLeF, oEqT, oEqF, oNEqT, oNEqF, oBeqT, oBeqF, oBneT, oBneF, Int.natCast_add, List.take_length]
end Go.Q
