/- Words: what Trim, Number and Digits compute; the law WordsAre. No condition. -/
import Derived.Test.YtdcknpkednpckaaGreatDoorHa
set_option linter.all false
set_option maxRecDepth 100000
namespace Go.Q
open SOp SCode
attribute [local congr] bind_c map_c
abbrev blL : List UInt8 := [32, 9]
abbrev blB (b : UInt8) : Bool := blL.contains b
theorem blB_nat (b : UInt8) : blB b = decide ((b.toNat : Int) = 32 ∨ (b.toNat : Int) = 9) := by
  have key : ∀ n : Nat, n < 256 → blB (UInt8.ofNat n) = decide ((n : Int) = 32 ∨ (n : Int) = 9) := by decide +kernel
  have := key b.toNat b.toNat_lt
  simpa using this
theorem trimRB_cons (f : UInt8 → Bool) (a : UInt8) (s : List UInt8) : ((a :: s).reverse.dropWhile f).reverse = if (s.reverse.dropWhile f).reverse = [] ∧ f a = true then [] else a :: (s.reverse.dropWhile f).reverse := by
  rw [List.reverse_cons, List.dropWhile_append]
  by_cases h : s.reverse.dropWhile f = []
  · cases ha : f a <;> simp [h, ha, List.dropWhile]
  · have : (s.reverse.dropWhile f).isEmpty = false := by simpa using h
    simp [h, this]
theorem trim_comm (f : UInt8 → Bool) : ∀ s : List UInt8, ((s.dropWhile f).reverse.dropWhile f).reverse = ((s.reverse.dropWhile f).reverse).dropWhile f
  | [] => rfl
  | a :: s => by
    have ih := trim_comm f s
    rw [trimRB_cons f a s]
    cases ha : f a
    · have e : (a :: s).dropWhile f = a :: s := by simp [List.dropWhile, ha]
      rw [e, trimRB_cons f a s]
      simp [ha, List.dropWhile]
    · have e : (a :: s).dropWhile f = s.dropWhile f := by simp [List.dropWhile, ha]
      rw [e, ih]
      by_cases h : (s.reverse.dropWhile f).reverse = []
      · simp [h]
      · simp [h, ha, List.dropWhile]
def trimP (s : List UInt8) : List UInt8 := (trimRB blL s).dropWhile blB
theorem w_Trim (s : List UInt8) (h : s.length ≤ 100000) : run G 37 [.v (.str s)] [] = some (.v (.str (trimP s)), []) := by
  have I : run G 61 [.v (.str s), .v (.str [32, 9])] [] = some (.v (.str (trimP s)), []) := by
    rw [xq_prim G (f := 61) (F := primPure trimF) (by rfl)]
    have e : trimOkB [32, 9] s = true := by simp [trimOkB]; omega
    simp only [primPure, allV, Option.map_some, Option.bind_some, trimF, e, if_true]
    rfl
  rw [xq_fn G rfl words_Trim.g _ _ rfl]
  simp -implicitDefEqProofs (maxSteps := 2000000) (disch := omega) only [words_Trim.s, I, go_sem, reduceIte, Nat.reduceAdd, Nat.reduceSub, Nat.reduceMul, Nat.reduceLeDiff, Nat.reduceLT, Nat.reduceEqDiff, Int.reduceToNat, Int.reduceLT, Int.reduceLE, Int.reduceEq, Int.reduceNe, Int.reduceAdd, Int.reduceSub, Int.reduceMul, Int.reduceNeg, Int.reduceBEq, Int.reduceBNe, reduceCtorEq, dreduceIte, oWS, oW8, oW16, oW32, oW64, oLtT, oLtF, oLeT, oLeF, oNLtT, oNLtF, oNLeT, oNLeF, oEqT, oEqF, oNEqT, oNEqF, oBeqT, oBeqF, oBneT, oBneF, Int.natCast_add, List.take_length]
theorem r_blank (n : Int) : run G 64 [.v (.int .u8 n)] [] = some (.v (.bool (decide (n = 32 ∨ n = 9))), []) := by
  rw [xq_fn G rfl euphroeref14_blank.g _ _ rfl]
  by_cases h1 : n = 32
  · subst h1; simp -implicitDefEqProofs (maxSteps := 2000000) (disch := omega) only [euphroeref14_blank.s, go_sem, reduceIte, Nat.reduceAdd, Nat.reduceSub, Nat.reduceMul, Nat.reduceLeDiff, Nat.reduceLT, Nat.reduceEqDiff, Int.reduceToNat, Int.reduceLT, Int.reduceLE, Int.reduceEq, Int.reduceNe, Int.reduceAdd, Int.reduceSub, Int.reduceMul, Int.reduceNeg, Int.reduceBEq, Int.reduceBNe, reduceCtorEq, dreduceIte, oWS, oW8, oW16, oW32, oW64, oLtT, oLtF, oLeT, oLeF, oNLtT, oNLtF, oNLeT, oNLeF, oEqT, oEqF, oNEqT, oNEqF, oBeqT, oBeqF, oBneT, oBneF, Int.natCast_add, List.take_length]
  · by_cases h2 : n = 9
    · subst h2; simp -implicitDefEqProofs (maxSteps := 2000000) (disch := omega) only [euphroeref14_blank.s, go_sem, reduceIte, Nat.reduceAdd, Nat.reduceSub, Nat.reduceMul, Nat.reduceLeDiff, Nat.reduceLT, Nat.reduceEqDiff, Int.reduceToNat, Int.reduceLT, Int.reduceLE, Int.reduceEq, Int.reduceNe, Int.reduceAdd, Int.reduceSub, Int.reduceMul, Int.reduceNeg, Int.reduceBEq, Int.reduceBNe, reduceCtorEq, dreduceIte, oWS, oW8, oW16, oW32, oW64, oLtT, oLtF, oLeT, oLeF, oNLtT, oNLtF, oNLeT, oNLeF, oEqT, oEqF, oNEqT, oNEqF, oBeqT, oBeqF, oBneT, oBneF, Int.natCast_add, List.take_length]
    · simp -implicitDefEqProofs (maxSteps := 2000000) (disch := omega) only [euphroeref14_blank.s, h1, h2, go_sem, reduceIte, Nat.reduceAdd, Nat.reduceSub, Nat.reduceMul, Nat.reduceLeDiff, Nat.reduceLT, Nat.reduceEqDiff, Int.reduceToNat, Int.reduceLT, Int.reduceLE, Int.reduceEq, Int.reduceNe, Int.reduceAdd, Int.reduceSub, Int.reduceMul, Int.reduceNeg, Int.reduceBEq, Int.reduceBNe, reduceCtorEq, dreduceIte, oWS, oW8, oW16, oW32, oW64, oLtT, oLtF, oLeT, oLeF, oNLtT, oNLtF, oNLeT, oNLeF, oEqT, oEqF, oNEqT, oNEqF, oBeqT, oBeqF, oBneT, oBneF, Int.natCast_add, List.take_length]
theorem trimL_loop : ∀ (s : List UInt8), s.length ≤ 100000 → ex G (.loop [] euphroeref14_Trim.l0) [.v (.str s), .v (.str [])] [[]] = some (.exit 0, [.v (.str (s.dropWhile blB)), .v (.str [])], [[]])
  | [], _ => rnd_end (by simp -implicitDefEqProofs (maxSteps := 2000000) (disch := omega) only [euphroeref14_Trim.l0, List.dropWhile, go_sem, reduceIte, Nat.reduceAdd, Nat.reduceSub, Nat.reduceMul, Nat.reduceLeDiff, Nat.reduceLT, Nat.reduceEqDiff, Int.reduceToNat, Int.reduceLT, Int.reduceLE, Int.reduceEq, Int.reduceNe, Int.reduceAdd, Int.reduceSub, Int.reduceMul, Int.reduceNeg, Int.reduceBEq, Int.reduceBNe, reduceCtorEq, dreduceIte, oWS, oW8, oW16, oW32, oW64, oLtT, oLtF, oLeT, oLeF, oNLtT, oNLtF, oNLeT, oNLeF, oEqT, oEqF, oNEqT, oNEqF, oBeqT, oBeqF, oBneT, oBneF, Int.natCast_add, List.take_length])
  | a :: s, h => by
    have ih := trimL_loop s (by simp at h; omega)
    have hl : (a :: s).length = s.length + 1 := rfl
    have hx : (a :: s)[0]? = some a := rfl
    have I := r_blank a.toNat
    rw [← blB_nat] at I
    cases hb : blB a with
    | true =>
      rw [hb] at I
      have e : (a :: s).dropWhile blB = s.dropWhile blB := by simp only [List.dropWhile, hb]
      rw [e, ← ih]
      refine rnd_step ?_
      have hd : ((a :: s).take (s.length + 1)).drop 1 = s := by simp
      simp -implicitDefEqProofs (maxSteps := 2000000) (disch := omega) only [euphroeref14_Trim.l0, hl, hx, I, hd, go_sem, reduceIte, Nat.reduceAdd, Nat.reduceSub, Nat.reduceMul, Nat.reduceLeDiff, Nat.reduceLT, Nat.reduceEqDiff, Int.reduceToNat, Int.reduceLT, Int.reduceLE, Int.reduceEq, Int.reduceNe, Int.reduceAdd, Int.reduceSub, Int.reduceMul, Int.reduceNeg, Int.reduceBEq, Int.reduceBNe, reduceCtorEq, dreduceIte, oWS, oW8, oW16, oW32, oW64, oLtT, oLtF, oLeT, oLeF, oNLtT, oNLtF, oNLeT, oNLeF, oEqT, oEqF, oNEqT, oNEqF, oBeqT, oBeqF, oBneT, oBneF, Int.natCast_add, List.take_length]
    | false =>
      rw [hb] at I
      have e : (a :: s).dropWhile blB = a :: s := by simp only [List.dropWhile, hb]
      rw [e]
      refine rnd_end ?_
      simp -implicitDefEqProofs (maxSteps := 2000000) (disch := omega) only [euphroeref14_Trim.l0, hl, hx, I, go_sem, reduceIte, Nat.reduceAdd, Nat.reduceSub, Nat.reduceMul, Nat.reduceLeDiff, Nat.reduceLT, Nat.reduceEqDiff, Int.reduceToNat, Int.reduceLT, Int.reduceLE, Int.reduceEq, Int.reduceNe, Int.reduceAdd, Int.reduceSub, Int.reduceMul, Int.reduceNeg, Int.reduceBEq, Int.reduceBNe, reduceCtorEq, dreduceIte, oWS, oW8, oW16, oW32, oW64, oLtT, oLtF, oLeT, oLeF, oNLtT, oNLtF, oNLeT, oNLeF, oEqT, oEqF, oNEqT, oNEqF, oBeqT, oBeqF, oBneT, oBneF, Int.natCast_add, List.take_length]
theorem trimR_loop : ∀ (l : List UInt8), l.length ≤ 100000 → ex G (.loop [] euphroeref14_Trim.l1) [.v (.str l.reverse), .v (.str [])] [[]] = some (.exit 2, [.v (.str (l.dropWhile blB).reverse), .v (.str [])], [[]])
  | [], _ => rnd_end (by simp -implicitDefEqProofs (maxSteps := 2000000) (disch := omega) only [euphroeref14_Trim.l1, List.dropWhile, List.reverse_nil, go_sem, reduceIte, Nat.reduceAdd, Nat.reduceSub, Nat.reduceMul, Nat.reduceLeDiff, Nat.reduceLT, Nat.reduceEqDiff, Int.reduceToNat, Int.reduceLT, Int.reduceLE, Int.reduceEq, Int.reduceNe, Int.reduceAdd, Int.reduceSub, Int.reduceMul, Int.reduceNeg, Int.reduceBEq, Int.reduceBNe, reduceCtorEq, dreduceIte, oWS, oW8, oW16, oW32, oW64, oLtT, oLtF, oLeT, oLeF, oNLtT, oNLtF, oNLeT, oNLeF, oEqT, oEqF, oNEqT, oNEqF, oBeqT, oBeqF, oBneT, oBneF, Int.natCast_add, List.take_length])
  | a :: l, h => by
    have ih := trimR_loop l (by simp at h; omega)
    have hlen : l.length ≤ 100000 := by simp at h; omega
    have hl : (a :: l).reverse.length = l.length + 1 := by simp
    have hx : (a :: l).reverse[l.length]? = some a := by simp
    have I := r_blank a.toNat
    rw [← blB_nat] at I
    have hd : (a :: l).reverse.take l.length = l.reverse := by simp
    have e1 : ((l.length : Int) + 1 - 1).toNat = l.length := by omega
    generalize hs : (a :: l).reverse = s at *
    cases hb : blB a with
    | true =>
      rw [hb] at I
      have e : (a :: l).dropWhile blB = l.dropWhile blB := by simp only [List.dropWhile, hb]
      rw [e, ← ih]
      refine rnd_step ?_
      simp -implicitDefEqProofs (maxSteps := 2000000) (disch := omega) only [euphroeref14_Trim.l1, hl, e1, hx, I, hd, go_sem, reduceIte, Nat.reduceAdd, Nat.reduceSub, Nat.reduceMul, Nat.reduceLeDiff, Nat.reduceLT, Nat.reduceEqDiff, Int.reduceToNat, Int.reduceLT, Int.reduceLE, Int.reduceEq, Int.reduceNe, Int.reduceAdd, Int.reduceSub, Int.reduceMul, Int.reduceNeg, Int.reduceBEq, Int.reduceBNe, reduceCtorEq, dreduceIte, oWS, oW8, oW16, oW32, oW64, oLtT, oLtF, oLeT, oLeF, oNLtT, oNLtF, oNLeT, oNLeF, oEqT, oEqF, oNEqT, oNEqF, oBeqT, oBeqF, oBneT, oBneF, Int.natCast_add, List.take_length]
    | false =>
      rw [hb] at I
      have e : (a :: l).dropWhile blB = a :: l := by simp only [List.dropWhile, hb]
      rw [e, hs]
      refine rnd_end ?_
      simp -implicitDefEqProofs (maxSteps := 2000000) (disch := omega) only [euphroeref14_Trim.l1, hl, e1, hx, I, go_sem, reduceIte, Nat.reduceAdd, Nat.reduceSub, Nat.reduceMul, Nat.reduceLeDiff, Nat.reduceLT, Nat.reduceEqDiff, Int.reduceToNat, Int.reduceLT, Int.reduceLE, Int.reduceEq, Int.reduceNe, Int.reduceAdd, Int.reduceSub, Int.reduceMul, Int.reduceNeg, Int.reduceBEq, Int.reduceBNe, reduceCtorEq, dreduceIte, oWS, oW8, oW16, oW32, oW64, oLtT, oLtF, oLeT, oLeF, oNLtT, oNLtF, oNLeT, oNLeF, oEqT, oEqF, oNEqT, oNEqF, oBeqT, oBeqF, oBneT, oBneF, Int.natCast_add, List.take_length]
theorem dropWhile_le (f : UInt8 → Bool) : ∀ s : List UInt8, (s.dropWhile f).length ≤ s.length
  | [] => Nat.le_refl _
  | a :: s => by
    have := dropWhile_le f s
    simp only [List.dropWhile]
    split <;> simp <;> omega
theorem r_Trim (s : List UInt8) (h : s.length ≤ 100000) : run G 42 [.v (.str s)] [] = some (.v (.str (trimP s)), []) := by
  have L1 := trimL_loop s h
  have hd := dropWhile_le blB s
  have L2 := trimR_loop (s.dropWhile blB).reverse (by rw [List.length_reverse]; omega)
  rw [List.reverse_reverse, trim_comm blB s] at L2
  have L2 : ex G (.loop [] euphroeref14_Trim.l1) [.v (.str (s.dropWhile blB)), .v (.str [])] [[]] = some (.exit 2, [.v (.str (trimP s)), .v (.str [])], [[]]) := L2
  rw [xq_fn G rfl euphroeref14_Trim.g _ _ rfl]
  simp -implicitDefEqProofs (maxSteps := 2000000) (disch := omega) only [euphroeref14_Trim.s, L1, L2, go_sem, reduceIte, Nat.reduceAdd, Nat.reduceSub, Nat.reduceMul, Nat.reduceLeDiff, Nat.reduceLT, Nat.reduceEqDiff, Int.reduceToNat, Int.reduceLT, Int.reduceLE, Int.reduceEq, Int.reduceNe, Int.reduceAdd, Int.reduceSub, Int.reduceMul, Int.reduceNeg, Int.reduceBEq, Int.reduceBNe, reduceCtorEq, dreduceIte, oWS, oW8, oW16, oW32, oW64, oLtT, oLtF, oLeT, oLeF, oNLtT, oNLtF, oNLeT, oNLeF, oEqT, oEqF, oNEqT, oNEqF, oBeqT, oBeqF, oBneT, oBneF, Int.natCast_add, List.take_length]
abbrev digB (b : UInt8) : Bool := decide (48 ≤ b.toNat ∧ b.toNat ≤ 57)
def badN (s : List UInt8) : Bool := decide (s = []) || (decide (1 < s.length) && decide (s[0]? = some 48))
def numV (s : List UInt8) : Nat := (digV s 0).getD 0
theorem digV_all : ∀ (s : List UInt8) (n : Nat), s.all digB = true → ∃ m, digV s n = some m
  | [], n, _ => ⟨n, rfl⟩
  | b :: s, n, h => by
    simp only [List.all_cons, Bool.and_eq_true, decide_eq_true_eq] at h
    simp only [digV]
    rw [if_pos h.1]
    exact digV_all s _ h.2
def numR (s : List UInt8) : Int × Int := if badN s = true then (0, 3) else if s.all digB = true then (if numV s < 18446744073709551616 then (numV s, 0) else (0, 8)) else (0, 3)
abbrev nuE (s : List UInt8) (i : Nat) : List D := [.v (.str s), .v (.int .u64 0), .v (.int .i64 0), .v (.int .i64 s.length), .v (.int .i64 i), .undef, .undef, .undef]
theorem hd0 (s : List UInt8) (h : s ≠ []) : ∃ b, s[0]? = some b ∧ (badN s = true ↔ (1 < s.length ∧ (b.toNat : Int) = 48)) := by
  cases s with
  | nil => exact absurd rfl h
  | cons b s =>
    refine ⟨b, rfl, ?_⟩
    have e : (b = 48) ↔ ((b.toNat : Int) = 48) := ⟨fun e => by subst e; rfl, fun e => UInt8.toNat_inj.1 (by show b.toNat = 48; omega)⟩
    simp [badN, e]
def refS : List UInt8 → Nat × Bool → Nat × Bool
  | [], q => q
  | b :: r, q => refS r (if (18446744073709551615 - (b.toNat - 48)) / 10 < q.1 then (q.1, true) else (10 * q.1 + (b.toNat - 48), q.2))
theorem refS_app : ∀ (a b : List UInt8) (q : Nat × Bool), refS (a ++ b) q = refS b (refS a q)
  | [], _, _ => rfl
  | x :: a, b, q => refS_app a b _
theorem refS_le : ∀ (l : List UInt8) (q : Nat × Bool), l.all digB = true → q.1 ≤ 18446744073709551615 → (refS l q).1 ≤ 18446744073709551615
  | [], q, _, h => h
  | b :: r, q, hd, h => by
    simp only [List.all_cons, Bool.and_eq_true, decide_eq_true_eq] at hd
    refine refS_le r _ hd.2 ?_
    split
    · exact h
    · show 10 * q.1 + (b.toNat - 48) ≤ _
      omega
theorem refS_big : ∀ (l : List UInt8) (n : Nat), (refS l (n, true)).2 = true
  | [], _ => rfl
  | b :: r, n => by
    simp only [refS]
    split <;> exact refS_big r _
theorem digV_ge : ∀ (l : List UInt8) (n m : Nat), digV l n = some m → n ≤ m
  | [], n, m, h => by cases h; exact Nat.le_refl _
  | b :: r, n, m, h => by
    simp only [digV] at h
    split at h <;> first | (cases h; done) | skip
    have := digV_ge r _ m h
    omega
theorem refS_spec : ∀ (l : List UInt8) (n m : Nat), l.all digB = true → n ≤ 18446744073709551615 → digV l n = some m → (m < 18446744073709551616 → refS l (n, false) = (m, false)) ∧ (¬ m < 18446744073709551616 → (refS l (n, false)).2 = true)
  | [], n, m, _, h, e => by
    cases e
    exact ⟨fun _ => rfl, fun hh => by omega⟩
  | b :: r, n, m, hd, h, e => by
    simp only [List.all_cons, Bool.and_eq_true, decide_eq_true_eq] at hd
    simp only [digV] at e
    rw [if_pos hd.1] at e
    have hge := digV_ge r _ m e
    simp only [refS]
    by_cases hb : (18446744073709551615 - (b.toNat - 48)) / 10 < n
    · rw [if_pos hb]
      exact ⟨fun hh => by omega, fun _ => refS_big r _⟩
    · rw [if_neg hb]
      have ec : 10 * n + (b.toNat - 48) = n * 10 + (b.toNat - 48) := by omega
      rw [ec]
      exact refS_spec r _ m hd.2 (by omega) e
abbrev ruE (s : List UInt8) (q : Nat × Bool) (i : Nat) : List D := [.v (.str s), .v (.int .u64 0), .v (.int .i64 0), .v (.int .u64 (q.1 : Int)), .v (.bool q.2), .v (.int .i64 i), .undef]
theorem refS_take {s : List UInt8} {i : Nat} (hi : i < s.length) : refS (s.take (i + 1)) (0, false) = (if (18446744073709551615 - (s[i].toNat - 48)) / 10 < (refS (s.take i) (0, false)).1 then ((refS (s.take i) (0, false)).1, true) else (10 * (refS (s.take i) (0, false)).1 + (s[i].toNat - 48), (refS (s.take i) (0, false)).2)) := by
  rw [take_succ hi, refS_app]; rfl
theorem all_take {s : List UInt8} {f : UInt8 → Bool} {j : Nat} (h : ∀ i (h : i < s.length), i < j → f s[i] = true) : (s.take j).all f = true := by
  rw [List.all_eq_true]
  intro x hx
  obtain ⟨i, hi, rfl⟩ := List.getElem_of_mem hx
  simp at hi
  rw [List.getElem_take]
  exact h i (by omega) (by omega)
end Go.Q
