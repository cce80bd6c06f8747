/- Words: what Trim, Number and Digits compute; the law WordsAre. No condition. -/
import Derived.Test.YtaakegacmjnmoaaDoorHa
set_option linter.all false
set_option maxRecDepth 100000
namespace Go.Q
open SOp SCode
attribute [local congr] bind_c map_c
abbrev blL : List UInt8 := [32, 9]
abbrev blB (b : UInt8) : Bool := blL.contains b
theorem blB_nat (b : UInt8) : blB b = decide ((b.toNat : Int) = 32 ∨ (b.toNat : Int) = 9) := by
  have key : ∀ n : Nat, n < 256 → blB (UInt8.ofNat n) = decide ((n : Int) = 32 ∨ (n : Int) = 9) := by decide +kernel
  have := key b.toNat b.toNat_lt
  simpa using this
theorem trimRB_cons (f : UInt8 → Bool) (a : UInt8) (s : List UInt8) : ((a :: s).reverse.dropWhile f).reverse = if (s.reverse.dropWhile f).reverse = [] ∧ f a = true then [] else a :: (s.reverse.dropWhile f).reverse := by
  rw [List.reverse_cons, List.dropWhile_append]
  by_cases h : s.reverse.dropWhile f = []
  · cases ha : f a <;> simp [h, ha, List.dropWhile]
  · have : (s.reverse.dropWhile f).isEmpty = false := by simpa using h
    simp [h, this]
theorem trim_comm (f : UInt8 → Bool) : ∀ s : List UInt8, ((s.dropWhile f).reverse.dropWhile f).reverse = ((s.reverse.dropWhile f).reverse).dropWhile f
  | [] => rfl
  | a :: s => by
    have ih := trim_comm f s
    rw [trimRB_cons f a s]
    cases ha : f a
    · have e : (a :: s).dropWhile f = a :: s := by simp [List.dropWhile, ha]
      rw [e, trimRB_cons f a s]
      simp [ha, List.dropWhile]
    · have e : (a :: s).dropWhile f = s.dropWhile f := by simp [List.dropWhile, ha]
      rw [e, ih]
      by_cases h : (s.reverse.dropWhile f).reverse = []
      · simp [h]
      · simp [h, ha, List.dropWhile]
def trimP (s : List UInt8) : List UInt8 := (trimRB blL s).dropWhile blB
theorem w_Trim (s : List UInt8) (h : s.length ≤ 100000) : run G 28 [.v (.str s)] [] = some (.v (.str (trimP s)), []) := by
  have I : run G 57 [.v (.str s), .v (.str [32, 9])] [] = some (.v (.str (trimP s)), []) := by
    rw [xq_prim G (f := 57) (F := primPure trimF) (by rfl)]
    have e : trimOkB [32, 9] s = true := by simp [trimOkB]; omega
    simp only [primPure, allV, Option.map_some, Option.bind_some, trimF, e, if_true]
    rfl
  rw [xq_fn G rfl words_Trim.g _ _ rfl]
  simp -implicitDefEqProofs (maxSteps := 2000000) (disch := omega) only [words_Trim.s, I, go_sem, reduceIte, Nat.reduceAdd, Nat.reduceSub, Nat.reduceMul, Nat.reduceLeDiff, Nat.reduceLT, Nat.reduceEqDiff, Int.reduceToNat, Int.reduceLT, Int.reduceLE, Int.reduceEq, Int.reduceNe, Int.reduceAdd, Int.reduceSub, Int.reduceMul, Int.reduceNeg, Int.reduceBEq, Int.reduceBNe, reduceCtorEq, dreduceIte, oWS, oW8, oW16, oW32, oW64, oLtT, oLtF, oLeT, oLeF, oNLtT, oNLtF, oNLeT, oNLeF, oEqT, oEqF, oNEqT, oNEqF, oBeqT, oBeqF, oBneT, oBneF, Int.natCast_add, List.take_length]
theorem r_blank (n : Int) : run G 58 [.v (.int .u8 n)] [] = some (.v (.bool (decide (n = 32 ∨ n = 9))), []) := by
  rw [xq_fn G rfl euphroeref14_blank.g _ _ rfl]
  by_cases h1 : n = 32
  · subst h1; simp -implicitDefEqProofs (maxSteps := 2000000) (disch := omega) only [euphroeref14_blank.s, go_sem, reduceIte, Nat.reduceAdd, Nat.reduceSub, Nat.reduceMul, Nat.reduceLeDiff, Nat.reduceLT, Nat.reduceEqDiff, Int.reduceToNat, Int.reduceLT, Int.reduceLE, Int.reduceEq, Int.reduceNe, Int.reduceAdd, Int.reduceSub, Int.reduceMul, Int.reduceNeg, Int.reduceBEq, Int.reduceBNe, reduceCtorEq, dreduceIte, oWS, oW8, oW16, oW32, oW64, oLtT, oLtF, oLeT, oLeF, oNLtT, oNLtF, oNLeT, oNLeF, oEqT, oEqF, oNEqT, oNEqF, oBeqT, oBeqF, oBneT, oBneF, Int.natCast_add, List.take_length]
  · by_cases h2 : n = 9
    · subst h2; simp -implicitDefEqProofs (maxSteps := 2000000) (disch := omega) only [euphroeref14_blank.s, go_sem, reduceIte, Nat.reduceAdd, Nat.reduceSub, Nat.reduceMul, Nat.reduceLeDiff, Nat.reduceLT, Nat.reduceEqDiff, Int.reduceToNat, Int.reduceLT, Int.reduceLE, Int.reduceEq, Int.reduceNe, Int.reduceAdd, Int.reduceSub, Int.reduceMul, Int.reduceNeg, Int.reduceBEq, Int.reduceBNe, reduceCtorEq, dreduceIte, oWS, oW8, oW16, oW32, oW64, oLtT, oLtF, oLeT, oLeF, oNLtT, oNLtF, oNLeT, oNLeF, oEqT, oEqF, oNEqT, oNEqF, oBeqT, oBeqF, oBneT, oBneF, Int.natCast_add, List.take_length]
    · simp -implicitDefEqProofs (maxSteps := 2000000) (disch := omega) only [euphroeref14_blank.s, h1, h2, go_sem, reduceIte, Nat.reduceAdd, Nat.reduceSub, Nat.reduceMul, Nat.reduceLeDiff, Nat.reduceLT, Nat.reduceEqDiff, Int.reduceToNat, Int.reduceLT, Int.reduceLE, Int.reduceEq, Int.reduceNe, Int.reduceAdd, Int.reduceSub, Int.reduceMul, Int.reduceNeg, Int.reduceBEq, Int.reduceBNe, reduceCtorEq, dreduceIte, oWS, oW8, oW16, oW32, oW64, oLtT, oLtF, oLeT, oLeF, oNLtT, oNLtF, oNLeT, oNLeF, oEqT, oEqF, oNEqT, oNEqF, oBeqT, oBeqF, oBneT, oBneF, Int.natCast_add, List.take_length]
theorem trimL_loop : ∀ (s : List UInt8), s.length ≤ 100000 → ex G (.loop [] euphroeref14_Trim.l0) [.v (.str s), .v (.str [])] [[]] = some (.exit 0, [.v (.str (s.dropWhile blB)), .v (.str [])], [[]])
  | [], _ => rnd_end (by simp -implicitDefEqProofs (maxSteps := 2000000) (disch := omega) only [euphroeref14_Trim.l0, List.dropWhile, go_sem, reduceIte, Nat.reduceAdd, Nat.reduceSub, Nat.reduceMul, Nat.reduceLeDiff, Nat.reduceLT, Nat.reduceEqDiff, Int.reduceToNat, Int.reduceLT, Int.reduceLE, Int.reduceEq, Int.reduceNe, Int.reduceAdd, Int.reduceSub, Int.reduceMul, Int.reduceNeg, Int.reduceBEq, Int.reduceBNe, reduceCtorEq, dreduceIte, oWS, oW8, oW16, oW32, oW64, oLtT, oLtF, oLeT, oLeF, oNLtT, oNLtF, oNLeT, oNLeF, oEqT, oEqF, oNEqT, oNEqF, oBeqT, oBeqF, oBneT, oBneF, Int.natCast_add, List.take_length])
  | a :: s, h => by
    have ih := trimL_loop s (by simp at h; omega)
    have hl : (a :: s).length = s.length + 1 := rfl
    have hx : (a :: s)[0]? = some a := rfl
    have I := r_blank a.toNat
    rw [← blB_nat] at I
    cases hb : blB a with
    | true =>
      rw [hb] at I
      have e : (a :: s).dropWhile blB = s.dropWhile blB := by simp only [List.dropWhile, hb]
      rw [e, ← ih]
      refine rnd_step ?_
      have hd : ((a :: s).take (s.length + 1)).drop 1 = s := by simp
      simp -implicitDefEqProofs (maxSteps := 2000000) (disch := omega) only [euphroeref14_Trim.l0, hl, hx, I, hd, go_sem, reduceIte, Nat.reduceAdd, Nat.reduceSub, Nat.reduceMul, Nat.reduceLeDiff, Nat.reduceLT, Nat.reduceEqDiff, Int.reduceToNat, Int.reduceLT, Int.reduceLE, Int.reduceEq, Int.reduceNe, Int.reduceAdd, Int.reduceSub, Int.reduceMul, Int.reduceNeg, Int.reduceBEq, Int.reduceBNe, reduceCtorEq, dreduceIte, oWS, oW8, oW16, oW32, oW64, oLtT, oLtF, oLeT, oLeF, oNLtT, oNLtF, oNLeT, oNLeF, oEqT, oEqF, oNEqT, oNEqF, oBeqT, oBeqF, oBneT, oBneF, Int.natCast_add, List.take_length]
    | false =>
      rw [hb] at I
      have e : (a :: s).dropWhile blB = a :: s := by simp only [List.dropWhile, hb]
      rw [e]
      refine rnd_end ?_
      simp -implicitDefEqProofs (maxSteps := 2000000) (disch := omega) only [euphroeref14_Trim.l0, hl, hx, I, go_sem, reduceIte, Nat.reduceAdd, Nat.reduceSub, Nat.reduceMul, Nat.reduceLeDiff, Nat.reduceLT, Nat.reduceEqDiff, Int.reduceToNat, Int.reduceLT, Int.reduceLE, Int.reduceEq, Int.reduceNe, Int.reduceAdd, Int.reduceSub, Int.reduceMul, Int.reduceNeg, Int.reduceBEq, Int.reduceBNe, reduceCtorEq, dreduceIte, oWS, oW8, oW16, oW32, oW64, oLtT, oLtF, oLeT, oLeF, oNLtT, oNLtF, oNLeT, oNLeF, oEqT, oEqF, oNEqT, oNEqF, oBeqT, oBeqF, oBneT, oBneF, Int.natCast_add, List.take_length]
theorem trimR_loop : ∀ (l : List UInt8), l.length ≤ 100000 → ex G (.loop [] euphroeref14_Trim.l1) [.v (.str l.reverse), .v (.str [])] [[]] = some (.exit 2, [.v (.str (l.dropWhile blB).reverse), .v (.str [])], [[]])
  | [], _ => rnd_end (by simp -implicitDefEqProofs (maxSteps := 2000000) (disch := omega) only [euphroeref14_Trim.l1, List.dropWhile, List.reverse_nil, go_sem, reduceIte, Nat.reduceAdd, Nat.reduceSub, Nat.reduceMul, Nat.reduceLeDiff, Nat.reduceLT, Nat.reduceEqDiff, Int.reduceToNat, Int.reduceLT, Int.reduceLE, Int.reduceEq, Int.reduceNe, Int.reduceAdd, Int.reduceSub, Int.reduceMul, Int.reduceNeg, Int.reduceBEq, Int.reduceBNe, reduceCtorEq, dreduceIte, oWS, oW8, oW16, oW32, oW64, oLtT, oLtF, oLeT, oLeF, oNLtT, oNLtF, oNLeT, oNLeF, oEqT, oEqF, oNEqT, oNEqF, oBeqT, oBeqF, oBneT, oBneF, Int.natCast_add, List.take_length])
  | a :: l, h => by
    have ih := trimR_loop l (by simp at h; omega)
    have hlen : l.length ≤ 100000 := by simp at h; omega
    have hl : (a :: l).reverse.length = l.length + 1 := by simp
    have hx : (a :: l).reverse[l.length]? = some a := by simp
    have I := r_blank a.toNat
    rw [← blB_nat] at I
    have hd : (a :: l).reverse.take l.length = l.reverse := by simp
    have e1 : ((l.length : Int) + 1 - 1).toNat = l.length := by omega
    generalize hs : (a :: l).reverse = s at *
    cases hb : blB a with
    | true =>
      rw [hb] at I
      have e : (a :: l).dropWhile blB = l.dropWhile blB := by simp only [List.dropWhile, hb]
      rw [e, ← ih]
      refine rnd_step ?_
      simp -implicitDefEqProofs (maxSteps := 2000000) (disch := omega) only [euphroeref14_Trim.l1, hl, e1, hx, I, hd, go_sem, reduceIte, Nat.reduceAdd, Nat.reduceSub, Nat.reduceMul, Nat.reduceLeDiff, Nat.reduceLT, Nat.reduceEqDiff, Int.reduceToNat, Int.reduceLT, Int.reduceLE, Int.reduceEq, Int.reduceNe, Int.reduceAdd, Int.reduceSub, Int.reduceMul, Int.reduceNeg, Int.reduceBEq, Int.reduceBNe, reduceCtorEq, dreduceIte, oWS, oW8, oW16, oW32, oW64, oLtT, oLtF, oLeT, oLeF, oNLtT, oNLtF, oNLeT, oNLeF, oEqT, oEqF, oNEqT, oNEqF, oBeqT, oBeqF, oBneT, oBneF, Int.natCast_add, List.take_length]
    | false =>
      rw [hb] at I
      have e : (a :: l).dropWhile blB = a :: l := by simp only [List.dropWhile, hb]
      rw [e, hs]
      refine rnd_end ?_
      simp -implicitDefEqProofs (maxSteps := 2000000) (disch := omega) only [euphroeref14_Trim.l1, hl, e1, hx, I, go_sem, reduceIte, Nat.reduceAdd, Nat.reduceSub, Nat.reduceMul, Nat.reduceLeDiff, Nat.reduceLT, Nat.reduceEqDiff, Int.reduceToNat, Int.reduceLT, Int.reduceLE, Int.reduceEq, Int.reduceNe, Int.reduceAdd, Int.reduceSub, Int.reduceMul, Int.reduceNeg, Int.reduceBEq, Int.reduceBNe, reduceCtorEq, dreduceIte, oWS, oW8, oW16, oW32, oW64, oLtT, oLtF, oLeT, oLeF, oNLtT, oNLtF, oNLeT, oNLeF, oEqT, oEqF, oNEqT, oNEqF, oBeqT, oBeqF, oBneT, oBneF, Int.natCast_add, List.take_length]
theorem dropWhile_le (f : UInt8 → Bool) : ∀ s : List UInt8, (s.dropWhile f).length ≤ s.length
  | [] => Nat.le_refl _
  | a :: s => by
    have := dropWhile_le f s
    simp only [List.dropWhile]
    split <;> simp <;> omega
theorem r_Trim (s : List UInt8) (h : s.length ≤ 100000) : run G 29 [.v (.str s)] [] = some (.v (.str (trimP s)), []) := by
  have L1 := trimL_loop s h
  have hd := dropWhile_le blB s
  have L2 := trimR_loop (s.dropWhile blB).reverse (by rw [List.length_reverse]; omega)
  rw [List.reverse_reverse, trim_comm blB s] at L2
  have L2 : ex G (.loop [] euphroeref14_Trim.l1) [.v (.str (s.dropWhile blB)), .v (.str [])] [[]] = some (.exit 2, [.v (.str (trimP s)), .v (.str [])], [[]]) := L2
  rw [xq_fn G rfl euphroeref14_Trim.g _ _ rfl]
  simp -implicitDefEqProofs (maxSteps := 2000000) (disch := omega) only [euphroeref14_Trim.s, L1, L2, go_sem, reduceIte, Nat.reduceAdd, Nat.reduceSub, Nat.reduceMul, Nat.reduceLeDiff, Nat.reduceLT, Nat.reduceEqDiff, Int.reduceToNat, Int.reduceLT, Int.reduceLE, Int.reduceEq, Int.reduceNe, Int.reduceAdd, Int.reduceSub, Int.reduceMul, Int.reduceNeg, Int.reduceBEq, Int.reduceBNe, reduceCtorEq, dreduceIte, oWS, oW8, oW16, oW32, oW64, oLtT, oLtF, oLeT, oLeF, oNLtT, oNLtF, oNLeT, oNLeF, oEqT, oEqF, oNEqT, oNEqF, oBeqT, oBeqF, oBneT, oBneF, Int.natCast_add, List.take_length]
abbrev digB (b : UInt8) : Bool := decide (48 ≤ b.toNat ∧ b.toNat ≤ 57)
def badN (s : List UInt8) : Bool := decide (s = []) || (decide (1 < s.length) && decide (s[0]? = some 48))
def numV (s : List UInt8) : Nat := (digV s 0).getD 0
theorem digV_all : ∀ (s : List UInt8) (n : Nat), s.all digB = true → ∃ m, digV s n = some m
  | [], n, _ => ⟨n, rfl⟩
  | b :: s, n, h => by
    simp only [List.all_cons, Bool.and_eq_true, decide_eq_true_eq] at h
    simp only [digV]
    rw [if_pos h.1]
    exact digV_all s _ h.2
def numR (s : List UInt8) : Int × Int := if badN s = true then (0, 3) else if s.all digB = true then (if numV s < 18446744073709551616 then (numV s, 0) else (0, 8)) else (0, 3)
theorem p_uint (s : List UInt8) (h : s.length ≤ 100000) (hn : s ≠ []) (hd : s.all digB = true) : run G 53 [.v (.str s), .v (.int .i64 10), .v (.int .i64 64)] [] =
    some (if numV s < 18446744073709551616 then .tup [.v (.int .u64 (numV s)), .v .nili] else .tup [.v (.int .u64 18446744073709551615), .ifc 140 .undef], []) := by
  rw [xq_prim G (f := 53) (F := primPure (puintF 140)) (by rfl)]
  obtain ⟨m, hm⟩ := digV_all s 0 hd
  simp only [primPure, allV, Option.map_some, Option.bind_some, puintF]
  have hc : True ∧ True ∧ s ≠ [] ∧ s.length ≤ 281474976710656 := ⟨trivial, trivial, hn, by omega⟩
  rw [if_pos hc, hm, numV, hm]
  rfl
abbrev nuE (s : List UInt8) (i : Nat) : List D := [.v (.str s), .v (.int .u64 0), .v (.int .i64 0), .v (.int .i64 s.length), .v (.int .i64 i), .undef, .undef, .undef]
theorem hd0 (s : List UInt8) (h : s ≠ []) : ∃ b, s[0]? = some b ∧ (badN s = true ↔ (1 < s.length ∧ (b.toNat : Int) = 48)) := by
  cases s with
  | nil => exact absurd rfl h
  | cons b s =>
    refine ⟨b, rfl, ?_⟩
    have e : (b = 48) ↔ ((b.toNat : Int) = 48) := ⟨fun e => by subst e; rfl, fun e => UInt8.toNat_inj.1 (by show b.toNat = 48; omega)⟩
    simp [badN, e]
theorem w_Number (s : List UInt8) (h : s.length ≤ 100000) : run G 20 [.v (.str s)] [] = some (.tup [.v (.int .u64 (numR s).1), .v (.int .i64 (numR s).2)], []) := by
  rw [xq_fn G rfl words_Number.g _ _ rfl]
  unfold numR
  by_cases h0 : s = []
  · subst h0
    have hnil : (([] : List UInt8) == []) = true := rfl
    simp -implicitDefEqProofs (maxSteps := 2000000) (disch := omega) only [words_Number.s, hnil, go_sem, reduceIte, Nat.reduceAdd, Nat.reduceSub, Nat.reduceMul, Nat.reduceLeDiff, Nat.reduceLT, Nat.reduceEqDiff, Int.reduceToNat, Int.reduceLT, Int.reduceLE, Int.reduceEq, Int.reduceNe, Int.reduceAdd, Int.reduceSub, Int.reduceMul, Int.reduceNeg, Int.reduceBEq, Int.reduceBNe, reduceCtorEq, dreduceIte, oWS, oW8, oW16, oW32, oW64, oLtT, oLtF, oLeT, oLeF, oNLtT, oNLtF, oNLeT, oNLeF, oEqT, oEqF, oNEqT, oNEqF, oBeqT, oBeqF, oBneT, oBneF, Int.natCast_add, List.take_length]
    rfl
  have hne : (s == ([] : List UInt8)) = false := by simpa using h0
  have hpos : 0 < s.length := List.length_pos_iff.2 h0
  obtain ⟨b, hx, hb⟩ := hd0 s h0
  cases hbad : badN s with
  | true =>
    obtain ⟨h1, h2⟩ := hb.1 hbad
    simp -implicitDefEqProofs (maxSteps := 2000000) (disch := omega) only [words_Number.s, hne, hx, h2, go_sem, reduceIte, Nat.reduceAdd, Nat.reduceSub, Nat.reduceMul, Nat.reduceLeDiff, Nat.reduceLT, Nat.reduceEqDiff, Int.reduceToNat, Int.reduceLT, Int.reduceLE, Int.reduceEq, Int.reduceNe, Int.reduceAdd, Int.reduceSub, Int.reduceMul, Int.reduceNeg, Int.reduceBEq, Int.reduceBNe, reduceCtorEq, dreduceIte, oWS, oW8, oW16, oW32, oW64, oLtT, oLtF, oLeT, oLeF, oNLtT, oNLtF, oNLeT, oNLeF, oEqT, oEqF, oNEqT, oNEqF, oBeqT, oBeqF, oBneT, oBneF, Int.natCast_add, List.take_length]
  | false =>
    have hc : ¬ (1 < s.length ∧ (b.toNat : Int) = 48) := fun hh => by rw [hb.2 hh] at hbad; cases hbad
    have step : ∀ i, (hi : i < s.length) → digB s[i] = true → rndE G [5] words_Number.l0 (nuE s i) [[]] = some (.inl (nuE s (i + 1), [[]])) := fun i hi ht => by
      have hx : s[i]? = some s[i] := List.getElem?_eq_getElem hi
      simp only [decide_eq_true_eq] at ht
      simp -implicitDefEqProofs (maxSteps := 2000000) (disch := omega) only [words_Number.l0, hx, nuE, go_sem, reduceIte, Nat.reduceAdd, Nat.reduceSub, Nat.reduceMul, Nat.reduceLeDiff, Nat.reduceLT, Nat.reduceEqDiff, Int.reduceToNat, Int.reduceLT, Int.reduceLE, Int.reduceEq, Int.reduceNe, Int.reduceAdd, Int.reduceSub, Int.reduceMul, Int.reduceNeg, Int.reduceBEq, Int.reduceBNe, reduceCtorEq, dreduceIte, oWS, oW8, oW16, oW32, oW64, oLtT, oLtF, oLeT, oLeF, oNLtT, oNLtF, oNLeT, oNLeF, oEqT, oEqF, oNEqT, oNEqF, oBeqT, oBeqF, oBneT, oBneF, Int.natCast_add, List.take_length]
    rcases all_first digB s with ⟨e, hall⟩ | ⟨e, j, hj, hf, hall⟩
    · rw [e]
      have L := lpFor (G := G) (kill := [5]) (body := words_Number.l0) (fun i => nuE s i) (fun i => [[]]) s.length (fun i hi => step i hi (hall i hi)) (by simp -implicitDefEqProofs (maxSteps := 2000000) (disch := omega) only [words_Number.l0, nuE, go_sem, reduceIte, Nat.reduceAdd, Nat.reduceSub, Nat.reduceMul, Nat.reduceLeDiff, Nat.reduceLT, Nat.reduceEqDiff, Int.reduceToNat, Int.reduceLT, Int.reduceLE, Int.reduceEq, Int.reduceNe, Int.reduceAdd, Int.reduceSub, Int.reduceMul, Int.reduceNeg, Int.reduceBEq, Int.reduceBNe, reduceCtorEq, dreduceIte, oWS, oW8, oW16, oW32, oW64, oLtT, oLtF, oLeT, oLeF, oNLtT, oNLtF, oNLeT, oNLeF, oEqT, oEqF, oNEqT, oNEqF, oBeqT, oBeqF, oBneT, oBneF, Int.natCast_add, List.take_length]; rfl)
      simp only [nuE, z0, Int.cast_ofNat_Int, List.take_zero, List.map_nil, List.drop_zero, accN, b8_nil, Int.sub_zero, Int.add_zero, Int.zero_add, Nat.zero_add, Nat.sub_zero, List.nil_append, List.append_nil] at L
      have I := p_uint s h h0 e
      generalize numV s = m at *
      by_cases hm : m < 18446744073709551616
      · rw [if_pos hm] at I
        by_cases h1 : 1 < s.length
        · have h2 : ¬ (b.toNat : Int) = 48 := fun hh => hc ⟨h1, hh⟩
          simp -implicitDefEqProofs (maxSteps := 2000000) (disch := omega) only [words_Number.s, hne, hx, h1, h2, L, I, hm, go_sem, reduceIte, Nat.reduceAdd, Nat.reduceSub, Nat.reduceMul, Nat.reduceLeDiff, Nat.reduceLT, Nat.reduceEqDiff, Int.reduceToNat, Int.reduceLT, Int.reduceLE, Int.reduceEq, Int.reduceNe, Int.reduceAdd, Int.reduceSub, Int.reduceMul, Int.reduceNeg, Int.reduceBEq, Int.reduceBNe, reduceCtorEq, dreduceIte, oWS, oW8, oW16, oW32, oW64, oLtT, oLtF, oLeT, oLeF, oNLtT, oNLtF, oNLeT, oNLeF, oEqT, oEqF, oNEqT, oNEqF, oBeqT, oBeqF, oBneT, oBneF, Int.natCast_add, List.take_length]
        · simp -implicitDefEqProofs (maxSteps := 2000000) (disch := omega) only [words_Number.s, hne, hx, h1, L, I, hm, go_sem, reduceIte, Nat.reduceAdd, Nat.reduceSub, Nat.reduceMul, Nat.reduceLeDiff, Nat.reduceLT, Nat.reduceEqDiff, Int.reduceToNat, Int.reduceLT, Int.reduceLE, Int.reduceEq, Int.reduceNe, Int.reduceAdd, Int.reduceSub, Int.reduceMul, Int.reduceNeg, Int.reduceBEq, Int.reduceBNe, reduceCtorEq, dreduceIte, oWS, oW8, oW16, oW32, oW64, oLtT, oLtF, oLeT, oLeF, oNLtT, oNLtF, oNLeT, oNLeF, oEqT, oEqF, oNEqT, oNEqF, oBeqT, oBeqF, oBneT, oBneF, Int.natCast_add, List.take_length]
      · rw [if_neg hm] at I
        by_cases h1 : 1 < s.length
        · have h2 : ¬ (b.toNat : Int) = 48 := fun hh => hc ⟨h1, hh⟩
          simp -implicitDefEqProofs (maxSteps := 2000000) (disch := omega) only [words_Number.s, hne, hx, h1, h2, L, I, hm, go_sem, reduceIte, Nat.reduceAdd, Nat.reduceSub, Nat.reduceMul, Nat.reduceLeDiff, Nat.reduceLT, Nat.reduceEqDiff, Int.reduceToNat, Int.reduceLT, Int.reduceLE, Int.reduceEq, Int.reduceNe, Int.reduceAdd, Int.reduceSub, Int.reduceMul, Int.reduceNeg, Int.reduceBEq, Int.reduceBNe, reduceCtorEq, dreduceIte, oWS, oW8, oW16, oW32, oW64, oLtT, oLtF, oLeT, oLeF, oNLtT, oNLtF, oNLeT, oNLeF, oEqT, oEqF, oNEqT, oNEqF, oBeqT, oBeqF, oBneT, oBneF, Int.natCast_add, List.take_length]
        · simp -implicitDefEqProofs (maxSteps := 2000000) (disch := omega) only [words_Number.s, hne, hx, h1, L, I, hm, go_sem, reduceIte, Nat.reduceAdd, Nat.reduceSub, Nat.reduceMul, Nat.reduceLeDiff, Nat.reduceLT, Nat.reduceEqDiff, Int.reduceToNat, Int.reduceLT, Int.reduceLE, Int.reduceEq, Int.reduceNe, Int.reduceAdd, Int.reduceSub, Int.reduceMul, Int.reduceNeg, Int.reduceBEq, Int.reduceBNe, reduceCtorEq, dreduceIte, oWS, oW8, oW16, oW32, oW64, oLtT, oLtF, oLeT, oLeF, oNLtT, oNLtF, oNLeT, oNLeF, oEqT, oEqF, oNEqT, oNEqF, oBeqT, oBeqF, oBneT, oBneF, Int.natCast_add, List.take_length]
    · rw [e]
      have L := lpFor (G := G) (kill := [5]) (body := words_Number.l0) (o := (.ret, [.v (.str s), .v (.int .u64 0), .v (.int .i64 3), .v (.int .i64 s.length), .v (.int .i64 j), .undef, .undef, .undef], [[]])) (fun i => nuE s i) (fun i => [[]]) j (fun i hi => step i (by omega) (hall i (by omega) hi)) (by
        have hx : s[j]? = some s[j] := List.getElem?_eq_getElem hj
        simp only [decide_eq_false_iff_not] at hf
        by_cases h48 : s[j].toNat < 48
        · simp -implicitDefEqProofs (maxSteps := 2000000) (disch := omega) only [words_Number.l0, hx, nuE, go_sem, reduceIte, Nat.reduceAdd, Nat.reduceSub, Nat.reduceMul, Nat.reduceLeDiff, Nat.reduceLT, Nat.reduceEqDiff, Int.reduceToNat, Int.reduceLT, Int.reduceLE, Int.reduceEq, Int.reduceNe, Int.reduceAdd, Int.reduceSub, Int.reduceMul, Int.reduceNeg, Int.reduceBEq, Int.reduceBNe, reduceCtorEq, dreduceIte, oWS, oW8, oW16, oW32, oW64, oLtT, oLtF, oLeT, oLeF, oNLtT, oNLtF, oNLeT, oNLeF, oEqT, oEqF, oNEqT, oNEqF, oBeqT, oBeqF, oBneT, oBneF, Int.natCast_add, List.take_length]
        · simp -implicitDefEqProofs (maxSteps := 2000000) (disch := omega) only [words_Number.l0, hx, nuE, go_sem, reduceIte, Nat.reduceAdd, Nat.reduceSub, Nat.reduceMul, Nat.reduceLeDiff, Nat.reduceLT, Nat.reduceEqDiff, Int.reduceToNat, Int.reduceLT, Int.reduceLE, Int.reduceEq, Int.reduceNe, Int.reduceAdd, Int.reduceSub, Int.reduceMul, Int.reduceNeg, Int.reduceBEq, Int.reduceBNe, reduceCtorEq, dreduceIte, oWS, oW8, oW16, oW32, oW64, oLtT, oLtF, oLeT, oLeF, oNLtT, oNLtF, oNLeT, oNLeF, oEqT, oEqF, oNEqT, oNEqF, oBeqT, oBeqF, oBneT, oBneF, Int.natCast_add, List.take_length])
      simp only [nuE, z0, Int.cast_ofNat_Int, List.take_zero, List.map_nil, List.drop_zero, accN, b8_nil, Int.sub_zero, Int.add_zero, Int.zero_add, Nat.zero_add, Nat.sub_zero, List.nil_append, List.append_nil] at L
      by_cases h1 : 1 < s.length
      · have h2 : ¬ (b.toNat : Int) = 48 := fun hh => hc ⟨h1, hh⟩
        simp -implicitDefEqProofs (maxSteps := 2000000) (disch := omega) only [words_Number.s, hne, hx, h1, h2, L, go_sem, reduceIte, Nat.reduceAdd, Nat.reduceSub, Nat.reduceMul, Nat.reduceLeDiff, Nat.reduceLT, Nat.reduceEqDiff, Int.reduceToNat, Int.reduceLT, Int.reduceLE, Int.reduceEq, Int.reduceNe, Int.reduceAdd, Int.reduceSub, Int.reduceMul, Int.reduceNeg, Int.reduceBEq, Int.reduceBNe, reduceCtorEq, dreduceIte, oWS, oW8, oW16, oW32, oW64, oLtT, oLtF, oLeT, oLeF, oNLtT, oNLtF, oNLeT, oNLeF, oEqT, oEqF, oNEqT, oNEqF, oBeqT, oBeqF, oBneT, oBneF, Int.natCast_add, List.take_length]
      · simp -implicitDefEqProofs (maxSteps := 2000000) (disch := omega) only [words_Number.s, hne, hx, h1, L, go_sem, reduceIte, Nat.reduceAdd, Nat.reduceSub, Nat.reduceMul, Nat.reduceLeDiff, Nat.reduceLT, Nat.reduceEqDiff, Int.reduceToNat, Int.reduceLT, Int.reduceLE, Int.reduceEq, Int.reduceNe, Int.reduceAdd, Int.reduceSub, Int.reduceMul, Int.reduceNeg, Int.reduceBEq, Int.reduceBNe, reduceCtorEq, dreduceIte, oWS, oW8, oW16, oW32, oW64, oLtT, oLtF, oLeT, oLeF, oNLtT, oNLtF, oNLeT, oNLeF, oEqT, oEqF, oNEqT, oNEqF, oBeqT, oBeqF, oBneT, oBneF, Int.natCast_add, List.take_length]
def refS : List UInt8 → Nat × Bool → Nat × Bool
  | [], q => q
  | b :: r, q => refS r (if (18446744073709551615 - (b.toNat - 48)) / 10 < q.1 then (q.1, true) else (10 * q.1 + (b.toNat - 48), q.2))
theorem refS_app : ∀ (a b : List UInt8) (q : Nat × Bool), refS (a ++ b) q = refS b (refS a q)
  | [], _, _ => rfl
  | x :: a, b, q => refS_app a b _
theorem refS_le : ∀ (l : List UInt8) (q : Nat × Bool), l.all digB = true → q.1 ≤ 18446744073709551615 → (refS l q).1 ≤ 18446744073709551615
  | [], q, _, h => h
  | b :: r, q, hd, h => by
    simp only [List.all_cons, Bool.and_eq_true, decide_eq_true_eq] at hd
    refine refS_le r _ hd.2 ?_
    split
    · exact h
    · show 10 * q.1 + (b.toNat - 48) ≤ _
      omega
theorem refS_big : ∀ (l : List UInt8) (n : Nat), (refS l (n, true)).2 = true
  | [], _ => rfl
  | b :: r, n => by
    simp only [refS]
    split <;> exact refS_big r _
theorem digV_ge : ∀ (l : List UInt8) (n m : Nat), digV l n = some m → n ≤ m
  | [], n, m, h => by cases h; exact Nat.le_refl _
  | b :: r, n, m, h => by
    simp only [digV] at h
    split at h <;> first | (cases h; done) | skip
    have := digV_ge r _ m h
    omega
theorem refS_spec : ∀ (l : List UInt8) (n m : Nat), l.all digB = true → n ≤ 18446744073709551615 → digV l n = some m → (m < 18446744073709551616 → refS l (n, false) = (m, false)) ∧ (¬ m < 18446744073709551616 → (refS l (n, false)).2 = true)
  | [], n, m, _, h, e => by
    cases e
    exact ⟨fun _ => rfl, fun hh => by omega⟩
  | b :: r, n, m, hd, h, e => by
    simp only [List.all_cons, Bool.and_eq_true, decide_eq_true_eq] at hd
    simp only [digV] at e
    rw [if_pos hd.1] at e
    have hge := digV_ge r _ m e
    simp only [refS]
    by_cases hb : (18446744073709551615 - (b.toNat - 48)) / 10 < n
    · rw [if_pos hb]
      exact ⟨fun hh => by omega, fun _ => refS_big r _⟩
    · rw [if_neg hb]
      have ec : 10 * n + (b.toNat - 48) = n * 10 + (b.toNat - 48) := by omega
      rw [ec]
      exact refS_spec r _ m hd.2 (by omega) e
abbrev ruE (s : List UInt8) (q : Nat × Bool) (i : Nat) : List D := [.v (.str s), .v (.int .u64 0), .v (.int .i64 0), .v (.int .u64 (q.1 : Int)), .v (.bool q.2), .v (.int .i64 i), .undef]
theorem refS_take {s : List UInt8} {i : Nat} (hi : i < s.length) : refS (s.take (i + 1)) (0, false) = (if (18446744073709551615 - (s[i].toNat - 48)) / 10 < (refS (s.take i) (0, false)).1 then ((refS (s.take i) (0, false)).1, true) else (10 * (refS (s.take i) (0, false)).1 + (s[i].toNat - 48), (refS (s.take i) (0, false)).2)) := by
  rw [take_succ hi, refS_app]; rfl
theorem all_take {s : List UInt8} {f : UInt8 → Bool} {j : Nat} (h : ∀ i (h : i < s.length), i < j → f s[i] = true) : (s.take j).all f = true := by
  rw [List.all_eq_true]
  intro x hx
  obtain ⟨i, hi, rfl⟩ := List.getElem_of_mem hx
  simp at hi
  rw [List.getElem_take]
  exact h i (by omega) (by omega)
theorem ru_step (s : List UInt8) (h : s.length ≤ 100000) (i : Nat) (hi : i < s.length) (hd : digB s[i] = true) (ht : (s.take i).all digB = true) :
    rndE G [6] euphroeref14_Number.l0 (ruE s (refS (s.take i) (0, false)) i) [[]] = some (.inl (ruE s (refS (s.take (i + 1)) (0, false)) (i + 1), [[]])) := by
  have hx : s[i]? = some s[i] := List.getElem?_eq_getElem hi
  have hle := refS_le (s.take i) (0, false) ht (by omega)
  rw [refS_take hi]
  simp only [decide_eq_true_eq] at hd
  generalize refS (s.take i) (0, false) = q at *
  obtain ⟨n, big⟩ := q
  have hle : n ≤ 18446744073709551615 := hle
  simp only
  have q1 : ((18446744073709551615 : Int) - ((s[i].toNat : Int) - 48)).tdiv 10 = (((18446744073709551615 - (s[i].toNat - 48)) / 10 : Nat) : Int) := by
    rw [Int.tdiv_eq_ediv_of_nonneg (by omega)]; omega
  have q2 : (10 : Int) * (n : Int) + ((s[i].toNat : Int) - 48) = ((10 * n + (s[i].toNat - 48) : Nat) : Int) := by omega
  by_cases hb : (18446744073709551615 - (s[i].toNat - 48)) / 10 < n
  · rw [if_pos hb]
    simp -implicitDefEqProofs (maxSteps := 2000000) (disch := omega) only [euphroeref14_Number.l0, hx, ruE, q1, go_sem, reduceIte, Nat.reduceAdd, Nat.reduceSub, Nat.reduceMul, Nat.reduceLeDiff, Nat.reduceLT, Nat.reduceEqDiff, Int.reduceToNat, Int.reduceLT, Int.reduceLE, Int.reduceEq, Int.reduceNe, Int.reduceAdd, Int.reduceSub, Int.reduceMul, Int.reduceNeg, Int.reduceBEq, Int.reduceBNe, reduceCtorEq, dreduceIte, oWS, oW8, oW16, oW32, oW64, oLtT, oLtF, oLeT, oLeF, oNLtT, oNLtF, oNLeT, oNLeF, oEqT, oEqF, oNEqT, oNEqF, oBeqT, oBeqF, oBneT, oBneF, Int.natCast_add, List.take_length]
  · rw [if_neg hb]
    simp -implicitDefEqProofs (maxSteps := 2000000) (disch := omega) only [euphroeref14_Number.l0, hx, ruE, q1, q2, go_sem, reduceIte, Nat.reduceAdd, Nat.reduceSub, Nat.reduceMul, Nat.reduceLeDiff, Nat.reduceLT, Nat.reduceEqDiff, Int.reduceToNat, Int.reduceLT, Int.reduceLE, Int.reduceEq, Int.reduceNe, Int.reduceAdd, Int.reduceSub, Int.reduceMul, Int.reduceNeg, Int.reduceBEq, Int.reduceBNe, reduceCtorEq, dreduceIte, oWS, oW8, oW16, oW32, oW64, oLtT, oLtF, oLeT, oLeF, oNLtT, oNLtF, oNLeT, oNLeF, oEqT, oEqF, oNEqT, oNEqF, oBeqT, oBeqF, oBneT, oBneF, Int.natCast_add, List.take_length]
theorem r_Number (s : List UInt8) (h : s.length ≤ 100000) : run G 21 [.v (.str s)] [] = some (.tup [.v (.int .u64 (numR s).1), .v (.int .i64 (numR s).2)], []) := by
  rw [xq_fn G rfl euphroeref14_Number.g _ _ rfl]
  unfold numR
  rcases all_first digB s with ⟨e, hall⟩ | ⟨e, j, hj, hf, hall⟩
  · have L := lpFor (G := G) (kill := [6]) (body := euphroeref14_Number.l0) (fun i => ruE s (refS (s.take i) (0, false)) i) (fun i => [[]]) s.length (fun i hi => ru_step s h i hi (hall i hi) (all_take fun i hi _ => hall i hi)) (by simp -implicitDefEqProofs (maxSteps := 2000000) (disch := omega) only [euphroeref14_Number.l0, ruE, go_sem, reduceIte, Nat.reduceAdd, Nat.reduceSub, Nat.reduceMul, Nat.reduceLeDiff, Nat.reduceLT, Nat.reduceEqDiff, Int.reduceToNat, Int.reduceLT, Int.reduceLE, Int.reduceEq, Int.reduceNe, Int.reduceAdd, Int.reduceSub, Int.reduceMul, Int.reduceNeg, Int.reduceBEq, Int.reduceBNe, reduceCtorEq, dreduceIte, oWS, oW8, oW16, oW32, oW64, oLtT, oLtF, oLeT, oLeF, oNLtT, oNLtF, oNLeT, oNLeF, oEqT, oEqF, oNEqT, oNEqF, oBeqT, oBeqF, oBneT, oBneF, Int.natCast_add, List.take_length]; rfl)
    have L : ex G (.loop [6] euphroeref14_Number.l0) (ruE s (0, false) 0) [[]] = _ := L
    have hle := refS_le s (0, false) e (by omega)
    obtain ⟨m, hm⟩ := digV_all s 0 e
    obtain ⟨k1, k2⟩ := refS_spec s 0 m e (by omega) hm
    have hnv : numV s = m := by rw [numV, hm]; rfl
    rw [e, hnv]
    simp only [ruE, z0, Int.cast_ofNat_Int, List.take_zero, List.map_nil, List.drop_zero, accN, b8_nil, Int.sub_zero, Int.add_zero, Int.zero_add, Nat.zero_add, Nat.sub_zero, List.nil_append, List.append_nil] at L
    by_cases h0 : s = []
    · subst h0
      have hnil : (([] : List UInt8) == []) = true := rfl
      simp only [refS] at L
      simp -implicitDefEqProofs (maxSteps := 2000000) (disch := omega) only [euphroeref14_Number.s, L, hnil, List.length_nil, go_sem, reduceIte, Nat.reduceAdd, Nat.reduceSub, Nat.reduceMul, Nat.reduceLeDiff, Nat.reduceLT, Nat.reduceEqDiff, Int.reduceToNat, Int.reduceLT, Int.reduceLE, Int.reduceEq, Int.reduceNe, Int.reduceAdd, Int.reduceSub, Int.reduceMul, Int.reduceNeg, Int.reduceBEq, Int.reduceBNe, reduceCtorEq, dreduceIte, oWS, oW8, oW16, oW32, oW64, oLtT, oLtF, oLeT, oLeF, oNLtT, oNLtF, oNLeT, oNLeF, oEqT, oEqF, oNEqT, oNEqF, oBeqT, oBeqF, oBneT, oBneF, Int.natCast_add, List.take_length]
      rfl
    have hne : (s == ([] : List UInt8)) = false := by simpa using h0
    have hpos : 0 < s.length := List.length_pos_iff.2 h0
    obtain ⟨b, hx, hb⟩ := hd0 s h0
    cases hbad : badN s with
    | true =>
      obtain ⟨h1, h2⟩ := hb.1 hbad
      simp -implicitDefEqProofs (maxSteps := 2000000) (disch := omega) only [euphroeref14_Number.s, hne, hx, h2, L, go_sem, reduceIte, Nat.reduceAdd, Nat.reduceSub, Nat.reduceMul, Nat.reduceLeDiff, Nat.reduceLT, Nat.reduceEqDiff, Int.reduceToNat, Int.reduceLT, Int.reduceLE, Int.reduceEq, Int.reduceNe, Int.reduceAdd, Int.reduceSub, Int.reduceMul, Int.reduceNeg, Int.reduceBEq, Int.reduceBNe, reduceCtorEq, dreduceIte, oWS, oW8, oW16, oW32, oW64, oLtT, oLtF, oLeT, oLeF, oNLtT, oNLtF, oNLeT, oNLeF, oEqT, oEqF, oNEqT, oNEqF, oBeqT, oBeqF, oBneT, oBneF, Int.natCast_add, List.take_length]
    | false =>
      have hc : ¬ (1 < s.length ∧ (b.toNat : Int) = 48) := fun hh => by rw [hb.2 hh] at hbad; cases hbad
      by_cases hm6 : m < 18446744073709551616
      · rw [k1 hm6] at L
        by_cases h1 : 1 < s.length
        · have h2 : ¬ (b.toNat : Int) = 48 := fun hh => hc ⟨h1, hh⟩
          simp -implicitDefEqProofs (maxSteps := 2000000) (disch := omega) only [euphroeref14_Number.s, hne, hx, h1, h2, L, hm6, go_sem, reduceIte, Nat.reduceAdd, Nat.reduceSub, Nat.reduceMul, Nat.reduceLeDiff, Nat.reduceLT, Nat.reduceEqDiff, Int.reduceToNat, Int.reduceLT, Int.reduceLE, Int.reduceEq, Int.reduceNe, Int.reduceAdd, Int.reduceSub, Int.reduceMul, Int.reduceNeg, Int.reduceBEq, Int.reduceBNe, reduceCtorEq, dreduceIte, oWS, oW8, oW16, oW32, oW64, oLtT, oLtF, oLeT, oLeF, oNLtT, oNLtF, oNLeT, oNLeF, oEqT, oEqF, oNEqT, oNEqF, oBeqT, oBeqF, oBneT, oBneF, Int.natCast_add, List.take_length]
        · simp -implicitDefEqProofs (maxSteps := 2000000) (disch := omega) only [euphroeref14_Number.s, hne, hx, h1, L, hm6, go_sem, reduceIte, Nat.reduceAdd, Nat.reduceSub, Nat.reduceMul, Nat.reduceLeDiff, Nat.reduceLT, Nat.reduceEqDiff, Int.reduceToNat, Int.reduceLT, Int.reduceLE, Int.reduceEq, Int.reduceNe, Int.reduceAdd, Int.reduceSub, Int.reduceMul, Int.reduceNeg, Int.reduceBEq, Int.reduceBNe, reduceCtorEq, dreduceIte, oWS, oW8, oW16, oW32, oW64, oLtT, oLtF, oLeT, oLeF, oNLtT, oNLtF, oNLeT, oNLeF, oEqT, oEqF, oNEqT, oNEqF, oBeqT, oBeqF, oBneT, oBneF, Int.natCast_add, List.take_length]
      · rw [k2 hm6] at L
        by_cases h1 : 1 < s.length
        · have h2 : ¬ (b.toNat : Int) = 48 := fun hh => hc ⟨h1, hh⟩
          simp -implicitDefEqProofs (maxSteps := 2000000) (disch := omega) only [euphroeref14_Number.s, hne, hx, h1, h2, L, hm6, go_sem, reduceIte, Nat.reduceAdd, Nat.reduceSub, Nat.reduceMul, Nat.reduceLeDiff, Nat.reduceLT, Nat.reduceEqDiff, Int.reduceToNat, Int.reduceLT, Int.reduceLE, Int.reduceEq, Int.reduceNe, Int.reduceAdd, Int.reduceSub, Int.reduceMul, Int.reduceNeg, Int.reduceBEq, Int.reduceBNe, reduceCtorEq, dreduceIte, oWS, oW8, oW16, oW32, oW64, oLtT, oLtF, oLeT, oLeF, oNLtT, oNLtF, oNLeT, oNLeF, oEqT, oEqF, oNEqT, oNEqF, oBeqT, oBeqF, oBneT, oBneF, Int.natCast_add, List.take_length]
        · simp -implicitDefEqProofs (maxSteps := 2000000) (disch := omega) only [euphroeref14_Number.s, hne, hx, h1, L, hm6, go_sem, reduceIte, Nat.reduceAdd, Nat.reduceSub, Nat.reduceMul, Nat.reduceLeDiff, Nat.reduceLT, Nat.reduceEqDiff, Int.reduceToNat, Int.reduceLT, Int.reduceLE, Int.reduceEq, Int.reduceNe, Int.reduceAdd, Int.reduceSub, Int.reduceMul, Int.reduceNeg, Int.reduceBEq, Int.reduceBNe, reduceCtorEq, dreduceIte, oWS, oW8, oW16, oW32, oW64, oLtT, oLtF, oLeT, oLeF, oNLtT, oNLtF, oNLeT, oNLeF, oEqT, oEqF, oNEqT, oNEqF, oBeqT, oBeqF, oBneT, oBneF, Int.natCast_add, List.take_length]
  · have L := lpFor (G := G) (kill := [6]) (body := euphroeref14_Number.l0) (o := (.ret, [.v (.str s), .v (.int .u64 0), .v (.int .i64 3), .v (.int .u64 ((refS (s.take j) (0, false)).1 : Int)), .v (.bool (refS (s.take j) (0, false)).2), .v (.int .i64 j), .undef], [[]])) (fun i => ruE s (refS (s.take i) (0, false)) i) (fun i => [[]]) j (fun i hi => ru_step s h i (by omega) (hall i (by omega) hi) (all_take fun k hk hlt => hall k hk (by omega))) (by
      have hx : s[j]? = some s[j] := List.getElem?_eq_getElem hj
      simp only [decide_eq_false_iff_not] at hf
      by_cases h48 : s[j].toNat < 48
      · simp -implicitDefEqProofs (maxSteps := 2000000) (disch := omega) only [euphroeref14_Number.l0, hx, ruE, go_sem, reduceIte, Nat.reduceAdd, Nat.reduceSub, Nat.reduceMul, Nat.reduceLeDiff, Nat.reduceLT, Nat.reduceEqDiff, Int.reduceToNat, Int.reduceLT, Int.reduceLE, Int.reduceEq, Int.reduceNe, Int.reduceAdd, Int.reduceSub, Int.reduceMul, Int.reduceNeg, Int.reduceBEq, Int.reduceBNe, reduceCtorEq, dreduceIte, oWS, oW8, oW16, oW32, oW64, oLtT, oLtF, oLeT, oLeF, oNLtT, oNLtF, oNLeT, oNLeF, oEqT, oEqF, oNEqT, oNEqF, oBeqT, oBeqF, oBneT, oBneF, Int.natCast_add, List.take_length]
      · simp -implicitDefEqProofs (maxSteps := 2000000) (disch := omega) only [euphroeref14_Number.l0, hx, ruE, go_sem, reduceIte, Nat.reduceAdd, Nat.reduceSub, Nat.reduceMul, Nat.reduceLeDiff, Nat.reduceLT, Nat.reduceEqDiff, Int.reduceToNat, Int.reduceLT, Int.reduceLE, Int.reduceEq, Int.reduceNe, Int.reduceAdd, Int.reduceSub, Int.reduceMul, Int.reduceNeg, Int.reduceBEq, Int.reduceBNe, reduceCtorEq, dreduceIte, oWS, oW8, oW16, oW32, oW64, oLtT, oLtF, oLeT, oLeF, oNLtT, oNLtF, oNLeT, oNLeF, oEqT, oEqF, oNEqT, oNEqF, oBeqT, oBeqF, oBneT, oBneF, Int.natCast_add, List.take_length])
    have L : ex G (.loop [6] euphroeref14_Number.l0) (ruE s (0, false) 0) [[]] = _ := L
    rw [e]
    have e2 : (if badN s = true then ((0 : Int), (3 : Int)) else if false = true then (if numV s < 18446744073709551616 then ((numV s : Int), (0 : Int)) else (0, 8)) else (0, 3)) = (0, 3) := by
      split <;> rfl
    rw [e2]
    simp only [ruE, z0, Int.cast_ofNat_Int, List.take_zero, List.map_nil, List.drop_zero, accN, b8_nil, Int.sub_zero, Int.add_zero, Int.zero_add, Nat.zero_add, Nat.sub_zero, List.nil_append, List.append_nil] at L
    simp -implicitDefEqProofs (maxSteps := 2000000) (disch := omega) only [euphroeref14_Number.s, L, go_sem, reduceIte, Nat.reduceAdd, Nat.reduceSub, Nat.reduceMul, Nat.reduceLeDiff, Nat.reduceLT, Nat.reduceEqDiff, Int.reduceToNat, Int.reduceLT, Int.reduceLE, Int.reduceEq, Int.reduceNe, Int.reduceAdd, Int.reduceSub, Int.reduceMul, Int.reduceNeg, Int.reduceBEq, Int.reduceBNe, reduceCtorEq, dreduceIte, oWS, oW8, oW16, oW32, oW64, oLtT, oLtF, oLeT, oLeF, oNLtT, oNLtF, oNLeT, oNLeF, oEqT, oEqF, oNEqT, oNEqF, oBeqT, oBeqF, oBneT, oBneF, Int.natCast_add, List.take_length]
end Go.Q
