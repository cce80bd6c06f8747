/- The law WordsBack, in the machine. No condition. -/
import Derived.Test.YtaakegacmjnmoaaDoorHg
set_option linter.all false
set_option maxRecDepth 100000
namespace Go.Q
open SOp SCode
attribute [local congr] bind_c map_c
theorem digV_app : ∀ (a b : List UInt8) (n : Nat), digV (a ++ b) n = (digV a n).bind (digV b)
  | [], _, _ => rfl
  | c :: a, b, n => by
    simp only [List.cons_append, digV]
    split
    · exact digV_app a b _
    · rfl
theorem dig1 {k : Nat} (h : k < 10) : (UInt8.ofNat (48 + k)).toNat = 48 + k := by
  simp only [UInt8.toNat_ofNat']
  omega
theorem digsN_val : ∀ (k n : Nat), n < 10 ^ k → 0 < k → digV (digsN k n) 0 = some n ∧ (digsN k n).all digB = true ∧ (1 ≤ n → ∃ c r, digsN k n = c :: r ∧ c ≠ 48) ∧ (n < 10 → (digsN k n).length = 1) ∧ digsN k n ≠ []
  | 0, n, _, h => by omega
  | k + 1, n, h, _ => by
    by_cases hn : n < 10
    · have e : digsN (k + 1) n = [UInt8.ofNat (48 + n)] := by simp only [digsN]; rw [if_pos hn]
      have hd := dig1 hn
      rw [e]
      refine ⟨?_, ?_, fun h1 => ⟨_, [], rfl, fun h2 => ?_⟩, fun _ => rfl, by simp⟩
      · simp only [digV, hd]
        rw [if_pos (by omega)]
        congr 1
        omega
      · simp only [List.all_cons, List.all_nil, Bool.and_true, digB, hd, decide_eq_true_eq]
        omega
      · have := congrArg UInt8.toNat h2
        rw [hd] at this
        have h48 : (48 : UInt8).toNat = 48 := rfl
        omega
    · have e : digsN (k + 1) n = digsN k (n / 10) ++ [UInt8.ofNat (48 + n % 10)] := by simp only [digsN]; rw [if_neg hn]
      have hk : 0 < k := by
        cases k with
        | zero => simp at h; omega
        | succ k => omega
      obtain ⟨i1, i2, i3, i4, i5⟩ := digsN_val k (n / 10) (by rw [Nat.pow_succ] at h; omega) hk
      have hd := dig1 (show n % 10 < 10 by omega)
      rw [e]
      refine ⟨?_, ?_, fun h1 => ?_, fun h1 => absurd h1 hn, by simp⟩
      · rw [digV_app, i1, Option.bind_some]
        simp only [digV, hd]
        rw [if_pos (by omega)]
        congr 1
        omega
      · rw [List.all_append, i2]
        simp only [List.all_cons, List.all_nil, Bool.and_true, Bool.true_and, digB, hd, decide_eq_true_eq]
        omega
      · obtain ⟨c, r, h2, h3⟩ := i3 (by omega)
        exact ⟨c, r ++ [UInt8.ofNat (48 + n % 10)], by rw [h2]; rfl, h3⟩
theorem digsN_len : ∀ (k n : Nat), (digsN k n).length ≤ k
  | 0, n => Nat.le_refl _
  | k + 1, n => by
    simp only [digsN]
    split
    · simp
    · have := digsN_len k (n / 10)
      simp only [List.length_append, List.length_cons, List.length_nil]
      omega
theorem numR_digs (n : Nat) (h : n < 18446744073709551616) : numR (digsN 20 n) = ((n : Int), 0) := by
  obtain ⟨i1, i2, i3, i4, i5⟩ := digsN_val 20 n (by omega) (by omega)
  have hb : badN (digsN 20 n) = false := by
    unfold badN
    rw [decide_eq_false i5]
    by_cases h1 : 1 ≤ n
    · obtain ⟨c, r, e, hc⟩ := i3 h1
      rw [e]
      simp [hc]
    · rw [i4 (by omega)]; simp
  unfold numR
  rw [hb, i2]
  have hv : numV (digsN 20 n) = n := by rw [numV, i1]; rfl
  rw [hv, if_neg (by simp), if_pos rfl, if_pos h]
theorem futoaF_eq (n : Nat) (h : n < 18446744073709551616) : futoaF [.int .u64 n, .int .i64 10] = some (.v (.str (digsN 20 n))) := by
  have hc : (10 : Int) = 10 ∧ 0 ≤ (n : Int) ∧ (n : Int) < 18446744073709551616 := ⟨rfl, by omega, by omega⟩
  have e : futoaF [.int .u64 n, .int .i64 10] = if (10 : Int) = 10 ∧ 0 ≤ (n : Int) ∧ (n : Int) < 18446744073709551616 then some (.v (.str (digsN 20 (n : Int).toNat))) else none := by
    simp only [futoaF]
  rw [e, if_pos hc, Int.toNat_natCast]
theorem w_D2 (m : Int) (x : D) (h : futoaF [.int .u64 m, .int .i64 10] = some x) : run G 63 [.v (.int .u64 m), .v (.int .i64 10)] [] = some (x, []) := by
  rw [xq_prim G (f := 63) (F := primPure futoaF) (by rfl)]
  simp only [primPure, allV, Option.map_some, Option.bind_some, h]
theorem w_D1 (n : Nat) (x : List UInt8) (I : run G 63 [.v (.int .u64 n), .v (.int .i64 10)] [] = some (.v (.str x), [])) : run G 32 [.v (.int .u64 n)] [] = some (.v (.str x), []) := by
  rw [xq_fn G rfl words_Digits.g _ _ rfl]
  simp -implicitDefEqProofs (maxSteps := 2000000) (disch := omega) only [words_Digits.s, I, go_sem, reduceIte, Nat.reduceAdd, Nat.reduceSub, Nat.reduceMul, Nat.reduceLeDiff, Nat.reduceLT, Nat.reduceEqDiff, Int.reduceToNat, Int.reduceLT, Int.reduceLE, Int.reduceEq, Int.reduceNe, Int.reduceAdd, Int.reduceSub, Int.reduceMul, Int.reduceNeg, Int.reduceBEq, Int.reduceBNe, reduceCtorEq, dreduceIte, oWS, oW8, oW16, oW32, oW64, oLtT, oLtF, oLeT, oLeF, oNLtT, oNLtF, oNLeT, oNLeF, oEqT, oEqF, oNEqT, oNEqF, oBeqT, oBeqF, oBneT, oBneF, Int.natCast_add, List.take_length]
theorem w_Digits (n : Nat) (h : n < 18446744073709551616) : run G 32 [.v (.int .u64 n)] [] = some (.v (.str (digsN 20 n)), []) :=
  w_D1 n _ (w_D2 n _ (futoaF_eq n h))
theorem lowB_low (b : UInt8) : lowB (lowB b) = lowB b := by
  have key : ∀ n : Nat, n < 256 → lowB (lowB (UInt8.ofNat n)) = lowB (UInt8.ofNat n) := by decide +kernel
  have := key b.toNat b.toNat_lt
  simpa using this
theorem map_low (s : List UInt8) : (s.map lowB).map lowB = s.map lowB := by
  rw [List.map_map]
  exact List.map_congr_left fun b _ => lowB_low b
theorem hdR_back {b : List UInt8} {ls : List (List UInt8)} {n : Nat} {rest : List UInt8} (g : goodL ls) (hn : n = (flt ls).length + 2) (h1 : n ≤ 2048) (e : b = flt ls ++ 13 :: 10 :: rest) : hdR (b.take (n - 1)) = ([], 0, 4) ∧ hdR (b.take n) = (ls, (n : Int), 0) := by
  constructor
  · have e1 : b.take (n - 1) = flt ls ++ ([] ++ [13]) := by
      rw [e, hn, show (flt ls).length + 2 - 1 = (flt ls).length + 1 by omega, List.take_append]
      simp [List.take_of_length_le]
    have e2 : (b.take (n - 1)).length = n - 1 := by rw [e1, hn]; simp
    unfold hdR
    rw [List.take_of_length_le (by omega), e1, (scan_begin g Txt.nil).2]
    simp only
    rw [← e1, if_pos (by omega)]
  · have e1 : b.take n = flt ls ++ 13 :: 10 :: [] := by
      rw [e, hn, List.take_append]
      simp [List.take_of_length_le]
    have e2 : (b.take n).length = n := by rw [e1, hn]; simp
    unfold hdR
    rw [List.take_of_length_le (by omega), e1, scan_whole g, hn]
theorem wordsBack (n : Nat) (hn : n < 18446744073709551616) (s b : List UInt8) : run G 7 [.v (.int .u64 n), .v (.str s), .v (.slc 1 (u8L b))] [] = some (.v (.bool true), []) := by
  have A := w_alive
  have hub := u8L_len b
  rw [xq_fn G rfl euphroelaw14_WordsBack.g _ _ rfl]
  by_cases h1 : 300 < s.length
  · simp -implicitDefEqProofs (maxSteps := 2000000) (disch := omega) only [euphroelaw14_WordsBack.s, A, hub, go_sem, reduceIte, Nat.reduceAdd, Nat.reduceSub, Nat.reduceMul, Nat.reduceLeDiff, Nat.reduceLT, Nat.reduceEqDiff, Int.reduceToNat, Int.reduceLT, Int.reduceLE, Int.reduceEq, Int.reduceNe, Int.reduceAdd, Int.reduceSub, Int.reduceMul, Int.reduceNeg, Int.reduceBEq, Int.reduceBNe, reduceCtorEq, dreduceIte, oWS, oW8, oW16, oW32, oW64, oLtT, oLtF, oLeT, oLeF, oNLtT, oNLtF, oNLeT, oNLeF, oEqT, oEqF, oNEqT, oNEqF, oBeqT, oBeqF, oBneT, oBneF, Int.natCast_add, List.take_length]
  by_cases h2 : 3000 < b.length
  · simp -implicitDefEqProofs (maxSteps := 2000000) (disch := omega) only [euphroelaw14_WordsBack.s, A, hub, go_sem, reduceIte, Nat.reduceAdd, Nat.reduceSub, Nat.reduceMul, Nat.reduceLeDiff, Nat.reduceLT, Nat.reduceEqDiff, Int.reduceToNat, Int.reduceLT, Int.reduceLE, Int.reduceEq, Int.reduceNe, Int.reduceAdd, Int.reduceSub, Int.reduceMul, Int.reduceNeg, Int.reduceBEq, Int.reduceBNe, reduceCtorEq, dreduceIte, oWS, oW8, oW16, oW32, oW64, oLtT, oLtF, oLeT, oLeF, oNLtT, oNLtF, oNLeT, oNLeF, oEqT, oEqF, oNEqT, oNEqF, oBeqT, oBeqF, oBneT, oBneF, Int.natCast_add, List.take_length]
  have I1 := w_Digits n hn
  have I2 := w_Number (digsN 20 n) (by have := digsN_len 20 n; omega)
  rw [numR_digs n hn] at I2
  have I3 := w_Lower s (by omega)
  have hml : (s.map lowB).length = s.length := by simp
  have I4 := w_Lower (s.map lowB) (by omega)
  have I5 := w_Alike (s.map lowB) s (by omega) (by omega)
  rw [map_low] at I4 I5
  have bq : (s.map lowB == s.map lowB) = true := beq_self_eq_true _
  rw [bq] at I5
  have I6 := w_Head b (by omega)
  rw [progR_eq] at I6
  generalize digsN 20 n = dg at *
  generalize s.map lowB = sl at *
  rcases hdR_cases b with ⟨ls, k, rest, hr, g, hk, k1, k2, e⟩ | ⟨e, hr, he⟩
  · rw [hr] at I6
    obtain ⟨r1, r2⟩ := hdR_back g hk k1 e
    have I7 := w_Head (b.take (k - 1)) (by rw [List.length_take]; omega)
    have I8 := w_Head (b.take k) (by rw [List.length_take]; omega)
    rw [progR_eq, r1] at I7
    rw [progR_eq, r2] at I8
    rw [← u8L_take] at I7 I8
    have e1 : clW (sL []) = .lin 1 [] := rfl
    have ek : ((k : Int) - 1).toNat = k - 1 := by omega
    have hk2 : 2 ≤ k := by omega
    simp only [hdO, e1] at I6 I7 I8
    obtain ⟨X, hX⟩ : ∃ X, clW (sL ls) = X := ⟨_, rfl⟩
    cases ls with
    | nil =>
      simp only [e1] at I6 I8
      simp -implicitDefEqProofs (maxSteps := 2000000) (disch := omega) only [euphroelaw14_WordsBack.s, A, hub, I1, I2, I3, I4, I5, I6, I7, I8, ek, bq, List.length_nil, beq_self_eq_true, go_sem, reduceIte, Nat.reduceAdd, Nat.reduceSub, Nat.reduceMul, Nat.reduceLeDiff, Nat.reduceLT, Nat.reduceEqDiff, Int.reduceToNat, Int.reduceLT, Int.reduceLE, Int.reduceEq, Int.reduceNe, Int.reduceAdd, Int.reduceSub, Int.reduceMul, Int.reduceNeg, Int.reduceBEq, Int.reduceBNe, reduceCtorEq, dreduceIte, oWS, oW8, oW16, oW32, oW64, oLtT, oLtF, oLeT, oLeF, oNLtT, oNLtF, oNLeT, oNLeF, oEqT, oEqF, oNEqT, oNEqF, oBeqT, oBeqF, oBneT, oBneF, Int.natCast_add, List.take_length]
    | cons a as =>
      have e3 : clW (sL (a :: as)) = .v (.slc 1 (sL (a :: as))) := rfl
      simp only [e3] at I6 I8
      generalize sL (a :: as) = q at *
      simp -implicitDefEqProofs (maxSteps := 2000000) (disch := omega) only [euphroelaw14_WordsBack.s, A, hub, I1, I2, I3, I4, I5, I6, I7, I8, ek, bq, List.length_nil, beq_self_eq_true, go_sem, reduceIte, Nat.reduceAdd, Nat.reduceSub, Nat.reduceMul, Nat.reduceLeDiff, Nat.reduceLT, Nat.reduceEqDiff, Int.reduceToNat, Int.reduceLT, Int.reduceLE, Int.reduceEq, Int.reduceNe, Int.reduceAdd, Int.reduceSub, Int.reduceMul, Int.reduceNeg, Int.reduceBEq, Int.reduceBNe, reduceCtorEq, dreduceIte, oWS, oW8, oW16, oW32, oW64, oLtT, oLtF, oLeT, oLeF, oNLtT, oNLtF, oNLeT, oNLeF, oEqT, oEqF, oNEqT, oNEqF, oBeqT, oBeqF, oBneT, oBneF, Int.natCast_add, List.take_length]
  · rw [hr] at I6
    have e1 : clW (sL []) = .lin 1 [] := rfl
    simp only [hdO, e1] at I6
    have hne : ¬ e = 0 := by omega
    simp -implicitDefEqProofs (maxSteps := 2000000) (disch := omega) only [euphroelaw14_WordsBack.s, A, hub, I1, I2, I3, I4, I5, I6, bq, hne, List.length_nil, beq_self_eq_true, go_sem, reduceIte, Nat.reduceAdd, Nat.reduceSub, Nat.reduceMul, Nat.reduceLeDiff, Nat.reduceLT, Nat.reduceEqDiff, Int.reduceToNat, Int.reduceLT, Int.reduceLE, Int.reduceEq, Int.reduceNe, Int.reduceAdd, Int.reduceSub, Int.reduceMul, Int.reduceNeg, Int.reduceBEq, Int.reduceBNe, reduceCtorEq, dreduceIte, oWS, oW8, oW16, oW32, oW64, oLtT, oLtF, oLeT, oLeF, oNLtT, oNLtF, oNLeT, oNLeF, oEqT, oEqF, oNEqT, oNEqF, oBeqT, oBeqF, oBneT, oBneF, Int.natCast_add, List.take_length]
end Go.Q
