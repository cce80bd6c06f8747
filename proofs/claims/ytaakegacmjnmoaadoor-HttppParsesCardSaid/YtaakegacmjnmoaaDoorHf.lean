/- The laws WordsHeads, WordsLines, WordsBack, in the machine. No condition. -/
import Derived.Test.YtaakegacmjnmoaaDoorHb
import Derived.Test.YtaakegacmjnmoaaDoorHe
set_option linter.all false
set_option maxRecDepth 100000
namespace Go.Q
open SOp SCode
attribute [local congr] bind_c map_c
theorem b8_u8 : ∀ (l : List Int), okB l → b8 l = u8L (by8 l)
  | [], _ => rfl
  | x :: l, h => by
    have h1 := h x (by simp)
    have ih := b8_u8 l fun y hy => h y (by simp [hy])
    have e : ((UInt8.ofNat x.toNat).toNat : Int) = x := by
      simp only [UInt8.toNat_ofNat']
      omega
    show V.int .u8 x :: b8 l = cV (UInt8.ofNat x.toNat) :: u8L (by8 l)
    rw [ih, cV, e]
theorem sL_at {ls : List (List UInt8)} {i : Nat} (h : i < ls.length) : (sL ls)[i]? = some (.str ls[i]) := by simp [sL, h]
theorem scan_done {l : List UInt8} {ls : List (List UInt8)} {n : Nat} (h : scan l 0 [] [] 0 = .done ls n) : goodL ls ∧ n = (flt ls).length + 2 ∧ ∃ rest, l = flt ls ++ 13 :: 10 :: rest := by
  rcases hdK l with ⟨ls', rest, g, e⟩ | ⟨ls', line, g, g2, e⟩ | ⟨ls', line, c, rest, g, g2, e, g3, g4⟩
  · rw [e, scan_whole g] at h
    cases h
    exact ⟨g, rfl, rest, e⟩
  · rcases e with e | e
    · rw [e, (scan_begin g g2).1] at h; cases h
    · rw [e, (scan_begin g g2).2] at h; cases h
  · rw [e, scan_wrong g g2 g3 g4] at h; cases h
theorem hdR_cases (b : List UInt8) : (∃ (ls : List (List UInt8)) (n : Nat) (rest : List UInt8), hdR b = (ls, (n : Int), 0) ∧ goodL ls ∧ n = (flt ls).length + 2 ∧ n ≤ 2048 ∧ n ≤ b.length ∧ b = flt ls ++ 13 :: 10 :: rest) ∨ (∃ e : Int, hdR b = ([], 0, e) ∧ (e = 3 ∨ e = 4 ∨ e = 8)) := by
  unfold hdR
  cases hs : scan (b.take 2048) 0 [] [] 0 with
  | form => exact .inr ⟨3, rfl, .inl rfl⟩
  | fin =>
    right
    by_cases h : b.length < 2048
    · exact ⟨4, by simp [h], .inr (.inl rfl)⟩
    · exact ⟨8, by simp [h], .inr (.inr rfl)⟩
  | done ls n =>
    obtain ⟨g, hn, rest, e⟩ := scan_done hs
    have hl : (b.take 2048).length = min 2048 b.length := List.length_take ..
    have h2 := congrArg List.length e
    simp only [List.length_append, List.length_cons] at h2
    refine .inl ⟨ls, n, rest ++ b.drop 2048, rfl, g, hn, by omega, by omega, ?_⟩
    conv => lhs; rw [← List.take_append_drop 2048 b, e]
    simp
theorem wh_same (ls : List (List UInt8)) (n e : Int) (b : List UInt8) (hb : ls.length ≤ 100000) (x2 x5 : D) (hx2 : x2 = .v (.slc 1 (sL ls)) ∨ (x2 = .lin 1 (sL ls))) (hx5 : x5 = .lin 1 (sL ls)) :
    ex G (.loop [10] euphroelaw14_WordsHeads.l0) [.v (.slc 1 (u8L b)), .v (.bool false), x2, .v (.int .i64 n), .v (.int .i64 e), x5, .v (.int .i64 n), .v (.int .i64 e), .v (.int .i64 (ls.length : Nat)), .v (.int .i64 0), .undef] [[]] =
      some (.exit 0, [.v (.slc 1 (u8L b)), .v (.bool false), x2, .v (.int .i64 n), .v (.int .i64 e), x5, .v (.int .i64 n), .v (.int .i64 e), .v (.int .i64 (ls.length : Nat)), .v (.int .i64 (ls.length : Nat)), .undef], [[]]) := by
  have hl := sL_len ls
  have key : ∀ x2 x5 : D, (x2 = .v (.slc 1 (sL ls)) ∨ (x2 = .lin 1 (sL ls))) → x5 = .lin 1 (sL ls) → ∀ i, i < ls.length → rndE G [10] euphroelaw14_WordsHeads.l0 [.v (.slc 1 (u8L b)), .v (.bool false), x2, .v (.int .i64 n), .v (.int .i64 e), x5, .v (.int .i64 n), .v (.int .i64 e), .v (.int .i64 (ls.length : Nat)), .v (.int .i64 (i : Nat)), .undef] [[]] =
      some (.inl ([.v (.slc 1 (u8L b)), .v (.bool false), x2, .v (.int .i64 n), .v (.int .i64 e), x5, .v (.int .i64 n), .v (.int .i64 e), .v (.int .i64 (ls.length : Nat)), .v (.int .i64 ((i + 1 : Nat) : Int)), .undef], [[]])) := fun x2 x5 h2 h5 i hi => by
    have hx := sL_at hi
    subst h5
    have hbq : (ls[i] == ls[i]) = true := beq_self_eq_true _
    rcases h2 with rfl | rfl
    · simp -implicitDefEqProofs (maxSteps := 2000000) (disch := omega) only [euphroelaw14_WordsHeads.l0, hx, hl, hbq, go_sem, reduceIte, Nat.reduceAdd, Nat.reduceSub, Nat.reduceMul, Nat.reduceLeDiff, Nat.reduceLT, Nat.reduceEqDiff, Int.reduceToNat, Int.reduceLT, Int.reduceLE, Int.reduceEq, Int.reduceNe, Int.reduceAdd, Int.reduceSub, Int.reduceMul, Int.reduceNeg, Int.reduceBEq, Int.reduceBNe, reduceCtorEq, dreduceIte, oWS, oW8, oW16, oW32, oW64, oLtT, oLtF, oLeT, oLeF, oNLtT, oNLtF, oNLeT, oNLeF, oEqT, oEqF, oNEqT, oNEqF, oBeqT, oBeqF, oBneT, oBneF, Int.natCast_add, List.take_length]
    · simp -implicitDefEqProofs (maxSteps := 2000000) (disch := omega) only [euphroelaw14_WordsHeads.l0, hx, hl, hbq, go_sem, reduceIte, Nat.reduceAdd, Nat.reduceSub, Nat.reduceMul, Nat.reduceLeDiff, Nat.reduceLT, Nat.reduceEqDiff, Int.reduceToNat, Int.reduceLT, Int.reduceLE, Int.reduceEq, Int.reduceNe, Int.reduceAdd, Int.reduceSub, Int.reduceMul, Int.reduceNeg, Int.reduceBEq, Int.reduceBNe, reduceCtorEq, dreduceIte, oWS, oW8, oW16, oW32, oW64, oLtT, oLtF, oLeT, oLeF, oNLtT, oNLtF, oNLeT, oNLeF, oEqT, oEqF, oNEqT, oNEqF, oBeqT, oBeqF, oBneT, oBneF, Int.natCast_add, List.take_length]
  have L := lpFor (G := G) (kill := [10]) (body := euphroelaw14_WordsHeads.l0) (o := (.exit 0, [.v (.slc 1 (u8L b)), .v (.bool false), x2, .v (.int .i64 n), .v (.int .i64 e), x5, .v (.int .i64 n), .v (.int .i64 e), .v (.int .i64 (ls.length : Nat)), .v (.int .i64 (ls.length : Nat)), .undef], [[]])) (fun i => [.v (.slc 1 (u8L b)), .v (.bool false), x2, .v (.int .i64 n), .v (.int .i64 e), x5, .v (.int .i64 n), .v (.int .i64 e), .v (.int .i64 (ls.length : Nat)), .v (.int .i64 (i : Nat)), .undef]) (fun i => [[]]) ls.length (fun i hi => key x2 x5 hx2 hx5 i hi) (by
    subst hx5
    rcases hx2 with rfl | rfl
    · simp -implicitDefEqProofs (maxSteps := 2000000) (disch := omega) only [euphroelaw14_WordsHeads.l0, go_sem, reduceIte, Nat.reduceAdd, Nat.reduceSub, Nat.reduceMul, Nat.reduceLeDiff, Nat.reduceLT, Nat.reduceEqDiff, Int.reduceToNat, Int.reduceLT, Int.reduceLE, Int.reduceEq, Int.reduceNe, Int.reduceAdd, Int.reduceSub, Int.reduceMul, Int.reduceNeg, Int.reduceBEq, Int.reduceBNe, reduceCtorEq, dreduceIte, oWS, oW8, oW16, oW32, oW64, oLtT, oLtF, oLeT, oLeF, oNLtT, oNLtF, oNLeT, oNLeF, oEqT, oEqF, oNEqT, oNEqF, oBeqT, oBeqF, oBneT, oBneF, Int.natCast_add, List.take_length]
    · simp -implicitDefEqProofs (maxSteps := 2000000) (disch := omega) only [euphroelaw14_WordsHeads.l0, go_sem, reduceIte, Nat.reduceAdd, Nat.reduceSub, Nat.reduceMul, Nat.reduceLeDiff, Nat.reduceLT, Nat.reduceEqDiff, Int.reduceToNat, Int.reduceLT, Int.reduceLE, Int.reduceEq, Int.reduceNe, Int.reduceAdd, Int.reduceSub, Int.reduceMul, Int.reduceNeg, Int.reduceBEq, Int.reduceBNe, reduceCtorEq, dreduceIte, oWS, oW8, oW16, oW32, oW64, oLtT, oLtF, oLeT, oLeF, oNLtT, oNLtF, oNLeT, oNLeF, oEqT, oEqF, oNEqT, oNEqF, oBeqT, oBeqF, oBneT, oBneF, Int.natCast_add, List.take_length])
  exact L
theorem wordsHeads (b : List UInt8) : run G 6 [.v (.slc 1 (u8L b))] [] = some (.v (.bool true), []) := by
  have A := w_alive
  have hub := u8L_len b
  rw [xq_fn G rfl euphroelaw14_WordsHeads.g _ _ rfl]
  by_cases h : 4000 < b.length
  · simp -implicitDefEqProofs (maxSteps := 2000000) (disch := omega) only [euphroelaw14_WordsHeads.s, A, hub, go_sem, reduceIte, Nat.reduceAdd, Nat.reduceSub, Nat.reduceMul, Nat.reduceLeDiff, Nat.reduceLT, Nat.reduceEqDiff, Int.reduceToNat, Int.reduceLT, Int.reduceLE, Int.reduceEq, Int.reduceNe, Int.reduceAdd, Int.reduceSub, Int.reduceMul, Int.reduceNeg, Int.reduceBEq, Int.reduceBNe, reduceCtorEq, dreduceIte, oWS, oW8, oW16, oW32, oW64, oLtT, oLtF, oLeT, oLeF, oNLtT, oNLtF, oNLeT, oNLeF, oEqT, oEqF, oNEqT, oNEqF, oBeqT, oBeqF, oBneT, oBneF, Int.natCast_add, List.take_length]
  have I1 := w_Head b (by omega)
  have I2 := r_Head b (by omega)
  rw [progR_eq] at I1
  rcases hdR_cases b with ⟨ls, n, rest, hr, g, hn, h1, h2, e⟩ | ⟨e, hr, he⟩
  · rw [hr] at I1 I2
    have hll : ls.length ≤ 100000 := by
      have h1 : ∀ l : List (List UInt8), l.length ≤ (flt l).length := fun l => by
        induction l with
        | nil => exact Nat.le_refl _
        | cons x l ih => simp only [flt, List.length_append, List.length_cons]; omega
      have := h1 ls
      omega
    cases ls with
    | nil =>
      have L := wh_same [] n 0 b (by simp) (.lin 1 (sL [])) (.lin 1 (sL [])) (.inr rfl) rfl
      have e1 : clW (sL []) = .lin 1 (sL []) := rfl
      have e2 : (sL []).length = 0 := rfl
      simp only [hdO, hdP, e1] at I1 I2
      simp only [List.length_nil, z0, Int.cast_ofNat_Int, List.take_zero, List.map_nil, List.drop_zero, accN, b8_nil, Int.sub_zero, Int.add_zero, Int.zero_add, Nat.zero_add, Nat.sub_zero, List.nil_append, List.append_nil] at L
      simp -implicitDefEqProofs (maxSteps := 2000000) (disch := omega) only [euphroelaw14_WordsHeads.s, A, hub, I1, I2, L, e2, go_sem, reduceIte, Nat.reduceAdd, Nat.reduceSub, Nat.reduceMul, Nat.reduceLeDiff, Nat.reduceLT, Nat.reduceEqDiff, Int.reduceToNat, Int.reduceLT, Int.reduceLE, Int.reduceEq, Int.reduceNe, Int.reduceAdd, Int.reduceSub, Int.reduceMul, Int.reduceNeg, Int.reduceBEq, Int.reduceBNe, reduceCtorEq, dreduceIte, oWS, oW8, oW16, oW32, oW64, oLtT, oLtF, oLeT, oLeF, oNLtT, oNLtF, oNLeT, oNLeF, oEqT, oEqF, oNEqT, oNEqF, oBeqT, oBeqF, oBneT, oBneF, Int.natCast_add, List.take_length]
    | cons a as =>
      have L := wh_same (a :: as) n 0 b hll (.v (.slc 1 (sL (a :: as)))) (.lin 1 (sL (a :: as))) (.inl rfl) rfl
      have e1 : clW (sL (a :: as)) = .v (.slc 1 (sL (a :: as))) := rfl
      have e2 : (sL (a :: as)).length = (a :: as).length := sL_len _
      simp only [hdO, hdP, e1] at I1 I2
      generalize hq : (a :: as) = ls at *
      simp -implicitDefEqProofs (maxSteps := 2000000) (disch := omega) only [euphroelaw14_WordsHeads.s, A, hub, I1, I2, L, e2, go_sem, reduceIte, Nat.reduceAdd, Nat.reduceSub, Nat.reduceMul, Nat.reduceLeDiff, Nat.reduceLT, Nat.reduceEqDiff, Int.reduceToNat, Int.reduceLT, Int.reduceLE, Int.reduceEq, Int.reduceNe, Int.reduceAdd, Int.reduceSub, Int.reduceMul, Int.reduceNeg, Int.reduceBEq, Int.reduceBNe, reduceCtorEq, dreduceIte, oWS, oW8, oW16, oW32, oW64, oLtT, oLtF, oLeT, oLeF, oNLtT, oNLtF, oNLeT, oNLeF, oEqT, oEqF, oNEqT, oNEqF, oBeqT, oBeqF, oBneT, oBneF, Int.natCast_add, List.take_length]
  · rw [hr] at I1 I2
    have L := wh_same [] 0 e b (by simp) (.lin 1 (sL [])) (.lin 1 (sL [])) (.inr rfl) rfl
    have e1 : clW (sL []) = .lin 1 (sL []) := rfl
    have e2 : (sL []).length = 0 := rfl
    simp only [hdO, hdP, e1] at I1 I2
    simp only [List.length_nil, z0, Int.cast_ofNat_Int, List.take_zero, List.map_nil, List.drop_zero, accN, b8_nil, Int.sub_zero, Int.add_zero, Int.zero_add, Nat.zero_add, Nat.sub_zero, List.nil_append, List.append_nil] at L
    simp -implicitDefEqProofs (maxSteps := 2000000) (disch := omega) only [euphroelaw14_WordsHeads.s, A, hub, I1, I2, L, e2, go_sem, reduceIte, Nat.reduceAdd, Nat.reduceSub, Nat.reduceMul, Nat.reduceLeDiff, Nat.reduceLT, Nat.reduceEqDiff, Int.reduceToNat, Int.reduceLT, Int.reduceLE, Int.reduceEq, Int.reduceNe, Int.reduceAdd, Int.reduceSub, Int.reduceMul, Int.reduceNeg, Int.reduceBEq, Int.reduceBNe, reduceCtorEq, dreduceIte, oWS, oW8, oW16, oW32, oW64, oLtT, oLtF, oLeT, oLeF, oNLtT, oNLtF, oNLeT, oNLeF, oEqT, oEqF, oNEqT, oNEqF, oBeqT, oBeqF, oBneT, oBneF, Int.natCast_add, List.take_length]
end Go.Q
