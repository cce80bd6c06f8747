/- Requests: hosts, ids and their texts. No condition. -/
import Derived.Test.YtdcknpkednpckaaGreatDoorHk
set_option linter.all false
set_option maxRecDepth 100000
namespace Go.Q
open SOp SCode
attribute [local congr] bind_c map_c
def hostB (c : UInt8) : Bool := decide (33 ≤ c.toNat ∧ c.toNat ≤ 126)
def hostR (s : List UInt8) : Bool := s.all hostB && decide (1 ≤ s.length ∧ s.length ≤ 255)
theorem h_isHost (s : List UInt8) (h : s.length ≤ 100000) : run G 22 [.v (.str s)] [] = some (.v (.bool (hostR s)), []) := by
  have step : ∀ i (hi : i < s.length), hostB s[i] = true → rndE G [4] httpq_isHost.l0 [.v (.str s), .v (.bool false), .v (.int .i64 s.length), .v (.int .i64 i), .undef] [[]] = some (.inl ([.v (.str s), .v (.bool false), .v (.int .i64 s.length), .v (.int .i64 ((i + 1 : Nat) : Int)), .undef], [[]])) := by
    intro i hi hb
    have hx := List.getElem?_eq_getElem hi
    have hb : 33 ≤ (s[i]).toNat ∧ (s[i]).toNat ≤ 126 := by simpa [hostB] using hb
    generalize s[i] = c at *
    simp -implicitDefEqProofs (maxSteps := 2000000) (disch := omega) only [httpq_isHost.l0, hx, go_sem, reduceIte, Nat.reduceAdd, Nat.reduceSub, Nat.reduceMul, Nat.reduceLeDiff, Nat.reduceLT, Nat.reduceEqDiff, Int.reduceToNat, Int.reduceLT, Int.reduceLE, Int.reduceEq, Int.reduceNe, Int.reduceAdd, Int.reduceSub, Int.reduceMul, Int.reduceNeg, Int.reduceBEq, Int.reduceBNe, reduceCtorEq, dreduceIte, oWS, oW8, oW16, oW32, oW64, oLtT, oLtF, oLeT, oLeF, oNLtT, oNLtF, oNLeT, oNLeF, oEqT, oEqF, oNEqT, oNEqF, oBeqT, oBeqF, oBneT, oBneF, Int.natCast_add, List.take_length]
  unfold hostR
  rw [xq_fn G rfl httpq_isHost.g _ _ rfl]
  rcases all_first hostB s with ⟨e, k⟩ | ⟨e, j, hj, hb, k⟩
  · have L := lpFor (G := G) (kill := [4]) (body := httpq_isHost.l0) (fun i => [.v (.str s), .v (.bool false), .v (.int .i64 s.length), .v (.int .i64 i), .undef]) (fun i => [[]]) s.length (fun i hi => step i hi (k i hi)) (by simp -implicitDefEqProofs (maxSteps := 2000000) (disch := omega) only [httpq_isHost.l0, go_sem, reduceIte, Nat.reduceAdd, Nat.reduceSub, Nat.reduceMul, Nat.reduceLeDiff, Nat.reduceLT, Nat.reduceEqDiff, Int.reduceToNat, Int.reduceLT, Int.reduceLE, Int.reduceEq, Int.reduceNe, Int.reduceAdd, Int.reduceSub, Int.reduceMul, Int.reduceNeg, Int.reduceBEq, Int.reduceBNe, reduceCtorEq, dreduceIte, oWS, oW8, oW16, oW32, oW64, oLtT, oLtF, oLeT, oLeF, oNLtT, oNLtF, oNLeT, oNLeF, oEqT, oEqF, oNEqT, oNEqF, oBeqT, oBeqF, oBneT, oBneF, Int.natCast_add, List.take_length]; rfl)
    simp only [z0, Int.cast_ofNat_Int, List.take_zero, List.map_nil, List.drop_zero, accN, b8_nil, Int.sub_zero, Int.add_zero, Int.zero_add, Nat.zero_add, Nat.sub_zero, List.nil_append, List.append_nil] at L
    rw [e, Bool.true_and]
    by_cases h1 : 1 ≤ s.length
    · have hne : (s == []) = false := by cases s with
        | nil => simp at h1
        | cons a s => rfl
      by_cases h2 : s.length ≤ 255
      · rw [decide_eq_true ⟨h1, h2⟩]
        simp -implicitDefEqProofs (maxSteps := 2000000) (disch := omega) only [httpq_isHost.s, L, hne, go_sem, reduceIte, Nat.reduceAdd, Nat.reduceSub, Nat.reduceMul, Nat.reduceLeDiff, Nat.reduceLT, Nat.reduceEqDiff, Int.reduceToNat, Int.reduceLT, Int.reduceLE, Int.reduceEq, Int.reduceNe, Int.reduceAdd, Int.reduceSub, Int.reduceMul, Int.reduceNeg, Int.reduceBEq, Int.reduceBNe, reduceCtorEq, dreduceIte, oWS, oW8, oW16, oW32, oW64, oLtT, oLtF, oLeT, oLeF, oNLtT, oNLtF, oNLeT, oNLeF, oEqT, oEqF, oNEqT, oNEqF, oBeqT, oBeqF, oBneT, oBneF, Int.natCast_add, List.take_length]
      · rw [decide_eq_false (fun h => h2 h.2)]
        simp -implicitDefEqProofs (maxSteps := 2000000) (disch := omega) only [httpq_isHost.s, L, hne, go_sem, reduceIte, Nat.reduceAdd, Nat.reduceSub, Nat.reduceMul, Nat.reduceLeDiff, Nat.reduceLT, Nat.reduceEqDiff, Int.reduceToNat, Int.reduceLT, Int.reduceLE, Int.reduceEq, Int.reduceNe, Int.reduceAdd, Int.reduceSub, Int.reduceMul, Int.reduceNeg, Int.reduceBEq, Int.reduceBNe, reduceCtorEq, dreduceIte, oWS, oW8, oW16, oW32, oW64, oLtT, oLtF, oLeT, oLeF, oNLtT, oNLtF, oNLeT, oNLeF, oEqT, oEqF, oNEqT, oNEqF, oBeqT, oBeqF, oBneT, oBneF, Int.natCast_add, List.take_length]
    · have hne : (s == []) = true := by cases s with
        | nil => rfl
        | cons a s => simp at h1
      rw [decide_eq_false (fun h => h1 h.1)]
      simp -implicitDefEqProofs (maxSteps := 2000000) (disch := omega) only [httpq_isHost.s, L, hne, go_sem, reduceIte, Nat.reduceAdd, Nat.reduceSub, Nat.reduceMul, Nat.reduceLeDiff, Nat.reduceLT, Nat.reduceEqDiff, Int.reduceToNat, Int.reduceLT, Int.reduceLE, Int.reduceEq, Int.reduceNe, Int.reduceAdd, Int.reduceSub, Int.reduceMul, Int.reduceNeg, Int.reduceBEq, Int.reduceBNe, reduceCtorEq, dreduceIte, oWS, oW8, oW16, oW32, oW64, oLtT, oLtF, oLeT, oLeF, oNLtT, oNLtF, oNLeT, oNLeF, oEqT, oEqF, oNEqT, oNEqF, oBeqT, oBeqF, oBneT, oBneF, Int.natCast_add, List.take_length]
  · have hx := List.getElem?_eq_getElem hj
    have hb : ¬ (33 ≤ (s[j]).toNat ∧ (s[j]).toNat ≤ 126) := by simpa [hostB] using hb
    have L := lpFor (G := G) (kill := [4]) (body := httpq_isHost.l0) (o := (.ret, [.v (.str s), .v (.bool false), .v (.int .i64 s.length), .v (.int .i64 j), .undef], [[]])) (fun i => [.v (.str s), .v (.bool false), .v (.int .i64 s.length), .v (.int .i64 i), .undef]) (fun i => [[]]) j (fun i hi => step i (by omega) (k i (by omega) hi)) (by
      generalize s[j] = c at *
      by_cases h1 : (c.toNat : Int) < 33
      · simp -implicitDefEqProofs (maxSteps := 2000000) (disch := omega) only [httpq_isHost.l0, hx, h1, go_sem, reduceIte, Nat.reduceAdd, Nat.reduceSub, Nat.reduceMul, Nat.reduceLeDiff, Nat.reduceLT, Nat.reduceEqDiff, Int.reduceToNat, Int.reduceLT, Int.reduceLE, Int.reduceEq, Int.reduceNe, Int.reduceAdd, Int.reduceSub, Int.reduceMul, Int.reduceNeg, Int.reduceBEq, Int.reduceBNe, reduceCtorEq, dreduceIte, oWS, oW8, oW16, oW32, oW64, oLtT, oLtF, oLeT, oLeF, oNLtT, oNLtF, oNLeT, oNLeF, oEqT, oEqF, oNEqT, oNEqF, oBeqT, oBeqF, oBneT, oBneF, Int.natCast_add, List.take_length]
      · have h2 : (126 : Int) < c.toNat := by omega
        simp -implicitDefEqProofs (maxSteps := 2000000) (disch := omega) only [httpq_isHost.l0, hx, h1, h2, go_sem, reduceIte, Nat.reduceAdd, Nat.reduceSub, Nat.reduceMul, Nat.reduceLeDiff, Nat.reduceLT, Nat.reduceEqDiff, Int.reduceToNat, Int.reduceLT, Int.reduceLE, Int.reduceEq, Int.reduceNe, Int.reduceAdd, Int.reduceSub, Int.reduceMul, Int.reduceNeg, Int.reduceBEq, Int.reduceBNe, reduceCtorEq, dreduceIte, oWS, oW8, oW16, oW32, oW64, oLtT, oLtF, oLeT, oLeF, oNLtT, oNLtF, oNLeT, oNLeF, oEqT, oEqF, oNEqT, oNEqF, oBeqT, oBeqF, oBneT, oBneF, Int.natCast_add, List.take_length])
    simp only [z0, Int.cast_ofNat_Int, List.take_zero, List.map_nil, List.drop_zero, accN, b8_nil, Int.sub_zero, Int.add_zero, Int.zero_add, Nat.zero_add, Nat.sub_zero, List.nil_append, List.append_nil] at L
    rw [e, Bool.false_and]
    simp -implicitDefEqProofs (maxSteps := 2000000) (disch := omega) only [httpq_isHost.s, L, go_sem, reduceIte, Nat.reduceAdd, Nat.reduceSub, Nat.reduceMul, Nat.reduceLeDiff, Nat.reduceLT, Nat.reduceEqDiff, Int.reduceToNat, Int.reduceLT, Int.reduceLE, Int.reduceEq, Int.reduceNe, Int.reduceAdd, Int.reduceSub, Int.reduceMul, Int.reduceNeg, Int.reduceBEq, Int.reduceBNe, reduceCtorEq, dreduceIte, oWS, oW8, oW16, oW32, oW64, oLtT, oLtF, oLeT, oLeF, oNLtT, oNLtF, oNLeT, oNLeF, oEqT, oEqF, oNEqT, oNEqF, oBeqT, oBeqF, oBneT, oBneF, Int.natCast_add, List.take_length]
theorem r_host (s : List UInt8) (h : s.length ≤ 100000) : run G 20 [.v (.str s)] [] = some (.v (.bool (hostR s)), []) := by
  have step : ∀ i (hi : i < s.length), hostB s[i] = true → rndE G [] euphroeref15_host.l0 [.v (.str s), .v (.bool false), .v (.int .i64 i)] [[]] = some (.inl ([.v (.str s), .v (.bool false), .v (.int .i64 ((i + 1 : Nat) : Int))], [[]])) := by
    intro i hi hb
    have hx := List.getElem?_eq_getElem hi
    have hb : 33 ≤ (s[i]).toNat ∧ (s[i]).toNat ≤ 126 := by simpa [hostB] using hb
    generalize s[i] = c at *
    simp -implicitDefEqProofs (maxSteps := 2000000) (disch := omega) only [euphroeref15_host.l0, hx, go_sem, reduceIte, Nat.reduceAdd, Nat.reduceSub, Nat.reduceMul, Nat.reduceLeDiff, Nat.reduceLT, Nat.reduceEqDiff, Int.reduceToNat, Int.reduceLT, Int.reduceLE, Int.reduceEq, Int.reduceNe, Int.reduceAdd, Int.reduceSub, Int.reduceMul, Int.reduceNeg, Int.reduceBEq, Int.reduceBNe, reduceCtorEq, dreduceIte, oWS, oW8, oW16, oW32, oW64, oLtT, oLtF, oLeT, oLeF, oNLtT, oNLtF, oNLeT, oNLeF, oEqT, oEqF, oNEqT, oNEqF, oBeqT, oBeqF, oBneT, oBneF, Int.natCast_add, List.take_length]
  unfold hostR
  rw [xq_fn G rfl euphroeref15_host.g _ _ rfl]
  rcases all_first hostB s with ⟨e, k⟩ | ⟨e, j, hj, hb, k⟩
  · have L := lpFor (G := G) (kill := []) (body := euphroeref15_host.l0) (fun i => [.v (.str s), .v (.bool false), .v (.int .i64 i)]) (fun i => [[]]) s.length (fun i hi => step i hi (k i hi)) (by simp -implicitDefEqProofs (maxSteps := 2000000) (disch := omega) only [euphroeref15_host.l0, go_sem, reduceIte, Nat.reduceAdd, Nat.reduceSub, Nat.reduceMul, Nat.reduceLeDiff, Nat.reduceLT, Nat.reduceEqDiff, Int.reduceToNat, Int.reduceLT, Int.reduceLE, Int.reduceEq, Int.reduceNe, Int.reduceAdd, Int.reduceSub, Int.reduceMul, Int.reduceNeg, Int.reduceBEq, Int.reduceBNe, reduceCtorEq, dreduceIte, oWS, oW8, oW16, oW32, oW64, oLtT, oLtF, oLeT, oLeF, oNLtT, oNLtF, oNLeT, oNLeF, oEqT, oEqF, oNEqT, oNEqF, oBeqT, oBeqF, oBneT, oBneF, Int.natCast_add, List.take_length]; rfl)
    simp only [z0, Int.cast_ofNat_Int, List.take_zero, List.map_nil, List.drop_zero, accN, b8_nil, Int.sub_zero, Int.add_zero, Int.zero_add, Nat.zero_add, Nat.sub_zero, List.nil_append, List.append_nil] at L
    rw [e, Bool.true_and]
    by_cases h1 : 1 ≤ s.length
    · by_cases h2 : s.length ≤ 255
      · rw [decide_eq_true ⟨h1, h2⟩]
        simp -implicitDefEqProofs (maxSteps := 2000000) (disch := omega) only [euphroeref15_host.s, L, go_sem, reduceIte, Nat.reduceAdd, Nat.reduceSub, Nat.reduceMul, Nat.reduceLeDiff, Nat.reduceLT, Nat.reduceEqDiff, Int.reduceToNat, Int.reduceLT, Int.reduceLE, Int.reduceEq, Int.reduceNe, Int.reduceAdd, Int.reduceSub, Int.reduceMul, Int.reduceNeg, Int.reduceBEq, Int.reduceBNe, reduceCtorEq, dreduceIte, oWS, oW8, oW16, oW32, oW64, oLtT, oLtF, oLeT, oLeF, oNLtT, oNLtF, oNLeT, oNLeF, oEqT, oEqF, oNEqT, oNEqF, oBeqT, oBeqF, oBneT, oBneF, Int.natCast_add, List.take_length]
      · rw [decide_eq_false (fun h => h2 h.2)]
        simp -implicitDefEqProofs (maxSteps := 2000000) (disch := omega) only [euphroeref15_host.s, L, go_sem, reduceIte, Nat.reduceAdd, Nat.reduceSub, Nat.reduceMul, Nat.reduceLeDiff, Nat.reduceLT, Nat.reduceEqDiff, Int.reduceToNat, Int.reduceLT, Int.reduceLE, Int.reduceEq, Int.reduceNe, Int.reduceAdd, Int.reduceSub, Int.reduceMul, Int.reduceNeg, Int.reduceBEq, Int.reduceBNe, reduceCtorEq, dreduceIte, oWS, oW8, oW16, oW32, oW64, oLtT, oLtF, oLeT, oLeF, oNLtT, oNLtF, oNLeT, oNLeF, oEqT, oEqF, oNEqT, oNEqF, oBeqT, oBeqF, oBneT, oBneF, Int.natCast_add, List.take_length]
    · rw [decide_eq_false (fun h => h1 h.1)]
      simp -implicitDefEqProofs (maxSteps := 2000000) (disch := omega) only [euphroeref15_host.s, L, go_sem, reduceIte, Nat.reduceAdd, Nat.reduceSub, Nat.reduceMul, Nat.reduceLeDiff, Nat.reduceLT, Nat.reduceEqDiff, Int.reduceToNat, Int.reduceLT, Int.reduceLE, Int.reduceEq, Int.reduceNe, Int.reduceAdd, Int.reduceSub, Int.reduceMul, Int.reduceNeg, Int.reduceBEq, Int.reduceBNe, reduceCtorEq, dreduceIte, oWS, oW8, oW16, oW32, oW64, oLtT, oLtF, oLeT, oLeF, oNLtT, oNLtF, oNLeT, oNLeF, oEqT, oEqF, oNEqT, oNEqF, oBeqT, oBeqF, oBneT, oBneF, Int.natCast_add, List.take_length]
  · have hx := List.getElem?_eq_getElem hj
    have hb : ¬ (33 ≤ (s[j]).toNat ∧ (s[j]).toNat ≤ 126) := by simpa [hostB] using hb
    have L := lpFor (G := G) (kill := []) (body := euphroeref15_host.l0) (o := (.ret, [.v (.str s), .v (.bool false), .v (.int .i64 j)], [[]])) (fun i => [.v (.str s), .v (.bool false), .v (.int .i64 i)]) (fun i => [[]]) j (fun i hi => step i (by omega) (k i (by omega) hi)) (by
      generalize s[j] = c at *
      by_cases h1 : (c.toNat : Int) < 33
      · simp -implicitDefEqProofs (maxSteps := 2000000) (disch := omega) only [euphroeref15_host.l0, hx, h1, go_sem, reduceIte, Nat.reduceAdd, Nat.reduceSub, Nat.reduceMul, Nat.reduceLeDiff, Nat.reduceLT, Nat.reduceEqDiff, Int.reduceToNat, Int.reduceLT, Int.reduceLE, Int.reduceEq, Int.reduceNe, Int.reduceAdd, Int.reduceSub, Int.reduceMul, Int.reduceNeg, Int.reduceBEq, Int.reduceBNe, reduceCtorEq, dreduceIte, oWS, oW8, oW16, oW32, oW64, oLtT, oLtF, oLeT, oLeF, oNLtT, oNLtF, oNLeT, oNLeF, oEqT, oEqF, oNEqT, oNEqF, oBeqT, oBeqF, oBneT, oBneF, Int.natCast_add, List.take_length]
      · have h2 : (126 : Int) < c.toNat := by omega
        simp -implicitDefEqProofs (maxSteps := 2000000) (disch := omega) only [euphroeref15_host.l0, hx, h1, h2, go_sem, reduceIte, Nat.reduceAdd, Nat.reduceSub, Nat.reduceMul, Nat.reduceLeDiff, Nat.reduceLT, Nat.reduceEqDiff, Int.reduceToNat, Int.reduceLT, Int.reduceLE, Int.reduceEq, Int.reduceNe, Int.reduceAdd, Int.reduceSub, Int.reduceMul, Int.reduceNeg, Int.reduceBEq, Int.reduceBNe, reduceCtorEq, dreduceIte, oWS, oW8, oW16, oW32, oW64, oLtT, oLtF, oLeT, oLeF, oNLtT, oNLtF, oNLeT, oNLeF, oEqT, oEqF, oNEqT, oNEqF, oBeqT, oBeqF, oBneT, oBneF, Int.natCast_add, List.take_length])
    simp only [z0, Int.cast_ofNat_Int, List.take_zero, List.map_nil, List.drop_zero, accN, b8_nil, Int.sub_zero, Int.add_zero, Int.zero_add, Nat.zero_add, Nat.sub_zero, List.nil_append, List.append_nil] at L
    rw [e, Bool.false_and]
    simp -implicitDefEqProofs (maxSteps := 2000000) (disch := omega) only [euphroeref15_host.s, L, go_sem, reduceIte, Nat.reduceAdd, Nat.reduceSub, Nat.reduceMul, Nat.reduceLeDiff, Nat.reduceLT, Nat.reduceEqDiff, Int.reduceToNat, Int.reduceLT, Int.reduceLE, Int.reduceEq, Int.reduceNe, Int.reduceAdd, Int.reduceSub, Int.reduceMul, Int.reduceNeg, Int.reduceBEq, Int.reduceBNe, reduceCtorEq, dreduceIte, oWS, oW8, oW16, oW32, oW64, oLtT, oLtF, oLeT, oLeF, oNLtT, oNLtF, oNLeT, oNLeF, oEqT, oEqF, oNEqT, oNEqF, oBeqT, oBeqF, oBneT, oBneF, Int.natCast_add, List.take_length]
abbrev grpL : List V := [.int .i64 8, .int .i64 4, .int .i64 4, .int .i64 4, .int .i64 12]
theorem h_groups : run G 28 [] [] = some (.v (.agg grpL), []) := run_of (n := 10) (by kernel_rfl)
def guR (s : List UInt8) : List UInt8 := 123 :: (s.take 8 ++ 45 :: ((s.drop 8).take 4 ++ 45 :: ((s.drop 12).take 4 ++ 45 :: ((s.drop 16).take 4 ++ 45 :: ((s.drop 20).take 12 ++ [125])))))
abbrev guE (id s : List UInt8) (acc : List (List UInt8)) (i : Nat) : List D := [.v (.agg (u8L id)), .ptr ⟨0, 0⟩ 0 0, .v (.str []), .v (.str s), accG 1 (sL acc), .v (.agg grpL), .v (.int .i64 i), .undef]
theorem gu_step (id s : List UInt8) (hs : s.length ≤ 1000) (acc : List (List UInt8)) (ha : acc.length ≤ 10) (i n : Nat) (hi : i < 5) (hn : grpL[i]? = some (.int .i64 n)) (hns : n ≤ s.length) :
    rndE G [7] httpq_Guid.l0 (guE id s acc i) [[Blk.row [D.v (V.agg (u8L id))]]] = some (.inl (guE id (s.drop n) (acc ++ [s.take n]) (i + 1), [[Blk.row [D.v (V.agg (u8L id))]]])) := by
  have hM := hmax
  have hgl : grpL.length = 5 := rfl
  have hn2 : (List.map D.v grpL)[i * 1]? = some (.v (.int .i64 n)) := by rw [Nat.mul_one, List.getElem?_map, hn]; rfl
  have t1 : s.take s.length = s := List.take_length
  generalize hg : grpL = gr at *
  cases acc with
  | nil =>
    have eA : accG 1 (sL ([] : List (List UInt8))) = .nils 1 := rfl
    have eB : accG 1 (sL ([] ++ [s.take n])) = .lin 1 [.str (s.take n)] := rfl
    simp only [guE, hg]
    rw [eA, eB]
    simp -implicitDefEqProofs (maxSteps := 2000000) (disch := omega) only [httpq_Guid.l0, hgl, hn2, Function.comp_apply, t1, hM, List.length_cons, List.length_nil, go_sem, reduceIte, Nat.reduceAdd, Nat.reduceSub, Nat.reduceMul, Nat.reduceLeDiff, Nat.reduceLT, Nat.reduceEqDiff, Int.reduceToNat, Int.reduceLT, Int.reduceLE, Int.reduceEq, Int.reduceNe, Int.reduceAdd, Int.reduceSub, Int.reduceMul, Int.reduceNeg, Int.reduceBEq, Int.reduceBNe, reduceCtorEq, dreduceIte, oWS, oW8, oW16, oW32, oW64, oLtT, oLtF, oLeT, oLeF, oNLtT, oNLtF, oNLeT, oNLeF, oEqT, oEqF, oNEqT, oNEqF, oBeqT, oBeqF, oBneT, oBneF, Int.natCast_add, List.take_length]
  | cons a as =>
    have eA : accG 1 (sL (a :: as)) = .lin 1 (.str a :: sL as) := rfl
    have eB : accG 1 (sL ((a :: as) ++ [s.take n])) = .lin 1 (.str a :: (sL as ++ [.str (s.take n)])) := by simp [sL, accG]
    have hal : (sL as).length ≤ 10 := by rw [sL_len]; simp at ha; omega
    simp only [guE, hg]
    rw [eA, eB]
    simp -implicitDefEqProofs (maxSteps := 2000000) (disch := omega) only [httpq_Guid.l0, hgl, hn2, Function.comp_apply, t1, hM, List.length_cons, List.length_nil, go_sem, reduceIte, Nat.reduceAdd, Nat.reduceSub, Nat.reduceMul, Nat.reduceLeDiff, Nat.reduceLT, Nat.reduceEqDiff, Int.reduceToNat, Int.reduceLT, Int.reduceLE, Int.reduceEq, Int.reduceNe, Int.reduceAdd, Int.reduceSub, Int.reduceMul, Int.reduceNeg, Int.reduceBEq, Int.reduceBNe, reduceCtorEq, dreduceIte, oWS, oW8, oW16, oW32, oW64, oLtT, oLtF, oLeT, oLeF, oNLtT, oNLtF, oNLeT, oNLeF, oEqT, oEqF, oNEqT, oNEqF, oBeqT, oBeqF, oBneT, oBneF, Int.natCast_add, List.take_length]
theorem toVL_v : ∀ l : List V, toVL (l.map D.v) = some l
  | [] => rfl
  | x :: l => by simp [toVL, toV, toVL_v l]
theorem joinF5 (a b c d e : List UInt8) (h : a.length + b.length + c.length + d.length + e.length ≤ 100000) : joinF [.slc 1 (sL [a, b, c, d, e]), .str [45]] = some (.v (.str (a ++ 45 :: (b ++ 45 :: (c ++ 45 :: (d ++ 45 :: e)))))) := by
  have e1 : strsOf (sL [a, b, c, d, e]) = some [a, b, c, d, e] := rfl
  have e2 : Lib.join [a, b, c, d, e] [45] = a ++ 45 :: (b ++ 45 :: (c ++ 45 :: (d ++ 45 :: e))) := by simp [Lib.join]
  simp only [joinF, e1, e2, Option.bind_some]
  rw [if_pos (by simp; omega)]
theorem h_Guid (id : List UInt8) (h : id.length = 16) : run G 11 [.v (.agg (u8L id))] [] = some (.v (.str (guR (hexR id))), []) := by
  have I1 := o_Hex id (by omega) (by intro e; subst e; simp at h)
  have I2 := h_groups
  have hub := u8L_len id
  have hl := hexR_len id
  rw [h] at hl hub
  generalize hexR id = s at *
  have hm1 : (List.map D.v (u8L id)).length = 16 := by rw [List.length_map, hub]
  have htv : toVL (List.take 16 (List.map D.v (u8L id))) = some (u8L id) := by
    rw [List.take_of_length_le (by omega), toVL_v]
  have I3 : run G 24 [.v (.slc 1 (sL [s.take 8, (s.drop 8).take 4, (s.drop 12).take 4, (s.drop 16).take 4, (s.drop 20).take 12])), .v (.str [45])] [] = some (.v (.str (s.take 8 ++ 45 :: ((s.drop 8).take 4 ++ 45 :: ((s.drop 12).take 4 ++ 45 :: ((s.drop 16).take 4 ++ 45 :: (s.drop 20).take 12))))), []) := by
    rw [xq_prim G (f := 24) (F := primPure joinF) (by rfl)]
    simp only [primPure, allV, Option.map_some, Option.bind_some]
    rw [joinF5 _ _ _ _ _ (by simp only [List.length_take, List.length_drop]; omega)]
    rfl
  have s1 := rnd_step (gu_step id s (by omega) [] (by simp) 0 8 (by omega) rfl (by omega))
  have s2 := rnd_step (gu_step id (s.drop 8) (by simp; omega) ([] ++ [s.take 8]) (by simp) 1 4 (by omega) rfl (by simp; omega))
  have s3 := rnd_step (gu_step id ((s.drop 8).drop 4) (by simp; omega) ([] ++ [s.take 8] ++ [(s.drop 8).take 4]) (by simp) 2 4 (by omega) rfl (by simp; omega))
  have s4 := rnd_step (gu_step id (((s.drop 8).drop 4).drop 4) (by simp; omega) ([] ++ [s.take 8] ++ [(s.drop 8).take 4] ++ [((s.drop 8).drop 4).take 4]) (by simp) 3 4 (by omega) rfl (by simp; omega))
  have s5 := rnd_step (gu_step id ((((s.drop 8).drop 4).drop 4).drop 4) (by simp; omega) ([] ++ [s.take 8] ++ [(s.drop 8).take 4] ++ [((s.drop 8).drop 4).take 4] ++ [(((s.drop 8).drop 4).drop 4).take 4]) (by simp) 4 12 (by omega) rfl (by simp; omega))
  have s6 : ex G (.loop [7] httpq_Guid.l0) (guE id (((((s.drop 8).drop 4).drop 4).drop 4).drop 12) ([] ++ [s.take 8] ++ [(s.drop 8).take 4] ++ [((s.drop 8).drop 4).take 4] ++ [(((s.drop 8).drop 4).drop 4).take 4] ++ [((((s.drop 8).drop 4).drop 4).drop 4).take 12]) 5) [[Blk.row [D.v (V.agg (u8L id))]]] = some (.exit 0, guE id (((((s.drop 8).drop 4).drop 4).drop 4).drop 12) ([] ++ [s.take 8] ++ [(s.drop 8).take 4] ++ [((s.drop 8).drop 4).take 4] ++ [(((s.drop 8).drop 4).drop 4).take 4] ++ [((((s.drop 8).drop 4).drop 4).drop 4).take 12]) 5, [[Blk.row [D.v (V.agg (u8L id))]]]) := rnd_end (by
      have eA : accG 1 (sL ([] ++ [s.take 8] ++ [(s.drop 8).take 4] ++ [((s.drop 8).drop 4).take 4] ++ [(((s.drop 8).drop 4).drop 4).take 4] ++ [((((s.drop 8).drop 4).drop 4).drop 4).take 12])) = .lin 1 (sL ([] ++ [s.take 8] ++ [(s.drop 8).take 4] ++ [((s.drop 8).drop 4).take 4] ++ [(((s.drop 8).drop 4).drop 4).take 4] ++ [((((s.drop 8).drop 4).drop 4).drop 4).take 12])) := rfl
      simp only [guE, eA]
      generalize sL _ = ll
      generalize grpL = gr
      simp -implicitDefEqProofs (maxSteps := 2000000) (disch := omega) only [httpq_Guid.l0, go_sem, reduceIte, Nat.reduceAdd, Nat.reduceSub, Nat.reduceMul, Nat.reduceLeDiff, Nat.reduceLT, Nat.reduceEqDiff, Int.reduceToNat, Int.reduceLT, Int.reduceLE, Int.reduceEq, Int.reduceNe, Int.reduceAdd, Int.reduceSub, Int.reduceMul, Int.reduceNeg, Int.reduceBEq, Int.reduceBNe, reduceCtorEq, dreduceIte, oWS, oW8, oW16, oW32, oW64, oLtT, oLtF, oLeT, oLeF, oNLtT, oNLtF, oNLeT, oNLeF, oEqT, oEqF, oNEqT, oNEqF, oBeqT, oBeqF, oBneT, oBneF, Int.natCast_add, List.take_length])
  have L := ((((s1.trans s2).trans s3).trans s4).trans s5).trans s6
  simp only [List.drop_drop, List.nil_append, List.cons_append] at L
  have eA : accG 1 (sL ([] : List (List UInt8))) = .nils 1 := rfl
  have eB : accG 1 (sL [s.take 8, (s.drop 8).take 4, (s.drop 12).take 4, (s.drop 16).take 4, (s.drop 20).take 12]) = .lin 1 (sL [s.take 8, (s.drop 8).take 4, (s.drop 12).take 4, (s.drop 16).take 4, (s.drop 20).take 12]) := rfl
  simp only [guE, eA] at L
  have eB2 := eB
  simp only [Nat.reduceAdd] at L
  rw [eB] at L
  generalize hq : sL [s.take 8, (s.drop 8).take 4, (s.drop 12).take 4, (s.drop 16).take 4, (s.drop 20).take 12] = ll at *
  have hsl : (s.take 8 ++ 45 :: ((s.drop 8).take 4 ++ 45 :: ((s.drop 12).take 4 ++ 45 :: ((s.drop 16).take 4 ++ 45 :: (s.drop 20).take 12)))).length ≤ 100 := by
    simp only [List.length_append, List.length_cons, List.length_take, List.length_drop]; omega
  have hgu : guR s = [123] ++ (s.take 8 ++ 45 :: ((s.drop 8).take 4 ++ 45 :: ((s.drop 12).take 4 ++ 45 :: ((s.drop 16).take 4 ++ 45 :: (s.drop 20).take 12)))) ++ [125] := by simp [guR]
  rw [hgu]
  generalize (s.take 8 ++ 45 :: ((s.drop 8).take 4 ++ 45 :: ((s.drop 12).take 4 ++ 45 :: ((s.drop 16).take 4 ++ 45 :: (s.drop 20).take 12)))) = t at *
  simp only [z0, Int.cast_ofNat_Int, List.take_zero, List.map_nil, List.drop_zero, accN, b8_nil, Int.sub_zero, Int.add_zero, Int.zero_add, Nat.zero_add, Nat.sub_zero, List.nil_append, List.append_nil] at L
  rw [xq_fn G rfl httpq_Guid.g _ _ rfl]
  simp -implicitDefEqProofs (maxSteps := 2000000) (disch := omega) only [httpq_Guid.s, I1, I2, hub, hm1, htv, L, I3, List.length_append, List.length_cons, List.length_nil, go_sem, reduceIte, Nat.reduceAdd, Nat.reduceSub, Nat.reduceMul, Nat.reduceLeDiff, Nat.reduceLT, Nat.reduceEqDiff, Int.reduceToNat, Int.reduceLT, Int.reduceLE, Int.reduceEq, Int.reduceNe, Int.reduceAdd, Int.reduceSub, Int.reduceMul, Int.reduceNeg, Int.reduceBEq, Int.reduceBNe, reduceCtorEq, dreduceIte, oWS, oW8, oW16, oW32, oW64, oLtT, oLtF, oLeT, oLeF, oNLtT, oNLtF, oNLeT, oNLeF, oEqT, oEqF, oNEqT, oNEqF, oBeqT, oBeqF, oBneT, oBneF, Int.natCast_add, List.take_length]
def preR (c : UInt8) (s : List UInt8) : List UInt8 × Bool := match s with
  | [] => ([], false)
  | b :: t => if b = c then (t, true) else (b :: t, false)
def sufR (c : UInt8) (s : List UInt8) : List UInt8 × Bool := if s.getLast? = some c then (s.dropLast, true) else (s, false)
theorem h_HasPrefix (c : UInt8) (s : List UInt8) (hs : s.length ≤ 100000) : run G 69 [.v (.str s), .v (.str [c])] [] = some (.v (.bool (preR c s).2), []) := by
  rw [xq_fn G rfl stringslite_HasPrefix.g _ _ rfl]
  cases s with
  | nil =>
    simp only [preR]
    simp -implicitDefEqProofs (maxSteps := 2000000) (disch := omega) only [stringslite_HasPrefix.s, List.length_nil, List.length_cons, go_sem, reduceIte, Nat.reduceAdd, Nat.reduceSub, Nat.reduceMul, Nat.reduceLeDiff, Nat.reduceLT, Nat.reduceEqDiff, Int.reduceToNat, Int.reduceLT, Int.reduceLE, Int.reduceEq, Int.reduceNe, Int.reduceAdd, Int.reduceSub, Int.reduceMul, Int.reduceNeg, Int.reduceBEq, Int.reduceBNe, reduceCtorEq, dreduceIte, oWS, oW8, oW16, oW32, oW64, oLtT, oLtF, oLeT, oLeF, oNLtT, oNLtF, oNLeT, oNLeF, oEqT, oEqF, oNEqT, oNEqF, oBeqT, oBeqF, oBneT, oBneF, Int.natCast_add, List.take_length]
  | cons b t =>
    have ht : List.take 1 (b :: t) = [b] := rfl
    by_cases h : b = c
    · have hq : ([b] == [c]) = true := by rw [h]; exact beq_self_eq_true _
      simp only [preR]
      rw [if_pos h]
      simp -implicitDefEqProofs (maxSteps := 2000000) (disch := omega) only [stringslite_HasPrefix.s, hq, ht, List.length_nil, List.length_cons, go_sem, reduceIte, Nat.reduceAdd, Nat.reduceSub, Nat.reduceMul, Nat.reduceLeDiff, Nat.reduceLT, Nat.reduceEqDiff, Int.reduceToNat, Int.reduceLT, Int.reduceLE, Int.reduceEq, Int.reduceNe, Int.reduceAdd, Int.reduceSub, Int.reduceMul, Int.reduceNeg, Int.reduceBEq, Int.reduceBNe, reduceCtorEq, dreduceIte, oWS, oW8, oW16, oW32, oW64, oLtT, oLtF, oLeT, oLeF, oNLtT, oNLtF, oNLeT, oNLeF, oEqT, oEqF, oNEqT, oNEqF, oBeqT, oBeqF, oBneT, oBneF, Int.natCast_add, List.take_length]
    · have hq : ([b] == [c]) = false := by simpa using h
      simp only [preR]
      rw [if_neg h]
      simp -implicitDefEqProofs (maxSteps := 2000000) (disch := omega) only [stringslite_HasPrefix.s, hq, ht, List.length_nil, List.length_cons, go_sem, reduceIte, Nat.reduceAdd, Nat.reduceSub, Nat.reduceMul, Nat.reduceLeDiff, Nat.reduceLT, Nat.reduceEqDiff, Int.reduceToNat, Int.reduceLT, Int.reduceLE, Int.reduceEq, Int.reduceNe, Int.reduceAdd, Int.reduceSub, Int.reduceMul, Int.reduceNeg, Int.reduceBEq, Int.reduceBNe, reduceCtorEq, dreduceIte, oWS, oW8, oW16, oW32, oW64, oLtT, oLtF, oLeT, oLeF, oNLtT, oNLtF, oNLeT, oNLeF, oEqT, oEqF, oNEqT, oNEqF, oBeqT, oBeqF, oBneT, oBneF, Int.natCast_add, List.take_length]
theorem h_CutPrefix (c : UInt8) (s : List UInt8) (hs : s.length ≤ 100000) : run G 25 [.v (.str s), .v (.str [c])] [] = some (.tup [.v (.str (preR c s).1), .v (.bool (preR c s).2)], []) := by
  have I1 := h_HasPrefix c s hs
  have I : run G 48 [.v (.str s), .v (.str [c])] [] = some (.tup [.v (.str (preR c s).1), .v (.bool (preR c s).2)], []) := by
    rw [xq_fn G rfl stringslite_CutPrefix.g _ _ rfl]
    cases s with
    | nil =>
      simp only [preR] at I1 ⊢
      simp -implicitDefEqProofs (maxSteps := 2000000) (disch := omega) only [stringslite_CutPrefix.s, I1, List.length_nil, List.length_cons, go_sem, reduceIte, Nat.reduceAdd, Nat.reduceSub, Nat.reduceMul, Nat.reduceLeDiff, Nat.reduceLT, Nat.reduceEqDiff, Int.reduceToNat, Int.reduceLT, Int.reduceLE, Int.reduceEq, Int.reduceNe, Int.reduceAdd, Int.reduceSub, Int.reduceMul, Int.reduceNeg, Int.reduceBEq, Int.reduceBNe, reduceCtorEq, dreduceIte, oWS, oW8, oW16, oW32, oW64, oLtT, oLtF, oLeT, oLeF, oNLtT, oNLtF, oNLeT, oNLeF, oEqT, oEqF, oNEqT, oNEqF, oBeqT, oBeqF, oBneT, oBneF, Int.natCast_add, List.take_length]
    | cons b t =>
      have ht : List.drop 1 (List.take (t.length + 1) (b :: t)) = t := by simp
      by_cases h : b = c
      · simp only [preR] at I1 ⊢
        rw [if_pos h] at I1 ⊢
        simp -implicitDefEqProofs (maxSteps := 2000000) (disch := omega) only [stringslite_CutPrefix.s, I1, ht, List.length_nil, List.length_cons, go_sem, reduceIte, Nat.reduceAdd, Nat.reduceSub, Nat.reduceMul, Nat.reduceLeDiff, Nat.reduceLT, Nat.reduceEqDiff, Int.reduceToNat, Int.reduceLT, Int.reduceLE, Int.reduceEq, Int.reduceNe, Int.reduceAdd, Int.reduceSub, Int.reduceMul, Int.reduceNeg, Int.reduceBEq, Int.reduceBNe, reduceCtorEq, dreduceIte, oWS, oW8, oW16, oW32, oW64, oLtT, oLtF, oLeT, oLeF, oNLtT, oNLtF, oNLeT, oNLeF, oEqT, oEqF, oNEqT, oNEqF, oBeqT, oBeqF, oBneT, oBneF, Int.natCast_add, List.take_length]
      · simp only [preR] at I1 ⊢
        rw [if_neg h] at I1 ⊢
        simp -implicitDefEqProofs (maxSteps := 2000000) (disch := omega) only [stringslite_CutPrefix.s, I1, List.length_nil, List.length_cons, go_sem, reduceIte, Nat.reduceAdd, Nat.reduceSub, Nat.reduceMul, Nat.reduceLeDiff, Nat.reduceLT, Nat.reduceEqDiff, Int.reduceToNat, Int.reduceLT, Int.reduceLE, Int.reduceEq, Int.reduceNe, Int.reduceAdd, Int.reduceSub, Int.reduceMul, Int.reduceNeg, Int.reduceBEq, Int.reduceBNe, reduceCtorEq, dreduceIte, oWS, oW8, oW16, oW32, oW64, oLtT, oLtF, oLeT, oLeF, oNLtT, oNLtF, oNLeT, oNLeF, oEqT, oEqF, oNEqT, oNEqF, oBeqT, oBeqF, oBneT, oBneF, Int.natCast_add, List.take_length]
  generalize (preR c s).1 = u at *
  generalize (preR c s).2 = v at *
  rw [xq_fn G rfl strings_CutPrefix.g _ _ rfl]
  simp -implicitDefEqProofs (maxSteps := 2000000) (disch := omega) only [strings_CutPrefix.s, I, go_sem, reduceIte, Nat.reduceAdd, Nat.reduceSub, Nat.reduceMul, Nat.reduceLeDiff, Nat.reduceLT, Nat.reduceEqDiff, Int.reduceToNat, Int.reduceLT, Int.reduceLE, Int.reduceEq, Int.reduceNe, Int.reduceAdd, Int.reduceSub, Int.reduceMul, Int.reduceNeg, Int.reduceBEq, Int.reduceBNe, reduceCtorEq, dreduceIte, oWS, oW8, oW16, oW32, oW64, oLtT, oLtF, oLeT, oLeF, oNLtT, oNLtF, oNLeT, oNLeF, oEqT, oEqF, oNEqT, oNEqF, oBeqT, oBeqF, oBneT, oBneF, Int.natCast_add, List.take_length]
theorem nil_or_snoc (s : List UInt8) : s = [] ∨ ∃ t b, s = t ++ [b] := by
  cases s with
  | nil => exact .inl rfl
  | cons a r => exact .inr ⟨(a :: r).dropLast, (a :: r).getLast (by simp), (List.dropLast_concat_getLast (by simp)).symm⟩
theorem h_HasSuffix (c : UInt8) (s : List UInt8) (hs : s.length ≤ 100000) : run G 70 [.v (.str s), .v (.str [c])] [] = some (.v (.bool (sufR c s).2), []) := by
  rw [xq_fn G rfl stringslite_HasSuffix.g _ _ rfl]
  unfold sufR
  rcases nil_or_snoc s with rfl | ⟨t, b, rfl⟩
  · rw [if_neg (by simp)]
    simp -implicitDefEqProofs (maxSteps := 2000000) (disch := omega) only [stringslite_HasSuffix.s, List.length_nil, List.length_cons, go_sem, reduceIte, Nat.reduceAdd, Nat.reduceSub, Nat.reduceMul, Nat.reduceLeDiff, Nat.reduceLT, Nat.reduceEqDiff, Int.reduceToNat, Int.reduceLT, Int.reduceLE, Int.reduceEq, Int.reduceNe, Int.reduceAdd, Int.reduceSub, Int.reduceMul, Int.reduceNeg, Int.reduceBEq, Int.reduceBNe, reduceCtorEq, dreduceIte, oWS, oW8, oW16, oW32, oW64, oLtT, oLtF, oLeT, oLeF, oNLtT, oNLtF, oNLeT, oNLeF, oEqT, oEqF, oNEqT, oNEqF, oBeqT, oBeqF, oBneT, oBneF, Int.natCast_add, List.take_length]
  · have hl : (t ++ [b]).length = t.length + 1 := by simp
    have ht : List.drop t.length (List.take (t.length + 1) (t ++ [b])) = [b] := by rw [List.take_of_length_le (by simp)]; simp
    have hg : (t ++ [b]).getLast? = some b := by simp
    have e1 : ((t.length : Int) + 1 - 1).toNat = t.length := by omega
    rw [hg]
    generalize (t ++ [b]) = s at *
    by_cases h : b = c
    · have hq : ([b] == [c]) = true := by rw [h]; exact beq_self_eq_true _
      rw [if_pos (by rw [h])]
      simp -implicitDefEqProofs (maxSteps := 2000000) (disch := omega) only [stringslite_HasSuffix.s, hq, hl, ht, e1, List.length_nil, List.length_cons, go_sem, reduceIte, Nat.reduceAdd, Nat.reduceSub, Nat.reduceMul, Nat.reduceLeDiff, Nat.reduceLT, Nat.reduceEqDiff, Int.reduceToNat, Int.reduceLT, Int.reduceLE, Int.reduceEq, Int.reduceNe, Int.reduceAdd, Int.reduceSub, Int.reduceMul, Int.reduceNeg, Int.reduceBEq, Int.reduceBNe, reduceCtorEq, dreduceIte, oWS, oW8, oW16, oW32, oW64, oLtT, oLtF, oLeT, oLeF, oNLtT, oNLtF, oNLeT, oNLeF, oEqT, oEqF, oNEqT, oNEqF, oBeqT, oBeqF, oBneT, oBneF, Int.natCast_add, List.take_length]
    · have hq : ([b] == [c]) = false := by simpa using h
      rw [if_neg (by simpa using h)]
      simp -implicitDefEqProofs (maxSteps := 2000000) (disch := omega) only [stringslite_HasSuffix.s, hq, hl, ht, e1, List.length_nil, List.length_cons, go_sem, reduceIte, Nat.reduceAdd, Nat.reduceSub, Nat.reduceMul, Nat.reduceLeDiff, Nat.reduceLT, Nat.reduceEqDiff, Int.reduceToNat, Int.reduceLT, Int.reduceLE, Int.reduceEq, Int.reduceNe, Int.reduceAdd, Int.reduceSub, Int.reduceMul, Int.reduceNeg, Int.reduceBEq, Int.reduceBNe, reduceCtorEq, dreduceIte, oWS, oW8, oW16, oW32, oW64, oLtT, oLtF, oLeT, oLeF, oNLtT, oNLtF, oNLeT, oNLeF, oEqT, oEqF, oNEqT, oNEqF, oBeqT, oBeqF, oBneT, oBneF, Int.natCast_add, List.take_length]
theorem h_CutSuffix (c : UInt8) (s : List UInt8) (hs : s.length ≤ 100000) : run G 26 [.v (.str s), .v (.str [c])] [] = some (.tup [.v (.str (sufR c s).1), .v (.bool (sufR c s).2)], []) := by
  have I1 := h_HasSuffix c s hs
  have I : run G 49 [.v (.str s), .v (.str [c])] [] = some (.tup [.v (.str (sufR c s).1), .v (.bool (sufR c s).2)], []) := by
    rw [xq_fn G rfl stringslite_CutSuffix.g _ _ rfl]
    unfold sufR at I1 ⊢
    rcases nil_or_snoc s with rfl | ⟨t, b, rfl⟩
    · rw [if_neg (by simp)] at I1 ⊢
      simp -implicitDefEqProofs (maxSteps := 2000000) (disch := omega) only [stringslite_CutSuffix.s, I1, List.length_nil, List.length_cons, go_sem, reduceIte, Nat.reduceAdd, Nat.reduceSub, Nat.reduceMul, Nat.reduceLeDiff, Nat.reduceLT, Nat.reduceEqDiff, Int.reduceToNat, Int.reduceLT, Int.reduceLE, Int.reduceEq, Int.reduceNe, Int.reduceAdd, Int.reduceSub, Int.reduceMul, Int.reduceNeg, Int.reduceBEq, Int.reduceBNe, reduceCtorEq, dreduceIte, oWS, oW8, oW16, oW32, oW64, oLtT, oLtF, oLeT, oLeF, oNLtT, oNLtF, oNLeT, oNLeF, oEqT, oEqF, oNEqT, oNEqF, oBeqT, oBeqF, oBneT, oBneF, Int.natCast_add, List.take_length]
    · have hl : (t ++ [b]).length = t.length + 1 := by simp
      have ht : List.take t.length (t ++ [b]) = t := by simp
      have hg : (t ++ [b]).getLast? = some b := by simp
      have hd : (t ++ [b]).dropLast = t := by simp
      have e1 : ((t.length : Int) + 1 - 1).toNat = t.length := by omega
      rw [hg] at I1 ⊢
      generalize (t ++ [b]) = s at *
      by_cases h : b = c
      · rw [if_pos (by rw [h])] at I1 ⊢
        simp -implicitDefEqProofs (maxSteps := 2000000) (disch := omega) only [stringslite_CutSuffix.s, I1, hl, ht, e1, hd, List.length_nil, List.length_cons, go_sem, reduceIte, Nat.reduceAdd, Nat.reduceSub, Nat.reduceMul, Nat.reduceLeDiff, Nat.reduceLT, Nat.reduceEqDiff, Int.reduceToNat, Int.reduceLT, Int.reduceLE, Int.reduceEq, Int.reduceNe, Int.reduceAdd, Int.reduceSub, Int.reduceMul, Int.reduceNeg, Int.reduceBEq, Int.reduceBNe, reduceCtorEq, dreduceIte, oWS, oW8, oW16, oW32, oW64, oLtT, oLtF, oLeT, oLeF, oNLtT, oNLtF, oNLeT, oNLeF, oEqT, oEqF, oNEqT, oNEqF, oBeqT, oBeqF, oBneT, oBneF, Int.natCast_add, List.take_length]
      · rw [if_neg (by simpa using h)] at I1 ⊢
        simp -implicitDefEqProofs (maxSteps := 2000000) (disch := omega) only [stringslite_CutSuffix.s, I1, hl, ht, e1, List.length_nil, List.length_cons, go_sem, reduceIte, Nat.reduceAdd, Nat.reduceSub, Nat.reduceMul, Nat.reduceLeDiff, Nat.reduceLT, Nat.reduceEqDiff, Int.reduceToNat, Int.reduceLT, Int.reduceLE, Int.reduceEq, Int.reduceNe, Int.reduceAdd, Int.reduceSub, Int.reduceMul, Int.reduceNeg, Int.reduceBEq, Int.reduceBNe, reduceCtorEq, dreduceIte, oWS, oW8, oW16, oW32, oW64, oLtT, oLtF, oLeT, oLeF, oNLtT, oNLtF, oNLeT, oNLeF, oEqT, oEqF, oNEqT, oNEqF, oBeqT, oBeqF, oBneT, oBneF, Int.natCast_add, List.take_length]
  generalize (sufR c s).1 = u at *
  generalize (sufR c s).2 = v at *
  rw [xq_fn G rfl strings_CutSuffix.g _ _ rfl]
  simp -implicitDefEqProofs (maxSteps := 2000000) (disch := omega) only [strings_CutSuffix.s, I, go_sem, reduceIte, Nat.reduceAdd, Nat.reduceSub, Nat.reduceMul, Nat.reduceLeDiff, Nat.reduceLT, Nat.reduceEqDiff, Int.reduceToNat, Int.reduceLT, Int.reduceLE, Int.reduceEq, Int.reduceNe, Int.reduceAdd, Int.reduceSub, Int.reduceMul, Int.reduceNeg, Int.reduceBEq, Int.reduceBNe, reduceCtorEq, dreduceIte, oWS, oW8, oW16, oW32, oW64, oLtT, oLtF, oLeT, oLeF, oNLtT, oNLtF, oNLeT, oNLeF, oEqT, oEqF, oNEqT, oNEqF, oBeqT, oBeqF, oBneT, oBneF, Int.natCast_add, List.take_length]
def idC (s : List UInt8) : Prop := s.length = 38 ∧ s[0]? = some 123 ∧ s[37]? = some 125 ∧ s[9]? = some 45 ∧ s[14]? = some 45 ∧ s[19]? = some 45 ∧ s[24]? = some 45
instance (s : List UInt8) : Decidable (idC s) := by unfold idC; infer_instance
def idP (s : List UInt8) : List UInt8 := (s.take 9).drop 1 ++ (s.take 14).drop 10 ++ (s.take 19).drop 15 ++ (s.take 24).drop 20 ++ (s.take 37).drop 25
def idR (s : List UInt8) : Option (List UInt8) := if idC s then unhR (idP s) else none
def idF (a b c d e : List UInt8) : List UInt8 := 123 :: (a ++ 45 :: (b ++ 45 :: (c ++ 45 :: (d ++ 45 :: (e ++ [125])))))
theorem cut_at {l : List UInt8} {n : Nat} {c : UInt8} (h : l[n]? = some c) : l = l.take n ++ c :: l.drop (n + 1) := by
  obtain ⟨h1, h2⟩ := List.getElem?_eq_some_iff.1 h
  conv => lhs; rw [← List.take_append_drop n l, List.drop_eq_getElem_cons h1, h2]
theorem id_form {s : List UInt8} (h : idC s) : ∃ a b c d e, a.length = 8 ∧ b.length = 4 ∧ c.length = 4 ∧ d.length = 4 ∧ e.length = 12 ∧ s = idF a b c d e ∧ idP s = a ++ b ++ c ++ d ++ e := by
  obtain ⟨h0, h1, h2, h3, h4, h5, h6⟩ := h
  have p0 : s = 123 :: s.drop 1 := by have := cut_at h1; simpa using this
  have p1 : s.drop 1 = (s.drop 1).take 8 ++ 45 :: s.drop 10 := by
    have := cut_at (l := s.drop 1) (n := 8) (c := 45) (by rw [List.getElem?_drop]; exact h3)
    rw [List.drop_drop] at this; exact this
  have p2 : s.drop 10 = (s.drop 10).take 4 ++ 45 :: s.drop 15 := by
    have := cut_at (l := s.drop 10) (n := 4) (c := 45) (by rw [List.getElem?_drop]; exact h4)
    rw [List.drop_drop] at this; exact this
  have p3 : s.drop 15 = (s.drop 15).take 4 ++ 45 :: s.drop 20 := by
    have := cut_at (l := s.drop 15) (n := 4) (c := 45) (by rw [List.getElem?_drop]; exact h5)
    rw [List.drop_drop] at this; exact this
  have p4 : s.drop 20 = (s.drop 20).take 4 ++ 45 :: s.drop 25 := by
    have := cut_at (l := s.drop 20) (n := 4) (c := 45) (by rw [List.getElem?_drop]; exact h6)
    rw [List.drop_drop] at this; exact this
  have p5 : s.drop 25 = (s.drop 25).take 12 ++ [125] := by
    have := cut_at (l := s.drop 25) (n := 12) (c := 125) (by rw [List.getElem?_drop]; exact h2)
    have z : s.drop 38 = [] := List.drop_of_length_le (by omega)
    rw [List.drop_drop, show 25 + (12 + 1) = 38 from rfl, z] at this; exact this
  refine ⟨(s.drop 1).take 8, (s.drop 10).take 4, (s.drop 15).take 4, (s.drop 20).take 4, (s.drop 25).take 12, by simp; omega, by simp; omega, by simp; omega, by simp; omega, by simp; omega, ?_, ?_⟩
  · unfold idF
    rw [← p5, ← p4, ← p3, ← p2, ← p1, ← p0]
  · unfold idP
    rw [List.drop_take, List.drop_take, List.drop_take, List.drop_take, List.drop_take]
theorem id_back {a b c d e : List UInt8} (ha : a.length = 8) (hb : b.length = 4) (hc : c.length = 4) (hd : d.length = 4) (he : e.length = 12) : idC (idF a b c d e) ∧ idP (idF a b c d e) = a ++ b ++ c ++ d ++ e := by
  match a, ha, b, hb, c, hc, d, hd, e, he with
  | [_, _, _, _, _, _, _, _], _, [_, _, _, _], _, [_, _, _, _], _, [_, _, _, _], _, [_, _, _, _, _, _, _, _, _, _, _, _], _ =>
    exact ⟨⟨rfl, rfl, rfl, rfl, rfl, rfl, rfl⟩, rfl⟩
theorem splitC_one' (c : UInt8) : ∀ x : List UInt8, (∀ b ∈ x, ¬ b = c) → splitC c x = [x]
  | [], _ => rfl
  | b :: l, h => by
    have ih := splitC_one' c l (fun y hy => h y (List.mem_cons_of_mem _ hy))
    have hb : (b == c) = false := by simpa using h b (by simp)
    simp only [splitC, hb, ih, Bool.false_eq_true, if_false]
theorem splitC_more' (c : UInt8) (r : List UInt8) : ∀ x : List UInt8, (∀ b ∈ x, ¬ b = c) → splitC c (x ++ c :: r) = x :: splitC c r
  | [], _ => by simp [splitC]
  | b :: l, h => by
    have ih := splitC_more' c r l (fun y hy => h y (List.mem_cons_of_mem _ hy))
    have hb : (b == c) = false := by simpa using h b (by simp)
    simp only [List.cons_append, splitC, hb, ih, Bool.false_eq_true, if_false]
def joinC (c : UInt8) : List (List UInt8) → List UInt8
  | [] => []
  | [x] => x
  | x :: y :: r => x ++ c :: joinC c (y :: r)
theorem splitC_ne (c : UInt8) : ∀ x : List UInt8, splitC c x ≠ []
  | [] => by simp [splitC]
  | b :: l => by
    simp only [splitC]
    split
    · simp
    · split <;> simp
theorem join_split (c : UInt8) : ∀ x : List UInt8, joinC c (splitC c x) = x
  | [] => rfl
  | b :: l => by
    have ih := join_split c l
    have hne := splitC_ne c l
    simp only [splitC]
    by_cases hb : b = c
    · have hbq : (b == c) = true := by simpa using hb
      rw [hbq, if_pos rfl]
      cases hs : splitC c l with
      | nil => exact absurd hs hne
      | cons y r => rw [hs] at ih; simp only [joinC, List.nil_append, ih, hb]
    · have hbq : (b == c) = false := by simpa using hb
      rw [hbq, if_neg (by simp)]
      cases hs : splitC c l with
      | nil => exact absurd hs hne
      | cons y r =>
        rw [hs] at ih
        cases r with
        | nil => simp only [joinC] at ih ⊢; rw [ih]
        | cons z r => simp only [joinC, List.cons_append] at ih ⊢; rw [ih]
theorem splitC_len2 (c : UInt8) : ∀ s : List UInt8, (splitC c s).length ≤ s.length + 1
  | [] => by simp [splitC]
  | b :: l => by
    have ih := splitC_len2 c l
    unfold splitC
    split
    · simp; omega
    · split
      · simp
      · rename_i e; rw [e] at ih; simp at ih ⊢; omega
theorem splitC_word2 (c : UInt8) : ∀ s : List UInt8, ∀ w ∈ splitC c s, w.length ≤ s.length
  | [], w, h => by simp [splitC] at h; subst h; simp
  | b :: l, w, h => by
    have ih := splitC_word2 c l
    unfold splitC at h
    split at h
    · rcases List.mem_cons.1 h with rfl | h
      · simp
      · have := ih w h; simp; omega
    · split at h
      · simp at h; subst h; simp
      · rename_i x r e
        rw [e] at ih
        rcases List.mem_cons.1 h with rfl | h
        · have := ih x (by simp); simp; omega
        · have := ih w (by simp [h]); simp; omega
def idW (s : List UInt8) : Prop := (preR 123 s).2 = true ∧ (sufR 125 (preR 123 s).1).2 = true ∧ (splitC 45 (sufR 125 (preR 123 s).1).1).map List.length = [8, 4, 4, 4, 12]
theorem map_len5 {l : List (List UInt8)} (h : l.map List.length = [8, 4, 4, 4, 12]) : ∃ a b c d e, l = [a, b, c, d, e] ∧ a.length = 8 ∧ b.length = 4 ∧ c.length = 4 ∧ d.length = 4 ∧ e.length = 12 := by
  match l, (by simpa using congrArg List.length h : l.length = 5), h with
  | [a, b, c, d, e], _, h =>
    simp only [List.map_cons, List.map_nil, List.cons.injEq, and_true] at h
    exact ⟨a, b, c, d, e, rfl, h.1, h.2.1, h.2.2.1, h.2.2.2.1, h.2.2.2.2⟩
theorem preR_true {c : UInt8} {s : List UInt8} (h : (preR c s).2 = true) : s = c :: (preR c s).1 := by
  cases s with
  | nil => simp [preR] at h
  | cons b t =>
    by_cases hb : b = c
    · simp [preR, hb]
    · simp [preR, hb] at h
theorem sufR_true {c : UInt8} {s : List UInt8} (h : (sufR c s).2 = true) : s = (sufR c s).1 ++ [c] := by
  unfold sufR at h ⊢
  by_cases hb : s.getLast? = some c
  · rw [if_pos hb]
    simp only
    rcases nil_or_snoc s with rfl | ⟨t, b, rfl⟩
    · simp at hb
    · simp at hb; simp [hb]
  · rw [if_neg hb] at h; simp at h
theorem suf_app (c : UInt8) (t : List UInt8) : sufR c (t ++ [c]) = (t, true) := by
  unfold sufR
  rw [if_pos (by simp)]
  simp
theorem idW_form {s : List UInt8} (h : idW s) : ∃ a b c d e, splitC 45 (sufR 125 (preR 123 s).1).1 = [a, b, c, d, e] ∧ idC s ∧ idP s = a ++ b ++ c ++ d ++ e := by
  obtain ⟨h1, h2, h3⟩ := h
  obtain ⟨a, b, c, d, e, hl, k1, k2, k3, k4, k5⟩ := map_len5 h3
  have e1 := preR_true h1
  have e2 := sufR_true h2
  have e3 := join_split 45 (sufR 125 (preR 123 s).1).1
  rw [hl] at e3
  have e4 : s = idF a b c d e := by
    rw [e1, e2, ← e3]
    simp [joinC, idF]
  obtain ⟨m1, m2⟩ := id_back k1 k2 k3 k4 k5
  rw [← e4] at m1 m2
  exact ⟨a, b, c, d, e, hl, m1, m2⟩
theorem idW_of {s : List UInt8} (h : idC s) {l : List UInt8} (hu : unhR (idP s) = some l) : idW s := by
  obtain ⟨a, b, c, d, e, k1, k2, k3, k4, k5, e1, e2⟩ := id_form h
  have dg := unhR_dg _ _ hu
  rw [e2] at dg
  have no45 : ∀ x ∈ a ++ b ++ c ++ d ++ e, ¬ x = 45 := fun x hx hh => by
    obtain ⟨n, hn⟩ := dg x hx
    subst hh
    revert hn; simp [dgV]
  have p1 : preR 123 s = (a ++ 45 :: (b ++ 45 :: (c ++ 45 :: (d ++ 45 :: (e ++ [125])))), true) := by rw [e1]; rfl
  have e3 : (a ++ 45 :: (b ++ 45 :: (c ++ 45 :: (d ++ 45 :: (e ++ [125]))))) = (a ++ 45 :: (b ++ 45 :: (c ++ 45 :: (d ++ 45 :: e)))) ++ [125] := by simp
  have p2 : sufR 125 (a ++ 45 :: (b ++ 45 :: (c ++ 45 :: (d ++ 45 :: (e ++ [125]))))) = (a ++ 45 :: (b ++ 45 :: (c ++ 45 :: (d ++ 45 :: e))), true) := by
    rw [e3]
    exact suf_app _ _
  refine ⟨by rw [p1], by rw [p1, p2], ?_⟩
  rw [p1, p2]
  simp only
  rw [splitC_more' _ _ _ (fun x hx => no45 x (by simp [hx])), splitC_more' _ _ _ (fun x hx => no45 x (by simp [hx])), splitC_more' _ _ _ (fun x hx => no45 x (by simp [hx])), splitC_more' _ _ _ (fun x hx => no45 x (by simp [hx])), splitC_one' _ _ (fun x hx => no45 x (by simp [hx]))]
  simp [k1, k2, k3, k4, k5]
end Go.Q
