/- Options judged: what lcpo and its reference compute. No condition. -/
import Derived.Test.YtmbdamompcdolaaGreatDoorLk
import Derived.Test.YtmbdamompcdolaaGreatDoorLt
set_option linter.all false
set_option maxRecDepth 100000
namespace Go.Q
open SOp SCode
attribute [local congr] bind_c map_c

def chapL : List Int := [194, 35, 129]
theorem j_chap : run G 50 [] [] = some (.lin 1 (b8 chapL), []) := by
  rw [xq_fn G rfl lcpo_Chap.g _ _ rfl]
  simp -implicitDefEqProofs (maxSteps := 2000000) (disch := omega) only [lcpo_Chap.s, chapL, b8_cons, b8_nil, go_sem, reduceIte, Nat.reduceAdd, Nat.reduceSub, Nat.reduceMul, Nat.reduceLeDiff, Nat.reduceLT, Nat.reduceEqDiff, Int.reduceToNat, Int.reduceLT, Int.reduceLE, Int.reduceEq, Int.reduceNe, Int.reduceAdd, Int.reduceSub, Int.reduceMul, Int.reduceNeg, Int.reduceBEq, Int.reduceBNe, reduceCtorEq, dreduceIte, oWS, oW8, oW16, oW32, oW64, oLtT, oLtF, oLeT, oLeF, oNLtT, oNLtF, oNLeT, oNLeF, oEqT, oEqF, oNEqT, oNEqF, oBeqT, oBeqF, oBneT, oBneF, Int.natCast_add, List.take_length]
def longR (k : Int) : Int := if k = 1 then 2 else if k = 3 then 3 else if k = 5 then 4 else if k = 7 then 0 else if k = 8 then 0 else -1
theorem j_long (k : Int) : run G 188 [.v (.int .u8 k)] [] = some (.v (.int .i64 (longR k)), []) := by
  rw [xq_fn G rfl lcpo_long.g _ _ rfl]
  have c := j_chap
  have hc : (b8 chapL).length = 3 := rfl
  unfold longR
  by_cases h1 : k = 1
  · subst h1; simp -implicitDefEqProofs (maxSteps := 2000000) (disch := omega) only [lcpo_long.s, go_sem, reduceIte, Nat.reduceAdd, Nat.reduceSub, Nat.reduceMul, Nat.reduceLeDiff, Nat.reduceLT, Nat.reduceEqDiff, Int.reduceToNat, Int.reduceLT, Int.reduceLE, Int.reduceEq, Int.reduceNe, Int.reduceAdd, Int.reduceSub, Int.reduceMul, Int.reduceNeg, Int.reduceBEq, Int.reduceBNe, reduceCtorEq, dreduceIte, oWS, oW8, oW16, oW32, oW64, oLtT, oLtF, oLeT, oLeF, oNLtT, oNLtF, oNLeT, oNLeF, oEqT, oEqF, oNEqT, oNEqF, oBeqT, oBeqF, oBneT, oBneF, Int.natCast_add, List.take_length]
  by_cases h2 : k = 3
  · subst h2; simp -implicitDefEqProofs (maxSteps := 2000000) (disch := omega) only [lcpo_long.s, c, hc, go_sem, reduceIte, Nat.reduceAdd, Nat.reduceSub, Nat.reduceMul, Nat.reduceLeDiff, Nat.reduceLT, Nat.reduceEqDiff, Int.reduceToNat, Int.reduceLT, Int.reduceLE, Int.reduceEq, Int.reduceNe, Int.reduceAdd, Int.reduceSub, Int.reduceMul, Int.reduceNeg, Int.reduceBEq, Int.reduceBNe, reduceCtorEq, dreduceIte, oWS, oW8, oW16, oW32, oW64, oLtT, oLtF, oLeT, oLeF, oNLtT, oNLtF, oNLeT, oNLeF, oEqT, oEqF, oNEqT, oNEqF, oBeqT, oBeqF, oBneT, oBneF, Int.natCast_add, List.take_length]
  by_cases h3 : k = 5
  · subst h3; simp -implicitDefEqProofs (maxSteps := 2000000) (disch := omega) only [lcpo_long.s, go_sem, reduceIte, Nat.reduceAdd, Nat.reduceSub, Nat.reduceMul, Nat.reduceLeDiff, Nat.reduceLT, Nat.reduceEqDiff, Int.reduceToNat, Int.reduceLT, Int.reduceLE, Int.reduceEq, Int.reduceNe, Int.reduceAdd, Int.reduceSub, Int.reduceMul, Int.reduceNeg, Int.reduceBEq, Int.reduceBNe, reduceCtorEq, dreduceIte, oWS, oW8, oW16, oW32, oW64, oLtT, oLtF, oLeT, oLeF, oNLtT, oNLtF, oNLeT, oNLeF, oEqT, oEqF, oNEqT, oNEqF, oBeqT, oBeqF, oBneT, oBneF, Int.natCast_add, List.take_length]
  by_cases h4 : k = 7
  · subst h4; simp -implicitDefEqProofs (maxSteps := 2000000) (disch := omega) only [lcpo_long.s, go_sem, reduceIte, Nat.reduceAdd, Nat.reduceSub, Nat.reduceMul, Nat.reduceLeDiff, Nat.reduceLT, Nat.reduceEqDiff, Int.reduceToNat, Int.reduceLT, Int.reduceLE, Int.reduceEq, Int.reduceNe, Int.reduceAdd, Int.reduceSub, Int.reduceMul, Int.reduceNeg, Int.reduceBEq, Int.reduceBNe, reduceCtorEq, dreduceIte, oWS, oW8, oW16, oW32, oW64, oLtT, oLtF, oLeT, oLeF, oNLtT, oNLtF, oNLeT, oNLeF, oEqT, oEqF, oNEqT, oNEqF, oBeqT, oBeqF, oBneT, oBneF, Int.natCast_add, List.take_length]
  by_cases h5 : k = 8
  · subst h5; simp -implicitDefEqProofs (maxSteps := 2000000) (disch := omega) only [lcpo_long.s, go_sem, reduceIte, Nat.reduceAdd, Nat.reduceSub, Nat.reduceMul, Nat.reduceLeDiff, Nat.reduceLT, Nat.reduceEqDiff, Int.reduceToNat, Int.reduceLT, Int.reduceLE, Int.reduceEq, Int.reduceNe, Int.reduceAdd, Int.reduceSub, Int.reduceMul, Int.reduceNeg, Int.reduceBEq, Int.reduceBNe, reduceCtorEq, dreduceIte, oWS, oW8, oW16, oW32, oW64, oLtT, oLtF, oLeT, oLeF, oNLtT, oNLtF, oNLeT, oNLeF, oEqT, oEqF, oNEqT, oNEqF, oBeqT, oBeqF, oBneT, oBneF, Int.natCast_add, List.take_length]
  · simp -implicitDefEqProofs (maxSteps := 2000000) (disch := omega) only [lcpo_long.s, go_sem, reduceIte, Nat.reduceAdd, Nat.reduceSub, Nat.reduceMul, Nat.reduceLeDiff, Nat.reduceLT, Nat.reduceEqDiff, Int.reduceToNat, Int.reduceLT, Int.reduceLE, Int.reduceEq, Int.reduceNe, Int.reduceAdd, Int.reduceSub, Int.reduceMul, Int.reduceNeg, Int.reduceBEq, Int.reduceBNe, reduceCtorEq, dreduceIte, oWS, oW8, oW16, oW32, oW64, oLtT, oLtF, oLeT, oLeF, oNLtT, oNLtF, oNLeT, oNLeF, oEqT, oEqF, oNEqT, oNEqF, oBeqT, oBeqF, oBneT, oBneF, Int.natCast_add, List.take_length]
def rightR (o : Opt) : Bool := decide ((o.2.length : Int) = longR o.1)
theorem j_right (o : Opt) : run G 167 [.v (oe o)] [] = some (.v (.bool (rightR o)), []) := by
  rw [xq_fn G rfl lcpo_right.g _ _ rfl]
  have h := j_long o.1
  unfold rightR
  by_cases e : (o.2.length : Int) = longR o.1
  · simp -implicitDefEqProofs (maxSteps := 2000000) (disch := omega) only [lcpo_right.s, oe, b8_len, h, go_sem, reduceIte, Nat.reduceAdd, Nat.reduceSub, Nat.reduceMul, Nat.reduceLeDiff, Nat.reduceLT, Nat.reduceEqDiff, Int.reduceToNat, Int.reduceLT, Int.reduceLE, Int.reduceEq, Int.reduceNe, Int.reduceAdd, Int.reduceSub, Int.reduceMul, Int.reduceNeg, Int.reduceBEq, Int.reduceBNe, reduceCtorEq, dreduceIte, oWS, oW8, oW16, oW32, oW64, oLtT, oLtF, oLeT, oLeF, oNLtT, oNLtF, oNLeT, oNLeF, oEqT, oEqF, oNEqT, oNEqF, oBeqT, oBeqF, oBneT, oBneF, Int.natCast_add, List.take_length]
  · simp -implicitDefEqProofs (maxSteps := 2000000) (disch := omega) only [lcpo_right.s, oe, b8_len, h, go_sem, reduceIte, Nat.reduceAdd, Nat.reduceSub, Nat.reduceMul, Nat.reduceLeDiff, Nat.reduceLT, Nat.reduceEqDiff, Int.reduceToNat, Int.reduceLT, Int.reduceLE, Int.reduceEq, Int.reduceNe, Int.reduceAdd, Int.reduceSub, Int.reduceMul, Int.reduceNeg, Int.reduceBEq, Int.reduceBNe, reduceCtorEq, dreduceIte, oWS, oW8, oW16, oW32, oW64, oLtT, oLtF, oLeT, oLeF, oNLtT, oNLtF, oNLeT, oNLeF, oEqT, oEqF, oNEqT, oNEqF, oBeqT, oBeqF, oBneT, oBneF, Int.natCast_add, List.take_length]
theorem longR_le (k : Int) : longR k ≤ 4 := by
  unfold longR
  repeat (split; omega)
  omega
theorem right_len {o : Opt} (h : rightR o = true) : o.2.length ≤ 4 := by
  have h1 := of_decide_eq_true h
  have := longR_le o.1
  omega
def numR (d : List Int) : Int := if d.length < 1 ∨ 8 < d.length then 0 else num d
theorem numR_rng (d : List Int) (h : okB d) : 0 ≤ numR d ∧ numR d ≤ 18446744073709551615 := by
  unfold numR
  split
  · omega
  · exact num_le d h (by omega)
theorem get88e (l : List Int) (h : l.length < 1 ∨ 8 < l.length) : run G 71 [.v (.slc 1 (b8 l)), .v (.bool false)] [] = some (.tup [.v (.int .u64 0), .v (.int .i64 1)], []) := by
  rw [xq_fn G rfl octs_Get.g _ _ rfl]
  by_cases h1 : l.length < 1
  · simp -implicitDefEqProofs (maxSteps := 2000000) (disch := omega) only [octs_Get.s, b8_len, go_sem, reduceIte, Nat.reduceAdd, Nat.reduceSub, Nat.reduceMul, Nat.reduceLeDiff, Nat.reduceLT, Nat.reduceEqDiff, Int.reduceToNat, Int.reduceLT, Int.reduceLE, Int.reduceEq, Int.reduceNe, Int.reduceAdd, Int.reduceSub, Int.reduceMul, Int.reduceNeg, Int.reduceBEq, Int.reduceBNe, reduceCtorEq, dreduceIte, oWS, oW8, oW16, oW32, oW64, oLtT, oLtF, oLeT, oLeF, oNLtT, oNLtF, oNLeT, oNLeF, oEqT, oEqF, oNEqT, oNEqF, oBeqT, oBeqF, oBneT, oBneF, Int.natCast_add, List.take_length]
  · simp -implicitDefEqProofs (maxSteps := 2000000) (disch := omega) only [octs_Get.s, b8_len, go_sem, reduceIte, Nat.reduceAdd, Nat.reduceSub, Nat.reduceMul, Nat.reduceLeDiff, Nat.reduceLT, Nat.reduceEqDiff, Int.reduceToNat, Int.reduceLT, Int.reduceLE, Int.reduceEq, Int.reduceNe, Int.reduceAdd, Int.reduceSub, Int.reduceMul, Int.reduceNeg, Int.reduceBEq, Int.reduceBNe, reduceCtorEq, dreduceIte, oWS, oW8, oW16, oW32, oW64, oLtT, oLtF, oLeT, oLeF, oNLtT, oNLtF, oNLeT, oNLeF, oEqT, oEqF, oNEqT, oNEqF, oBeqT, oBeqF, oBneT, oBneF, Int.natCast_add, List.take_length]
theorem j_number (o : Opt) (h : okB o.2) : run G 156 [.v (oe o)] [] = some (.v (.int .u64 (numR o.2)), []) := by
  rw [xq_fn G rfl lcpo_number.g _ _ rfl]
  unfold numR
  by_cases c : o.2.length < 1 ∨ 8 < o.2.length
  · rw [if_pos c]
    have g := get88e o.2 c
    simp -implicitDefEqProofs (maxSteps := 2000000) (disch := omega) only [lcpo_number.s, oe, g, go_sem, reduceIte, Nat.reduceAdd, Nat.reduceSub, Nat.reduceMul, Nat.reduceLeDiff, Nat.reduceLT, Nat.reduceEqDiff, Int.reduceToNat, Int.reduceLT, Int.reduceLE, Int.reduceEq, Int.reduceNe, Int.reduceAdd, Int.reduceSub, Int.reduceMul, Int.reduceNeg, Int.reduceBEq, Int.reduceBNe, reduceCtorEq, dreduceIte, oWS, oW8, oW16, oW32, oW64, oLtT, oLtF, oLeT, oLeF, oNLtT, oNLtF, oNLeT, oNLeF, oEqT, oEqF, oNEqT, oNEqF, oBeqT, oBeqF, oBneT, oBneF, Int.natCast_add, List.take_length]
  · rw [if_neg c]
    have g := get88 o.2 h (by omega) (by omega)
    simp -implicitDefEqProofs (maxSteps := 2000000) (disch := omega) only [lcpo_number.s, oe, g, go_sem, reduceIte, Nat.reduceAdd, Nat.reduceSub, Nat.reduceMul, Nat.reduceLeDiff, Nat.reduceLT, Nat.reduceEqDiff, Int.reduceToNat, Int.reduceLT, Int.reduceLE, Int.reduceEq, Int.reduceNe, Int.reduceAdd, Int.reduceSub, Int.reduceMul, Int.reduceNeg, Int.reduceBEq, Int.reduceBNe, reduceCtorEq, dreduceIte, oWS, oW8, oW16, oW32, oW64, oLtT, oLtF, oLeT, oLeF, oNLtT, oNLtF, oNLeT, oNLeF, oEqT, oEqF, oNEqT, oNEqF, oBeqT, oBeqF, oBneT, oBneF, Int.natCast_add, List.take_length]
theorem j_option (k n : Int) (w : Nat) (h0 : 0 ≤ n) (hn : n ≤ 18446744073709551615) (h1 : 1 ≤ w) (hw : w ≤ 8) : run G 49 [.v (.int .u8 k), .v (.int .u64 n), .v (.int .i64 w)] [] = some (.v (oe (k, big w n)), []) := by
  rw [xq_fn G rfl lcpo_option.g _ _ rfl]
  have P := put85 n h0 hn w h1 hw
  simp -implicitDefEqProofs (maxSteps := 2000000) (disch := omega) only [lcpo_option.s, oe, P, go_sem, reduceIte, Nat.reduceAdd, Nat.reduceSub, Nat.reduceMul, Nat.reduceLeDiff, Nat.reduceLT, Nat.reduceEqDiff, Int.reduceToNat, Int.reduceLT, Int.reduceLE, Int.reduceEq, Int.reduceNe, Int.reduceAdd, Int.reduceSub, Int.reduceMul, Int.reduceNeg, Int.reduceBEq, Int.reduceBNe, reduceCtorEq, dreduceIte, oWS, oW8, oW16, oW32, oW64, oLtT, oLtF, oLeT, oLeF, oNLtT, oNLtF, oNLeT, oNLeF, oEqT, oEqF, oNEqT, oNEqF, oBeqT, oBeqF, oBneT, oBneF, Int.natCast_add, List.take_length]
def betR (o : Opt) (own fresh : Int) : Opt × Bool :=
  if o.1 = 1 then ((1, big 2 1400), decide (numR o.2 < 128))
  else if o.1 = 3 then ((3, chapL), !(o.2 == chapL))
  else if o.1 = 5 then ((5, big 4 fresh), decide (numR o.2 = 0) || decide (numR o.2 = own))
  else (noO, false)
theorem chap_ok : okB chapL := by
  intro x h
  simp only [chapL, List.mem_cons, List.not_mem_nil, or_false] at h
  omega
theorem j_better (o : Opt) (own fresh : Int) (ho : okO o) (h1 : 0 ≤ own ∧ own ≤ 4294967295) (h2 : 0 ≤ fresh ∧ fresh ≤ 4294967295) :
    run G 166 [.v (oe o), .v (.int .u32 own), .v (.int .u32 fresh)] [] = some (.tup [.v (oe (betR o own fresh).1), .v (.bool (betR o own fresh).2)], []) := by
  rw [xq_fn G rfl lcpo_better.g _ _ rfl]
  have c := j_chap
  have n := j_number o ho.2
  have nr := numR_rng o.2 ho.2
  unfold betR
  by_cases k1 : o.1 = 1
  · rw [if_pos k1]
    have q := j_option 1 1400 2 (by omega) (by omega) (by omega) (by omega)
    simp only [oe, z0, Int.cast_ofNat_Int, List.take_zero, List.map_nil, List.drop_zero, accN, b8_nil, Int.sub_zero, Int.add_zero, Int.zero_add, Nat.zero_add, Nat.sub_zero, List.nil_append, List.append_nil] at q
    by_cases k2 : numR o.2 < 128
    · simp -implicitDefEqProofs (maxSteps := 2000000) (disch := omega) only [lcpo_better.s, oe, q, n, go_sem, reduceIte, Nat.reduceAdd, Nat.reduceSub, Nat.reduceMul, Nat.reduceLeDiff, Nat.reduceLT, Nat.reduceEqDiff, Int.reduceToNat, Int.reduceLT, Int.reduceLE, Int.reduceEq, Int.reduceNe, Int.reduceAdd, Int.reduceSub, Int.reduceMul, Int.reduceNeg, Int.reduceBEq, Int.reduceBNe, reduceCtorEq, dreduceIte, oWS, oW8, oW16, oW32, oW64, oLtT, oLtF, oLeT, oLeF, oNLtT, oNLtF, oNLeT, oNLeF, oEqT, oEqF, oNEqT, oNEqF, oBeqT, oBeqF, oBneT, oBneF, Int.natCast_add, List.take_length]
    · simp -implicitDefEqProofs (maxSteps := 2000000) (disch := omega) only [lcpo_better.s, oe, q, n, go_sem, reduceIte, Nat.reduceAdd, Nat.reduceSub, Nat.reduceMul, Nat.reduceLeDiff, Nat.reduceLT, Nat.reduceEqDiff, Int.reduceToNat, Int.reduceLT, Int.reduceLE, Int.reduceEq, Int.reduceNe, Int.reduceAdd, Int.reduceSub, Int.reduceMul, Int.reduceNeg, Int.reduceBEq, Int.reduceBNe, reduceCtorEq, dreduceIte, oWS, oW8, oW16, oW32, oW64, oLtT, oLtF, oLeT, oLeF, oNLtT, oNLtF, oNLeT, oNLeF, oEqT, oEqF, oNEqT, oNEqF, oBeqT, oBeqF, oBneT, oBneF, Int.natCast_add, List.take_length]
  rw [if_neg k1]
  by_cases k3 : o.1 = 3
  · rw [if_pos k3]
    have e := equal91 o.2 chapL ho.2 chap_ok []
    simp -implicitDefEqProofs (maxSteps := 2000000) (disch := omega) only [lcpo_better.s, oe, c, e, go_sem, reduceIte, Nat.reduceAdd, Nat.reduceSub, Nat.reduceMul, Nat.reduceLeDiff, Nat.reduceLT, Nat.reduceEqDiff, Int.reduceToNat, Int.reduceLT, Int.reduceLE, Int.reduceEq, Int.reduceNe, Int.reduceAdd, Int.reduceSub, Int.reduceMul, Int.reduceNeg, Int.reduceBEq, Int.reduceBNe, reduceCtorEq, dreduceIte, oWS, oW8, oW16, oW32, oW64, oLtT, oLtF, oLeT, oLeF, oNLtT, oNLtF, oNLeT, oNLeF, oEqT, oEqF, oNEqT, oNEqF, oBeqT, oBeqF, oBneT, oBneF, Int.natCast_add, List.take_length]
  rw [if_neg k3]
  by_cases k5 : o.1 = 5
  · rw [if_pos k5]
    have q := j_option 5 fresh 4 (by omega) (by omega) (by omega) (by omega)
    simp only [oe, z0, Int.cast_ofNat_Int, List.take_zero, List.map_nil, List.drop_zero, accN, b8_nil, Int.sub_zero, Int.add_zero, Int.zero_add, Nat.zero_add, Nat.sub_zero, List.nil_append, List.append_nil] at q
    by_cases k2 : numR o.2 = 0
    · simp -implicitDefEqProofs (maxSteps := 2000000) (disch := omega) only [lcpo_better.s, oe, q, n, go_sem, reduceIte, Nat.reduceAdd, Nat.reduceSub, Nat.reduceMul, Nat.reduceLeDiff, Nat.reduceLT, Nat.reduceEqDiff, Int.reduceToNat, Int.reduceLT, Int.reduceLE, Int.reduceEq, Int.reduceNe, Int.reduceAdd, Int.reduceSub, Int.reduceMul, Int.reduceNeg, Int.reduceBEq, Int.reduceBNe, reduceCtorEq, dreduceIte, oWS, oW8, oW16, oW32, oW64, oLtT, oLtF, oLeT, oLeF, oNLtT, oNLtF, oNLeT, oNLeF, oEqT, oEqF, oNEqT, oNEqF, oBeqT, oBeqF, oBneT, oBneF, Int.natCast_add, List.take_length]
    · by_cases k4 : numR o.2 = own
      · simp -implicitDefEqProofs (maxSteps := 2000000) (disch := omega) only [lcpo_better.s, oe, q, n, go_sem, reduceIte, Nat.reduceAdd, Nat.reduceSub, Nat.reduceMul, Nat.reduceLeDiff, Nat.reduceLT, Nat.reduceEqDiff, Int.reduceToNat, Int.reduceLT, Int.reduceLE, Int.reduceEq, Int.reduceNe, Int.reduceAdd, Int.reduceSub, Int.reduceMul, Int.reduceNeg, Int.reduceBEq, Int.reduceBNe, reduceCtorEq, dreduceIte, oWS, oW8, oW16, oW32, oW64, oLtT, oLtF, oLeT, oLeF, oNLtT, oNLtF, oNLeT, oNLeF, oEqT, oEqF, oNEqT, oNEqF, oBeqT, oBeqF, oBneT, oBneF, Int.natCast_add, List.take_length]
      · simp -implicitDefEqProofs (maxSteps := 2000000) (disch := omega) only [lcpo_better.s, oe, q, n, go_sem, reduceIte, Nat.reduceAdd, Nat.reduceSub, Nat.reduceMul, Nat.reduceLeDiff, Nat.reduceLT, Nat.reduceEqDiff, Int.reduceToNat, Int.reduceLT, Int.reduceLE, Int.reduceEq, Int.reduceNe, Int.reduceAdd, Int.reduceSub, Int.reduceMul, Int.reduceNeg, Int.reduceBEq, Int.reduceBNe, reduceCtorEq, dreduceIte, oWS, oW8, oW16, oW32, oW64, oLtT, oLtF, oLeT, oLeF, oNLtT, oNLtF, oNLeT, oNLeF, oEqT, oEqF, oNEqT, oNEqF, oBeqT, oBeqF, oBneT, oBneF, Int.natCast_add, List.take_length]
  · rw [if_neg k5]
    simp -implicitDefEqProofs (maxSteps := 2000000) (disch := omega) only [lcpo_better.s, oe, noO, b8_nil, go_sem, reduceIte, Nat.reduceAdd, Nat.reduceSub, Nat.reduceMul, Nat.reduceLeDiff, Nat.reduceLT, Nat.reduceEqDiff, Int.reduceToNat, Int.reduceLT, Int.reduceLE, Int.reduceEq, Int.reduceNe, Int.reduceAdd, Int.reduceSub, Int.reduceMul, Int.reduceNeg, Int.reduceBEq, Int.reduceBNe, reduceCtorEq, dreduceIte, oWS, oW8, oW16, oW32, oW64, oLtT, oLtF, oLeT, oLeF, oNLtT, oNLtF, oNLeT, oNLeF, oEqT, oEqF, oNEqT, oNEqF, oBeqT, oBeqF, oBneT, oBneF, Int.natCast_add, List.take_length]
def rbetO (o : Opt) (own fresh : Int) : Opt := if (betR o own fresh).2 = true then (betR o own fresh).1 else noO
end Go.Q
