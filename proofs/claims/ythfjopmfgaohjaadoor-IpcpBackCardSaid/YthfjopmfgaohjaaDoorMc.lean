/- Datagrams: Parse of ipcp and of the document. No condition. -/
import Derived.Test.YthfjopmfgaohjaaDoorMb
set_option linter.all false
set_option maxRecDepth 100000
namespace Go.Q
open SOp SCode
attribute [local congr] bind_c map_c

def nth (b : List Int) (i : Nat) : Int := b.getD i 0
def zG : Dg := ⟨0, 0, 0, 0, []⟩
def cut (b : List Int) (i j : Nat) : List Int := (b.take j).drop i
def lenG (b : List Int) : Int := num (cut b 2 4)
def badG (b : List Int) : Int := if b.length < 20 then 4 else if nth b 0 ≠ 69 then 15 else if lenG b < 20 then 3 else if (b.length : Int) < lenG b then 4 else if 1500 < lenG b then 8 else if sumR (b.take 20) ≠ 0 then 3 else 0
def gotG (b : List Int) : Dg := ⟨nth b 8, nth b 9, num (cut b 12 16), num (cut b 16 20), cut b 20 (lenG b).toNat⟩
def prsG (b : List Int) : Dg × Int := if badG b = 0 then (gotG b, 0) else (zG, badG b)
theorem cutG_ok {b : List Int} (h : okB b) (i j : Nat) : okB (cut b i j) := okB_drop (okB_take h j) i
theorem cut_len {b : List Int} {i j : Nat} (h : j ≤ b.length) : (cut b i j).length = j - i := by simp [cut]; omega
theorem at_getD {b : List Int} {i : Nat} (h : i < b.length) : (b8 b)[i]? = some (.int .u8 (nth b i)) := b8_at (by simp [nth, List.getD, List.getElem?_eq_getElem h])
theorem cut_rng {b : List Int} (h : okB b) {i j k : Nat} (hj : j ≤ b.length) (hk : j - i = k) : 0 ≤ num (cut b i j) ∧ num (cut b i j) < 256 ^ k := by
  have := num_rng _ (cutG_ok h i j)
  rwa [cut_len hj, hk] at this
theorem d_Parse (b : List Int) (hb : okB b) (hl : b.length ≤ 2000) : run G 9 [.v (.slc 1 (b8 b))] [] = some (.tup [.v (dgV (prsG b).1), .v (.int .i64 (prsG b).2)], []) := by
  rw [xq_fn G rfl ipcp_Parse.g _ _ rfl]
  by_cases c1 : b.length < 20
  · have hP : prsG b = (zG, 4) := by simp [prsG, badG, c1]
    rw [hP]
    simp -implicitDefEqProofs (maxSteps := 2000000) (disch := omega) only [ipcp_Parse.s, b8_len, c1, zG, go_sem, reduceIte, Nat.reduceAdd, Nat.reduceSub, Nat.reduceMul, Nat.reduceLeDiff, Nat.reduceLT, Nat.reduceEqDiff, Int.reduceToNat, Int.reduceLT, Int.reduceLE, Int.reduceEq, Int.reduceNe, Int.reduceAdd, Int.reduceSub, Int.reduceMul, Int.reduceNeg, Int.reduceBEq, Int.reduceBNe, reduceCtorEq, dreduceIte, oWS, oW8, oW16, oW32, oW64, oLtT, oLtF, oLeT, oLeF, oNLtT, oNLtF, oNLeT, oNLeF, oEqT, oEqF, oNEqT, oNEqF, oBeqT, oBeqF, oBneT, oBneF, Int.natCast_add, List.take_length]
    rfl
  · have a0 := at_getD (b := b) (i := 0) (by omega)
    by_cases c2 : nth b 0 = 69
    · have r1 := cut_rng hb (i := 2) (j := 4) (k := 2) (by omega) rfl
      have G1 := get88 (cut b 2 4) (cutG_ok hb _ _) (by rw [cut_len (by omega)]; omega) (by rw [cut_len (by omega)]; omega)
      have e1 : ((b8 b).take 4).drop 2 = b8 (cut b 2 4) := by rw [b8_take, b8_drop]; rfl
      have w1 : IntKind.i64.wrap (lenG b) = lenG b := wrapS (by unfold lenG; omega)
      by_cases c3 : lenG b < 20
      · have hP : prsG b = (zG, 3) := by simp [prsG, badG, c1, c2, c3]
        rw [hP]
        have c3' : num (cut b 2 4) < 20 := c3
        simp -implicitDefEqProofs (maxSteps := 2000000) (disch := omega) only [ipcp_Parse.s, b8_len, c1, a0, c2, zG, e1, G1, w1, c3', go_sem, reduceIte, Nat.reduceAdd, Nat.reduceSub, Nat.reduceMul, Nat.reduceLeDiff, Nat.reduceLT, Nat.reduceEqDiff, Int.reduceToNat, Int.reduceLT, Int.reduceLE, Int.reduceEq, Int.reduceNe, Int.reduceAdd, Int.reduceSub, Int.reduceMul, Int.reduceNeg, Int.reduceBEq, Int.reduceBNe, reduceCtorEq, dreduceIte, oWS, oW8, oW16, oW32, oW64, oLtT, oLtF, oLeT, oLeF, oNLtT, oNLtF, oNLeT, oNLeF, oEqT, oEqF, oNEqT, oNEqF, oBeqT, oBeqF, oBneT, oBneF, Int.natCast_add, List.take_length]
        rfl
      · by_cases c4 : (b.length : Int) < lenG b
        · have hP : prsG b = (zG, 4) := by simp [prsG, badG, c1, c2, c3, c4]
          rw [hP]
          unfold lenG at c3 c4 w1
          simp -implicitDefEqProofs (maxSteps := 2000000) (disch := omega) only [ipcp_Parse.s, b8_len, c1, a0, c2, zG, e1, G1, w1, c3, c4, go_sem, reduceIte, Nat.reduceAdd, Nat.reduceSub, Nat.reduceMul, Nat.reduceLeDiff, Nat.reduceLT, Nat.reduceEqDiff, Int.reduceToNat, Int.reduceLT, Int.reduceLE, Int.reduceEq, Int.reduceNe, Int.reduceAdd, Int.reduceSub, Int.reduceMul, Int.reduceNeg, Int.reduceBEq, Int.reduceBNe, reduceCtorEq, dreduceIte, oWS, oW8, oW16, oW32, oW64, oLtT, oLtF, oLeT, oLeF, oNLtT, oNLtF, oNLeT, oNLeF, oEqT, oEqF, oNEqT, oNEqF, oBeqT, oBeqF, oBneT, oBneF, Int.natCast_add, List.take_length]
          rfl
        · by_cases c5 : 1500 < lenG b
          · have hP : prsG b = (zG, 8) := by simp [prsG, badG, c1, c2, c3, c4, c5]
            rw [hP]
            unfold lenG at c3 c4 c5 w1
            simp -implicitDefEqProofs (maxSteps := 2000000) (disch := omega) only [ipcp_Parse.s, b8_len, c1, a0, c2, zG, e1, G1, w1, c3, c4, c5, go_sem, reduceIte, Nat.reduceAdd, Nat.reduceSub, Nat.reduceMul, Nat.reduceLeDiff, Nat.reduceLT, Nat.reduceEqDiff, Int.reduceToNat, Int.reduceLT, Int.reduceLE, Int.reduceEq, Int.reduceNe, Int.reduceAdd, Int.reduceSub, Int.reduceMul, Int.reduceNeg, Int.reduceBEq, Int.reduceBNe, reduceCtorEq, dreduceIte, oWS, oW8, oW16, oW32, oW64, oLtT, oLtF, oLeT, oLeF, oNLtT, oNLtF, oNLeT, oNLeF, oEqT, oEqF, oNEqT, oNEqF, oBeqT, oBeqF, oBneT, oBneF, Int.natCast_add, List.take_length]
            rfl
          · have hS := p_Sum (b.take 20) (okB_take hb _) (by rw [List.length_take]; omega)
            have e2 : (b8 b).take 20 = b8 (b.take 20) := by rw [b8_take]
            by_cases c6 : sumR (b.take 20) = 0
            · have hP : prsG b = (gotG b, 0) := by simp [prsG, badG, c1, c2, c3, c4, c5, c6]
              rw [hP]
              unfold lenG at c3 c4 c5 w1
              have r2 := cut_rng hb (i := 12) (j := 16) (k := 4) (by omega) rfl
              have r3 := cut_rng hb (i := 16) (j := 20) (k := 4) (by omega) rfl
              have G2 := get88 (cut b 12 16) (cutG_ok hb _ _) (by rw [cut_len (by omega)]; omega) (by rw [cut_len (by omega)]; omega)
              have G3 := get88 (cut b 16 20) (cutG_ok hb _ _) (by rw [cut_len (by omega)]; omega) (by rw [cut_len (by omega)]; omega)
              have e3 : ((b8 b).take 16).drop 12 = b8 (cut b 12 16) := by rw [b8_take, b8_drop]; rfl
              have e4 : (b8 (b.take 20)).drop 16 = b8 (cut b 16 20) := by rw [b8_drop]; rfl
              have e5 : ((b8 b).take (num (cut b 2 4)).toNat).drop 20 = b8 (cut b 20 (num (cut b 2 4)).toNat) := by rw [b8_take, b8_drop]; rfl
              have a8 := at_getD (b := b) (i := 8) (by omega)
              have a9 := at_getD (b := b) (i := 9) (by omega)
              have w2 : IntKind.u32.wrap (num (cut b 12 16)) = num (cut b 12 16) := oW32 (by omega)
              have w3 : IntKind.u32.wrap (num (cut b 16 20)) = num (cut b 16 20) := oW32 (by omega)
              have C := clone89 (cut b 20 (num (cut b 2 4)).toNat) (by have : M = 100000 := rfl; simp [cut]; omega)
              have cc := cl_cp 1 (b8 (cut b 20 (num (cut b 2 4)).toNat))
              simp -implicitDefEqProofs (maxSteps := 2000000) (disch := omega) only [ipcp_Parse.s, b8_len, c1, a0, c2, gotG, lenG, e1, e2, e3, e4, e5, G1, G2, G3, a8, a9, w1, w2, w3, c3, c4, c5, c6, hS, C, cc, go_sem, reduceIte, Nat.reduceAdd, Nat.reduceSub, Nat.reduceMul, Nat.reduceLeDiff, Nat.reduceLT, Nat.reduceEqDiff, Int.reduceToNat, Int.reduceLT, Int.reduceLE, Int.reduceEq, Int.reduceNe, Int.reduceAdd, Int.reduceSub, Int.reduceMul, Int.reduceNeg, Int.reduceBEq, Int.reduceBNe, reduceCtorEq, dreduceIte, oWS, oW8, oW16, oW32, oW64, oLtT, oLtF, oLeT, oLeF, oNLtT, oNLtF, oNLeT, oNLeF, oEqT, oEqF, oNEqT, oNEqF, oBeqT, oBeqF, oBneT, oBneF, Int.natCast_add, List.take_length]
            · have hP : prsG b = (zG, 3) := by simp [prsG, badG, c1, c2, c3, c4, c5, c6]
              rw [hP]
              unfold lenG at c3 c4 c5 w1
              have c6' : (sumR (b.take 20) != 0) = true := bne_ne c6
              simp -implicitDefEqProofs (maxSteps := 2000000) (disch := omega) only [ipcp_Parse.s, b8_len, c1, a0, c2, zG, e1, e2, G1, w1, c3, c4, c5, c6', hS, go_sem, reduceIte, Nat.reduceAdd, Nat.reduceSub, Nat.reduceMul, Nat.reduceLeDiff, Nat.reduceLT, Nat.reduceEqDiff, Int.reduceToNat, Int.reduceLT, Int.reduceLE, Int.reduceEq, Int.reduceNe, Int.reduceAdd, Int.reduceSub, Int.reduceMul, Int.reduceNeg, Int.reduceBEq, Int.reduceBNe, reduceCtorEq, dreduceIte, oWS, oW8, oW16, oW32, oW64, oLtT, oLtF, oLeT, oLeF, oNLtT, oNLtF, oNLeT, oNLeF, oEqT, oEqF, oNEqT, oNEqF, oBeqT, oBeqF, oBneT, oBneF, Int.natCast_add, List.take_length]
              rfl
    · have hP : prsG b = (zG, 15) := by simp [prsG, badG, c1, c2]
      rw [hP]
      have c2' : (nth b 0 != 69) = true := bne_ne c2
      simp -implicitDefEqProofs (maxSteps := 2000000) (disch := omega) only [ipcp_Parse.s, b8_len, c1, a0, c2', zG, go_sem, reduceIte, Nat.reduceAdd, Nat.reduceSub, Nat.reduceMul, Nat.reduceLeDiff, Nat.reduceLT, Nat.reduceEqDiff, Int.reduceToNat, Int.reduceLT, Int.reduceLE, Int.reduceEq, Int.reduceNe, Int.reduceAdd, Int.reduceSub, Int.reduceMul, Int.reduceNeg, Int.reduceBEq, Int.reduceBNe, reduceCtorEq, dreduceIte, oWS, oW8, oW16, oW32, oW64, oLtT, oLtF, oLeT, oLeF, oNLtT, oNLtF, oNLeT, oNLeF, oEqT, oEqF, oNEqT, oNEqF, oBeqT, oBeqF, oBneT, oBneF, Int.natCast_add, List.take_length]
      rfl
theorem r_Parse (b : List Int) (hb : okB b) (hl : b.length ≤ 2000) : run G 10 [.v (.slc 1 (b8 b))] [] = some (.tup [.v (dgV (prsG b).1), .v (.int .i64 (prsG b).2)], []) := by
  rw [xq_fn G rfl euphroeref32_Parse.g _ _ rfl]
  by_cases c1 : b.length < 20
  · have hP : prsG b = (zG, 4) := by simp [prsG, badG, c1]
    rw [hP]
    simp -implicitDefEqProofs (maxSteps := 2000000) (disch := omega) only [euphroeref32_Parse.s, b8_len, c1, zG, go_sem, reduceIte, Nat.reduceAdd, Nat.reduceSub, Nat.reduceMul, Nat.reduceLeDiff, Nat.reduceLT, Nat.reduceEqDiff, Int.reduceToNat, Int.reduceLT, Int.reduceLE, Int.reduceEq, Int.reduceNe, Int.reduceAdd, Int.reduceSub, Int.reduceMul, Int.reduceNeg, Int.reduceBEq, Int.reduceBNe, reduceCtorEq, dreduceIte, oWS, oW8, oW16, oW32, oW64, oLtT, oLtF, oLeT, oLeF, oNLtT, oNLtF, oNLeT, oNLeF, oEqT, oEqF, oNEqT, oNEqF, oBeqT, oBeqF, oBneT, oBneF, Int.natCast_add, List.take_length]
    rfl
  · have a0 := at_getD (b := b) (i := 0) (by omega)
    by_cases c2 : nth b 0 = 69
    · have r1 := cut_rng hb (i := 2) (j := 4) (k := 2) (by omega) rfl
      have G1 := num90 (cut b 2 4) (cutG_ok hb _ _) (by rw [cut_len (by omega)]; omega)
      have e1 : ((b8 b).take 4).drop 2 = b8 (cut b 2 4) := by rw [b8_take, b8_drop]; rfl
      have w1 : IntKind.i64.wrap (lenG b) = lenG b := wrapS (by unfold lenG; omega)
      by_cases c3 : lenG b < 20
      · have hP : prsG b = (zG, 3) := by simp [prsG, badG, c1, c2, c3]
        rw [hP]
        have c3' : num (cut b 2 4) < 20 := c3
        simp -implicitDefEqProofs (maxSteps := 2000000) (disch := omega) only [euphroeref32_Parse.s, b8_len, c1, a0, c2, zG, e1, G1, w1, c3', go_sem, reduceIte, Nat.reduceAdd, Nat.reduceSub, Nat.reduceMul, Nat.reduceLeDiff, Nat.reduceLT, Nat.reduceEqDiff, Int.reduceToNat, Int.reduceLT, Int.reduceLE, Int.reduceEq, Int.reduceNe, Int.reduceAdd, Int.reduceSub, Int.reduceMul, Int.reduceNeg, Int.reduceBEq, Int.reduceBNe, reduceCtorEq, dreduceIte, oWS, oW8, oW16, oW32, oW64, oLtT, oLtF, oLeT, oLeF, oNLtT, oNLtF, oNLeT, oNLeF, oEqT, oEqF, oNEqT, oNEqF, oBeqT, oBeqF, oBneT, oBneF, Int.natCast_add, List.take_length]
        rfl
      · by_cases c4 : (b.length : Int) < lenG b
        · have hP : prsG b = (zG, 4) := by simp [prsG, badG, c1, c2, c3, c4]
          rw [hP]
          unfold lenG at c3 c4 w1
          simp -implicitDefEqProofs (maxSteps := 2000000) (disch := omega) only [euphroeref32_Parse.s, b8_len, c1, a0, c2, zG, e1, G1, w1, c3, c4, go_sem, reduceIte, Nat.reduceAdd, Nat.reduceSub, Nat.reduceMul, Nat.reduceLeDiff, Nat.reduceLT, Nat.reduceEqDiff, Int.reduceToNat, Int.reduceLT, Int.reduceLE, Int.reduceEq, Int.reduceNe, Int.reduceAdd, Int.reduceSub, Int.reduceMul, Int.reduceNeg, Int.reduceBEq, Int.reduceBNe, reduceCtorEq, dreduceIte, oWS, oW8, oW16, oW32, oW64, oLtT, oLtF, oLeT, oLeF, oNLtT, oNLtF, oNLeT, oNLeF, oEqT, oEqF, oNEqT, oNEqF, oBeqT, oBeqF, oBneT, oBneF, Int.natCast_add, List.take_length]
          rfl
        · by_cases c5 : 1500 < lenG b
          · have hP : prsG b = (zG, 8) := by simp [prsG, badG, c1, c2, c3, c4, c5]
            rw [hP]
            unfold lenG at c3 c4 c5 w1
            simp -implicitDefEqProofs (maxSteps := 2000000) (disch := omega) only [euphroeref32_Parse.s, b8_len, c1, a0, c2, zG, e1, G1, w1, c3, c4, c5, go_sem, reduceIte, Nat.reduceAdd, Nat.reduceSub, Nat.reduceMul, Nat.reduceLeDiff, Nat.reduceLT, Nat.reduceEqDiff, Int.reduceToNat, Int.reduceLT, Int.reduceLE, Int.reduceEq, Int.reduceNe, Int.reduceAdd, Int.reduceSub, Int.reduceMul, Int.reduceNeg, Int.reduceBEq, Int.reduceBNe, reduceCtorEq, dreduceIte, oWS, oW8, oW16, oW32, oW64, oLtT, oLtF, oLeT, oLeF, oNLtT, oNLtF, oNLeT, oNLeF, oEqT, oEqF, oNEqT, oNEqF, oBeqT, oBeqF, oBneT, oBneF, Int.natCast_add, List.take_length]
            rfl
          · have hS := r_Sum (b.take 20) (okB_take hb _) (by rw [List.length_take]; omega)
            have e2 : (b8 b).take 20 = b8 (b.take 20) := by rw [b8_take]
            by_cases c6 : sumR (b.take 20) = 0
            · have hP : prsG b = (gotG b, 0) := by simp [prsG, badG, c1, c2, c3, c4, c5, c6]
              rw [hP]
              unfold lenG at c3 c4 c5 w1
              have r2 := cut_rng hb (i := 12) (j := 16) (k := 4) (by omega) rfl
              have r3 := cut_rng hb (i := 16) (j := 20) (k := 4) (by omega) rfl
              have G2 := num90 (cut b 12 16) (cutG_ok hb _ _) (by rw [cut_len (by omega)]; omega)
              have G3 := num90 (cut b 16 20) (cutG_ok hb _ _) (by rw [cut_len (by omega)]; omega)
              have e3 : ((b8 b).take 16).drop 12 = b8 (cut b 12 16) := by rw [b8_take, b8_drop]; rfl
              have e4 : (b8 (b.take 20)).drop 16 = b8 (cut b 16 20) := by rw [b8_drop]; rfl
              have e5 : ((b8 b).take (num (cut b 2 4)).toNat).drop 20 = b8 (cut b 20 (num (cut b 2 4)).toNat) := by rw [b8_take, b8_drop]; rfl
              have a8 := at_getD (b := b) (i := 8) (by omega)
              have a9 := at_getD (b := b) (i := 9) (by omega)
              have w2 : IntKind.u32.wrap (num (cut b 12 16)) = num (cut b 12 16) := oW32 (by omega)
              have w3 : IntKind.u32.wrap (num (cut b 16 20)) = num (cut b 16 20) := oW32 (by omega)
              simp -implicitDefEqProofs (maxSteps := 2000000) (disch := omega) only [euphroeref32_Parse.s, b8_len, c1, a0, c2, gotG, lenG, e1, e2, e3, e4, e5, G1, G2, G3, a8, a9, w1, w2, w3, c3, c4, c5, c6, hS, go_sem, reduceIte, Nat.reduceAdd, Nat.reduceSub, Nat.reduceMul, Nat.reduceLeDiff, Nat.reduceLT, Nat.reduceEqDiff, Int.reduceToNat, Int.reduceLT, Int.reduceLE, Int.reduceEq, Int.reduceNe, Int.reduceAdd, Int.reduceSub, Int.reduceMul, Int.reduceNeg, Int.reduceBEq, Int.reduceBNe, reduceCtorEq, dreduceIte, oWS, oW8, oW16, oW32, oW64, oLtT, oLtF, oLeT, oLeF, oNLtT, oNLtF, oNLeT, oNLeF, oEqT, oEqF, oNEqT, oNEqF, oBeqT, oBeqF, oBneT, oBneF, Int.natCast_add, List.take_length]
            · have hP : prsG b = (zG, 3) := by simp [prsG, badG, c1, c2, c3, c4, c5, c6]
              rw [hP]
              unfold lenG at c3 c4 c5 w1
              have c6' : (sumR (b.take 20) != 0) = true := bne_ne c6
              simp -implicitDefEqProofs (maxSteps := 2000000) (disch := omega) only [euphroeref32_Parse.s, b8_len, c1, a0, c2, zG, e1, e2, G1, w1, c3, c4, c5, c6', hS, go_sem, reduceIte, Nat.reduceAdd, Nat.reduceSub, Nat.reduceMul, Nat.reduceLeDiff, Nat.reduceLT, Nat.reduceEqDiff, Int.reduceToNat, Int.reduceLT, Int.reduceLE, Int.reduceEq, Int.reduceNe, Int.reduceAdd, Int.reduceSub, Int.reduceMul, Int.reduceNeg, Int.reduceBEq, Int.reduceBNe, reduceCtorEq, dreduceIte, oWS, oW8, oW16, oW32, oW64, oLtT, oLtF, oLeT, oLeF, oNLtT, oNLtF, oNLeT, oNLeF, oEqT, oEqF, oNEqT, oNEqF, oBeqT, oBeqF, oBneT, oBneF, Int.natCast_add, List.take_length]
              rfl
    · have hP : prsG b = (zG, 15) := by simp [prsG, badG, c1, c2]
      rw [hP]
      have c2' : (nth b 0 != 69) = true := bne_ne c2
      simp -implicitDefEqProofs (maxSteps := 2000000) (disch := omega) only [euphroeref32_Parse.s, b8_len, c1, a0, c2', zG, go_sem, reduceIte, Nat.reduceAdd, Nat.reduceSub, Nat.reduceMul, Nat.reduceLeDiff, Nat.reduceLT, Nat.reduceEqDiff, Int.reduceToNat, Int.reduceLT, Int.reduceLE, Int.reduceEq, Int.reduceNe, Int.reduceAdd, Int.reduceSub, Int.reduceMul, Int.reduceNeg, Int.reduceBEq, Int.reduceBNe, reduceCtorEq, dreduceIte, oWS, oW8, oW16, oW32, oW64, oLtT, oLtF, oLeT, oLeF, oNLtT, oNLtF, oNLeT, oNLeF, oEqT, oEqF, oNEqT, oNEqF, oBeqT, oBeqF, oBneT, oBneF, Int.natCast_add, List.take_length]
      rfl
end Go.Q
