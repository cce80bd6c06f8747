/- Datagrams: the law IpcpDatagrams. No condition. -/
import Derived.Test.YthfjopmfgaohjaaDoorMc
import Derived.ProofKit
set_option linter.all false
set_option maxRecDepth 100000
namespace Go.Q
open SOp SCode
attribute [local congr] bind_c map_c

theorem m_alive : run G 5 [] [] = some (.v (.bool true), []) := run_of (n := 40) (by kernel_rfl)
theorem nth_ok {b : List Int} (h : okB b) (i : Nat) : 0 ≤ nth b i ∧ nth b i ≤ 255 := by
  unfold nth List.getD
  cases e : b[i]? with
  | none => simp
  | some x => exact h x (List.mem_of_getElem? e)
theorem prs_okG (b : List Int) (hb : okB b) : okG (prsG b).1 := by
  unfold prsG
  split
  · rename_i h
    have hl : ¬ b.length < 20 := fun hh => by simp [badG, hh] at h
    have r2 := cut_rng hb (i := 12) (j := 16) (k := 4) (by omega) rfl
    have r3 := cut_rng hb (i := 16) (j := 20) (k := 4) (by omega) rfl
    have p4 : (256 : Int) ^ 4 = 4294967296 := rfl
    rw [p4] at r2 r3
    refine ⟨nth_ok hb 8, nth_ok hb 9, ?_, ?_, cutG_ok hb _ _⟩
    · show 0 ≤ num (cut b 12 16) ∧ num (cut b 12 16) ≤ 4294967295; omega
    · show 0 ≤ num (cut b 16 20) ∧ num (cut b 16 20) ≤ 4294967295; omega
  · show okG zG
    exact ⟨by decide, by decide, by decide, by decide, fun y hy => by cases hy⟩
theorem prs_lenG (b : List Int) (hl : b.length ≤ 2000) : (prsG b).1.dat.length ≤ 2000 := by
  unfold prsG
  split
  · simp [gotG, cut]; omega
  · simp [zG]
theorem sameG_self (a : Dg) : sameG a a = true := by simp [sameG]
theorem bb_eq (a : Bool) : eqD .b (.v (.bool a)) (.v (.bool a)) = some true := by simp [eqD]
theorem ipcpDatagrams (x : Dg) (b : List Int) (hx : okG x) (hb : okB b) (hn : x.dat.length ≤ 4611686018427387904) (hm : b.length ≤ 4611686018427387904) : run G 3 [.v (dgV x), .v (.slc 1 (b8 b))] [] = some (.v (.bool true), []) := by
  rw [xq_fn G rfl euphroelaw32_IpcpDatagrams.g _ _ rfl]
  have A := m_alive
  by_cases c1 : 2000 < x.dat.length
  · simp -implicitDefEqProofs (maxSteps := 2000000) (disch := omega) only [euphroelaw32_IpcpDatagrams.s, b8_len, c1, A, go_sem, reduceIte, Nat.reduceAdd, Nat.reduceSub, Nat.reduceMul, Nat.reduceLeDiff, Nat.reduceLT, Nat.reduceEqDiff, Int.reduceToNat, Int.reduceLT, Int.reduceLE, Int.reduceEq, Int.reduceNe, Int.reduceAdd, Int.reduceSub, Int.reduceMul, Int.reduceNeg, Int.reduceBEq, Int.reduceBNe, reduceCtorEq, dreduceIte, oWS, oW8, oW16, oW32, oW64, oLtT, oLtF, oLeT, oLeF, oNLtT, oNLtF, oNLeT, oNLeF, oEqT, oEqF, oNEqT, oNEqF, oBeqT, oBeqF, oBneT, oBneF, Int.natCast_add, List.take_length]
  · by_cases c2 : 2000 < b.length
    · simp -implicitDefEqProofs (maxSteps := 2000000) (disch := omega) only [euphroelaw32_IpcpDatagrams.s, b8_len, c1, c2, A, go_sem, reduceIte, Nat.reduceAdd, Nat.reduceSub, Nat.reduceMul, Nat.reduceLeDiff, Nat.reduceLT, Nat.reduceEqDiff, Int.reduceToNat, Int.reduceLT, Int.reduceLE, Int.reduceEq, Int.reduceNe, Int.reduceAdd, Int.reduceSub, Int.reduceMul, Int.reduceNeg, Int.reduceBEq, Int.reduceBNe, reduceCtorEq, dreduceIte, oWS, oW8, oW16, oW32, oW64, oLtT, oLtF, oLeT, oLeF, oNLtT, oNLtF, oNLeT, oNLeF, oEqT, oEqF, oNEqT, oNEqF, oBeqT, oBeqF, oBneT, oBneF, Int.natCast_add, List.take_length]
    · have T := d_theirs x
      have L1 := d_Lay x hx (by omega)
      have L2 := r_Lay x hx (by omega)
      have P1 := d_Parse b hb (by omega)
      have P2 := r_Parse b hb (by omega)
      have S1 := p_Sum b hb (by omega)
      have S2 := r_Sum b hb (by omega)
      have ok := prs_okG b hb
      have ol := prs_lenG b (by omega)
      have hM : M = 100000 := rfl
      have T2 := d_theirs (prsG b).1
      have E1 := d_Same (prsG b).1 (prsG b).1 ok ok
      rw [sameG_self] at E1
      have E2 := d_Same (prsG b).1 x ok hx
      have E3 := r_Same (prsG b).1 x (by omega)
      generalize (prsG b).1 = q at *
      by_cases c3 : 1480 < x.dat.length
      · have e1 : layG x = .lin 1 [] := by unfold layG; rw [if_pos c3]
        have e2 : layE x = 8 := by unfold layE; rw [if_pos c3]
        rw [e1, e2] at L1 L2
        have N : run G 11 [.v (.slc 1 []), .v (.slc 1 [])] [] = some (.v (.bool ([] == ([] : List Int))), []) := same40 [] [] (by decide)
        have N' : run G 11 [.v (.slc 1 []), .v (.slc 1 [])] [] = some (.v (.bool true), []) := N
        simp -implicitDefEqProofs (maxSteps := 2000000) (disch := omega) only [euphroelaw32_IpcpDatagrams.s, b8_len, c1, c2, A, T, L1, L2, P1, P2, S1, S2, T2, E1, E2, E3, N', beq_self_eq_true, go_sem, reduceIte, Nat.reduceAdd, Nat.reduceSub, Nat.reduceMul, Nat.reduceLeDiff, Nat.reduceLT, Nat.reduceEqDiff, Int.reduceToNat, Int.reduceLT, Int.reduceLE, Int.reduceEq, Int.reduceNe, Int.reduceAdd, Int.reduceSub, Int.reduceMul, Int.reduceNeg, Int.reduceBEq, Int.reduceBNe, reduceCtorEq, dreduceIte, oWS, oW8, oW16, oW32, oW64, oLtT, oLtF, oLeT, oLeF, oNLtT, oNLtF, oNLeT, oNLeF, oEqT, oEqF, oNEqT, oNEqF, oBeqT, oBeqF, oBneT, oBneF, Int.natCast_add, List.take_length]
      · have e1 : layG x = .v (.slc 1 (b8 (hdS x ++ x.dat))) := by unfold layG; rw [if_neg c3]
        have e2 : layE x = 0 := by unfold layE; rw [if_neg c3]
        rw [e1, e2] at L1 L2
        have N := same40 (hdS x ++ x.dat) (hdS x ++ x.dat) (by simp [hdS_len]; omega)
        rw [beq_self_eq_true] at N
        simp -implicitDefEqProofs (maxSteps := 2000000) (disch := omega) only [euphroelaw32_IpcpDatagrams.s, b8_len, c1, c2, A, T, L1, L2, P1, P2, S1, S2, T2, E1, E2, E3, N, beq_self_eq_true, go_sem, reduceIte, Nat.reduceAdd, Nat.reduceSub, Nat.reduceMul, Nat.reduceLeDiff, Nat.reduceLT, Nat.reduceEqDiff, Int.reduceToNat, Int.reduceLT, Int.reduceLE, Int.reduceEq, Int.reduceNe, Int.reduceAdd, Int.reduceSub, Int.reduceMul, Int.reduceNeg, Int.reduceBEq, Int.reduceBNe, reduceCtorEq, dreduceIte, oWS, oW8, oW16, oW32, oW64, oLtT, oLtF, oLeT, oLeF, oNLtT, oNLtF, oNLeT, oNLeF, oEqT, oEqF, oNEqT, oNEqF, oBeqT, oBeqF, oBneT, oBneF, Int.natCast_add, List.take_length]
end Go.Q
