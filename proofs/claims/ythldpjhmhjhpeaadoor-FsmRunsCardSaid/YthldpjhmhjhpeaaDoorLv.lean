/- The automaton: which states may be reached; the law FsmRuns. No condition. -/
import Derived.Test.YthldpjhmhjhpeaaDoorLu
set_option maxRecDepth 100000
set_option linter.unusedSimpArgs false
set_option linter.unusedVariables false
namespace Go.Q
open SOp SCode
attribute [local congr] bind_c map_c

theorem mz_len : ∀ (m b : List Bool), m.length = b.length → (mz m b).length = b.length
  | [], [], _ => rfl
  | x :: m, [], h => by simp at h
  | [], y :: b, h => by simp at h
  | x :: m, y :: b, h => by
    have := mz_len m b (by simpa using h)
    cases x <;> simp [mz, this]
theorem succ_len : (List.range 10).all (fun s => (succR.getD s []).length == 10) = true := by decide
theorem rstep_len (s : Nat) (hs : s < 10) (is : List Bool) (h : is.length = 10) : (rstep s is).length = 10 := by
  unfold rstep
  split
  · have := List.all_eq_true.1 succ_len s (List.mem_range.2 hs)
    rw [mz_len _ _ (by rw [h]; simpa using this)]; exact h
  · exact h
def rsR (is : List Bool) : Nat → List Bool
  | 0 => is
  | s + 1 => rstep s (rsR is s)
theorem rs_len (is : List Bool) (h : is.length = 10) : ∀ s, s ≤ 10 → (rsR is s).length = 10
  | 0, _ => h
  | s + 1, hs => rstep_len s (by omega) _ (rs_len is h s (by omega))
theorem l1_eq (f r : Int) (d0 : D) (is : List Bool) (h : is.length = 10) :
    ex G (.loop [5, 6, 7] euphroeref23_Reached.l1) [iv f, .ptr ⟨0, 0⟩ 0 0, .ptr ⟨0, 1⟩ 0 0, iv r, iv 0, .undef, .undef, .undef] [[], [.row [d0], .row [.v (.agg (bl is))]]] = some (.exit 2, [iv f, .ptr ⟨0, 0⟩ 0 0, .ptr ⟨0, 1⟩ 0 0, iv r, iv 10, .undef, .undef, .undef], [[], [.row [d0], .row [.v (.agg (bl (rsR is 10)))]]]) := by
  have L := lpFor (G := G) (kill := [5, 6, 7]) (body := euphroeref23_Reached.l1) (fun s => [iv f, .ptr ⟨0, 0⟩ 0 0, .ptr ⟨0, 1⟩ 0 0, iv r, iv (s : Nat), .undef, .undef, .undef]) (fun s => [[], [.row [d0], .row [.v (.agg (bl (rsR is s)))]]]) 10
    (fun s hs => by
      have I := l2_eq f r d0 s hs (rsR is s) (rs_len is h s (by omega))
      simp only [iv, z0, Int.cast_ofNat_Int, List.take_zero, List.map_nil, List.drop_zero, accN, b8_nil, Int.sub_zero, Int.add_zero, Int.zero_add, Nat.zero_add, Nat.sub_zero, List.nil_append, List.append_nil] at I
      simp only [rsR]
      generalize rsR is s = m at *
      simp -implicitDefEqProofs (disch := omega) only [euphroeref23_Reached.l1, iv, I, go_sem, reduceIte, Nat.reduceAdd, Nat.reduceSub, Nat.reduceMul, Nat.reduceLeDiff, Nat.reduceLT, Nat.reduceEqDiff, Int.reduceToNat, Int.reduceLT, Int.reduceLE, Int.reduceEq, Int.reduceNe, Int.reduceAdd, Int.reduceSub, Int.reduceMul, Int.reduceNeg, Int.reduceBEq, Int.reduceBNe, reduceCtorEq, dreduceIte, ac_x, ac_t, setW_s, setW_0, ac_cp, ac_cpw, ac_lenw, ac_ret, ac_pop, ac_popw, cl_cp, oWS, oW8, oW16, oW32, oW64, oLtT, oLtF, oLeT, oLeF, oNLtT, oNLtF, oNLeT, oNLeF, oEqT, oEqF, oNEqT, oNEqF, oBeqT, oBeqF, oBneT, oBneF, Int.natCast_add, Int.cast_ofNat_Int, Int.toNat_natCast, List.take_length, rndE_eq, rnd_n, rnd_r, rnd_e]) (by simp -implicitDefEqProofs (disch := omega) only [euphroeref23_Reached.l1, iv, go_sem, reduceIte, Nat.reduceAdd, Nat.reduceSub, Nat.reduceMul, Nat.reduceLeDiff, Nat.reduceLT, Nat.reduceEqDiff, Int.reduceToNat, Int.reduceLT, Int.reduceLE, Int.reduceEq, Int.reduceNe, Int.reduceAdd, Int.reduceSub, Int.reduceMul, Int.reduceNeg, Int.reduceBEq, Int.reduceBNe, reduceCtorEq, dreduceIte, ac_x, ac_t, setW_s, setW_0, ac_cp, ac_cpw, ac_lenw, ac_ret, ac_pop, ac_popw, cl_cp, oWS, oW8, oW16, oW32, oW64, oLtT, oLtF, oLeT, oLeF, oNLtT, oNLtF, oNLeT, oNLeF, oEqT, oEqF, oNEqT, oNEqF, oBeqT, oBeqF, oBneT, oBneF, Int.natCast_add, Int.cast_ofNat_Int, Int.toNat_natCast, List.take_length, rndE_eq, rnd_n, rnd_r, rnd_e]; rfl)
  simp only [iv, z0, Int.cast_ofNat_Int, List.take_zero, List.map_nil, List.drop_zero, accN, b8_nil, Int.sub_zero, Int.add_zero, Int.zero_add, Nat.zero_add, Nat.sub_zero, List.nil_append, List.append_nil] at L
  exact L
def rrR (is : List Bool) : Nat → List Bool
  | 0 => is
  | k + 1 => rsR (rrR is k) 10
theorem rr_len (is : List Bool) (h : is.length = 10) : ∀ k, (rrR is k).length = 10
  | 0 => h
  | k + 1 => rs_len _ (rr_len is h k) 10 (by omega)
theorem l0_eq (f : Int) (d0 : D) (is : List Bool) (h : is.length = 10) :
    ex G (.loop [4, 5, 6, 7] euphroeref23_Reached.l0) [iv f, .ptr ⟨0, 0⟩ 0 0, .ptr ⟨0, 1⟩ 0 0, iv 0, .undef, .undef, .undef, .undef] [[.row [d0], .row [.v (.agg (bl is))]]] = some (.exit 0, [iv f, .ptr ⟨0, 0⟩ 0 0, .ptr ⟨0, 1⟩ 0 0, iv 10, .undef, .undef, .undef, .undef], [[.row [d0], .row [.v (.agg (bl (rrR is 10)))]]]) := by
  have L := lpFor (G := G) (kill := [4, 5, 6, 7]) (body := euphroeref23_Reached.l0) (fun k => [iv f, .ptr ⟨0, 0⟩ 0 0, .ptr ⟨0, 1⟩ 0 0, iv (k : Nat), .undef, .undef, .undef, .undef]) (fun k => [[.row [d0], .row [.v (.agg (bl (rrR is k)))]]]) 10
    (fun k hk => by
      have I := l1_eq f k d0 (rrR is k) (rr_len is h k)
      simp only [iv, z0, Int.cast_ofNat_Int, List.take_zero, List.map_nil, List.drop_zero, accN, b8_nil, Int.sub_zero, Int.add_zero, Int.zero_add, Nat.zero_add, Nat.sub_zero, List.nil_append, List.append_nil] at I
      simp only [rrR]
      generalize rrR is k = m at *
      simp -implicitDefEqProofs (disch := omega) only [euphroeref23_Reached.l0, iv, I, go_sem, reduceIte, Nat.reduceAdd, Nat.reduceSub, Nat.reduceMul, Nat.reduceLeDiff, Nat.reduceLT, Nat.reduceEqDiff, Int.reduceToNat, Int.reduceLT, Int.reduceLE, Int.reduceEq, Int.reduceNe, Int.reduceAdd, Int.reduceSub, Int.reduceMul, Int.reduceNeg, Int.reduceBEq, Int.reduceBNe, reduceCtorEq, dreduceIte, ac_x, ac_t, setW_s, setW_0, ac_cp, ac_cpw, ac_lenw, ac_ret, ac_pop, ac_popw, cl_cp, oWS, oW8, oW16, oW32, oW64, oLtT, oLtF, oLeT, oLeF, oNLtT, oNLtF, oNLeT, oNLeF, oEqT, oEqF, oNEqT, oNEqF, oBeqT, oBeqF, oBneT, oBneF, Int.natCast_add, Int.cast_ofNat_Int, Int.toNat_natCast, List.take_length, rndE_eq, rnd_n, rnd_r, rnd_e]) (by simp -implicitDefEqProofs (disch := omega) only [euphroeref23_Reached.l0, iv, go_sem, reduceIte, Nat.reduceAdd, Nat.reduceSub, Nat.reduceMul, Nat.reduceLeDiff, Nat.reduceLT, Nat.reduceEqDiff, Int.reduceToNat, Int.reduceLT, Int.reduceLE, Int.reduceEq, Int.reduceNe, Int.reduceAdd, Int.reduceSub, Int.reduceMul, Int.reduceNeg, Int.reduceBEq, Int.reduceBNe, reduceCtorEq, dreduceIte, ac_x, ac_t, setW_s, setW_0, ac_cp, ac_cpw, ac_lenw, ac_ret, ac_pop, ac_popw, cl_cp, oWS, oW8, oW16, oW32, oW64, oLtT, oLtF, oLeT, oLeF, oNLtT, oNLtF, oNLeT, oNLeF, oEqT, oEqF, oNEqT, oNEqF, oBeqT, oBeqF, oBneT, oBneF, Int.natCast_add, Int.cast_ofNat_Int, Int.toNat_natCast, List.take_length, rndE_eq, rnd_n, rnd_r, rnd_e]; rfl)
  simp only [iv, z0, Int.cast_ofNat_Int, List.take_zero, List.map_nil, List.drop_zero, accN, b8_nil, Int.sub_zero, Int.add_zero, Int.zero_add, Nat.zero_add, Nat.sub_zero, List.nil_append, List.append_nil] at L
  exact L
theorem rr_rd : (List.range 10).all (fun s => rrR (initR.getD s []) 10 == rdR (s : Nat)) = true := by decide +kernel
theorem rr_at (s : Nat) (h : s < 10) : rrR (initR.getD s []) 10 = rdR (s : Nat) := by
  have := List.all_eq_true.1 rr_rd s (List.mem_range.2 h)
  exact eq_of_beq this
theorem f_reached (s : Int) : run G 22 [iv s] [] = some (.v (.agg (bl (rdR s))), []) := by
  rw [xq_fn G rfl euphroeref23_Reached.g _ _ rfl]
  by_cases h : 0 ≤ s ∧ s ≤ 9
  · have hh : s = 0 ∨ s = 1 ∨ s = 2 ∨ s = 3 ∨ s = 4 ∨ s = 5 ∨ s = 6 ∨ s = 7 ∨ s = 8 ∨ s = 9 := by omega
    have key : ∀ (n : Nat) (is : List Bool), n < 10 → initR.getD n [] = is → is.length = 10 → ∀ d0, ex G (.loop [4, 5, 6, 7] euphroeref23_Reached.l0) [iv (n : Nat), .ptr ⟨0, 0⟩ 0 0, .ptr ⟨0, 1⟩ 0 0, iv 0, .undef, .undef, .undef, .undef] [[.row [d0], .row [.v (.agg (bl is))]]] = some (.exit 0, [iv (n : Nat), .ptr ⟨0, 0⟩ 0 0, .ptr ⟨0, 1⟩ 0 0, iv 10, .undef, .undef, .undef, .undef], [[.row [d0], .row [.v (.agg (bl (rdR (n : Nat))))]]]) := fun n is hn hi hl d0 => by
      rw [l0_eq n d0 is hl, ← rr_at n hn, hi]
    rcases hh with rfl | rfl | rfl | rfl | rfl | rfl | rfl | rfl | rfl | rfl
    · have L := key 0 [true, false, false, false, false, false, false, false, false, false] (by omega) rfl rfl
      have e : rdR 0 = [true, true, true, true, true, true, true, true, true, true] := rfl
      simp only [iv, bl, List.map_cons, List.map_nil, Int.cast_ofNat_Int, z0, e] at L
      simp -implicitDefEqProofs (disch := omega) only [euphroeref23_Reached.s, iv, bl, List.map_cons, List.map_nil, e, L, go_sem, reduceIte, Nat.reduceAdd, Nat.reduceSub, Nat.reduceMul, Nat.reduceLeDiff, Nat.reduceLT, Nat.reduceEqDiff, Int.reduceToNat, Int.reduceLT, Int.reduceLE, Int.reduceEq, Int.reduceNe, Int.reduceAdd, Int.reduceSub, Int.reduceMul, Int.reduceNeg, Int.reduceBEq, Int.reduceBNe, reduceCtorEq, dreduceIte, ac_x, ac_t, setW_s, setW_0, ac_cp, ac_cpw, ac_lenw, ac_ret, ac_pop, ac_popw, cl_cp, oWS, oW8, oW16, oW32, oW64, oLtT, oLtF, oLeT, oLeF, oNLtT, oNLtF, oNLeT, oNLeF, oEqT, oEqF, oNEqT, oNEqF, oBeqT, oBeqF, oBneT, oBneF, Int.natCast_add, Int.cast_ofNat_Int, Int.toNat_natCast, List.take_length, rndE_eq, rnd_n, rnd_r, rnd_e]
    · have L := key 1 [false, true, false, false, false, false, false, false, false, false] (by omega) rfl rfl
      have e : rdR 1 = [true, true, true, true, true, true, true, true, true, true] := rfl
      simp only [iv, bl, List.map_cons, List.map_nil, Int.cast_ofNat_Int, z0, e] at L
      simp -implicitDefEqProofs (disch := omega) only [euphroeref23_Reached.s, iv, bl, List.map_cons, List.map_nil, e, L, go_sem, reduceIte, Nat.reduceAdd, Nat.reduceSub, Nat.reduceMul, Nat.reduceLeDiff, Nat.reduceLT, Nat.reduceEqDiff, Int.reduceToNat, Int.reduceLT, Int.reduceLE, Int.reduceEq, Int.reduceNe, Int.reduceAdd, Int.reduceSub, Int.reduceMul, Int.reduceNeg, Int.reduceBEq, Int.reduceBNe, reduceCtorEq, dreduceIte, ac_x, ac_t, setW_s, setW_0, ac_cp, ac_cpw, ac_lenw, ac_ret, ac_pop, ac_popw, cl_cp, oWS, oW8, oW16, oW32, oW64, oLtT, oLtF, oLeT, oLeF, oNLtT, oNLtF, oNLeT, oNLeF, oEqT, oEqF, oNEqT, oNEqF, oBeqT, oBeqF, oBneT, oBneF, Int.natCast_add, Int.cast_ofNat_Int, Int.toNat_natCast, List.take_length, rndE_eq, rnd_n, rnd_r, rnd_e]
    · have L := key 2 [false, false, true, false, false, false, false, false, false, false] (by omega) rfl rfl
      have e : rdR 2 = [true, true, true, true, true, true, true, true, true, true] := rfl
      simp only [iv, bl, List.map_cons, List.map_nil, Int.cast_ofNat_Int, z0, e] at L
      simp -implicitDefEqProofs (disch := omega) only [euphroeref23_Reached.s, iv, bl, List.map_cons, List.map_nil, e, L, go_sem, reduceIte, Nat.reduceAdd, Nat.reduceSub, Nat.reduceMul, Nat.reduceLeDiff, Nat.reduceLT, Nat.reduceEqDiff, Int.reduceToNat, Int.reduceLT, Int.reduceLE, Int.reduceEq, Int.reduceNe, Int.reduceAdd, Int.reduceSub, Int.reduceMul, Int.reduceNeg, Int.reduceBEq, Int.reduceBNe, reduceCtorEq, dreduceIte, ac_x, ac_t, setW_s, setW_0, ac_cp, ac_cpw, ac_lenw, ac_ret, ac_pop, ac_popw, cl_cp, oWS, oW8, oW16, oW32, oW64, oLtT, oLtF, oLeT, oLeF, oNLtT, oNLtF, oNLeT, oNLeF, oEqT, oEqF, oNEqT, oNEqF, oBeqT, oBeqF, oBneT, oBneF, Int.natCast_add, Int.cast_ofNat_Int, Int.toNat_natCast, List.take_length, rndE_eq, rnd_n, rnd_r, rnd_e]
    · have L := key 3 [false, false, false, true, false, false, false, false, false, false] (by omega) rfl rfl
      have e : rdR 3 = [true, true, true, true, true, true, true, true, true, true] := rfl
      simp only [iv, bl, List.map_cons, List.map_nil, Int.cast_ofNat_Int, z0, e] at L
      simp -implicitDefEqProofs (disch := omega) only [euphroeref23_Reached.s, iv, bl, List.map_cons, List.map_nil, e, L, go_sem, reduceIte, Nat.reduceAdd, Nat.reduceSub, Nat.reduceMul, Nat.reduceLeDiff, Nat.reduceLT, Nat.reduceEqDiff, Int.reduceToNat, Int.reduceLT, Int.reduceLE, Int.reduceEq, Int.reduceNe, Int.reduceAdd, Int.reduceSub, Int.reduceMul, Int.reduceNeg, Int.reduceBEq, Int.reduceBNe, reduceCtorEq, dreduceIte, ac_x, ac_t, setW_s, setW_0, ac_cp, ac_cpw, ac_lenw, ac_ret, ac_pop, ac_popw, cl_cp, oWS, oW8, oW16, oW32, oW64, oLtT, oLtF, oLeT, oLeF, oNLtT, oNLtF, oNLeT, oNLeF, oEqT, oEqF, oNEqT, oNEqF, oBeqT, oBeqF, oBneT, oBneF, Int.natCast_add, Int.cast_ofNat_Int, Int.toNat_natCast, List.take_length, rndE_eq, rnd_n, rnd_r, rnd_e]
    · have L := key 4 [false, false, false, false, true, false, false, false, false, false] (by omega) rfl rfl
      have e : rdR 4 = [true, true, true, true, true, true, true, true, true, true] := rfl
      simp only [iv, bl, List.map_cons, List.map_nil, Int.cast_ofNat_Int, z0, e] at L
      simp -implicitDefEqProofs (disch := omega) only [euphroeref23_Reached.s, iv, bl, List.map_cons, List.map_nil, e, L, go_sem, reduceIte, Nat.reduceAdd, Nat.reduceSub, Nat.reduceMul, Nat.reduceLeDiff, Nat.reduceLT, Nat.reduceEqDiff, Int.reduceToNat, Int.reduceLT, Int.reduceLE, Int.reduceEq, Int.reduceNe, Int.reduceAdd, Int.reduceSub, Int.reduceMul, Int.reduceNeg, Int.reduceBEq, Int.reduceBNe, reduceCtorEq, dreduceIte, ac_x, ac_t, setW_s, setW_0, ac_cp, ac_cpw, ac_lenw, ac_ret, ac_pop, ac_popw, cl_cp, oWS, oW8, oW16, oW32, oW64, oLtT, oLtF, oLeT, oLeF, oNLtT, oNLtF, oNLeT, oNLeF, oEqT, oEqF, oNEqT, oNEqF, oBeqT, oBeqF, oBneT, oBneF, Int.natCast_add, Int.cast_ofNat_Int, Int.toNat_natCast, List.take_length, rndE_eq, rnd_n, rnd_r, rnd_e]
    · have L := key 5 [false, false, false, false, false, true, false, false, false, false] (by omega) rfl rfl
      have e : rdR 5 = [true, true, true, true, true, true, true, true, true, true] := rfl
      simp only [iv, bl, List.map_cons, List.map_nil, Int.cast_ofNat_Int, z0, e] at L
      simp -implicitDefEqProofs (disch := omega) only [euphroeref23_Reached.s, iv, bl, List.map_cons, List.map_nil, e, L, go_sem, reduceIte, Nat.reduceAdd, Nat.reduceSub, Nat.reduceMul, Nat.reduceLeDiff, Nat.reduceLT, Nat.reduceEqDiff, Int.reduceToNat, Int.reduceLT, Int.reduceLE, Int.reduceEq, Int.reduceNe, Int.reduceAdd, Int.reduceSub, Int.reduceMul, Int.reduceNeg, Int.reduceBEq, Int.reduceBNe, reduceCtorEq, dreduceIte, ac_x, ac_t, setW_s, setW_0, ac_cp, ac_cpw, ac_lenw, ac_ret, ac_pop, ac_popw, cl_cp, oWS, oW8, oW16, oW32, oW64, oLtT, oLtF, oLeT, oLeF, oNLtT, oNLtF, oNLeT, oNLeF, oEqT, oEqF, oNEqT, oNEqF, oBeqT, oBeqF, oBneT, oBneF, Int.natCast_add, Int.cast_ofNat_Int, Int.toNat_natCast, List.take_length, rndE_eq, rnd_n, rnd_r, rnd_e]
    · have L := key 6 [false, false, false, false, false, false, true, false, false, false] (by omega) rfl rfl
      have e : rdR 6 = [true, true, true, true, true, true, true, true, true, true] := rfl
      simp only [iv, bl, List.map_cons, List.map_nil, Int.cast_ofNat_Int, z0, e] at L
      simp -implicitDefEqProofs (disch := omega) only [euphroeref23_Reached.s, iv, bl, List.map_cons, List.map_nil, e, L, go_sem, reduceIte, Nat.reduceAdd, Nat.reduceSub, Nat.reduceMul, Nat.reduceLeDiff, Nat.reduceLT, Nat.reduceEqDiff, Int.reduceToNat, Int.reduceLT, Int.reduceLE, Int.reduceEq, Int.reduceNe, Int.reduceAdd, Int.reduceSub, Int.reduceMul, Int.reduceNeg, Int.reduceBEq, Int.reduceBNe, reduceCtorEq, dreduceIte, ac_x, ac_t, setW_s, setW_0, ac_cp, ac_cpw, ac_lenw, ac_ret, ac_pop, ac_popw, cl_cp, oWS, oW8, oW16, oW32, oW64, oLtT, oLtF, oLeT, oLeF, oNLtT, oNLtF, oNLeT, oNLeF, oEqT, oEqF, oNEqT, oNEqF, oBeqT, oBeqF, oBneT, oBneF, Int.natCast_add, Int.cast_ofNat_Int, Int.toNat_natCast, List.take_length, rndE_eq, rnd_n, rnd_r, rnd_e]
    · have L := key 7 [false, false, false, false, false, false, false, true, false, false] (by omega) rfl rfl
      have e : rdR 7 = [true, true, true, true, true, true, true, true, true, true] := rfl
      simp only [iv, bl, List.map_cons, List.map_nil, Int.cast_ofNat_Int, z0, e] at L
      simp -implicitDefEqProofs (disch := omega) only [euphroeref23_Reached.s, iv, bl, List.map_cons, List.map_nil, e, L, go_sem, reduceIte, Nat.reduceAdd, Nat.reduceSub, Nat.reduceMul, Nat.reduceLeDiff, Nat.reduceLT, Nat.reduceEqDiff, Int.reduceToNat, Int.reduceLT, Int.reduceLE, Int.reduceEq, Int.reduceNe, Int.reduceAdd, Int.reduceSub, Int.reduceMul, Int.reduceNeg, Int.reduceBEq, Int.reduceBNe, reduceCtorEq, dreduceIte, ac_x, ac_t, setW_s, setW_0, ac_cp, ac_cpw, ac_lenw, ac_ret, ac_pop, ac_popw, cl_cp, oWS, oW8, oW16, oW32, oW64, oLtT, oLtF, oLeT, oLeF, oNLtT, oNLtF, oNLeT, oNLeF, oEqT, oEqF, oNEqT, oNEqF, oBeqT, oBeqF, oBneT, oBneF, Int.natCast_add, Int.cast_ofNat_Int, Int.toNat_natCast, List.take_length, rndE_eq, rnd_n, rnd_r, rnd_e]
    · have L := key 8 [false, false, false, false, false, false, false, false, true, false] (by omega) rfl rfl
      have e : rdR 8 = [true, true, true, true, true, true, true, true, true, true] := rfl
      simp only [iv, bl, List.map_cons, List.map_nil, Int.cast_ofNat_Int, z0, e] at L
      simp -implicitDefEqProofs (disch := omega) only [euphroeref23_Reached.s, iv, bl, List.map_cons, List.map_nil, e, L, go_sem, reduceIte, Nat.reduceAdd, Nat.reduceSub, Nat.reduceMul, Nat.reduceLeDiff, Nat.reduceLT, Nat.reduceEqDiff, Int.reduceToNat, Int.reduceLT, Int.reduceLE, Int.reduceEq, Int.reduceNe, Int.reduceAdd, Int.reduceSub, Int.reduceMul, Int.reduceNeg, Int.reduceBEq, Int.reduceBNe, reduceCtorEq, dreduceIte, ac_x, ac_t, setW_s, setW_0, ac_cp, ac_cpw, ac_lenw, ac_ret, ac_pop, ac_popw, cl_cp, oWS, oW8, oW16, oW32, oW64, oLtT, oLtF, oLeT, oLeF, oNLtT, oNLtF, oNLeT, oNLeF, oEqT, oEqF, oNEqT, oNEqF, oBeqT, oBeqF, oBneT, oBneF, Int.natCast_add, Int.cast_ofNat_Int, Int.toNat_natCast, List.take_length, rndE_eq, rnd_n, rnd_r, rnd_e]
    · have L := key 9 [false, false, false, false, false, false, false, false, false, true] (by omega) rfl rfl
      have e : rdR 9 = [true, true, true, true, true, true, true, true, true, true] := rfl
      simp only [iv, bl, List.map_cons, List.map_nil, Int.cast_ofNat_Int, z0, e] at L
      simp -implicitDefEqProofs (disch := omega) only [euphroeref23_Reached.s, iv, bl, List.map_cons, List.map_nil, e, L, go_sem, reduceIte, Nat.reduceAdd, Nat.reduceSub, Nat.reduceMul, Nat.reduceLeDiff, Nat.reduceLT, Nat.reduceEqDiff, Int.reduceToNat, Int.reduceLT, Int.reduceLE, Int.reduceEq, Int.reduceNe, Int.reduceAdd, Int.reduceSub, Int.reduceMul, Int.reduceNeg, Int.reduceBEq, Int.reduceBNe, reduceCtorEq, dreduceIte, ac_x, ac_t, setW_s, setW_0, ac_cp, ac_cpw, ac_lenw, ac_ret, ac_pop, ac_popw, cl_cp, oWS, oW8, oW16, oW32, oW64, oLtT, oLtF, oLeT, oLeF, oNLtT, oNLtF, oNLeT, oNLeF, oEqT, oEqF, oNEqT, oNEqF, oBeqT, oBeqF, oBneT, oBneF, Int.natCast_add, Int.cast_ofNat_Int, Int.toNat_natCast, List.take_length, rndE_eq, rnd_n, rnd_r, rnd_e]
  · have e : bl (rdR s) = List.replicate 10 (.bool false) := by rw [rdR, if_neg h]; rfl
    rw [e]
    by_cases g : s < 0
    · simp -implicitDefEqProofs (disch := omega) only [euphroeref23_Reached.s, iv, go_sem, reduceIte, Nat.reduceAdd, Nat.reduceSub, Nat.reduceMul, Nat.reduceLeDiff, Nat.reduceLT, Nat.reduceEqDiff, Int.reduceToNat, Int.reduceLT, Int.reduceLE, Int.reduceEq, Int.reduceNe, Int.reduceAdd, Int.reduceSub, Int.reduceMul, Int.reduceNeg, Int.reduceBEq, Int.reduceBNe, reduceCtorEq, dreduceIte, ac_x, ac_t, setW_s, setW_0, ac_cp, ac_cpw, ac_lenw, ac_ret, ac_pop, ac_popw, cl_cp, oWS, oW8, oW16, oW32, oW64, oLtT, oLtF, oLeT, oLeF, oNLtT, oNLtF, oNLeT, oNLeF, oEqT, oEqF, oNEqT, oNEqF, oBeqT, oBeqF, oBneT, oBneF, Int.natCast_add, Int.cast_ofNat_Int, Int.toNat_natCast, List.take_length, rndE_eq, rnd_n, rnd_r, rnd_e]
    · simp -implicitDefEqProofs (disch := omega) only [euphroeref23_Reached.s, iv, go_sem, reduceIte, Nat.reduceAdd, Nat.reduceSub, Nat.reduceMul, Nat.reduceLeDiff, Nat.reduceLT, Nat.reduceEqDiff, Int.reduceToNat, Int.reduceLT, Int.reduceLE, Int.reduceEq, Int.reduceNe, Int.reduceAdd, Int.reduceSub, Int.reduceMul, Int.reduceNeg, Int.reduceBEq, Int.reduceBNe, reduceCtorEq, dreduceIte, ac_x, ac_t, setW_s, setW_0, ac_cp, ac_cpw, ac_lenw, ac_ret, ac_pop, ac_popw, cl_cp, oWS, oW8, oW16, oW32, oW64, oLtT, oLtF, oLeT, oLeF, oNLtT, oNLtF, oNLeT, oNLeF, oEqT, oEqF, oNEqT, oNEqF, oBeqT, oBeqF, oBneT, oBneF, Int.natCast_add, Int.cast_ofNat_Int, Int.toNat_natCast, List.take_length, rndE_eq, rnd_n, rnd_r, rnd_e]
theorem rd_len (s : Int) : (rdR s).length = 10 := by
  unfold rdR
  split
  · have : (List.range 10).all (fun k => (reachR.getD k []).length == 10) = true := by decide
    have := List.all_eq_true.1 this s.toNat (List.mem_range.2 (by omega))
    simpa using this
  · rfl
theorem bl_len (l : List Bool) : (bl l).length = l.length := by simp [bl]
theorem bl_at {l : List Bool} {i : Nat} (h : i < l.length) : (bl l)[i]? = some (.bool (l.getD i false)) := by
  simp [bl, List.getElem?_eq_getElem h, List.getD]
theorem blv_at {l : List Bool} {i : Nat} (h : i < l.length) : ((bl l).map D.v)[i]? = some (.v (.bool (l.getD i false))) := by
  simp [bl, List.getElem?_eq_getElem h, List.getD]
theorem f_reaches (s t : Int) (hs : 0 ≤ s ∧ s ≤ 9) (ht : 0 ≤ t ∧ t ≤ 9) : run G 23 [iv s, iv t] [] = some (.v (.bool (rcR s t)), []) := by
  rw [xq_fn G rfl fsm_Reaches.g _ _ rfl]
  have o1 := f_ok s
  have o2 := f_ok t
  rw [decide_eq_true hs] at o1
  rw [decide_eq_true ht] at o2
  have er : rcR s t = (rdR s).getD t.toNat false := by rw [rcR, if_pos ht]
  rw [er]
  have hx := blv_at (l := rdR s) (i := t.toNat) (by rw [rd_len]; omega)
  have hl : ((bl (rdR s)).map D.v).length = 10 := by rw [List.length_map, bl_len, rd_len]
  have hh : s = 0 ∨ s = 1 ∨ s = 2 ∨ s = 3 ∨ s = 4 ∨ s = 5 ∨ s = 6 ∨ s = 7 ∨ s = 8 ∨ s = 9 := by omega
  rcases hh with rfl | rfl | rfl | rfl | rfl | rfl | rfl | rfl | rfl | rfl
  · have L := toEx (rcL0 t)
    generalize bl (rdR 0) = R at *
    simp only [iv, z0, Int.cast_ofNat_Int, List.take_zero, List.map_nil, List.drop_zero, accN, b8_nil, Int.sub_zero, Int.add_zero, Int.zero_add, Nat.zero_add, Nat.sub_zero, List.nil_append, List.append_nil] at L
    simp -implicitDefEqProofs (disch := omega) only [fsm_Reaches.s, iv, o1, o2, L, hx, hl, Nat.mul_one, go_sem, reduceIte, Nat.reduceAdd, Nat.reduceSub, Nat.reduceMul, Nat.reduceLeDiff, Nat.reduceLT, Nat.reduceEqDiff, Int.reduceToNat, Int.reduceLT, Int.reduceLE, Int.reduceEq, Int.reduceNe, Int.reduceAdd, Int.reduceSub, Int.reduceMul, Int.reduceNeg, Int.reduceBEq, Int.reduceBNe, reduceCtorEq, dreduceIte, ac_x, ac_t, setW_s, setW_0, ac_cp, ac_cpw, ac_lenw, ac_ret, ac_pop, ac_popw, cl_cp, oWS, oW8, oW16, oW32, oW64, oLtT, oLtF, oLeT, oLeF, oNLtT, oNLtF, oNLeT, oNLeF, oEqT, oEqF, oNEqT, oNEqF, oBeqT, oBeqF, oBneT, oBneF, Int.natCast_add, Int.cast_ofNat_Int, Int.toNat_natCast, List.take_length, rndE_eq, rnd_n, rnd_r, rnd_e]
  · have L := toEx (rcL1 t)
    generalize bl (rdR 1) = R at *
    simp only [iv, z0, Int.cast_ofNat_Int, List.take_zero, List.map_nil, List.drop_zero, accN, b8_nil, Int.sub_zero, Int.add_zero, Int.zero_add, Nat.zero_add, Nat.sub_zero, List.nil_append, List.append_nil] at L
    simp -implicitDefEqProofs (disch := omega) only [fsm_Reaches.s, iv, o1, o2, L, hx, hl, Nat.mul_one, go_sem, reduceIte, Nat.reduceAdd, Nat.reduceSub, Nat.reduceMul, Nat.reduceLeDiff, Nat.reduceLT, Nat.reduceEqDiff, Int.reduceToNat, Int.reduceLT, Int.reduceLE, Int.reduceEq, Int.reduceNe, Int.reduceAdd, Int.reduceSub, Int.reduceMul, Int.reduceNeg, Int.reduceBEq, Int.reduceBNe, reduceCtorEq, dreduceIte, ac_x, ac_t, setW_s, setW_0, ac_cp, ac_cpw, ac_lenw, ac_ret, ac_pop, ac_popw, cl_cp, oWS, oW8, oW16, oW32, oW64, oLtT, oLtF, oLeT, oLeF, oNLtT, oNLtF, oNLeT, oNLeF, oEqT, oEqF, oNEqT, oNEqF, oBeqT, oBeqF, oBneT, oBneF, Int.natCast_add, Int.cast_ofNat_Int, Int.toNat_natCast, List.take_length, rndE_eq, rnd_n, rnd_r, rnd_e]
  · have L := toEx (rcL2 t)
    generalize bl (rdR 2) = R at *
    simp only [iv, z0, Int.cast_ofNat_Int, List.take_zero, List.map_nil, List.drop_zero, accN, b8_nil, Int.sub_zero, Int.add_zero, Int.zero_add, Nat.zero_add, Nat.sub_zero, List.nil_append, List.append_nil] at L
    simp -implicitDefEqProofs (disch := omega) only [fsm_Reaches.s, iv, o1, o2, L, hx, hl, Nat.mul_one, go_sem, reduceIte, Nat.reduceAdd, Nat.reduceSub, Nat.reduceMul, Nat.reduceLeDiff, Nat.reduceLT, Nat.reduceEqDiff, Int.reduceToNat, Int.reduceLT, Int.reduceLE, Int.reduceEq, Int.reduceNe, Int.reduceAdd, Int.reduceSub, Int.reduceMul, Int.reduceNeg, Int.reduceBEq, Int.reduceBNe, reduceCtorEq, dreduceIte, ac_x, ac_t, setW_s, setW_0, ac_cp, ac_cpw, ac_lenw, ac_ret, ac_pop, ac_popw, cl_cp, oWS, oW8, oW16, oW32, oW64, oLtT, oLtF, oLeT, oLeF, oNLtT, oNLtF, oNLeT, oNLeF, oEqT, oEqF, oNEqT, oNEqF, oBeqT, oBeqF, oBneT, oBneF, Int.natCast_add, Int.cast_ofNat_Int, Int.toNat_natCast, List.take_length, rndE_eq, rnd_n, rnd_r, rnd_e]
  · have L := toEx (rcL3 t)
    generalize bl (rdR 3) = R at *
    simp only [iv, z0, Int.cast_ofNat_Int, List.take_zero, List.map_nil, List.drop_zero, accN, b8_nil, Int.sub_zero, Int.add_zero, Int.zero_add, Nat.zero_add, Nat.sub_zero, List.nil_append, List.append_nil] at L
    simp -implicitDefEqProofs (disch := omega) only [fsm_Reaches.s, iv, o1, o2, L, hx, hl, Nat.mul_one, go_sem, reduceIte, Nat.reduceAdd, Nat.reduceSub, Nat.reduceMul, Nat.reduceLeDiff, Nat.reduceLT, Nat.reduceEqDiff, Int.reduceToNat, Int.reduceLT, Int.reduceLE, Int.reduceEq, Int.reduceNe, Int.reduceAdd, Int.reduceSub, Int.reduceMul, Int.reduceNeg, Int.reduceBEq, Int.reduceBNe, reduceCtorEq, dreduceIte, ac_x, ac_t, setW_s, setW_0, ac_cp, ac_cpw, ac_lenw, ac_ret, ac_pop, ac_popw, cl_cp, oWS, oW8, oW16, oW32, oW64, oLtT, oLtF, oLeT, oLeF, oNLtT, oNLtF, oNLeT, oNLeF, oEqT, oEqF, oNEqT, oNEqF, oBeqT, oBeqF, oBneT, oBneF, Int.natCast_add, Int.cast_ofNat_Int, Int.toNat_natCast, List.take_length, rndE_eq, rnd_n, rnd_r, rnd_e]
  · have L := toEx (rcL4 t)
    generalize bl (rdR 4) = R at *
    simp only [iv, z0, Int.cast_ofNat_Int, List.take_zero, List.map_nil, List.drop_zero, accN, b8_nil, Int.sub_zero, Int.add_zero, Int.zero_add, Nat.zero_add, Nat.sub_zero, List.nil_append, List.append_nil] at L
    simp -implicitDefEqProofs (disch := omega) only [fsm_Reaches.s, iv, o1, o2, L, hx, hl, Nat.mul_one, go_sem, reduceIte, Nat.reduceAdd, Nat.reduceSub, Nat.reduceMul, Nat.reduceLeDiff, Nat.reduceLT, Nat.reduceEqDiff, Int.reduceToNat, Int.reduceLT, Int.reduceLE, Int.reduceEq, Int.reduceNe, Int.reduceAdd, Int.reduceSub, Int.reduceMul, Int.reduceNeg, Int.reduceBEq, Int.reduceBNe, reduceCtorEq, dreduceIte, ac_x, ac_t, setW_s, setW_0, ac_cp, ac_cpw, ac_lenw, ac_ret, ac_pop, ac_popw, cl_cp, oWS, oW8, oW16, oW32, oW64, oLtT, oLtF, oLeT, oLeF, oNLtT, oNLtF, oNLeT, oNLeF, oEqT, oEqF, oNEqT, oNEqF, oBeqT, oBeqF, oBneT, oBneF, Int.natCast_add, Int.cast_ofNat_Int, Int.toNat_natCast, List.take_length, rndE_eq, rnd_n, rnd_r, rnd_e]
  · have L := toEx (rcL5 t)
    generalize bl (rdR 5) = R at *
    simp only [iv, z0, Int.cast_ofNat_Int, List.take_zero, List.map_nil, List.drop_zero, accN, b8_nil, Int.sub_zero, Int.add_zero, Int.zero_add, Nat.zero_add, Nat.sub_zero, List.nil_append, List.append_nil] at L
    simp -implicitDefEqProofs (disch := omega) only [fsm_Reaches.s, iv, o1, o2, L, hx, hl, Nat.mul_one, go_sem, reduceIte, Nat.reduceAdd, Nat.reduceSub, Nat.reduceMul, Nat.reduceLeDiff, Nat.reduceLT, Nat.reduceEqDiff, Int.reduceToNat, Int.reduceLT, Int.reduceLE, Int.reduceEq, Int.reduceNe, Int.reduceAdd, Int.reduceSub, Int.reduceMul, Int.reduceNeg, Int.reduceBEq, Int.reduceBNe, reduceCtorEq, dreduceIte, ac_x, ac_t, setW_s, setW_0, ac_cp, ac_cpw, ac_lenw, ac_ret, ac_pop, ac_popw, cl_cp, oWS, oW8, oW16, oW32, oW64, oLtT, oLtF, oLeT, oLeF, oNLtT, oNLtF, oNLeT, oNLeF, oEqT, oEqF, oNEqT, oNEqF, oBeqT, oBeqF, oBneT, oBneF, Int.natCast_add, Int.cast_ofNat_Int, Int.toNat_natCast, List.take_length, rndE_eq, rnd_n, rnd_r, rnd_e]
  · have L := toEx (rcL6 t)
    generalize bl (rdR 6) = R at *
    simp only [iv, z0, Int.cast_ofNat_Int, List.take_zero, List.map_nil, List.drop_zero, accN, b8_nil, Int.sub_zero, Int.add_zero, Int.zero_add, Nat.zero_add, Nat.sub_zero, List.nil_append, List.append_nil] at L
    simp -implicitDefEqProofs (disch := omega) only [fsm_Reaches.s, iv, o1, o2, L, hx, hl, Nat.mul_one, go_sem, reduceIte, Nat.reduceAdd, Nat.reduceSub, Nat.reduceMul, Nat.reduceLeDiff, Nat.reduceLT, Nat.reduceEqDiff, Int.reduceToNat, Int.reduceLT, Int.reduceLE, Int.reduceEq, Int.reduceNe, Int.reduceAdd, Int.reduceSub, Int.reduceMul, Int.reduceNeg, Int.reduceBEq, Int.reduceBNe, reduceCtorEq, dreduceIte, ac_x, ac_t, setW_s, setW_0, ac_cp, ac_cpw, ac_lenw, ac_ret, ac_pop, ac_popw, cl_cp, oWS, oW8, oW16, oW32, oW64, oLtT, oLtF, oLeT, oLeF, oNLtT, oNLtF, oNLeT, oNLeF, oEqT, oEqF, oNEqT, oNEqF, oBeqT, oBeqF, oBneT, oBneF, Int.natCast_add, Int.cast_ofNat_Int, Int.toNat_natCast, List.take_length, rndE_eq, rnd_n, rnd_r, rnd_e]
  · have L := toEx (rcL7 t)
    generalize bl (rdR 7) = R at *
    simp only [iv, z0, Int.cast_ofNat_Int, List.take_zero, List.map_nil, List.drop_zero, accN, b8_nil, Int.sub_zero, Int.add_zero, Int.zero_add, Nat.zero_add, Nat.sub_zero, List.nil_append, List.append_nil] at L
    simp -implicitDefEqProofs (disch := omega) only [fsm_Reaches.s, iv, o1, o2, L, hx, hl, Nat.mul_one, go_sem, reduceIte, Nat.reduceAdd, Nat.reduceSub, Nat.reduceMul, Nat.reduceLeDiff, Nat.reduceLT, Nat.reduceEqDiff, Int.reduceToNat, Int.reduceLT, Int.reduceLE, Int.reduceEq, Int.reduceNe, Int.reduceAdd, Int.reduceSub, Int.reduceMul, Int.reduceNeg, Int.reduceBEq, Int.reduceBNe, reduceCtorEq, dreduceIte, ac_x, ac_t, setW_s, setW_0, ac_cp, ac_cpw, ac_lenw, ac_ret, ac_pop, ac_popw, cl_cp, oWS, oW8, oW16, oW32, oW64, oLtT, oLtF, oLeT, oLeF, oNLtT, oNLtF, oNLeT, oNLeF, oEqT, oEqF, oNEqT, oNEqF, oBeqT, oBeqF, oBneT, oBneF, Int.natCast_add, Int.cast_ofNat_Int, Int.toNat_natCast, List.take_length, rndE_eq, rnd_n, rnd_r, rnd_e]
  · have L := toEx (rcL8 t)
    generalize bl (rdR 8) = R at *
    simp only [iv, z0, Int.cast_ofNat_Int, List.take_zero, List.map_nil, List.drop_zero, accN, b8_nil, Int.sub_zero, Int.add_zero, Int.zero_add, Nat.zero_add, Nat.sub_zero, List.nil_append, List.append_nil] at L
    simp -implicitDefEqProofs (disch := omega) only [fsm_Reaches.s, iv, o1, o2, L, hx, hl, Nat.mul_one, go_sem, reduceIte, Nat.reduceAdd, Nat.reduceSub, Nat.reduceMul, Nat.reduceLeDiff, Nat.reduceLT, Nat.reduceEqDiff, Int.reduceToNat, Int.reduceLT, Int.reduceLE, Int.reduceEq, Int.reduceNe, Int.reduceAdd, Int.reduceSub, Int.reduceMul, Int.reduceNeg, Int.reduceBEq, Int.reduceBNe, reduceCtorEq, dreduceIte, ac_x, ac_t, setW_s, setW_0, ac_cp, ac_cpw, ac_lenw, ac_ret, ac_pop, ac_popw, cl_cp, oWS, oW8, oW16, oW32, oW64, oLtT, oLtF, oLeT, oLeF, oNLtT, oNLtF, oNLeT, oNLeF, oEqT, oEqF, oNEqT, oNEqF, oBeqT, oBeqF, oBneT, oBneF, Int.natCast_add, Int.cast_ofNat_Int, Int.toNat_natCast, List.take_length, rndE_eq, rnd_n, rnd_r, rnd_e]
  · have L := toEx (rcL9 t)
    generalize bl (rdR 9) = R at *
    simp only [iv, z0, Int.cast_ofNat_Int, List.take_zero, List.map_nil, List.drop_zero, accN, b8_nil, Int.sub_zero, Int.add_zero, Int.zero_add, Nat.zero_add, Nat.sub_zero, List.nil_append, List.append_nil] at L
    simp -implicitDefEqProofs (disch := omega) only [fsm_Reaches.s, iv, o1, o2, L, hx, hl, Nat.mul_one, go_sem, reduceIte, Nat.reduceAdd, Nat.reduceSub, Nat.reduceMul, Nat.reduceLeDiff, Nat.reduceLT, Nat.reduceEqDiff, Int.reduceToNat, Int.reduceLT, Int.reduceLE, Int.reduceEq, Int.reduceNe, Int.reduceAdd, Int.reduceSub, Int.reduceMul, Int.reduceNeg, Int.reduceBEq, Int.reduceBNe, reduceCtorEq, dreduceIte, ac_x, ac_t, setW_s, setW_0, ac_cp, ac_cpw, ac_lenw, ac_ret, ac_pop, ac_popw, cl_cp, oWS, oW8, oW16, oW32, oW64, oLtT, oLtF, oLeT, oLeF, oNLtT, oNLtF, oNLeT, oNLeF, oEqT, oEqF, oNEqT, oNEqF, oBeqT, oBeqF, oBneT, oBneF, Int.natCast_add, Int.cast_ofNat_Int, Int.toNat_natCast, List.take_length, rndE_eq, rnd_n, rnd_r, rnd_e]
theorem f_reacho (s t : Int) (h : ¬ ((0 ≤ s ∧ s ≤ 9) ∧ (0 ≤ t ∧ t ≤ 9))) : run G 23 [iv s, iv t] [] = some (.v (.bool false), []) := by
  rw [xq_fn G rfl fsm_Reaches.g _ _ rfl]
  have o1 := f_ok s
  have o2 := f_ok t
  by_cases hs : 0 ≤ s ∧ s ≤ 9
  · rw [decide_eq_true hs] at o1
    rw [decide_eq_false (by omega)] at o2
    simp -implicitDefEqProofs (disch := omega) only [fsm_Reaches.s, iv, o1, o2, go_sem, reduceIte, Nat.reduceAdd, Nat.reduceSub, Nat.reduceMul, Nat.reduceLeDiff, Nat.reduceLT, Nat.reduceEqDiff, Int.reduceToNat, Int.reduceLT, Int.reduceLE, Int.reduceEq, Int.reduceNe, Int.reduceAdd, Int.reduceSub, Int.reduceMul, Int.reduceNeg, Int.reduceBEq, Int.reduceBNe, reduceCtorEq, dreduceIte, ac_x, ac_t, setW_s, setW_0, ac_cp, ac_cpw, ac_lenw, ac_ret, ac_pop, ac_popw, cl_cp, oWS, oW8, oW16, oW32, oW64, oLtT, oLtF, oLeT, oLeF, oNLtT, oNLtF, oNLeT, oNLeF, oEqT, oEqF, oNEqT, oNEqF, oBeqT, oBeqF, oBneT, oBneF, Int.natCast_add, Int.cast_ofNat_Int, Int.toNat_natCast, List.take_length, rndE_eq, rnd_n, rnd_r, rnd_e]
  · rw [decide_eq_false hs] at o1
    simp -implicitDefEqProofs (disch := omega) only [fsm_Reaches.s, iv, o1, o2, go_sem, reduceIte, Nat.reduceAdd, Nat.reduceSub, Nat.reduceMul, Nat.reduceLeDiff, Nat.reduceLT, Nat.reduceEqDiff, Int.reduceToNat, Int.reduceLT, Int.reduceLE, Int.reduceEq, Int.reduceNe, Int.reduceAdd, Int.reduceSub, Int.reduceMul, Int.reduceNeg, Int.reduceBEq, Int.reduceBNe, reduceCtorEq, dreduceIte, ac_x, ac_t, setW_s, setW_0, ac_cp, ac_cpw, ac_lenw, ac_ret, ac_pop, ac_popw, cl_cp, oWS, oW8, oW16, oW32, oW64, oLtT, oLtF, oLeT, oLeF, oNLtT, oNLtF, oNLeT, oNLeF, oEqT, oEqF, oNEqT, oNEqF, oBeqT, oBeqF, oBneT, oBneF, Int.natCast_add, Int.cast_ofNat_Int, Int.toNat_natCast, List.take_length, rndE_eq, rnd_n, rnd_r, rnd_e]
end Go.Q
