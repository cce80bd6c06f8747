/- Control packets: what ctl and its reference compute. No condition. -/
import Derived.Test.YtmbdamompcdolaaGreatDoorLt
set_option linter.all false
set_option maxRecDepth 100000
namespace Go.Q
open SOp SCode
attribute [local congr] bind_c map_c

abbrev Ctl := Int × Int × List Int
abbrev cv (c : Ctl) : V := .agg [.int .u8 c.1, .int .u8 c.2.1, .slc 1 (b8 c.2.2)]
abbrev okC (c : Ctl) : Prop := (0 ≤ c.1 ∧ c.1 ≤ 255) ∧ (0 ≤ c.2.1 ∧ c.2.1 ≤ 255) ∧ okB c.2.2
def layC (c : Ctl) : List Int × Int := if 4000 < c.2.2.length then ([], 8) else ([c.1, c.2.1] ++ (big 2 (4 + (c.2.2.length : Int)) ++ c.2.2), 0)
theorem c_lay (c : Ctl) (h : c.2.2.length ≤ 10000) : run G 21 [.v (cv c)] [] = some (.tup [.lin 1 (b8 (layC c).1), .v (.int .i64 (layC c).2)], []) := by
  rw [xq_fn G rfl ctl_Lay.g _ _ rfl]
  unfold layC
  by_cases h1 : 4000 < c.2.2.length
  · rw [if_pos h1]
    simp -implicitDefEqProofs (maxSteps := 2000000) (disch := omega) only [ctl_Lay.s, b8_len, b8_nil, go_sem, reduceIte, Nat.reduceAdd, Nat.reduceSub, Nat.reduceMul, Nat.reduceLeDiff, Nat.reduceLT, Nat.reduceEqDiff, Int.reduceToNat, Int.reduceLT, Int.reduceLE, Int.reduceEq, Int.reduceNe, Int.reduceAdd, Int.reduceSub, Int.reduceMul, Int.reduceNeg, Int.reduceBEq, Int.reduceBNe, reduceCtorEq, dreduceIte, oWS, oW8, oW16, oW32, oW64, oLtT, oLtF, oLeT, oLeF, oNLtT, oNLtF, oNLeT, oNLeF, oEqT, oEqF, oNEqT, oNEqF, oBeqT, oBeqF, oBneT, oBneF, Int.natCast_add, List.take_length]
  · rw [if_neg h1]
    have P := put85 (4 + (c.2.2.length : Int)) (by omega) (by omega) 2 (by omega) (by omega)
    have J := join86 [[c.1, c.2.1], big 2 (4 + (c.2.2.length : Int)), c.2.2] (by simp) (by simp [big_len]; omega)
    simp only [pe, List.map_cons, b8_cons, List.flatten_cons, List.flatten_nil, z0, Int.cast_ofNat_Int, List.take_zero, List.map_nil, List.drop_zero, accN, b8_nil, Int.sub_zero, Int.add_zero, Int.zero_add, Nat.zero_add, Nat.sub_zero, List.nil_append, List.append_nil] at J
    simp only [z0, Int.cast_ofNat_Int, List.take_zero, List.map_nil, List.drop_zero, accN, b8_nil, Int.sub_zero, Int.add_zero, Int.zero_add, Nat.zero_add, Nat.sub_zero, List.nil_append, List.append_nil] at P
    simp -implicitDefEqProofs (maxSteps := 2000000) (disch := omega) only [ctl_Lay.s, b8_len, b8_nil, P, J, go_sem, reduceIte, Nat.reduceAdd, Nat.reduceSub, Nat.reduceMul, Nat.reduceLeDiff, Nat.reduceLT, Nat.reduceEqDiff, Int.reduceToNat, Int.reduceLT, Int.reduceLE, Int.reduceEq, Int.reduceNe, Int.reduceAdd, Int.reduceSub, Int.reduceMul, Int.reduceNeg, Int.reduceBEq, Int.reduceBNe, reduceCtorEq, dreduceIte, oWS, oW8, oW16, oW32, oW64, oLtT, oLtF, oLeT, oLeF, oNLtT, oNLtF, oNLeT, oNLeF, oEqT, oEqF, oNEqT, oNEqF, oBeqT, oBeqF, oBneT, oBneF, Int.natCast_add, List.take_length]
def noC : Ctl := (0, 0, [])
def parC (b : List Int) : Ctl × Int := if b.length < 4 then (noC, 4) else if num ((b.take 4).drop 2) < 4 then (noC, 3) else if (b.length : Int) < num ((b.take 4).drop 2) then (noC, 4)
  else if 4004 < num ((b.take 4).drop 2) then (noC, 8) else ((b.getD 0 0, b.getD 1 0, (b.take (num ((b.take 4).drop 2)).toNat).drop 4), 0)
theorem getD_at (b : List Int) (i : Nat) (h : i < b.length) : b[i]? = some (b.getD i 0) := by rw [List.getD_eq_getElem?_getD, List.getElem?_eq_getElem h]; rfl
def eqC (a b : Ctl) : Bool := a.1 == b.1 && (a.2.1 == b.2.1 && a.2.2 == b.2.2)
theorem eqC_self (a : Ctl) : eqC a a = true := by simp [eqC]
def cutR (b : List Int) (most : Int) : List Int := if most < 4 then [] else b.take (min (b.length : Int) (max most 4 - 4)).toNat
theorem c_cut (b : List Int) (most : Int) (hb : b.length ≤ 20000) (hm : In most) : run G 161 [.v (.slc 1 (b8 b)), .v (.int .i64 most)] [] = some (.v (.slc 1 (b8 (cutR b most))), []) := by
  rw [xq_fn G rfl ctl_cut.g _ _ rfl]
  unfold cutR
  by_cases h1 : most < 4
  · rw [if_pos h1]
    have e : (min (b.length : Int) (max most 4 - 4)).toNat = 0 := by omega
    simp -implicitDefEqProofs (maxSteps := 2000000) (disch := omega) only [ctl_cut.s, b8_len, b8_nil, b8_take, e, go_sem, reduceIte, Nat.reduceAdd, Nat.reduceSub, Nat.reduceMul, Nat.reduceLeDiff, Nat.reduceLT, Nat.reduceEqDiff, Int.reduceToNat, Int.reduceLT, Int.reduceLE, Int.reduceEq, Int.reduceNe, Int.reduceAdd, Int.reduceSub, Int.reduceMul, Int.reduceNeg, Int.reduceBEq, Int.reduceBNe, reduceCtorEq, dreduceIte, oWS, oW8, oW16, oW32, oW64, oLtT, oLtF, oLeT, oLeF, oNLtT, oNLtF, oNLeT, oNLeF, oEqT, oEqF, oNEqT, oNEqF, oBeqT, oBeqF, oBneT, oBneF, Int.natCast_add, List.take_length]
  · rw [if_neg h1]
    simp -implicitDefEqProofs (maxSteps := 2000000) (disch := omega) only [ctl_cut.s, b8_len, b8_nil, b8_take, go_sem, reduceIte, Nat.reduceAdd, Nat.reduceSub, Nat.reduceMul, Nat.reduceLeDiff, Nat.reduceLT, Nat.reduceEqDiff, Int.reduceToNat, Int.reduceLT, Int.reduceLE, Int.reduceEq, Int.reduceNe, Int.reduceAdd, Int.reduceSub, Int.reduceMul, Int.reduceNeg, Int.reduceBEq, Int.reduceBNe, reduceCtorEq, dreduceIte, oWS, oW8, oW16, oW32, oW64, oLtT, oLtF, oLeT, oLeF, oNLtT, oNLtF, oNLeT, oNLeF, oEqT, oEqF, oNEqT, oNEqF, oBeqT, oBeqF, oBneT, oBneF, Int.natCast_add, List.take_length]
def cutD (b : List Int) (most : Int) : D := if most < 4 then .lin 1 [] else .v (.slc 1 (b8 (cutR b most)))
theorem cutD_cp (b : List Int) (most : Int) : cp (cutD b most) = .v (.slc 1 (b8 (cutR b most))) := by
  unfold cutD cutR
  split <;> rfl
theorem layC_len (c : Ctl) : (layC c).1.length ≤ 4004 := by
  unfold layC
  split
  · simp
  · simp [big_len]; omega
theorem c_reject (id : Int) (c : Ctl) (most : Int) (h : c.2.2.length ≤ 10000) (hm : In most) : run G 126 [.v (.int .u8 id), .v (cv c), .v (.int .i64 most)] [] = some (.v (cv (7, id, cutR (layC c).1 most)), []) := by
  rw [xq_fn G rfl ctl_Reject.g _ _ rfl]
  have l := c_lay c h
  have k := c_cut (layC c).1 most (by have := layC_len c; omega) hm
  simp -implicitDefEqProofs (maxSteps := 2000000) (disch := omega) only [ctl_Reject.s, l, k, cv, go_sem, reduceIte, Nat.reduceAdd, Nat.reduceSub, Nat.reduceMul, Nat.reduceLeDiff, Nat.reduceLT, Nat.reduceEqDiff, Int.reduceToNat, Int.reduceLT, Int.reduceLE, Int.reduceEq, Int.reduceNe, Int.reduceAdd, Int.reduceSub, Int.reduceMul, Int.reduceNeg, Int.reduceBEq, Int.reduceBNe, reduceCtorEq, dreduceIte, oWS, oW8, oW16, oW32, oW64, oLtT, oLtF, oLeT, oLeF, oNLtT, oNLtF, oNLeT, oNLeF, oEqT, oEqF, oNEqT, oNEqF, oBeqT, oBeqF, oBneT, oBneF, Int.natCast_add, List.take_length]
abbrev Frm := Int × List Int
abbrev fv (f : Frm) : V := .agg [.int .u16 f.1, .slc 1 (b8 f.2)]
def magC (c : Ctl) : Int × List Int × Int := if c.2.2.length < 4 then (0, [], 4) else (num (c.2.2.take 4), c.2.2.drop 4, 0)
def mgD (c : Ctl) : D := if c.2.2.length < 4 then .lin 1 [] else clD 1 (b8 (c.2.2.drop 4))
theorem mgD_cp (c : Ctl) : cp (mgD c) = .v (.slc 1 (b8 (magC c).2.1)) := by
  unfold mgD magC
  split
  · rfl
  · exact cl_cp _ _
def rgD (c : Ctl) : D := if c.2.2.length < 4 then .lin 1 [] else .v (.slc 1 (b8 (c.2.2.drop 4)))
theorem rgD_cp (c : Ctl) : cp (rgD c) = .v (.slc 1 (b8 (magC c).2.1)) := by
  unfold rgD magC
  split <;> rfl
theorem mgD_or (c : Ctl) : mgD c = .lin 1 (b8 (magC c).2.1) ∨ mgD c = .v (.slc 1 (b8 (magC c).2.1)) := by
  unfold mgD magC
  split
  · exact .inl rfl
  · simp only
    cases c.2.2.drop 4 with
    | nil => exact .inr rfl
    | cons x r => exact .inl rfl
theorem rgD_or (c : Ctl) : rgD c = .lin 1 (b8 (magC c).2.1) ∨ rgD c = .v (.slc 1 (b8 (magC c).2.1)) := by
  unfold rgD magC
  split
  · exact .inl rfl
  · exact .inr rfl
theorem parC_lay (c : Ctl) (b : List Int) (h : c.2.2.length ≤ 4000) : parC ((layC c).1 ++ b) = (c, 0) := by
  have e : layC c = ([c.1, c.2.1] ++ (big 2 (4 + (c.2.2.length : Int)) ++ c.2.2), 0) := by rw [layC, if_neg (by omega)]
  have e2 : big 2 (4 + (c.2.2.length : Int)) = [(4 + (c.2.2.length : Int)) / 256 % 256, (4 + (c.2.2.length : Int)) % 256] := rfl
  have n2 : num [(4 + (c.2.2.length : Int)) / 256 % 256, (4 + (c.2.2.length : Int)) % 256] = 4 + (c.2.2.length : Int) := by
    rw [← e2, num_big 2 _ (by omega) (by have : (256 : Int) ^ 2 = 65536 := rfl; omega)]
  rw [e, e2]
  unfold parC
  simp only [List.cons_append, List.nil_append, List.take_succ_cons, List.take_zero, List.drop_succ_cons, List.drop_zero, n2, List.length_cons, List.length_append]
  rw [if_neg (by omega), if_neg (by omega), if_neg (by omega), if_neg (by omega)]
  have e3 : (4 + (c.2.2.length : Int)).toNat = c.2.2.length + 1 + 1 + 1 + 1 := by omega
  rw [e3]
  simp [List.getD]
theorem parC_ok (b : List Int) (hb : okB b) : okC (parC b).1 := by
  have h0 : okC noC := ⟨by decide, by decide, fun x h => by cases h⟩
  unfold parC
  split
  · exact h0
  split
  · exact h0
  split
  · exact h0
  split
  · exact h0
  rename_i h1 h2 h3 h4
  exact ⟨hb _ (List.mem_iff_getElem?.2 ⟨0, getD_at b 0 (by omega)⟩), hb _ (List.mem_iff_getElem?.2 ⟨1, getD_at b 1 (by omega)⟩), okB_drop (okB_take hb _) _⟩
theorem parC_len (b : List Int) : (parC b).1.2.2.length ≤ b.length := by
  unfold parC
  split
  · simp [noC]
  split
  · simp [noC]
  split
  · simp [noC]
  split
  · simp [noC]
  simp; omega
theorem layC_ok (c : Ctl) (h : okC c) : okB (layC c).1 := by
  unfold layC
  split
  · intro x h; cases h
  · exact okB_app (fun x hx => by rcases List.mem_cons.1 hx with rfl | hx; exact h.1; rw [List.mem_singleton.1 hx]; exact h.2.1) (okB_app (big_ok _ _) h.2.2)
end Go.Q
