/- A head of lines: what words.right, words.Head and the reference's Head compute. No condition. -/
import Derived.Test.YtdcknpkednpckaaGreatDoorHa
import Derived.Test.YtdcknpkednpckaaGreatDoorHr
set_option linter.all false
set_option maxRecDepth 100000
namespace Go.Q
open SOp SCode
attribute [local congr] bind_c map_c
def rV (b : List UInt8) (i : Nat) : Bool :=
  if b.getD i 0 = 13 then decide (i + 1 = b.length) || decide (i + 1 = 2048) || (b.getD (i + 1) 0 == 10)
  else if b.getD i 0 = 10 then decide (0 < i) && (b.getD (i - 1) 0 == 13)
  else txB (b.getD i 0)
theorem getD_at {b : List UInt8} {i : Nat} (h : i < b.length) : b.getD i 0 = b[i] := by simp [List.getD, h]
theorem rights_rV (b : List UInt8) : ∀ (l pre : List UInt8) (p : UInt8) (n : Nat), b.take 2048 = pre ++ l → (pre = [] → p ≠ 13) → (∀ q x, pre = x ++ [q] → p = q) →
    (rights p l n = true ↔ ∀ j, j < n → j < l.length → rV b (pre.length + j) = true)
  | [], pre, p, n, e, h1, h2 => by simp [rights]
  | c :: r, pre, p, 0, e, h1, h2 => by simp [rights]
  | c :: r, pre, p, n + 1, e, h1, h2 => by
    have ih := rights_rV b r (pre ++ [c]) c n (by rw [e]; simp) (fun h => by simp at h) (fun q x hq => by
      have := List.append_inj_right' hq rfl
      simpa using this)
    have hl : (b.take 2048).length = min 2048 b.length := List.length_take ..
    have hlen : pre.length < min 2048 b.length := by rw [← hl, e]; simp
    have hat : ∀ k, k < 2048 → b.getD k 0 = (pre ++ c :: r).getD k 0 := fun k hk => by
      rw [← e]; simp only [List.getD]; rw [List.getElem?_take_of_lt hk]
    have hc : b.getD pre.length 0 = c := by rw [hat _ (by omega)]; simp [List.getD]
    have key : rtc p c r = rV b pre.length := by
      unfold rtc rV
      rw [hc]
      by_cases e13 : c = 13
      · rw [if_pos e13, if_pos e13]
        cases r with
        | nil =>
          have : pre.length + 1 = min 2048 b.length := by rw [← hl, e]; simp
          have h3 : pre.length + 1 = b.length ∨ pre.length + 1 = 2048 := by omega
          rcases h3 with h3 | h3
          · simp [nxtB, h3]
          · simp [nxtB, h3]
        | cons d r =>
          have h3 : pre.length + 2 ≤ min 2048 b.length := by rw [← hl, e]; simp
          have h4 : b.getD (pre.length + 1) 0 = d := by rw [hat _ (by omega)]; simp [List.getD]
          have h5 : ¬ pre.length + 1 = b.length := by omega
          have h6 : ¬ pre.length + 1 = 2048 := by omega
          rw [h4]
          simp [nxtB, h5, h6]
      · rw [if_neg e13, if_neg e13]
        by_cases e10 : c = 10
        · rw [if_pos e10, if_pos e10]
          rcases List.eq_nil_or_concat pre with rfl | ⟨x, q, hq⟩
          · have := h1 rfl
            simp [this]
          · have hq : pre = x ++ [q] := by simpa using hq
            have hp := h2 q x hq
            have h4 : b.getD (pre.length - 1) 0 = q := by
              rw [hat _ (by omega), hq]; simp [List.getD]
            have h5 : 0 < pre.length := by rw [hq]; simp
            rw [h4, hp]; simp [h5]
        · rw [if_neg e10, if_neg e10]
    simp only [rights, Bool.and_eq_true, key, ih]
    constructor
    · rintro ⟨k1, k2⟩ j hj hjl
      cases j with
      | zero => exact k1
      | succ j =>
        have := k2 j (by omega) (by simpa using hjl)
        rwa [show (pre ++ [c]).length + j = pre.length + (j + 1) by simp; omega] at this
    · intro k
      refine ⟨k 0 (by omega) (by simp), fun j hj hjl => ?_⟩
      have := k (j + 1) (by omega) (by simpa using hjl)
      rwa [show pre.length + (j + 1) = (pre ++ [c]).length + j by simp; omega] at this
theorem rights_iff (b : List UInt8) (n : Nat) (hn : n ≤ min b.length 2048) : rights 0 (b.take 2048) n = true ↔ ∀ i, i < n → rV b i = true := by
  have h := rights_rV b (b.take 2048) [] 0 n (by simp) (fun _ => by decide) (fun q x h => by simp at h)
  rw [h]
  simp only [List.length_nil, Nat.zero_add, List.length_take]
  exact ⟨fun k i hi => k i hi (by omega), fun k i hi _ => k i hi⟩
theorem u8_toNat {c : UInt8} {k : Nat} (h : k < 256) : (c = UInt8.ofNat k) ↔ (c.toNat : Int) = k := by
  constructor
  · rintro rfl
    simp only [UInt8.toNat_ofNat']
    omega
  · intro e
    apply UInt8.toNat_inj.1
    simp only [UInt8.toNat_ofNat']
    omega
theorem beq_u8 {c : UInt8} {k : Nat} (h : k < 256) : (c == UInt8.ofNat k) = ((c.toNat : Int) == (k : Int)) := by
  have e := u8_toNat (c := c) h
  by_cases h1 : c = UInt8.ofNat k
  · have h2 := e.1 h1
    rw [h2, h1]; simp
  · have h2 : ¬ (c.toNat : Int) = k := fun h => h1 (e.2 h)
    rw [beq_eq_false_iff_ne.2 h1, beq_eq_false_iff_ne.2 h2]
theorem txB_eq (c : UInt8) : txB c = (decide ((c.toNat : Int) = 9) || decide (32 ≤ (c.toNat : Int) ∧ (c.toNat : Int) ≤ 126)) := by
  unfold txB
  by_cases h1 : c.toNat = 9
  · have h2 : (c.toNat : Int) = 9 := by omega
    simp [h1, h2]
  · have h2 : ¬ (c.toNat : Int) = 9 := by omega
    by_cases h3 : 32 ≤ c.toNat ∧ c.toNat ≤ 126
    · have h4 : 32 ≤ (c.toNat : Int) ∧ (c.toNat : Int) ≤ 126 := by omega
      simp [h1, h2, h3, h4]
    · have h4 : ¬ (32 ≤ (c.toNat : Int) ∧ (c.toNat : Int) ≤ 126) := by omega
      rw [decide_eq_false h3, decide_eq_false h4, decide_eq_false h1, decide_eq_false h2]
theorem w_right (b : List UInt8) (h : b.length ≤ 100000) (i : Nat) (hi : i < b.length) (hi2 : i < 2048) : run G 33 [.v (.slc 1 (u8L b)), .v (.int .i64 i)] [] = some (.v (.bool (rV b i)), []) := by
  rw [xq_fn G rfl words_right.g _ _ rfl]
  have hM := hmax
  have hl := u8L_len b
  have hx := u8L_at (List.getElem?_eq_getElem hi)
  have hlt := u8_lt b[i]
  unfold rV
  rw [getD_at hi]
  have c13 : (b[i] = 13) ↔ (b[i].toNat : Int) = 13 := u8_toNat (k := 13) (by omega)
  have c10 : (b[i] = 10) ↔ (b[i].toNat : Int) = 10 := u8_toNat (k := 10) (by omega)
  by_cases e13 : (b[i].toNat : Int) = 13
  · rw [if_pos (c13.2 e13)]
    by_cases e1 : i + 1 = b.length
    · rw [decide_eq_true e1]
      simp -implicitDefEqProofs (maxSteps := 2000000) (disch := omega) only [words_right.s, hx, hl, e13, go_sem, reduceIte, Nat.reduceAdd, Nat.reduceSub, Nat.reduceMul, Nat.reduceLeDiff, Nat.reduceLT, Nat.reduceEqDiff, Int.reduceToNat, Int.reduceLT, Int.reduceLE, Int.reduceEq, Int.reduceNe, Int.reduceAdd, Int.reduceSub, Int.reduceMul, Int.reduceNeg, Int.reduceBEq, Int.reduceBNe, reduceCtorEq, dreduceIte, oWS, oW8, oW16, oW32, oW64, oLtT, oLtF, oLeT, oLeF, oNLtT, oNLtF, oNLeT, oNLeF, oEqT, oEqF, oNEqT, oNEqF, oBeqT, oBeqF, oBneT, oBneF, Int.natCast_add, List.take_length]
    · rw [decide_eq_false e1]
      by_cases e2 : i + 1 = 2048
      · rw [decide_eq_true e2]
        simp -implicitDefEqProofs (maxSteps := 2000000) (disch := omega) only [words_right.s, hx, hl, e13, go_sem, reduceIte, Nat.reduceAdd, Nat.reduceSub, Nat.reduceMul, Nat.reduceLeDiff, Nat.reduceLT, Nat.reduceEqDiff, Int.reduceToNat, Int.reduceLT, Int.reduceLE, Int.reduceEq, Int.reduceNe, Int.reduceAdd, Int.reduceSub, Int.reduceMul, Int.reduceNeg, Int.reduceBEq, Int.reduceBNe, reduceCtorEq, dreduceIte, oWS, oW8, oW16, oW32, oW64, oLtT, oLtF, oLeT, oLeF, oNLtT, oNLtF, oNLeT, oNLeF, oEqT, oEqF, oNEqT, oNEqF, oBeqT, oBeqF, oBneT, oBneF, Int.natCast_add, List.take_length]
      · rw [decide_eq_false e2]
        have hx2 := u8L_at (List.getElem?_eq_getElem (show i + 1 < b.length by omega))
        have e3 : (b.getD (i + 1) 0 == 10) = (((b[i + 1]'(by omega)).toNat : Int) == 10) := by rw [getD_at (by omega)]; exact beq_u8 (k := 10) (by omega)
        rw [e3]
        have ej : ((i : Int) + 1).toNat = i + 1 := by omega
        simp -implicitDefEqProofs (maxSteps := 2000000) (disch := omega) only [words_right.s, hx, hx2, hl, e13, ej, go_sem, reduceIte, Nat.reduceAdd, Nat.reduceSub, Nat.reduceMul, Nat.reduceLeDiff, Nat.reduceLT, Nat.reduceEqDiff, Int.reduceToNat, Int.reduceLT, Int.reduceLE, Int.reduceEq, Int.reduceNe, Int.reduceAdd, Int.reduceSub, Int.reduceMul, Int.reduceNeg, Int.reduceBEq, Int.reduceBNe, reduceCtorEq, dreduceIte, oWS, oW8, oW16, oW32, oW64, oLtT, oLtF, oLeT, oLeF, oNLtT, oNLtF, oNLeT, oNLeF, oEqT, oEqF, oNEqT, oNEqF, oBeqT, oBeqF, oBneT, oBneF, Int.natCast_add, List.take_length]
  · rw [if_neg (fun h => e13 (c13.1 h))]
    by_cases e10 : (b[i].toNat : Int) = 10
    · rw [if_pos (c10.2 e10)]
      by_cases e0 : i = 0
      · subst e0
        simp -implicitDefEqProofs (maxSteps := 2000000) (disch := omega) only [words_right.s, hx, hl, e10, go_sem, reduceIte, Nat.reduceAdd, Nat.reduceSub, Nat.reduceMul, Nat.reduceLeDiff, Nat.reduceLT, Nat.reduceEqDiff, Int.reduceToNat, Int.reduceLT, Int.reduceLE, Int.reduceEq, Int.reduceNe, Int.reduceAdd, Int.reduceSub, Int.reduceMul, Int.reduceNeg, Int.reduceBEq, Int.reduceBNe, reduceCtorEq, dreduceIte, oWS, oW8, oW16, oW32, oW64, oLtT, oLtF, oLeT, oLeF, oNLtT, oNLtF, oNLeT, oNLeF, oEqT, oEqF, oNEqT, oNEqF, oBeqT, oBeqF, oBneT, oBneF, Int.natCast_add, List.take_length]
      · have hx2 := u8L_at (List.getElem?_eq_getElem (show i - 1 < b.length by omega))
        have e3 : (b.getD (i - 1) 0 == 13) = (((b[i - 1]'(by omega)).toNat : Int) == 13) := by rw [getD_at (by omega)]; exact beq_u8 (k := 13) (by omega)
        rw [e3, decide_eq_true (show 0 < i by omega)]
        have ej : ((i : Int) - 1).toNat = i - 1 := by omega
        simp -implicitDefEqProofs (maxSteps := 2000000) (disch := omega) only [words_right.s, hx, hx2, hl, e10, ej, go_sem, reduceIte, Nat.reduceAdd, Nat.reduceSub, Nat.reduceMul, Nat.reduceLeDiff, Nat.reduceLT, Nat.reduceEqDiff, Int.reduceToNat, Int.reduceLT, Int.reduceLE, Int.reduceEq, Int.reduceNe, Int.reduceAdd, Int.reduceSub, Int.reduceMul, Int.reduceNeg, Int.reduceBEq, Int.reduceBNe, reduceCtorEq, dreduceIte, oWS, oW8, oW16, oW32, oW64, oLtT, oLtF, oLeT, oLeF, oNLtT, oNLtF, oNLeT, oNLeF, oEqT, oEqF, oNEqT, oNEqF, oBeqT, oBeqF, oBneT, oBneF, Int.natCast_add, List.take_length]
    · rw [if_neg (fun h => e10 (c10.1 h)), txB_eq]
      by_cases e9 : (b[i].toNat : Int) = 9
      · simp -implicitDefEqProofs (maxSteps := 2000000) (disch := omega) only [words_right.s, hx, hl, e9, go_sem, reduceIte, Nat.reduceAdd, Nat.reduceSub, Nat.reduceMul, Nat.reduceLeDiff, Nat.reduceLT, Nat.reduceEqDiff, Int.reduceToNat, Int.reduceLT, Int.reduceLE, Int.reduceEq, Int.reduceNe, Int.reduceAdd, Int.reduceSub, Int.reduceMul, Int.reduceNeg, Int.reduceBEq, Int.reduceBNe, reduceCtorEq, dreduceIte, oWS, oW8, oW16, oW32, oW64, oLtT, oLtF, oLeT, oLeF, oNLtT, oNLtF, oNLeT, oNLeF, oEqT, oEqF, oNEqT, oNEqF, oBeqT, oBeqF, oBneT, oBneF, Int.natCast_add, List.take_length]
      · rw [decide_eq_false e9]
        by_cases l1 : 32 ≤ (b[i].toNat : Int)
        · by_cases l2 : (b[i].toNat : Int) ≤ 126
          · rw [decide_eq_true ⟨l1, l2⟩]
            simp -implicitDefEqProofs (maxSteps := 2000000) (disch := omega) only [words_right.s, hx, hl, e9, e10, e13, go_sem, reduceIte, Nat.reduceAdd, Nat.reduceSub, Nat.reduceMul, Nat.reduceLeDiff, Nat.reduceLT, Nat.reduceEqDiff, Int.reduceToNat, Int.reduceLT, Int.reduceLE, Int.reduceEq, Int.reduceNe, Int.reduceAdd, Int.reduceSub, Int.reduceMul, Int.reduceNeg, Int.reduceBEq, Int.reduceBNe, reduceCtorEq, dreduceIte, oWS, oW8, oW16, oW32, oW64, oLtT, oLtF, oLeT, oLeF, oNLtT, oNLtF, oNLeT, oNLeF, oEqT, oEqF, oNEqT, oNEqF, oBeqT, oBeqF, oBneT, oBneF, Int.natCast_add, List.take_length]
          · rw [decide_eq_false (fun h => l2 h.2)]
            simp -implicitDefEqProofs (maxSteps := 2000000) (disch := omega) only [words_right.s, hx, hl, e9, e10, e13, go_sem, reduceIte, Nat.reduceAdd, Nat.reduceSub, Nat.reduceMul, Nat.reduceLeDiff, Nat.reduceLT, Nat.reduceEqDiff, Int.reduceToNat, Int.reduceLT, Int.reduceLE, Int.reduceEq, Int.reduceNe, Int.reduceAdd, Int.reduceSub, Int.reduceMul, Int.reduceNeg, Int.reduceBEq, Int.reduceBNe, reduceCtorEq, dreduceIte, oWS, oW8, oW16, oW32, oW64, oLtT, oLtF, oLeT, oLeF, oNLtT, oNLtF, oNLeT, oNLeF, oEqT, oEqF, oNEqT, oNEqF, oBeqT, oBeqF, oBneT, oBneF, Int.natCast_add, List.take_length]
        · rw [decide_eq_false (fun h => l1 h.1)]
          simp -implicitDefEqProofs (maxSteps := 2000000) (disch := omega) only [words_right.s, hx, hl, e9, e10, e13, go_sem, reduceIte, Nat.reduceAdd, Nat.reduceSub, Nat.reduceMul, Nat.reduceLeDiff, Nat.reduceLT, Nat.reduceEqDiff, Int.reduceToNat, Int.reduceLT, Int.reduceLE, Int.reduceEq, Int.reduceNe, Int.reduceAdd, Int.reduceSub, Int.reduceMul, Int.reduceNeg, Int.reduceBEq, Int.reduceBNe, reduceCtorEq, dreduceIte, oWS, oW8, oW16, oW32, oW64, oLtT, oLtF, oLeT, oLeF, oNLtT, oNLtF, oNLeT, oNLeF, oEqT, oEqF, oNEqT, oNEqF, oBeqT, oBeqF, oBneT, oBneF, Int.natCast_add, List.take_length]
def sL (ls : List (List UInt8)) : List V := ls.map .str
theorem sL_len (ls : List (List UInt8)) : (sL ls).length = ls.length := by simp [sL]
theorem sL_app (a b : List (List UInt8)) : sL a ++ sL b = sL (a ++ b) := by simp [sL]
def hdE (b : List UInt8) (lo : Int) (stp : Nat) : List D := [.v (.slc 1 (u8L b)), .undef, .nils 1, .v (.int .i64 0), .v (.int .i64 0), .v (.int .i64 lo), .v (.bool true), .v (.int .i64 stp), .v (.int .i64 stp), .v (.int .i64 stp), .undef, .ptr ⟨0, 0⟩ 0 0, .clo 77 [] [.va [.str [13, 10]] 0, .ptr ⟨0, 1⟩ 0 0, .va [.int .i64 0] 0], .undef]
def hdS (acc : List (List UInt8)) (cur : List UInt8) : List Blk := [.row [accG 1 (sL acc)], .row [.v (.str cur)]]
theorem hd_solid (acc : List (List UInt8)) (cur : List UInt8) : solid [hdS acc cur] = true := by
  cases acc <;> rfl
def hdX (b : List UInt8) (lo : Int) (stp : Nat) (x : List UInt8) : List D := [.v (.slc 1 (u8L b)), .v (.str x), .nils 1, .v (.int .i64 0), .v (.int .i64 0), .v (.int .i64 lo), .v (.bool true), .v (.int .i64 stp), .v (.int .i64 stp), .v (.int .i64 stp), .undef, .ptr ⟨0, 0⟩ 0 0, .clo 77 [] [.va [.str [13, 10]] 0, .ptr ⟨0, 1⟩ 0 0, .va [.int .i64 0] 0], .v (.str x)]
theorem seq_round (b : List UInt8) (lo : Int) (stp : Nat) (acc : List (List UInt8)) (hacc : acc.length ≤ 100000) (cur x : List UInt8) :
    rgB (fun env st => ex G words_Head.l1 env st) (fun env st => ex G words_Head.l2 env st) (setPs [1] [.str x] (hdE b lo stp)) [[], hdS acc cur] =
      some (.normal, hdX b lo stp x, [[], hdS (if x = [] then acc else acc ++ [x]) cur]) := by
  have hM := hmax
  have hl := sL_len acc
  have hsol : solid [[], hdS acc cur] = true := by cases acc <;> rfl
  unfold rgB
  simp only [setPs, hdE, List.set_cons_succ, List.set_cons_zero]
  by_cases hx : x = []
  · subst hx
    rw [if_pos rfl]
    have hn : (([] : List UInt8) == ([] : List UInt8)) = true := rfl
    simp -implicitDefEqProofs (maxSteps := 2000000) (disch := omega) only [words_Head.l1, words_Head.l2, rgM, hsol, hn, List.map_cons, List.map_nil, hdX, go_sem, reduceIte, Nat.reduceAdd, Nat.reduceSub, Nat.reduceMul, Nat.reduceLeDiff, Nat.reduceLT, Nat.reduceEqDiff, Int.reduceToNat, Int.reduceLT, Int.reduceLE, Int.reduceEq, Int.reduceNe, Int.reduceAdd, Int.reduceSub, Int.reduceMul, Int.reduceNeg, Int.reduceBEq, Int.reduceBNe, reduceCtorEq, dreduceIte, oWS, oW8, oW16, oW32, oW64, oLtT, oLtF, oLeT, oLeF, oNLtT, oNLtF, oNLeT, oNLeF, oEqT, oEqF, oNEqT, oNEqF, oBeqT, oBeqF, oBneT, oBneF, Int.natCast_add, List.take_length]
  · rw [if_neg hx]
    have hn : (x == ([] : List UInt8)) = false := by simpa using hx
    cases acc with
    | nil =>
      have hsol : solid [[], [.row [.nils 1], .row [.v (.str cur)]]] = true := rfl
      have e1 : accG 1 (sL ([] : List (List UInt8))) = .nils 1 := rfl
      have e2 : accG 1 (sL [x]) = .lin 1 [.str x] := rfl
      simp -implicitDefEqProofs (maxSteps := 2000000) (disch := omega) only [words_Head.l1, words_Head.l2, rgM, hsol, hn, hdS, e1, e2, List.map_cons, List.map_nil, hdX, hM, go_sem, reduceIte, Nat.reduceAdd, Nat.reduceSub, Nat.reduceMul, Nat.reduceLeDiff, Nat.reduceLT, Nat.reduceEqDiff, Int.reduceToNat, Int.reduceLT, Int.reduceLE, Int.reduceEq, Int.reduceNe, Int.reduceAdd, Int.reduceSub, Int.reduceMul, Int.reduceNeg, Int.reduceBEq, Int.reduceBNe, reduceCtorEq, dreduceIte, oWS, oW8, oW16, oW32, oW64, oLtT, oLtF, oLeT, oLeF, oNLtT, oNLtF, oNLeT, oNLeF, oEqT, oEqF, oNEqT, oNEqF, oBeqT, oBeqF, oBneT, oBneF, Int.natCast_add, List.take_length]
    | cons a acc =>
      have hsol : solid [[], [.row [.lin 1 (.str a :: sL acc)], .row [.v (.str cur)]]] = true := rfl
      have e1 : accG 1 (sL (a :: acc)) = .lin 1 (.str a :: sL acc) := rfl
      have e2 : accG 1 (sL (a :: (acc ++ [x]))) = .lin 1 (.str a :: (sL acc ++ [.str x])) := by simp [sL, accG]
      have hl2 : (sL acc).length ≤ 100000 := by rw [sL_len]; simp at hacc; omega
      simp -implicitDefEqProofs (maxSteps := 2000000) (disch := omega) only [words_Head.l1, words_Head.l2, rgM, hsol, hn, hdS, e1, e2, List.map_cons, List.map_nil, hdX, hM, List.length_cons, List.length_nil, go_sem, reduceIte, Nat.reduceAdd, Nat.reduceSub, Nat.reduceMul, Nat.reduceLeDiff, Nat.reduceLT, Nat.reduceEqDiff, Int.reduceToNat, Int.reduceLT, Int.reduceLE, Int.reduceEq, Int.reduceNe, Int.reduceAdd, Int.reduceSub, Int.reduceMul, Int.reduceNeg, Int.reduceBEq, Int.reduceBNe, reduceCtorEq, dreduceIte, oWS, oW8, oW16, oW32, oW64, oLtT, oLtF, oLeT, oLeF, oNLtT, oNLtF, oNLeT, oNLeF, oEqT, oEqF, oNEqT, oNEqF, oBeqT, oBeqF, oBneT, oBneF, Int.natCast_add, List.take_length]
theorem filt_cons (x : List UInt8) (ls : List (List UInt8)) (acc : List (List UInt8)) : (if x = [] then acc else acc ++ [x]) ++ ls.filter (fun y => y != []) = acc ++ (x :: ls).filter (fun y => y != []) := by
  by_cases hx : x = []
  · subst hx; simp
  · have : (x != ([] : List UInt8)) = true := by simpa using hx
    simp [hx, this, List.filter_cons]
theorem ixS_ltL (t : List UInt8) : ∀ (s : List UInt8) (i : Nat), ixS t s = some i → i < s.length
  | [], i, h => by simp [ixS] at h
  | b :: l, i, h => by
    simp only [ixS] at h
    split at h
    · cases h; simp
    · obtain ⟨j, h1, rfl⟩ := map_some' h
      have := ixS_ltL t l j h1
      simp; omega
theorem seq_loop (b : List UInt8) (lo : Int) (stp : Nat) : ∀ (n : Nat) (s : List UInt8) (acc : List (List UInt8)), s.length < n → acc.length + n ≤ 100000 →
    ∃ t, rangeN (rgU (rgB (fun env st => ex G words_Head.l1 env st) (fun env st => ex G words_Head.l2 env st)) (some (⟨0, 1⟩, pat2))) [1] (hdE b lo stp) ((piecesN n pat2 s).map fun p => [.str p]) [hdS acc s] =
      some (.normal, hdE b lo stp, [hdS (acc ++ (piecesN n pat2 s).filter (fun y => y != [])) t])
  | 0, s, acc, h, _ => by omega
  | n + 1, s, acc, h, ha => by
    have hsol : solid [hdS acc s] = true := hd_solid acc s
    have hstr : ∀ (l : List (List UInt8)), strB (getB [[], hdS l s] ⟨0, 1⟩) = some s := fun l => rfl
    cases hi : ixS pat2 s with
    | none =>
      have R := seq_round b lo stp acc (by omega) s s
      refine ⟨nextS pat2 s, ?_⟩
      simp only [piecesN, hi, List.map_cons, List.map_nil, rangeN]
      rw [if_pos hsol]
      have hU : rgU (rgB (fun env st => ex G words_Head.l1 env st) (fun env st => ex G words_Head.l2 env st)) (some (⟨0, 1⟩, pat2)) (setPs [1] [.str s] (hdE b lo stp)) ([] :: [hdS acc s]) = some (.normal, hdX b lo stp s, [[], hdS (if s = [] then acc else acc ++ [s]) (nextS pat2 s)]) := by
        simp only [rgU, hstr, Option.bind_some, R, rgT]
        rfl
      rw [hU]
      have := filt_cons s [] acc
      simp only [List.filter_nil, List.append_nil] at this
      rw [← this]
      exact if_pos (hd_solid _ _)
    | some i =>
      have hfit := ixS_ltL pat2 s i hi
      have R := seq_round b lo stp acc (by omega) s (s.take i)
      have hd : (s.drop (i + pat2.length)).length < n := by rw [List.length_drop]; have : pat2.length = 2 := rfl; omega
      obtain ⟨t, ih⟩ := seq_loop b lo stp n (s.drop (i + pat2.length)) (if s.take i = [] then acc else acc ++ [s.take i]) hd (by
        have h1 : (acc ++ [s.take i]).length = acc.length + 1 := by simp
        split <;> omega)
      refine ⟨t, ?_⟩
      simp only [piecesN, hi, List.map_cons, rangeN]
      rw [if_pos hsol]
      have hnx : nextS pat2 s = s.drop (i + pat2.length) := by rw [nextS, hi]
      have hU : rgU (rgB (fun env st => ex G words_Head.l1 env st) (fun env st => ex G words_Head.l2 env st)) (some (⟨0, 1⟩, pat2)) (setPs [1] [.str (s.take i)] (hdE b lo stp)) ([] :: [hdS acc s]) = some (.normal, hdX b lo stp (s.take i), [[], hdS (if s.take i = [] then acc else acc ++ [s.take i]) (nextS pat2 s)]) := by
        simp only [rgU, hstr, Option.bind_some, R, rgT]
        rfl
      rw [hU]
      rw [hnx, ← filt_cons]
      exact ih
abbrev hdJ (b : List UInt8) (lo : Int) (wh : Bool) (stp : Nat) (i : Nat) : List D := [.v (.slc 1 (u8L b)), .undef, .nils 1, .v (.int .i64 0), .v (.int .i64 0), .v (.int .i64 lo), .v (.bool wh), .v (.int .i64 stp), .v (.int .i64 stp), .v (.int .i64 i), .undef, .undef, .undef, .undef]
theorem hd_step (b : List UInt8) (h : b.length ≤ 100000) (lo : Int) (wh : Bool) (stp : Nat) (hs : stp ≤ min b.length 2048) (i : Nat) (hi : i < stp) (hr : rV b i = true) :
    rndE G [10] words_Head.l0 (hdJ b lo wh stp i) [[]] = some (.inl (hdJ b lo wh stp (i + 1), [[]])) := by
  have I := w_right b h i (by omega) (by omega)
  rw [hr] at I
  simp -implicitDefEqProofs (maxSteps := 2000000) (disch := omega) only [words_Head.l0, hdJ, I, go_sem, reduceIte, Nat.reduceAdd, Nat.reduceSub, Nat.reduceMul, Nat.reduceLeDiff, Nat.reduceLT, Nat.reduceEqDiff, Int.reduceToNat, Int.reduceLT, Int.reduceLE, Int.reduceEq, Int.reduceNe, Int.reduceAdd, Int.reduceSub, Int.reduceMul, Int.reduceNeg, Int.reduceBEq, Int.reduceBNe, reduceCtorEq, dreduceIte, oWS, oW8, oW16, oW32, oW64, oLtT, oLtF, oLeT, oLeF, oNLtT, oNLtF, oNLeT, oNLeF, oEqT, oEqF, oNEqT, oNEqF, oBeqT, oBeqF, oBneT, oBneF, Int.natCast_add, List.take_length]
theorem hd_loop (b : List UInt8) (h : b.length ≤ 100000) (lo : Int) (wh : Bool) (stp : Nat) (hs : stp ≤ min b.length 2048) : ex G (.loop [10] words_Head.l0) (hdJ b lo wh stp 0) [[]] =
    if rights 0 (b.take 2048) stp = true then some (.exit 0, hdJ b lo wh stp stp, [[]]) else ex G (.loop [10] words_Head.l0) (hdJ b lo wh stp 0) [[]] := by
  by_cases hr : rights 0 (b.take 2048) stp = true
  · rw [if_pos hr]
    have hall := (rights_iff b stp hs).1 hr
    have L := lpFor (G := G) (kill := [10]) (body := words_Head.l0) (o := (.exit 0, hdJ b lo wh stp stp, [[]])) (fun i => hdJ b lo wh stp i) (fun i => [[]]) stp (fun i hi => hd_step b h lo wh stp hs i hi (hall i hi)) (by simp -implicitDefEqProofs (maxSteps := 2000000) (disch := omega) only [words_Head.l0, hdJ, go_sem, reduceIte, Nat.reduceAdd, Nat.reduceSub, Nat.reduceMul, Nat.reduceLeDiff, Nat.reduceLT, Nat.reduceEqDiff, Int.reduceToNat, Int.reduceLT, Int.reduceLE, Int.reduceEq, Int.reduceNe, Int.reduceAdd, Int.reduceSub, Int.reduceMul, Int.reduceNeg, Int.reduceBEq, Int.reduceBNe, reduceCtorEq, dreduceIte, oWS, oW8, oW16, oW32, oW64, oLtT, oLtF, oLeT, oLeF, oNLtT, oNLtF, oNLeT, oNLeF, oEqT, oEqF, oNEqT, oNEqF, oBeqT, oBeqF, oBneT, oBneF, Int.natCast_add, List.take_length])
    exact L
  · rw [if_neg hr]
theorem hd_bad (b : List UInt8) (h : b.length ≤ 100000) (lo : Int) (wh : Bool) (stp : Nat) (hs : stp ≤ min b.length 2048) (hr : rights 0 (b.take 2048) stp = false) :
    ∃ e : List D, ex G (.loop [10] words_Head.l0) (hdJ b lo wh stp 0) [[]] = some (.ret, .v (.slc 1 (u8L b)) :: .undef :: .nils 1 :: .v (.int .i64 0) :: .v (.int .i64 3) :: e, [[]]) := by
  rcases first_or (fun i => rV b i = false) stp with h1 | ⟨j, hj, hf, hall⟩
  · have : rights 0 (b.take 2048) stp = true := (rights_iff b stp hs).2 fun i hi => by
      have := h1 i hi
      cases hv : rV b i with
      | true => rfl
      | false => exact absurd hv this
    rw [this] at hr; cases hr
  · have hall' : ∀ i, i < j → rV b i = true := fun i hi => by
      have := hall i hi
      cases hv : rV b i with
      | true => rfl
      | false => exact absurd hv this
    have I := w_right b h j (by omega) (by omega)
    rw [hf] at I
    refine ⟨[.v (.int .i64 lo), .v (.bool wh), .v (.int .i64 stp), .v (.int .i64 stp), .v (.int .i64 j), .undef, .undef, .undef, .undef], ?_⟩
    exact lpFor (G := G) (kill := [10]) (body := words_Head.l0) (fun i => hdJ b lo wh stp i) (fun i => [[]]) j (fun i hi => hd_step b h lo wh stp hs i (by omega) (hall' i hi)) (by simp -implicitDefEqProofs (maxSteps := 2000000) (disch := omega) only [words_Head.l0, hdJ, I, go_sem, reduceIte, Nat.reduceAdd, Nat.reduceSub, Nat.reduceMul, Nat.reduceLeDiff, Nat.reduceLT, Nat.reduceEqDiff, Int.reduceToNat, Int.reduceLT, Int.reduceLE, Int.reduceEq, Int.reduceNe, Int.reduceAdd, Int.reduceSub, Int.reduceMul, Int.reduceNeg, Int.reduceBEq, Int.reduceBNe, reduceCtorEq, dreduceIte, oWS, oW8, oW16, oW32, oW64, oLtT, oLtF, oLeT, oLeF, oNLtT, oNLtF, oNLeT, oNLeF, oEqT, oEqF, oNEqT, oNEqF, oBeqT, oBeqF, oBneT, oBneF, Int.natCast_add, List.take_length])
theorem p_bidx (b : List UInt8) (h : b.length ≤ 100000) : run G 31 [.v (.slc 1 (u8L b)), .v (.slc 1 [.int .u8 13, .int .u8 10, .int .u8 13, .int .u8 10])] [] = some (.v (idxO pat4 b), []) := by
  rw [xq_prim G (f := 31) (F := primPure bidxF) (by rfl)]
  have e : bytesOf [V.int .u8 13, .int .u8 10, .int .u8 13, .int .u8 10] = some pat4 := by rfl
  simp only [primPure, allV, Option.map_some, Option.bind_some, bidxF, bytesOf_u8L, e]
  rw [if_pos ⟨by omega, by decide, by decide⟩]
  rfl
theorem p_bpre (b : List UInt8) : run G 32 [.v (.slc 1 (u8L b)), .v (.slc 1 [.int .u8 13, .int .u8 10])] [] = some (.v (.bool (crB b)), []) := by
  rw [xq_prim G (f := 32) (F := primPure bpreF) (by rfl)]
  have e : bytesOf [V.int .u8 13, .int .u8 10] = some pat2 := by rfl
  simp only [primPure, allV, Option.map_some, Option.bind_some, bpreF, bytesOf_u8L, e]
  rfl
def clW (l : List V) : D := match l with
  | [] => .lin 1 []
  | x :: xs => .v (.slc 1 (x :: xs))
abbrev hdO (q : List (List UInt8) × Int × Int) : D := .tup [clW (sL q.1), .v (.int .i64 q.2.1), .v (.int .i64 q.2.2)]
theorem u8L_take (b : List UInt8) (k : Nat) : (u8L b).take k = u8L (b.take k) := by simp [u8L]
def cloS : D := .clo 77 [] [.va [.str [13, 10]] 0, .ptr ⟨0, 1⟩ 0 0, .va [.int .i64 0] 0]
theorem p_seq (s : List UInt8) : run G 34 [.v (.str s), .v (.str [13, 10])] [[.row [.nils 1]]] = some (.clo 77 [] [.va [.str [13, 10]] 0, .ptr ⟨0, 1⟩ 0 0, .va [.int .i64 0] 0], [[.row [.nils 1], .row [.v (.str s)]]]) := by
  rw [xq_prim G (f := 34) (F := primSeq 77) (by rfl)]
  rfl
theorem spl_seq (s : List UInt8) (h : s.length ≤ 100000) : splK [[.row [.nils 1], .row [.v (.str s)]]] [.va [.str [13, 10]] 0, .ptr ⟨0, 1⟩ 0 0, .va [.int .i64 0] 0] = some (⟨0, 1⟩, pat2, s) := by
  have e : strB (getB [[.row [.nils 1], .row [.v (.str s)]]] ⟨0, 1⟩) = some s := rfl
  simp only [splK, e, Option.bind_some]
  rw [if_pos ⟨trivial, by omega⟩]
theorem it_seq (s : List UInt8) (h : s.length ≤ 100000) : iterD [[.row [.nils 1], .row [.v (.str s)]]] 0 77 1 (.clo 77 [] [.va [.str [13, 10]] 0, .ptr ⟨0, 1⟩ 0 0, .va [.int .i64 0] 0]) = some ((piecesN (s.length + 1) pat2 s).map fun p => [V.str p]) := by
  simp only [iterD, iterK, spl_seq s h, Option.map_some, Option.bind_some, if_true, ofLen]
  rw [if_pos (by simp)]
theorem iu_seq (s : List UInt8) (h : s.length ≤ 100000) : iterU [[.row [.nils 1], .row [.v (.str s)]]] 0 (.clo 77 [] [.va [.str [13, 10]] 0, .ptr ⟨0, 1⟩ 0 0, .va [.int .i64 0] 0]) = some (⟨0, 1⟩, pat2) := by
  simp only [iterU, spl_seq s h, Option.map_some]
theorem hd_range (b : List UInt8) (lo : Int) (stp : Nat) (s : List UInt8) (h : s.length ≤ 90000) : ∃ t, ex G (.range 0 77 12 [1] words_Head.l1 words_Head.l2) (hdE b lo stp) [hdS [] s] = some (.normal, hdE b lo stp, [hdS ((pieces2 s).filter (fun y => y != [])) t]) := by
  obtain ⟨t, S⟩ := seq_loop b lo stp (s.length + 1) s [] (by omega) (by show 0 + (s.length + 1) ≤ 100000; omega)
  refine ⟨t, ?_⟩
  rw [xq_range]
  have hIt := it_seq s (by omega)
  have hUt := iu_seq s (by omega)
  show (iterD [[.row [.nils 1], .row [.v (.str s)]]] 0 77 1 (.clo 77 [] [.va [.str [13, 10]] 0, .ptr ⟨0, 1⟩ 0 0, .va [.int .i64 0] 0])).bind _ = _
  rw [hIt, Option.bind_some]
  show rangeN (rgU _ (iterU [[.row [.nils 1], .row [.v (.str s)]]] 0 (.clo 77 [] [.va [.str [13, 10]] 0, .ptr ⟨0, 1⟩ 0 0, .va [.int .i64 0] 0]))) [1] (hdE b lo stp) _ _ = _
  rw [hUt]
  exact S
theorem clW_nil : clW (sL []) = .lin 1 [] := rfl
set_option maxHeartbeats 4000000 in
theorem w_Head (b : List UInt8) (h : b.length ≤ 100000) : run G 12 [.v (.slc 1 (u8L b))] [] = some (hdO (progR b), []) := by
  have hM := hmax
  have hl := u8L_len b
  have I1 := p_bidx b h
  have I2 := p_bpre b
  have hlo : idxO pat4 b = .int .i64 (match ixS pat4 b with | none => -1 | some i => (i : Int)) := by
    unfold idxO
    cases ixS pat4 b <;> rfl
  rw [hlo] at I1
  generalize hq : (match ixS pat4 b with | none => (-1 : Int) | some i => (i : Int)) = q at *
  have hqr : -1 ≤ q ∧ q ≤ 100000 ∧ q ≤ (b.length : Int) := by
    rw [← hq]
    cases hx : ixS pat4 b with
    | none => simp
    | some i => have := ixS_ltL _ _ _ hx; simp only; omega
  have hlong : longI b = if crB b = true then -2 else q := by rw [← hq]; rfl
  have hlr : -2 ≤ longI b ∧ longI b ≤ 100000 := by rw [hlong]; split <;> omega
  have hst : stopN b ≤ min b.length 2048 := by unfold stopN; split <;> omega
  rw [xq_fn G rfl words_Head.g _ _ rfl]
  have L1 := hd_loop b h (longI b) (wholeB b) (stopN b) hst
  have L2 := hd_bad b h (longI b) (wholeB b) (stopN b) hst
  unfold progR
  cases hri : rights 0 (b.take 2048) (stopN b) with
  | false =>
    rw [if_pos rfl]
    obtain ⟨e, L⟩ := L2 hri
    cases hc : crB b with
    | true =>
      rw [hc] at I2
      rw [hc, if_pos rfl] at hlong
      have hw : wholeB b = true := by unfold wholeB; rw [hc]; simp
      have hs : (stopN b : Int) = min (min (b.length : Int) 2048) 2 := by unfold stopN; rw [if_pos hw, hlong]; omega
      rw [hlong, hw] at L
      simp only [hdJ, hs, z0, Int.cast_ofNat_Int, List.take_zero, List.map_nil, List.drop_zero, accN, b8_nil, Int.sub_zero, Int.add_zero, Int.zero_add, Nat.zero_add, Nat.sub_zero, List.nil_append, List.append_nil] at L
      show _ = some (D.tup [D.lin 1 [], .v (.int .i64 0), .v (.int .i64 3)], [])
      simp -implicitDefEqProofs (maxSteps := 2000000) (disch := omega) only [words_Head.s, I1, I2, L, hl, go_sem, reduceIte, Nat.reduceAdd, Nat.reduceSub, Nat.reduceMul, Nat.reduceLeDiff, Nat.reduceLT, Nat.reduceEqDiff, Int.reduceToNat, Int.reduceLT, Int.reduceLE, Int.reduceEq, Int.reduceNe, Int.reduceAdd, Int.reduceSub, Int.reduceMul, Int.reduceNeg, Int.reduceBEq, Int.reduceBNe, reduceCtorEq, dreduceIte, oWS, oW8, oW16, oW32, oW64, oLtT, oLtF, oLeT, oLeF, oNLtT, oNLtF, oNLeT, oNLeF, oEqT, oEqF, oNEqT, oNEqF, oBeqT, oBeqF, oBneT, oBneF, Int.natCast_add, List.take_length]
    | false =>
     by_cases hq0 : 0 ≤ q
     · rw [hc] at I2
       rw [hc, if_neg (by simp)] at hlong
       have hw : wholeB b = true := by unfold wholeB; rw [hlong, decide_eq_true hq0]; rfl
       have hs : (stopN b : Int) = min (min (b.length : Int) 2048) (q + 4) := by unfold stopN; rw [if_pos hw, hlong]; omega
       rw [hlong, hw] at L
       simp only [hdJ, hs, z0, Int.cast_ofNat_Int, List.take_zero, List.map_nil, List.drop_zero, accN, b8_nil, Int.sub_zero, Int.add_zero, Int.zero_add, Nat.zero_add, Nat.sub_zero, List.nil_append, List.append_nil] at L
       show _ = some (D.tup [D.lin 1 [], .v (.int .i64 0), .v (.int .i64 3)], [])
       simp -implicitDefEqProofs (maxSteps := 2000000) (disch := omega) only [words_Head.s, I1, I2, L, hl, hq0, go_sem, reduceIte, Nat.reduceAdd, Nat.reduceSub, Nat.reduceMul, Nat.reduceLeDiff, Nat.reduceLT, Nat.reduceEqDiff, Int.reduceToNat, Int.reduceLT, Int.reduceLE, Int.reduceEq, Int.reduceNe, Int.reduceAdd, Int.reduceSub, Int.reduceMul, Int.reduceNeg, Int.reduceBEq, Int.reduceBNe, reduceCtorEq, dreduceIte, oWS, oW8, oW16, oW32, oW64, oLtT, oLtF, oLeT, oLeF, oNLtT, oNLtF, oNLeT, oNLeF, oEqT, oEqF, oNEqT, oNEqF, oBeqT, oBeqF, oBneT, oBneF, Int.natCast_add, List.take_length]
     · rw [hc] at I2
       rw [hc, if_neg (by simp)] at hlong
       have hqm : q = -1 := by omega
       subst hqm
       have hw : wholeB b = false := by unfold wholeB; rw [hlong, decide_eq_false hq0, hc]; rfl
       have hs : (stopN b : Int) = min (b.length : Int) 2048 := by unfold stopN; rw [if_neg (by rw [hw]; simp)]; omega
       rw [hlong, hw] at L
       simp only [hdJ, hs, z0, Int.cast_ofNat_Int, List.take_zero, List.map_nil, List.drop_zero, accN, b8_nil, Int.sub_zero, Int.add_zero, Int.zero_add, Nat.zero_add, Nat.sub_zero, List.nil_append, List.append_nil] at L
       show _ = some (D.tup [D.lin 1 [], .v (.int .i64 0), .v (.int .i64 3)], [])
       simp -implicitDefEqProofs (maxSteps := 2000000) (disch := omega) only [words_Head.s, I1, I2, L, hl, go_sem, reduceIte, Nat.reduceAdd, Nat.reduceSub, Nat.reduceMul, Nat.reduceLeDiff, Nat.reduceLT, Nat.reduceEqDiff, Int.reduceToNat, Int.reduceLT, Int.reduceLE, Int.reduceEq, Int.reduceNe, Int.reduceAdd, Int.reduceSub, Int.reduceMul, Int.reduceNeg, Int.reduceBEq, Int.reduceBNe, reduceCtorEq, dreduceIte, oWS, oW8, oW16, oW32, oW64, oLtT, oLtF, oLeT, oLeF, oNLtT, oNLtF, oNLeT, oNLeF, oEqT, oEqF, oNEqT, oNEqF, oBeqT, oBeqF, oBneT, oBneF, Int.natCast_add, List.take_length]
  | true =>
    rw [if_neg (by simp)]
    rw [hri, if_pos rfl] at L1
    cases hc : crB b with
    | true =>
      rw [hc] at I2
      rw [hc, if_pos rfl] at hlong
      have hw : wholeB b = true := by unfold wholeB; rw [hc]; simp
      have hs : (stopN b : Int) = min (min (b.length : Int) 2048) 2 := by unfold stopN; rw [if_pos hw, hlong]; omega
      by_cases hle : longI b + 4 ≤ 2048
      · rw [if_pos ⟨hw, hle⟩]
        rw [hlong, hw] at L1
        rw [hlong] at hle ⊢
        have hsl : (b.take (max (-2) 0).toNat).length ≤ 2048 := by rw [List.length_take]; omega
        generalize hsd : b.take (max (-2) 0).toNat = s at *
        have hb : bytesOf (List.take (max (-2) 0).toNat (u8L b)) = some s := by rw [u8L_take, bytesOf_u8L, hsd]
        have I3 := p_seq s
        obtain ⟨t, S⟩ := hd_range b (-2) (stopN b) s (by omega)
        simp only [hdJ, hs, z0, Int.cast_ofNat_Int, List.take_zero, List.map_nil, List.drop_zero, accN, b8_nil, Int.sub_zero, Int.add_zero, Int.zero_add, Nat.zero_add, Nat.sub_zero, List.nil_append, List.append_nil] at L1
        generalize (pieces2 s).filter (fun y => y != []) = ls at *
        have eA : accG 1 (sL []) = .nils 1 := rfl
        simp only [hdE, hdS, hs, eA] at S
        cases ls with
        | nil =>
          rw [eA] at S
          show _ = some (D.tup [.lin 1 [], .v (.int .i64 ((-2) + 4)), .v (.int .i64 0)], [])
          simp -implicitDefEqProofs (maxSteps := 2000000) (disch := omega) only [words_Head.s, I1, I2, L1, hl, hb, I3, S, go_sem, reduceIte, Nat.reduceAdd, Nat.reduceSub, Nat.reduceMul, Nat.reduceLeDiff, Nat.reduceLT, Nat.reduceEqDiff, Int.reduceToNat, Int.reduceLT, Int.reduceLE, Int.reduceEq, Int.reduceNe, Int.reduceAdd, Int.reduceSub, Int.reduceMul, Int.reduceNeg, Int.reduceBEq, Int.reduceBNe, reduceCtorEq, dreduceIte, oWS, oW8, oW16, oW32, oW64, oLtT, oLtF, oLeT, oLeF, oNLtT, oNLtF, oNLeT, oNLeF, oEqT, oEqF, oNEqT, oNEqF, oBeqT, oBeqF, oBneT, oBneF, Int.natCast_add, List.take_length]
        | cons a as =>
          have eB : accG 1 (sL (a :: as)) = .lin 1 (.str a :: sL as) := rfl
          rw [eB] at S
          show _ = some (D.tup [.v (.slc 1 (.str a :: sL as)), .v (.int .i64 ((-2) + 4)), .v (.int .i64 0)], [])
          simp -implicitDefEqProofs (maxSteps := 2000000) (disch := omega) only [words_Head.s, I1, I2, L1, hl, hb, I3, S, go_sem, reduceIte, Nat.reduceAdd, Nat.reduceSub, Nat.reduceMul, Nat.reduceLeDiff, Nat.reduceLT, Nat.reduceEqDiff, Int.reduceToNat, Int.reduceLT, Int.reduceLE, Int.reduceEq, Int.reduceNe, Int.reduceAdd, Int.reduceSub, Int.reduceMul, Int.reduceNeg, Int.reduceBEq, Int.reduceBNe, reduceCtorEq, dreduceIte, oWS, oW8, oW16, oW32, oW64, oLtT, oLtF, oLeT, oLeF, oNLtT, oNLtF, oNLeT, oNLeF, oEqT, oEqF, oNEqT, oNEqF, oBeqT, oBeqF, oBneT, oBneF, Int.natCast_add, List.take_length]
      · exact absurd (by rw [hlong]; omega) hle
    | false =>
     by_cases hq0 : 0 ≤ q
     · rw [hc] at I2
       rw [hc, if_neg (by simp)] at hlong
       have hw : wholeB b = true := by unfold wholeB; rw [hlong, decide_eq_true hq0]; rfl
       have hs : (stopN b : Int) = min (min (b.length : Int) 2048) (q + 4) := by unfold stopN; rw [if_pos hw, hlong]; omega
       by_cases hle : longI b + 4 ≤ 2048
       · rw [if_pos ⟨hw, hle⟩]
         rw [hlong, hw] at L1
         rw [hlong] at hle ⊢
         have hsl : (b.take (max q 0).toNat).length ≤ 2048 := by rw [List.length_take]; omega
         generalize hsd : b.take (max q 0).toNat = s at *
         have hb : bytesOf (List.take (max q 0).toNat (u8L b)) = some s := by rw [u8L_take, bytesOf_u8L, hsd]
         have I3 := p_seq s
         obtain ⟨t, S⟩ := hd_range b q (stopN b) s (by omega)
         simp only [hdJ, hs, z0, Int.cast_ofNat_Int, List.take_zero, List.map_nil, List.drop_zero, accN, b8_nil, Int.sub_zero, Int.add_zero, Int.zero_add, Nat.zero_add, Nat.sub_zero, List.nil_append, List.append_nil] at L1
         generalize (pieces2 s).filter (fun y => y != []) = ls at *
         have eA : accG 1 (sL []) = .nils 1 := rfl
         simp only [hdE, hdS, hs, eA] at S
         cases ls with
         | nil =>
           rw [eA] at S
           show _ = some (D.tup [.lin 1 [], .v (.int .i64 (q + 4)), .v (.int .i64 0)], [])
           simp -implicitDefEqProofs (maxSteps := 2000000) (disch := omega) only [words_Head.s, I1, I2, L1, hl, hb, I3, S, hq0, go_sem, reduceIte, Nat.reduceAdd, Nat.reduceSub, Nat.reduceMul, Nat.reduceLeDiff, Nat.reduceLT, Nat.reduceEqDiff, Int.reduceToNat, Int.reduceLT, Int.reduceLE, Int.reduceEq, Int.reduceNe, Int.reduceAdd, Int.reduceSub, Int.reduceMul, Int.reduceNeg, Int.reduceBEq, Int.reduceBNe, reduceCtorEq, dreduceIte, oWS, oW8, oW16, oW32, oW64, oLtT, oLtF, oLeT, oLeF, oNLtT, oNLtF, oNLeT, oNLeF, oEqT, oEqF, oNEqT, oNEqF, oBeqT, oBeqF, oBneT, oBneF, Int.natCast_add, List.take_length]
         | cons a as =>
           have eB : accG 1 (sL (a :: as)) = .lin 1 (.str a :: sL as) := rfl
           rw [eB] at S
           show _ = some (D.tup [.v (.slc 1 (.str a :: sL as)), .v (.int .i64 (q + 4)), .v (.int .i64 0)], [])
           simp -implicitDefEqProofs (maxSteps := 2000000) (disch := omega) only [words_Head.s, I1, I2, L1, hl, hb, I3, S, hq0, go_sem, reduceIte, Nat.reduceAdd, Nat.reduceSub, Nat.reduceMul, Nat.reduceLeDiff, Nat.reduceLT, Nat.reduceEqDiff, Int.reduceToNat, Int.reduceLT, Int.reduceLE, Int.reduceEq, Int.reduceNe, Int.reduceAdd, Int.reduceSub, Int.reduceMul, Int.reduceNeg, Int.reduceBEq, Int.reduceBNe, reduceCtorEq, dreduceIte, oWS, oW8, oW16, oW32, oW64, oLtT, oLtF, oLeT, oLeF, oNLtT, oNLtF, oNLeT, oNLeF, oEqT, oEqF, oNEqT, oNEqF, oBeqT, oBeqF, oBneT, oBneF, Int.natCast_add, List.take_length]
       · rw [if_neg (fun h => hle h.2)]
         rw [hlong, hw] at L1
         rw [hlong] at hle
         simp only [hdJ, hs, z0, Int.cast_ofNat_Int, List.take_zero, List.map_nil, List.drop_zero, accN, b8_nil, Int.sub_zero, Int.add_zero, Int.zero_add, Nat.zero_add, Nat.sub_zero, List.nil_append, List.append_nil] at L1
         by_cases hlt : b.length < 2048
         · rw [if_pos hlt]
           show _ = some (D.tup [D.lin 1 [], .v (.int .i64 0), .v (.int .i64 4)], [])
           simp -implicitDefEqProofs (maxSteps := 2000000) (disch := omega) only [words_Head.s, I1, I2, L1, hl, hq0, go_sem, reduceIte, Nat.reduceAdd, Nat.reduceSub, Nat.reduceMul, Nat.reduceLeDiff, Nat.reduceLT, Nat.reduceEqDiff, Int.reduceToNat, Int.reduceLT, Int.reduceLE, Int.reduceEq, Int.reduceNe, Int.reduceAdd, Int.reduceSub, Int.reduceMul, Int.reduceNeg, Int.reduceBEq, Int.reduceBNe, reduceCtorEq, dreduceIte, oWS, oW8, oW16, oW32, oW64, oLtT, oLtF, oLeT, oLeF, oNLtT, oNLtF, oNLeT, oNLeF, oEqT, oEqF, oNEqT, oNEqF, oBeqT, oBeqF, oBneT, oBneF, Int.natCast_add, List.take_length]
         · rw [if_neg hlt]
           show _ = some (D.tup [D.lin 1 [], .v (.int .i64 0), .v (.int .i64 8)], [])
           simp -implicitDefEqProofs (maxSteps := 2000000) (disch := omega) only [words_Head.s, I1, I2, L1, hl, hq0, go_sem, reduceIte, Nat.reduceAdd, Nat.reduceSub, Nat.reduceMul, Nat.reduceLeDiff, Nat.reduceLT, Nat.reduceEqDiff, Int.reduceToNat, Int.reduceLT, Int.reduceLE, Int.reduceEq, Int.reduceNe, Int.reduceAdd, Int.reduceSub, Int.reduceMul, Int.reduceNeg, Int.reduceBEq, Int.reduceBNe, reduceCtorEq, dreduceIte, oWS, oW8, oW16, oW32, oW64, oLtT, oLtF, oLeT, oLeF, oNLtT, oNLtF, oNLeT, oNLeF, oEqT, oEqF, oNEqT, oNEqF, oBeqT, oBeqF, oBneT, oBneF, Int.natCast_add, List.take_length]
     · rw [hc] at I2
       rw [hc, if_neg (by simp)] at hlong
       have hqm : q = -1 := by omega
       subst hqm
       have hw : wholeB b = false := by unfold wholeB; rw [hlong, decide_eq_false hq0, hc]; rfl
       have hs : (stopN b : Int) = min (b.length : Int) 2048 := by unfold stopN; rw [if_neg (by rw [hw]; simp)]; omega
       rw [hlong, hw] at L1
       simp only [hdJ, hs, z0, Int.cast_ofNat_Int, List.take_zero, List.map_nil, List.drop_zero, accN, b8_nil, Int.sub_zero, Int.add_zero, Int.zero_add, Nat.zero_add, Nat.sub_zero, List.nil_append, List.append_nil] at L1
       rw [if_neg (fun h => by rw [hw] at h; exact absurd h.1 (by simp))]
       by_cases hlt : b.length < 2048
       · rw [if_pos hlt]
         show _ = some (D.tup [D.lin 1 [], .v (.int .i64 0), .v (.int .i64 4)], [])
         simp -implicitDefEqProofs (maxSteps := 2000000) (disch := omega) only [words_Head.s, I1, I2, L1, hl, go_sem, reduceIte, Nat.reduceAdd, Nat.reduceSub, Nat.reduceMul, Nat.reduceLeDiff, Nat.reduceLT, Nat.reduceEqDiff, Int.reduceToNat, Int.reduceLT, Int.reduceLE, Int.reduceEq, Int.reduceNe, Int.reduceAdd, Int.reduceSub, Int.reduceMul, Int.reduceNeg, Int.reduceBEq, Int.reduceBNe, reduceCtorEq, dreduceIte, oWS, oW8, oW16, oW32, oW64, oLtT, oLtF, oLeT, oLeF, oNLtT, oNLtF, oNLeT, oNLeF, oEqT, oEqF, oNEqT, oNEqF, oBeqT, oBeqF, oBneT, oBneF, Int.natCast_add, List.take_length]
       · rw [if_neg hlt]
         show _ = some (D.tup [D.lin 1 [], .v (.int .i64 0), .v (.int .i64 8)], [])
         simp -implicitDefEqProofs (maxSteps := 2000000) (disch := omega) only [words_Head.s, I1, I2, L1, hl, go_sem, reduceIte, Nat.reduceAdd, Nat.reduceSub, Nat.reduceMul, Nat.reduceLeDiff, Nat.reduceLT, Nat.reduceEqDiff, Int.reduceToNat, Int.reduceLT, Int.reduceLE, Int.reduceEq, Int.reduceNe, Int.reduceAdd, Int.reduceSub, Int.reduceMul, Int.reduceNeg, Int.reduceBEq, Int.reduceBNe, reduceCtorEq, dreduceIte, oWS, oW8, oW16, oW32, oW64, oLtT, oLtF, oLeT, oLeF, oNLtT, oNLtF, oNLeT, oNLeF, oEqT, oEqF, oNEqT, oNEqF, oBeqT, oBeqF, oBneT, oBneF, Int.natCast_add, List.take_length]
end Go.Q
