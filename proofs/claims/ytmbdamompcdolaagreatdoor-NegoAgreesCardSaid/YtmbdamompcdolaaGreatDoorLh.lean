/- Options judged: the laws LcpoAnswers, LcpoFine. No condition. -/
import Derived.Test.YtmbdamompcdolaaGreatDoorLn
set_option linter.all false
set_option maxRecDepth 100000
namespace Go.Q
open SOp SCode
attribute [local congr] bind_c map_c

theorem am_sl : ∀ (l r : List Opt), r.Sublist l → amR r l = true
  | l, [], _ => by cases l <;> rfl
  | [], x :: r, h => by cases h
  | y :: l, x :: r, h => by
    simp only [amR]
    by_cases e : x = y
    · rw [if_pos e]
      refine am_sl l r ?_
      cases h with
      | cons _ h => exact (List.sublist_cons_self x r).trans h
      | cons_cons _ h => exact h
    · rw [if_neg e]
      refine am_sl l (x :: r) ?_
      cases h with
      | cons _ h => exact h
      | cons_cons _ h => exact absurd rfl e
theorem rej_sub (l : List Opt) (pv : Bool) (own fresh : Int) : ∀ i, i ≤ l.length → (jR l pv own fresh i).1.Sublist (l.take i)
  | 0, _ => by simp [jR]
  | i + 1, h => by
    have ih := rej_sub l pv own fresh i (by omega)
    rw [jR_succ (by omega), take_succ (by omega), jstep]
    split
    · exact ih.append (List.Sublist.refl _)
    · split
      · exact ih.trans (List.sublist_append_left _ _)
      · exact ih.trans (List.sublist_append_left _ _)
def nakOk (l : List Opt) (own fresh : Int) (o : Opt) : Prop := ∃ x, fdR l o.1 = (x, true) ∧ (own ≠ fresh → fresh ≠ 0 → o ≠ x)
theorem nak_one (l : List Opt) (own fresh : Int) (hl : okL l) (h2 : 0 ≤ fresh ∧ fresh ≤ 4294967295) (i : Nat) (hi : i < l.length) (hm : metR l i l[i].1 = false) (hr : rightR l[i] = true) (hb : (betR l[i] own fresh).2 = true) :
    nakOk l own fresh (betR l[i] own fresh).1 := by
  have hf : fdR l l[i].1 = (l[i], true) := by
    have : l.find? (·.1 == l[i].1) = some l[i] := find_first hi rfl (fun j hj h => fun e => by
      have : (kds (l.take i)).contains l[i].1 = true := List.contains_iff_mem.2 (List.mem_map.2 ⟨l[j], List.mem_iff_getElem?.2 ⟨j, by rw [List.getElem?_take_of_lt hj]; exact List.getElem?_eq_getElem h⟩, e⟩)
      rw [metR, this] at hm; cases hm)
    rw [fdR, this]
  have ho := hl _ (List.getElem_mem hi)
  generalize l[i] = o at *
  have hr' := of_decide_eq_true hr
  unfold betR at hb ⊢
  by_cases k1 : o.1 = 1
  · rw [if_pos k1] at hb ⊢
    rw [k1] at hf
    refine ⟨o, hf, fun _ _ e => ?_⟩
    have e2 : o.2 = big 2 1400 := by rw [← e]
    have := of_decide_eq_true hb
    rw [e2] at this
    revert this
    decide
  rw [if_neg k1] at hb ⊢
  by_cases k3 : o.1 = 3
  · rw [if_pos k3] at hb ⊢
    rw [k3] at hf
    refine ⟨o, hf, fun _ _ e => ?_⟩
    have e2 : o.2 = chapL := by rw [← e]
    rw [e2] at hb
    simp at hb
  rw [if_neg k3] at hb ⊢
  by_cases k5 : o.1 = 5
  · rw [if_pos k5] at hb ⊢
    rw [k5] at hf
    refine ⟨o, hf, fun h3 h4 e => ?_⟩
    have e2 : o.2 = big 4 fresh := by rw [← e]
    have e3 : numR o.2 = fresh := by
      rw [e2, numR, if_neg (by rw [big_len]; omega), num_big 4 fresh h2.1 (by have : (256 : Int) ^ 4 = 4294967296 := rfl; omega)]
    simp only [Bool.or_eq_true, decide_eq_true_eq, e3] at hb
    rcases hb with hb | hb
    · exact h4 hb
    · exact h3 hb.symm
  · rw [if_neg k5] at hb; cases hb
theorem nak_all (l : List Opt) (pv : Bool) (own fresh : Int) (hl : okL l) (h2 : 0 ≤ fresh ∧ fresh ≤ 4294967295) : ∀ i, i ≤ l.length → ∀ o ∈ (jR l pv own fresh i).2, nakOk l own fresh o
  | 0, _, o, h => by cases h
  | i + 1, hi, o, h => by
    have ih := nak_all l pv own fresh hl h2 i (by omega)
    rw [jR_succ (by omega), jstep] at h
    split at h
    · exact ih o h
    · rename_i c
      split at h
      · rename_i hb
        rcases List.mem_append.1 h with h | h
        · exact ih o h
        · rw [List.mem_singleton.1 h]
          have c' : rightR l[i] = true ∧ metR l i l[i].1 = false := by
            cases hr : rightR l[i] <;> cases hm : metR l i l[i].1 <;> simp [hr, hm] at c ⊢
          exact nak_one l own fresh hl h2 i (by omega) c'.2 c'.1 hb
      · exact ih o h
abbrev Want := Int × Int × Bool
abbrev wv (w : Want) : V := .agg [.int .u16 w.1, .int .u32 w.2.1, .bool w.2.2]
abbrev okW (w : Want) : Prop := (0 ≤ w.1 ∧ w.1 ≤ 65535) ∧ (0 ≤ w.2.1 ∧ w.2.1 ≤ 4294967295)
def optW (w : Want) : List Opt := (if w.1 = 0 then [] else [(1, big 2 w.1)]) ++ ((if w.2.2 = true then [(3, chapL)] else []) ++ (if w.2.1 = 0 then [] else [(5, big 4 w.2.1)]))
theorem oes_cons (o : Opt) (l : List Opt) : oes (o :: l) = oe o :: oes l := rfl
theorem j_options (w : Want) (hw : okW w) : run G 16 [.v (wv w)] [] = some (.lin 2 (oes (optW w)), []) := by
  rw [xq_fn G rfl lcpo_Options.g _ _ rfl]
  have hM := hmax
  have c := j_chap
  have q1 := j_option 1 w.1 2 (by omega) (by omega) (by omega) (by omega)
  have q2 := j_option 5 w.2.1 4 (by omega) (by omega) (by omega) (by omega)
  simp only [oe, z0, Int.cast_ofNat_Int, List.take_zero, List.map_nil, List.drop_zero, accN, b8_nil, Int.sub_zero, Int.add_zero, Int.zero_add, Nat.zero_add, Nat.sub_zero, List.nil_append, List.append_nil] at q1
  simp only [oe, z0, Int.cast_ofNat_Int, List.take_zero, List.map_nil, List.drop_zero, accN, b8_nil, Int.sub_zero, Int.add_zero, Int.zero_add, Nat.zero_add, Nat.sub_zero, List.nil_append, List.append_nil] at q2
  unfold optW
  by_cases h1 : w.1 = 0
  · by_cases h2 : w.2.1 = 0
    · cases h3 : w.2.2 with
      | false => simp -implicitDefEqProofs (maxSteps := 2000000) (disch := omega) only [lcpo_Options.s, wv, h3, c, q1, q2, oes_cons, oes_nil, oe, go_sem, reduceIte, Nat.reduceAdd, Nat.reduceSub, Nat.reduceMul, Nat.reduceLeDiff, Nat.reduceLT, Nat.reduceEqDiff, Int.reduceToNat, Int.reduceLT, Int.reduceLE, Int.reduceEq, Int.reduceNe, Int.reduceAdd, Int.reduceSub, Int.reduceMul, Int.reduceNeg, Int.reduceBEq, Int.reduceBNe, reduceCtorEq, dreduceIte, oWS, oW8, oW16, oW32, oW64, oLtT, oLtF, oLeT, oLeF, oNLtT, oNLtF, oNLeT, oNLeF, oEqT, oEqF, oNEqT, oNEqF, oBeqT, oBeqF, oBneT, oBneF, Int.natCast_add, List.take_length]
      | true => simp -implicitDefEqProofs (maxSteps := 2000000) (disch := omega) only [lcpo_Options.s, wv, h3, c, q1, q2, oes_cons, oes_nil, oe, go_sem, reduceIte, Nat.reduceAdd, Nat.reduceSub, Nat.reduceMul, Nat.reduceLeDiff, Nat.reduceLT, Nat.reduceEqDiff, Int.reduceToNat, Int.reduceLT, Int.reduceLE, Int.reduceEq, Int.reduceNe, Int.reduceAdd, Int.reduceSub, Int.reduceMul, Int.reduceNeg, Int.reduceBEq, Int.reduceBNe, reduceCtorEq, dreduceIte, oWS, oW8, oW16, oW32, oW64, oLtT, oLtF, oLeT, oLeF, oNLtT, oNLtF, oNLeT, oNLeF, oEqT, oEqF, oNEqT, oNEqF, oBeqT, oBeqF, oBneT, oBneF, Int.natCast_add, List.take_length]
    · cases h3 : w.2.2 with
      | false => simp -implicitDefEqProofs (maxSteps := 2000000) (disch := omega) only [lcpo_Options.s, wv, h3, c, q1, q2, oes_cons, oes_nil, oe, go_sem, reduceIte, Nat.reduceAdd, Nat.reduceSub, Nat.reduceMul, Nat.reduceLeDiff, Nat.reduceLT, Nat.reduceEqDiff, Int.reduceToNat, Int.reduceLT, Int.reduceLE, Int.reduceEq, Int.reduceNe, Int.reduceAdd, Int.reduceSub, Int.reduceMul, Int.reduceNeg, Int.reduceBEq, Int.reduceBNe, reduceCtorEq, dreduceIte, oWS, oW8, oW16, oW32, oW64, oLtT, oLtF, oLeT, oLeF, oNLtT, oNLtF, oNLeT, oNLeF, oEqT, oEqF, oNEqT, oNEqF, oBeqT, oBeqF, oBneT, oBneF, Int.natCast_add, List.take_length]
      | true => simp -implicitDefEqProofs (maxSteps := 2000000) (disch := omega) only [lcpo_Options.s, wv, h3, c, q1, q2, oes_cons, oes_nil, oe, go_sem, reduceIte, Nat.reduceAdd, Nat.reduceSub, Nat.reduceMul, Nat.reduceLeDiff, Nat.reduceLT, Nat.reduceEqDiff, Int.reduceToNat, Int.reduceLT, Int.reduceLE, Int.reduceEq, Int.reduceNe, Int.reduceAdd, Int.reduceSub, Int.reduceMul, Int.reduceNeg, Int.reduceBEq, Int.reduceBNe, reduceCtorEq, dreduceIte, oWS, oW8, oW16, oW32, oW64, oLtT, oLtF, oLeT, oLeF, oNLtT, oNLtF, oNLeT, oNLeF, oEqT, oEqF, oNEqT, oNEqF, oBeqT, oBeqF, oBneT, oBneF, Int.natCast_add, List.take_length]
  · by_cases h2 : w.2.1 = 0
    · cases h3 : w.2.2 with
      | false => simp -implicitDefEqProofs (maxSteps := 2000000) (disch := omega) only [lcpo_Options.s, wv, h3, c, q1, q2, oes_cons, oes_nil, oe, go_sem, reduceIte, Nat.reduceAdd, Nat.reduceSub, Nat.reduceMul, Nat.reduceLeDiff, Nat.reduceLT, Nat.reduceEqDiff, Int.reduceToNat, Int.reduceLT, Int.reduceLE, Int.reduceEq, Int.reduceNe, Int.reduceAdd, Int.reduceSub, Int.reduceMul, Int.reduceNeg, Int.reduceBEq, Int.reduceBNe, reduceCtorEq, dreduceIte, oWS, oW8, oW16, oW32, oW64, oLtT, oLtF, oLeT, oLeF, oNLtT, oNLtF, oNLeT, oNLeF, oEqT, oEqF, oNEqT, oNEqF, oBeqT, oBeqF, oBneT, oBneF, Int.natCast_add, List.take_length]
      | true => simp -implicitDefEqProofs (maxSteps := 2000000) (disch := omega) only [lcpo_Options.s, wv, h3, c, q1, q2, oes_cons, oes_nil, oe, go_sem, reduceIte, Nat.reduceAdd, Nat.reduceSub, Nat.reduceMul, Nat.reduceLeDiff, Nat.reduceLT, Nat.reduceEqDiff, Int.reduceToNat, Int.reduceLT, Int.reduceLE, Int.reduceEq, Int.reduceNe, Int.reduceAdd, Int.reduceSub, Int.reduceMul, Int.reduceNeg, Int.reduceBEq, Int.reduceBNe, reduceCtorEq, dreduceIte, oWS, oW8, oW16, oW32, oW64, oLtT, oLtF, oLeT, oLeF, oNLtT, oNLtF, oNLeT, oNLeF, oEqT, oEqF, oNEqT, oNEqF, oBeqT, oBeqF, oBneT, oBneF, Int.natCast_add, List.take_length]
    · cases h3 : w.2.2 with
      | false => simp -implicitDefEqProofs (maxSteps := 2000000) (disch := omega) only [lcpo_Options.s, wv, h3, c, q1, q2, oes_cons, oes_nil, oe, go_sem, reduceIte, Nat.reduceAdd, Nat.reduceSub, Nat.reduceMul, Nat.reduceLeDiff, Nat.reduceLT, Nat.reduceEqDiff, Int.reduceToNat, Int.reduceLT, Int.reduceLE, Int.reduceEq, Int.reduceNe, Int.reduceAdd, Int.reduceSub, Int.reduceMul, Int.reduceNeg, Int.reduceBEq, Int.reduceBNe, reduceCtorEq, dreduceIte, oWS, oW8, oW16, oW32, oW64, oLtT, oLtF, oLeT, oLeF, oNLtT, oNLtF, oNLeT, oNLeF, oEqT, oEqF, oNEqT, oNEqF, oBeqT, oBeqF, oBneT, oBneF, Int.natCast_add, List.take_length]
      | true => simp -implicitDefEqProofs (maxSteps := 2000000) (disch := omega) only [lcpo_Options.s, wv, h3, c, q1, q2, oes_cons, oes_nil, oe, go_sem, reduceIte, Nat.reduceAdd, Nat.reduceSub, Nat.reduceMul, Nat.reduceLeDiff, Nat.reduceLT, Nat.reduceEqDiff, Int.reduceToNat, Int.reduceLT, Int.reduceLE, Int.reduceEq, Int.reduceNe, Int.reduceAdd, Int.reduceSub, Int.reduceMul, Int.reduceNeg, Int.reduceBEq, Int.reduceBNe, reduceCtorEq, dreduceIte, oWS, oW8, oW16, oW32, oW64, oLtT, oLtF, oLeT, oLeF, oNLtT, oNLtF, oNLeT, oNLeF, oEqT, oEqF, oNEqT, oNEqF, oBeqT, oBeqF, oBneT, oBneF, Int.natCast_add, List.take_length]
def fsB (k : Int) (o : Opt) : Bool := decide (o.1 = k) && rightR o
def fsR (l : List Opt) (k : Int) : Opt × Bool := match l.find? (fsB k) with
  | some o => (o, true)
  | none => (noO, false)
theorem fs_first {l : List Opt} {p : Opt → Bool} {j : Nat} (h1 : j < l.length) (h2 : p l[j] = true) (h3 : ∀ i, i < j → ∀ h : i < l.length, p l[i] = false) : l.find? p = some l[j] := by
  induction l generalizing j with
  | nil => simp at h1
  | cons x l ih =>
    cases j with
    | zero => simp at h2; simp [h2]
    | succ j =>
      have hx := h3 0 (by omega) (by simp)
      simp only [List.getElem_cons_zero] at hx
      rw [List.find?_cons_of_neg (by simp [hx])]
      simp only [List.getElem_cons_succ]
      exact ih (j := j) (by simpa using h1) (by simpa using h2) (fun i hi h => by have := h3 (i + 1) (by omega) (by simpa using h); simpa using this)
theorem fs_not {l : List Opt} {p : Opt → Bool} (h : ∀ i, ∀ h : i < l.length, p l[i] = false) : l.find? p = none := by
  rw [List.find?_eq_none]
  intro o ho
  obtain ⟨i, hi, rfl⟩ := List.mem_iff_getElem.1 ho
  simp [h i hi]
theorem j_first (l : List Opt) (k : Int) (hn : l.length ≤ 40) : run G 155 [.v (.slc 2 (oes l)), .v (.int .u8 k)] [] = some (.tup [.v (oe (fsR l k).1), .v (.bool (fsR l k).2)], []) := by
  rw [xq_fn G rfl lcpo_first.g _ _ rfl]
  let E := fun (i : Nat) => [D.v (.slc 2 (oes l)), .v (.int .u8 k), .ptr ⟨0, 0⟩ 0 0, .v (.bool false), .v (.slc 2 (oes l)), .v (.int .i64 (l.length : Nat)), .v (.int .i64 (i : Nat)), .undef]
  have step : ∀ i, i < l.length → (∀ h : i < l.length, fsB k l[i] = false) → rndE G [7] lcpo_first.l0 (E i) [[.row [noD]]] = some (.inl (E (i + 1), [[.row [noD]]])) := fun i hi h => by
    have hx := oes_at (List.getElem?_eq_getElem hi)
    have r := j_right l[i]
    have hb := h hi
    unfold fsB at hb
    simp only [E]
    by_cases e : l[i].1 = k
    · have hr : rightR l[i] = false := by simpa [e] using hb
      rw [hr] at r
      simp -implicitDefEqProofs (maxSteps := 2000000) (disch := omega) only [lcpo_first.l0, noD, oes_len, hx, r, go_sem, reduceIte, Nat.reduceAdd, Nat.reduceSub, Nat.reduceMul, Nat.reduceLeDiff, Nat.reduceLT, Nat.reduceEqDiff, Int.reduceToNat, Int.reduceLT, Int.reduceLE, Int.reduceEq, Int.reduceNe, Int.reduceAdd, Int.reduceSub, Int.reduceMul, Int.reduceNeg, Int.reduceBEq, Int.reduceBNe, reduceCtorEq, dreduceIte, oWS, oW8, oW16, oW32, oW64, oLtT, oLtF, oLeT, oLeF, oNLtT, oNLtF, oNLeT, oNLeF, oEqT, oEqF, oNEqT, oNEqF, oBeqT, oBeqF, oBneT, oBneF, Int.natCast_add, List.take_length]
    · simp -implicitDefEqProofs (maxSteps := 2000000) (disch := omega) only [lcpo_first.l0, noD, oes_len, hx, r, go_sem, reduceIte, Nat.reduceAdd, Nat.reduceSub, Nat.reduceMul, Nat.reduceLeDiff, Nat.reduceLT, Nat.reduceEqDiff, Int.reduceToNat, Int.reduceLT, Int.reduceLE, Int.reduceEq, Int.reduceNe, Int.reduceAdd, Int.reduceSub, Int.reduceMul, Int.reduceNeg, Int.reduceBEq, Int.reduceBNe, reduceCtorEq, dreduceIte, oWS, oW8, oW16, oW32, oW64, oLtT, oLtF, oLeT, oLeF, oNLtT, oNLtF, oNLeT, oNLeF, oEqT, oEqF, oNEqT, oNEqF, oBeqT, oBeqF, oBneT, oBneF, Int.natCast_add, List.take_length]
  rcases first_or (fun i => ∃ h : i < l.length, fsB k l[i] = true) l.length with h | ⟨j, h1, ⟨h2, h3⟩, h4⟩
  · have hno : ∀ i, ∀ h : i < l.length, fsB k l[i] = false := fun i hi => by
      have := h i hi
      simp only [not_exists] at this
      simpa using this hi
    have L := lpFor (G := G) (kill := [7]) (body := lcpo_first.l0) E (fun _ => [[.row [noD]]]) l.length (fun i hi => step i hi (hno i)) (by simp only [E]; simp -implicitDefEqProofs (maxSteps := 2000000) (disch := omega) only [lcpo_first.l0, go_sem, reduceIte, Nat.reduceAdd, Nat.reduceSub, Nat.reduceMul, Nat.reduceLeDiff, Nat.reduceLT, Nat.reduceEqDiff, Int.reduceToNat, Int.reduceLT, Int.reduceLE, Int.reduceEq, Int.reduceNe, Int.reduceAdd, Int.reduceSub, Int.reduceMul, Int.reduceNeg, Int.reduceBEq, Int.reduceBNe, reduceCtorEq, dreduceIte, oWS, oW8, oW16, oW32, oW64, oLtT, oLtF, oLeT, oLeF, oNLtT, oNLtF, oNLeT, oNLeF, oEqT, oEqF, oNEqT, oNEqF, oBeqT, oBeqF, oBneT, oBneF, Int.natCast_add, List.take_length]; rfl)
    simp only [E, noD, z0, Int.cast_ofNat_Int, List.take_zero, List.map_nil, List.drop_zero, accN, b8_nil, Int.sub_zero, Int.add_zero, Int.zero_add, Nat.zero_add, Nat.sub_zero, List.nil_append, List.append_nil] at L
    have e : fsR l k = (noO, false) := by rw [fsR, fs_not hno]
    rw [e]
    simp -implicitDefEqProofs (maxSteps := 2000000) (disch := omega) only [lcpo_first.s, oes_len, L, noO, oe, b8_nil, go_sem, reduceIte, Nat.reduceAdd, Nat.reduceSub, Nat.reduceMul, Nat.reduceLeDiff, Nat.reduceLT, Nat.reduceEqDiff, Int.reduceToNat, Int.reduceLT, Int.reduceLE, Int.reduceEq, Int.reduceNe, Int.reduceAdd, Int.reduceSub, Int.reduceMul, Int.reduceNeg, Int.reduceBEq, Int.reduceBNe, reduceCtorEq, dreduceIte, oWS, oW8, oW16, oW32, oW64, oLtT, oLtF, oLeT, oLeF, oNLtT, oNLtF, oNLeT, oNLeF, oEqT, oEqF, oNEqT, oNEqF, oBeqT, oBeqF, oBneT, oBneF, Int.natCast_add, List.take_length]
  · have hno : ∀ i, i < j → ∀ h : i < l.length, fsB k l[i] = false := fun i hi hil => by
      have := h4 i hi
      simp only [not_exists] at this
      simpa using this hil
    have L := lpFor (G := G) (kill := [7]) (body := lcpo_first.l0) E (fun i => if i ≤ j then [[.row [noD]]] else []) j (fun i hi => by
      have := step i (by omega) (hno i hi)
      simp only [show i ≤ j from by omega, show i + 1 ≤ j from by omega, if_true]; exact this) (o := (.ret, [D.v (.slc 2 (oes l)), .v (.int .u8 k), .ptr ⟨0, 0⟩ 0 0, .v (.bool true), .v (.slc 2 (oes l)), .v (.int .i64 (l.length : Nat)), .v (.int .i64 (j : Nat)), .undef], [[.row [.v (oe l[j])]]])) (by
      have hx := oes_at (List.getElem?_eq_getElem h2)
      have r := j_right l[j]
      unfold fsB at h3
      have h5 : l[j].1 = k ∧ rightR l[j] = true := by simpa using h3
      rw [h5.2] at r
      simp only [E, Nat.le_refl, if_true]
      simp -implicitDefEqProofs (maxSteps := 2000000) (disch := omega) only [lcpo_first.l0, noD, oes_len, hx, r, go_sem, reduceIte, Nat.reduceAdd, Nat.reduceSub, Nat.reduceMul, Nat.reduceLeDiff, Nat.reduceLT, Nat.reduceEqDiff, Int.reduceToNat, Int.reduceLT, Int.reduceLE, Int.reduceEq, Int.reduceNe, Int.reduceAdd, Int.reduceSub, Int.reduceMul, Int.reduceNeg, Int.reduceBEq, Int.reduceBNe, reduceCtorEq, dreduceIte, oWS, oW8, oW16, oW32, oW64, oLtT, oLtF, oLeT, oLeF, oNLtT, oNLtF, oNLeT, oNLeF, oEqT, oEqF, oNEqT, oNEqF, oBeqT, oBeqF, oBneT, oBneF, Int.natCast_add, List.take_length])
    simp only [E, noD, Nat.zero_le, if_true, z0, Int.cast_ofNat_Int, List.take_zero, List.map_nil, List.drop_zero, accN, b8_nil, Int.sub_zero, Int.add_zero, Int.zero_add, Nat.zero_add, Nat.sub_zero, List.nil_append, List.append_nil] at L
    have e : fsR l k = (l[j], true) := by rw [fsR, fs_first h2 h3 hno]
    rw [e]
    simp -implicitDefEqProofs (maxSteps := 2000000) (disch := omega) only [lcpo_first.s, oes_len, L, oe, go_sem, reduceIte, Nat.reduceAdd, Nat.reduceSub, Nat.reduceMul, Nat.reduceLeDiff, Nat.reduceLT, Nat.reduceEqDiff, Int.reduceToNat, Int.reduceLT, Int.reduceLE, Int.reduceEq, Int.reduceNe, Int.reduceAdd, Int.reduceSub, Int.reduceMul, Int.reduceNeg, Int.reduceBEq, Int.reduceBNe, reduceCtorEq, dreduceIte, oWS, oW8, oW16, oW32, oW64, oLtT, oLtF, oLeT, oLeF, oNLtT, oNLtF, oNLeT, oNLeF, oEqT, oEqF, oNEqT, oNEqF, oBeqT, oBeqF, oBneT, oBneF, Int.natCast_add, List.take_length]
abbrev Got := Int × Int × Bool × Bool × Bool
abbrev gv (g : Got) : V := .agg [.int .u16 g.1, .int .u32 g.2.1, .bool g.2.2.1, .bool g.2.2.2.1, .bool g.2.2.2.2]
def ofR (l : List Opt) : Got := (if (fsR l 1).2 = true then IntKind.u16.wrap (numR (fsR l 1).1.2) else 1500, if (fsR l 5).2 = true then IntKind.u32.wrap (numR (fsR l 5).1.2) else 0, (fsR l 3).1.2 == chapL, (fsR l 7).2, (fsR l 8).2)
theorem fs_ok (l : List Opt) (k : Int) (hl : okL l) : okO (fsR l k).1 := by
  unfold fsR
  split
  · rename_i o h
    exact hl o (List.mem_of_find?_eq_some h)
  · exact ⟨by decide, fun x h => (by cases h)⟩
theorem j_of (l : List Opt) (hl : okL l) (hn : l.length ≤ 40) : run G 113 [.v (.slc 2 (oes l))] [] = some (.v (gv (ofR l)), []) := by
  rw [xq_fn G rfl lcpo_Of.g _ _ rfl]
  have c := j_chap
  have f1 := j_first l 1 hn
  have f5 := j_first l 5 hn
  have f3 := j_first l 3 hn
  have f7 := j_first l 7 hn
  have f8 := j_first l 8 hn
  have n1 := j_number (fsR l 1).1 (fs_ok l 1 hl).2
  have n5 := j_number (fsR l 5).1 (fs_ok l 5 hl).2
  have e := equal91 (fsR l 3).1.2 chapL (fs_ok l 3 hl).2 chap_ok []
  unfold ofR
  cases h1 : (fsR l 1).2 with
  | false =>
    rw [h1] at f1
    cases h5 : (fsR l 5).2 with
    | false => rw [h5] at f5; simp -implicitDefEqProofs (maxSteps := 2000000) (disch := omega) only [lcpo_Of.s, gv, oe, c, f1, f5, f3, f7, f8, n1, n5, e, go_sem, reduceIte, Nat.reduceAdd, Nat.reduceSub, Nat.reduceMul, Nat.reduceLeDiff, Nat.reduceLT, Nat.reduceEqDiff, Int.reduceToNat, Int.reduceLT, Int.reduceLE, Int.reduceEq, Int.reduceNe, Int.reduceAdd, Int.reduceSub, Int.reduceMul, Int.reduceNeg, Int.reduceBEq, Int.reduceBNe, reduceCtorEq, dreduceIte, oWS, oW8, oW16, oW32, oW64, oLtT, oLtF, oLeT, oLeF, oNLtT, oNLtF, oNLeT, oNLeF, oEqT, oEqF, oNEqT, oNEqF, oBeqT, oBeqF, oBneT, oBneF, Int.natCast_add, List.take_length]
    | true => rw [h5] at f5; simp -implicitDefEqProofs (maxSteps := 2000000) (disch := omega) only [lcpo_Of.s, gv, oe, c, f1, f5, f3, f7, f8, n1, n5, e, go_sem, reduceIte, Nat.reduceAdd, Nat.reduceSub, Nat.reduceMul, Nat.reduceLeDiff, Nat.reduceLT, Nat.reduceEqDiff, Int.reduceToNat, Int.reduceLT, Int.reduceLE, Int.reduceEq, Int.reduceNe, Int.reduceAdd, Int.reduceSub, Int.reduceMul, Int.reduceNeg, Int.reduceBEq, Int.reduceBNe, reduceCtorEq, dreduceIte, oWS, oW8, oW16, oW32, oW64, oLtT, oLtF, oLeT, oLeF, oNLtT, oNLtF, oNLeT, oNLeF, oEqT, oEqF, oNEqT, oNEqF, oBeqT, oBeqF, oBneT, oBneF, Int.natCast_add, List.take_length]
  | true =>
    rw [h1] at f1
    cases h5 : (fsR l 5).2 with
    | false => rw [h5] at f5; simp -implicitDefEqProofs (maxSteps := 2000000) (disch := omega) only [lcpo_Of.s, gv, oe, c, f1, f5, f3, f7, f8, n1, n5, e, go_sem, reduceIte, Nat.reduceAdd, Nat.reduceSub, Nat.reduceMul, Nat.reduceLeDiff, Nat.reduceLT, Nat.reduceEqDiff, Int.reduceToNat, Int.reduceLT, Int.reduceLE, Int.reduceEq, Int.reduceNe, Int.reduceAdd, Int.reduceSub, Int.reduceMul, Int.reduceNeg, Int.reduceBEq, Int.reduceBNe, reduceCtorEq, dreduceIte, oWS, oW8, oW16, oW32, oW64, oLtT, oLtF, oLeT, oLeF, oNLtT, oNLtF, oNLeT, oNLeF, oEqT, oEqF, oNEqT, oNEqF, oBeqT, oBeqF, oBneT, oBneF, Int.natCast_add, List.take_length]
    | true => rw [h5] at f5; simp -implicitDefEqProofs (maxSteps := 2000000) (disch := omega) only [lcpo_Of.s, gv, oe, c, f1, f5, f3, f7, f8, n1, n5, e, go_sem, reduceIte, Nat.reduceAdd, Nat.reduceSub, Nat.reduceMul, Nat.reduceLeDiff, Nat.reduceLT, Nat.reduceEqDiff, Int.reduceToNat, Int.reduceLT, Int.reduceLE, Int.reduceEq, Int.reduceNe, Int.reduceAdd, Int.reduceSub, Int.reduceMul, Int.reduceNeg, Int.reduceBEq, Int.reduceBNe, reduceCtorEq, dreduceIte, oWS, oW8, oW16, oW32, oW64, oLtT, oLtF, oLeT, oLeF, oNLtT, oNLtF, oNLeT, oNLeF, oEqT, oEqF, oNEqT, oNEqF, oBeqT, oBeqF, oBneT, oBneF, Int.natCast_add, List.take_length]
theorem w_r1 (m : Int) : rightR (1, big 2 m) = true := by simp [rightR, longR, big_len]
theorem w_r3 : rightR (3, chapL) = true := by decide
theorem w_r5 (m : Int) : rightR (5, big 4 m) = true := by simp [rightR, longR, big_len]
theorem w_n1 (m : Int) (h : 0 ≤ m ∧ m ≤ 65535) : numR (big 2 m) = m := by
  rw [numR, if_neg (by rw [big_len]; omega), num_big 2 m h.1 (by have : (256 : Int) ^ 2 = 65536 := rfl; omega)]
theorem w_n5 (m : Int) (h : 0 ≤ m ∧ m ≤ 4294967295) : numR (big 4 m) = m := by
  rw [numR, if_neg (by rw [big_len]; omega), num_big 4 m h.1 (by have : (256 : Int) ^ 4 = 4294967296 := rfl; omega)]
theorem optW_ok (w : Want) : okL (optW w) ∧ (optW w).length ≤ 3 := by
  have n : ∀ k : Int, k = 1 ∨ k = 3 ∨ k = 5 → 0 ≤ k ∧ k ≤ 255 := fun k h => by omega
  constructor
  · intro o h
    unfold optW at h
    rcases List.mem_append.1 h with h | h
    · split at h
      · cases h
      · rw [List.mem_singleton.1 h]; exact ⟨n 1 (by simp), big_ok _ _⟩
    · rcases List.mem_append.1 h with h | h
      · split at h
        · rw [List.mem_singleton.1 h]; exact ⟨n 3 (by simp), chap_ok⟩
        · cases h
      · split at h
        · cases h
        · rw [List.mem_singleton.1 h]; exact ⟨n 5 (by simp), big_ok _ _⟩
  · unfold optW
    simp only [List.length_append]
    split <;> split <;> split <;> simp
theorem w_of (w : Want) (hw : okW w) : ofR (optW w) = (if w.1 = 0 then 1500 else w.1, w.2.1, w.2.2, false, false) := by
  obtain ⟨m, g, p⟩ := w
  have h1 := w_n1 m hw.1
  have h5 := w_n5 g hw.2
  have w1 : IntKind.u16.wrap m = m := oW16 hw.1
  have w5 : IntKind.u32.wrap g = g := oW32 hw.2
  unfold ofR fsR optW
  by_cases c1 : m = 0 <;> by_cases c5 : g = 0 <;> cases p <;> simp [c1, c5, fsB, w_r1, w_r3, w_r5, h1, h5, w1, w5, List.find?, noO] <;> first | rfl | (simp [chapL])
def nakW (w : Want) (own fresh : Int) : List Opt := (if w.1 ≠ 0 ∧ w.1 < 128 then [(1, big 2 1400)] else []) ++ (if w.2.1 ≠ 0 ∧ w.2.1 = own then [(5, big 4 fresh)] else [])
theorem w_jud (w : Want) (own fresh : Int) (hw : okW w) : jR (optW w) true own fresh (optW w).length = ([], nakW w own fresh) := by
  obtain ⟨m, g, p⟩ := w
  have h1 := w_n1 m hw.1
  have h5 := w_n5 g hw.2
  unfold optW nakW
  by_cases d5 : g = own
  · subst d5
    by_cases c1 : m = 0 <;> by_cases c5 : g = 0 <;> cases p <;> by_cases d1 : m < 128 <;> simp [c1, c5, d1, jR, jstep, metR, kds, w_r1, w_r3, w_r5, betR, h1, h5]
  · by_cases c1 : m = 0 <;> by_cases c5 : g = 0 <;> cases p <;> by_cases d1 : m < 128 <;> simp [c1, c5, d1, d5, jR, jstep, metR, kds, w_r1, w_r3, w_r5, betR, h1, h5]
end Go.Q
