/- Requests: the reference's Parse, what errors are answered by; the law HttpqParses, in the machine. No condition. -/
import Derived.Test.YtdcknpkednpckaaGreatDoorHo
set_option linter.all false
set_option maxRecDepth 100000
set_option maxHeartbeats 4000000
namespace Go.Q
open SOp SCode
attribute [local congr] bind_c map_c
theorem p_parts (s : List UInt8) (h : s.length ≤ 100000) : run G 17 [.v (.str s)] [] = some (.v (.slc 1 (sL (splitC 32 s))), []) := by
  rw [xq_prim G (f := 17) (F := primPure partsF) (by rfl)]
  have e : partsF [.str s] = some (.v (.slc 1 (sL (splitC 32 s)))) := by
    simp only [partsF]
    rw [if_pos h]
    rfl
  simp only [primPure, allV, Option.map_some, Option.bind_some, e]
def statV (e : Int) : Int := if e = 0 then 200 else if e = 6 then 404 else if e = 9 then 405 else if e = 15 then 505 else if e = 8 then 431 else if e = 5 then 431 else if e = 4 then 0 else 400
theorem h_Status (e : Int) : run G 7 [.v (.int .i64 e)] [] = some (.v (.int .i64 (statV e)), []) := by
  unfold statV
  rw [xq_fn G rfl httpq_Status.g _ _ rfl]
  by_cases h0 : e = 0
  · subst h0; simp -implicitDefEqProofs (maxSteps := 2000000) (disch := omega) only [httpq_Status.s, go_sem, reduceIte, Nat.reduceAdd, Nat.reduceSub, Nat.reduceMul, Nat.reduceLeDiff, Nat.reduceLT, Nat.reduceEqDiff, Int.reduceToNat, Int.reduceLT, Int.reduceLE, Int.reduceEq, Int.reduceNe, Int.reduceAdd, Int.reduceSub, Int.reduceMul, Int.reduceNeg, Int.reduceBEq, Int.reduceBNe, reduceCtorEq, dreduceIte, oWS, oW8, oW16, oW32, oW64, oLtT, oLtF, oLeT, oLeF, oNLtT, oNLtF, oNLeT, oNLeF, oEqT, oEqF, oNEqT, oNEqF, oBeqT, oBeqF, oBneT, oBneF, Int.natCast_add, List.take_length]
  by_cases h1 : e = 6
  · subst h1; simp -implicitDefEqProofs (maxSteps := 2000000) (disch := omega) only [httpq_Status.s, go_sem, reduceIte, Nat.reduceAdd, Nat.reduceSub, Nat.reduceMul, Nat.reduceLeDiff, Nat.reduceLT, Nat.reduceEqDiff, Int.reduceToNat, Int.reduceLT, Int.reduceLE, Int.reduceEq, Int.reduceNe, Int.reduceAdd, Int.reduceSub, Int.reduceMul, Int.reduceNeg, Int.reduceBEq, Int.reduceBNe, reduceCtorEq, dreduceIte, oWS, oW8, oW16, oW32, oW64, oLtT, oLtF, oLeT, oLeF, oNLtT, oNLtF, oNLeT, oNLeF, oEqT, oEqF, oNEqT, oNEqF, oBeqT, oBeqF, oBneT, oBneF, Int.natCast_add, List.take_length]
  by_cases h2 : e = 9
  · subst h2; simp -implicitDefEqProofs (maxSteps := 2000000) (disch := omega) only [httpq_Status.s, go_sem, reduceIte, Nat.reduceAdd, Nat.reduceSub, Nat.reduceMul, Nat.reduceLeDiff, Nat.reduceLT, Nat.reduceEqDiff, Int.reduceToNat, Int.reduceLT, Int.reduceLE, Int.reduceEq, Int.reduceNe, Int.reduceAdd, Int.reduceSub, Int.reduceMul, Int.reduceNeg, Int.reduceBEq, Int.reduceBNe, reduceCtorEq, dreduceIte, oWS, oW8, oW16, oW32, oW64, oLtT, oLtF, oLeT, oLeF, oNLtT, oNLtF, oNLeT, oNLeF, oEqT, oEqF, oNEqT, oNEqF, oBeqT, oBeqF, oBneT, oBneF, Int.natCast_add, List.take_length]
  by_cases h3 : e = 15
  · subst h3; simp -implicitDefEqProofs (maxSteps := 2000000) (disch := omega) only [httpq_Status.s, go_sem, reduceIte, Nat.reduceAdd, Nat.reduceSub, Nat.reduceMul, Nat.reduceLeDiff, Nat.reduceLT, Nat.reduceEqDiff, Int.reduceToNat, Int.reduceLT, Int.reduceLE, Int.reduceEq, Int.reduceNe, Int.reduceAdd, Int.reduceSub, Int.reduceMul, Int.reduceNeg, Int.reduceBEq, Int.reduceBNe, reduceCtorEq, dreduceIte, oWS, oW8, oW16, oW32, oW64, oLtT, oLtF, oLeT, oLeF, oNLtT, oNLtF, oNLeT, oNLeF, oEqT, oEqF, oNEqT, oNEqF, oBeqT, oBeqF, oBneT, oBneF, Int.natCast_add, List.take_length]
  by_cases h4 : e = 8
  · subst h4; simp -implicitDefEqProofs (maxSteps := 2000000) (disch := omega) only [httpq_Status.s, go_sem, reduceIte, Nat.reduceAdd, Nat.reduceSub, Nat.reduceMul, Nat.reduceLeDiff, Nat.reduceLT, Nat.reduceEqDiff, Int.reduceToNat, Int.reduceLT, Int.reduceLE, Int.reduceEq, Int.reduceNe, Int.reduceAdd, Int.reduceSub, Int.reduceMul, Int.reduceNeg, Int.reduceBEq, Int.reduceBNe, reduceCtorEq, dreduceIte, oWS, oW8, oW16, oW32, oW64, oLtT, oLtF, oLeT, oLeF, oNLtT, oNLtF, oNLeT, oNLeF, oEqT, oEqF, oNEqT, oNEqF, oBeqT, oBeqF, oBneT, oBneF, Int.natCast_add, List.take_length]
  by_cases h5 : e = 5
  · subst h5; simp -implicitDefEqProofs (maxSteps := 2000000) (disch := omega) only [httpq_Status.s, go_sem, reduceIte, Nat.reduceAdd, Nat.reduceSub, Nat.reduceMul, Nat.reduceLeDiff, Nat.reduceLT, Nat.reduceEqDiff, Int.reduceToNat, Int.reduceLT, Int.reduceLE, Int.reduceEq, Int.reduceNe, Int.reduceAdd, Int.reduceSub, Int.reduceMul, Int.reduceNeg, Int.reduceBEq, Int.reduceBNe, reduceCtorEq, dreduceIte, oWS, oW8, oW16, oW32, oW64, oLtT, oLtF, oLeT, oLeF, oNLtT, oNLtF, oNLeT, oNLeF, oEqT, oEqF, oNEqT, oNEqF, oBeqT, oBeqF, oBneT, oBneF, Int.natCast_add, List.take_length]
  by_cases h6 : e = 4
  · subst h6; simp -implicitDefEqProofs (maxSteps := 2000000) (disch := omega) only [httpq_Status.s, go_sem, reduceIte, Nat.reduceAdd, Nat.reduceSub, Nat.reduceMul, Nat.reduceLeDiff, Nat.reduceLT, Nat.reduceEqDiff, Int.reduceToNat, Int.reduceLT, Int.reduceLE, Int.reduceEq, Int.reduceNe, Int.reduceAdd, Int.reduceSub, Int.reduceMul, Int.reduceNeg, Int.reduceBEq, Int.reduceBNe, reduceCtorEq, dreduceIte, oWS, oW8, oW16, oW32, oW64, oLtT, oLtF, oLeT, oLeF, oNLtT, oNLtF, oNLeT, oNLeF, oEqT, oEqF, oNEqT, oNEqF, oBeqT, oBeqF, oBneT, oBneF, Int.natCast_add, List.take_length]
  rw [if_neg h0, if_neg h1, if_neg h2, if_neg h3, if_neg h4, if_neg h5, if_neg h6]
  simp -implicitDefEqProofs (maxSteps := 2000000) (disch := omega) only [httpq_Status.s, h0, h1, h2, h3, h4, h5, h6, go_sem, reduceIte, Nat.reduceAdd, Nat.reduceSub, Nat.reduceMul, Nat.reduceLeDiff, Nat.reduceLT, Nat.reduceEqDiff, Int.reduceToNat, Int.reduceLT, Int.reduceLE, Int.reduceEq, Int.reduceNe, Int.reduceAdd, Int.reduceSub, Int.reduceMul, Int.reduceNeg, Int.reduceBEq, Int.reduceBNe, reduceCtorEq, dreduceIte, oWS, oW8, oW16, oW32, oW64, oLtT, oLtF, oLeT, oLeF, oNLtT, oNLtF, oNLeT, oNLeF, oEqT, oEqF, oNEqT, oNEqF, oBeqT, oBeqF, oBneT, oBneF, Int.natCast_add, List.take_length]
theorem r_Status (e : Int) : run G 8 [.v (.int .i64 e)] [] = some (.v (.int .i64 (statV e)), []) := by
  unfold statV
  rw [xq_fn G rfl euphroeref15_Status.g _ _ rfl]
  by_cases h0 : e = 0
  · subst h0; simp -implicitDefEqProofs (maxSteps := 2000000) (disch := omega) only [euphroeref15_Status.s, go_sem, reduceIte, Nat.reduceAdd, Nat.reduceSub, Nat.reduceMul, Nat.reduceLeDiff, Nat.reduceLT, Nat.reduceEqDiff, Int.reduceToNat, Int.reduceLT, Int.reduceLE, Int.reduceEq, Int.reduceNe, Int.reduceAdd, Int.reduceSub, Int.reduceMul, Int.reduceNeg, Int.reduceBEq, Int.reduceBNe, reduceCtorEq, dreduceIte, oWS, oW8, oW16, oW32, oW64, oLtT, oLtF, oLeT, oLeF, oNLtT, oNLtF, oNLeT, oNLeF, oEqT, oEqF, oNEqT, oNEqF, oBeqT, oBeqF, oBneT, oBneF, Int.natCast_add, List.take_length]
  by_cases h1 : e = 6
  · subst h1; simp -implicitDefEqProofs (maxSteps := 2000000) (disch := omega) only [euphroeref15_Status.s, go_sem, reduceIte, Nat.reduceAdd, Nat.reduceSub, Nat.reduceMul, Nat.reduceLeDiff, Nat.reduceLT, Nat.reduceEqDiff, Int.reduceToNat, Int.reduceLT, Int.reduceLE, Int.reduceEq, Int.reduceNe, Int.reduceAdd, Int.reduceSub, Int.reduceMul, Int.reduceNeg, Int.reduceBEq, Int.reduceBNe, reduceCtorEq, dreduceIte, oWS, oW8, oW16, oW32, oW64, oLtT, oLtF, oLeT, oLeF, oNLtT, oNLtF, oNLeT, oNLeF, oEqT, oEqF, oNEqT, oNEqF, oBeqT, oBeqF, oBneT, oBneF, Int.natCast_add, List.take_length]
  by_cases h2 : e = 9
  · subst h2; simp -implicitDefEqProofs (maxSteps := 2000000) (disch := omega) only [euphroeref15_Status.s, go_sem, reduceIte, Nat.reduceAdd, Nat.reduceSub, Nat.reduceMul, Nat.reduceLeDiff, Nat.reduceLT, Nat.reduceEqDiff, Int.reduceToNat, Int.reduceLT, Int.reduceLE, Int.reduceEq, Int.reduceNe, Int.reduceAdd, Int.reduceSub, Int.reduceMul, Int.reduceNeg, Int.reduceBEq, Int.reduceBNe, reduceCtorEq, dreduceIte, oWS, oW8, oW16, oW32, oW64, oLtT, oLtF, oLeT, oLeF, oNLtT, oNLtF, oNLeT, oNLeF, oEqT, oEqF, oNEqT, oNEqF, oBeqT, oBeqF, oBneT, oBneF, Int.natCast_add, List.take_length]
  by_cases h3 : e = 15
  · subst h3; simp -implicitDefEqProofs (maxSteps := 2000000) (disch := omega) only [euphroeref15_Status.s, go_sem, reduceIte, Nat.reduceAdd, Nat.reduceSub, Nat.reduceMul, Nat.reduceLeDiff, Nat.reduceLT, Nat.reduceEqDiff, Int.reduceToNat, Int.reduceLT, Int.reduceLE, Int.reduceEq, Int.reduceNe, Int.reduceAdd, Int.reduceSub, Int.reduceMul, Int.reduceNeg, Int.reduceBEq, Int.reduceBNe, reduceCtorEq, dreduceIte, oWS, oW8, oW16, oW32, oW64, oLtT, oLtF, oLeT, oLeF, oNLtT, oNLtF, oNLeT, oNLeF, oEqT, oEqF, oNEqT, oNEqF, oBeqT, oBeqF, oBneT, oBneF, Int.natCast_add, List.take_length]
  by_cases h4 : e = 8
  · subst h4; simp -implicitDefEqProofs (maxSteps := 2000000) (disch := omega) only [euphroeref15_Status.s, go_sem, reduceIte, Nat.reduceAdd, Nat.reduceSub, Nat.reduceMul, Nat.reduceLeDiff, Nat.reduceLT, Nat.reduceEqDiff, Int.reduceToNat, Int.reduceLT, Int.reduceLE, Int.reduceEq, Int.reduceNe, Int.reduceAdd, Int.reduceSub, Int.reduceMul, Int.reduceNeg, Int.reduceBEq, Int.reduceBNe, reduceCtorEq, dreduceIte, oWS, oW8, oW16, oW32, oW64, oLtT, oLtF, oLeT, oLeF, oNLtT, oNLtF, oNLeT, oNLeF, oEqT, oEqF, oNEqT, oNEqF, oBeqT, oBeqF, oBneT, oBneF, Int.natCast_add, List.take_length]
  by_cases h5 : e = 5
  · subst h5; simp -implicitDefEqProofs (maxSteps := 2000000) (disch := omega) only [euphroeref15_Status.s, go_sem, reduceIte, Nat.reduceAdd, Nat.reduceSub, Nat.reduceMul, Nat.reduceLeDiff, Nat.reduceLT, Nat.reduceEqDiff, Int.reduceToNat, Int.reduceLT, Int.reduceLE, Int.reduceEq, Int.reduceNe, Int.reduceAdd, Int.reduceSub, Int.reduceMul, Int.reduceNeg, Int.reduceBEq, Int.reduceBNe, reduceCtorEq, dreduceIte, oWS, oW8, oW16, oW32, oW64, oLtT, oLtF, oLeT, oLeF, oNLtT, oNLtF, oNLeT, oNLeF, oEqT, oEqF, oNEqT, oNEqF, oBeqT, oBeqF, oBneT, oBneF, Int.natCast_add, List.take_length]
  by_cases h6 : e = 4
  · subst h6; simp -implicitDefEqProofs (maxSteps := 2000000) (disch := omega) only [euphroeref15_Status.s, go_sem, reduceIte, Nat.reduceAdd, Nat.reduceSub, Nat.reduceMul, Nat.reduceLeDiff, Nat.reduceLT, Nat.reduceEqDiff, Int.reduceToNat, Int.reduceLT, Int.reduceLE, Int.reduceEq, Int.reduceNe, Int.reduceAdd, Int.reduceSub, Int.reduceMul, Int.reduceNeg, Int.reduceBEq, Int.reduceBNe, reduceCtorEq, dreduceIte, oWS, oW8, oW16, oW32, oW64, oLtT, oLtF, oLeT, oLeF, oNLtT, oNLtF, oNLeT, oNLeF, oEqT, oEqF, oNEqT, oNEqF, oBeqT, oBeqF, oBneT, oBneF, Int.natCast_add, List.take_length]
  rw [if_neg h0, if_neg h1, if_neg h2, if_neg h3, if_neg h4, if_neg h5, if_neg h6]
  simp -implicitDefEqProofs (maxSteps := 2000000) (disch := omega) only [euphroeref15_Status.s, h0, h1, h2, h3, h4, h5, h6, go_sem, reduceIte, Nat.reduceAdd, Nat.reduceSub, Nat.reduceMul, Nat.reduceLeDiff, Nat.reduceLT, Nat.reduceEqDiff, Int.reduceToNat, Int.reduceLT, Int.reduceLE, Int.reduceEq, Int.reduceNe, Int.reduceAdd, Int.reduceSub, Int.reduceMul, Int.reduceNeg, Int.reduceBEq, Int.reduceBNe, reduceCtorEq, dreduceIte, oWS, oW8, oW16, oW32, oW64, oLtT, oLtF, oLeT, oLeF, oNLtT, oNLtF, oNLeT, oNLeF, oEqT, oEqF, oNEqT, oNEqF, oBeqT, oBeqF, oBneT, oBneF, Int.natCast_add, List.take_length]
theorem oneR_val {nm : List UInt8} {may : List UInt8 → Bool} {l : List Fld} (h : (findR nm l).2 = 0) (hm : may (findR nm l).1 = true) : oneR nm may l = findR nm l := by
  unfold oneR
  rw [if_neg (fun hh => by rw [hm] at hh; exact absurd hh.2 (by simp))]
theorem oneR_bad {nm : List UInt8} {may : List UInt8 → Bool} {l : List Fld} (h : (findR nm l).2 = 0) (hm : may (findR nm l).1 = false) : oneR nm may l = ([], 3) := by
  unfold oneR
  rw [if_pos ⟨h, hm⟩]
theorem oneR_err {nm : List UInt8} {may : List UInt8 → Bool} {l : List Fld} (h : ¬ (findR nm l).2 = 0) : oneR nm may l = findR nm l := by
  unfold oneR
  rw [if_neg (fun hh => h hh.1)]
theorem findR_none (nm : List UInt8) (l : List Fld) (h : ¬ (findR nm l).2 = 0) : (findR nm l).1 = [] := by
  unfold findR at h ⊢
  cases hf : fdS nm l none with
  | none => rfl
  | some q => cases q with
    | none => rfl
    | some v => rw [hf] at h; simp at h
theorem linQ_cases (s : List UInt8) : (linQ s = ([], 3) ∧ ¬ (splitC 32 s).length = 3) ∨ ∃ a b c, splitC 32 s = [a, b, c] ∧ ((linQ s = ([], 3) ∧ (a = [] ∨ b = [] ∨ c = [])) ∨
    (¬ a = [] ∧ ¬ b = [] ∧ ¬ c = [] ∧ ((¬ a = metL ∧ linQ s = ([], 9)) ∨ (a = metL ∧ ((¬ c = vrsL ∧ linQ s = ([], 15)) ∨ (c = vrsL ∧ linQ s = (b, 0))))))) := by
  by_cases h3 : (splitC 32 s).length = 3
  · right
    obtain ⟨a, b, c, e⟩ : ∃ a b c, splitC 32 s = [a, b, c] := by
      match splitC 32 s, h3 with
      | [a, b, c], _ => exact ⟨a, b, c, rfl⟩
    refine ⟨a, b, c, e, ?_⟩
    unfold linQ
    rw [e]
    simp only
    by_cases hb : a = [] ∨ b = [] ∨ c = []
    · exact .inl ⟨by rw [if_pos hb], hb⟩
    · right
      refine ⟨fun h => hb (.inl h), fun h => hb (.inr (.inl h)), fun h => hb (.inr (.inr h)), ?_⟩
      rw [if_neg hb]
      by_cases hm : a = metL
      · right
        refine ⟨hm, ?_⟩
        rw [if_pos hm]
        by_cases hv : c = vrsL
        · exact .inr ⟨hv, by rw [if_pos hv]⟩
        · exact .inl ⟨hv, by rw [if_neg hv]⟩
      · exact .inl ⟨hm, by rw [if_neg hm]⟩
  · left
    refine ⟨?_, h3⟩
    unfold linQ
    generalize splitC 32 s = l at *
    match l, h3 with
    | [], _ => rfl
    | [_], _ => rfl
    | [_, _], _ => rfl
    | [_, _, _], h => exact absurd rfl h
    | _ :: _ :: _ :: _ :: _, _ => rfl
theorem corB_eq (s : List UInt8) : corB s = (idR s).isSome := by
  unfold corB
  cases s with
  | nil => rfl
  | cons a r => rfl
theorem idO_some {s l : List UInt8} (h : idR s = some l) : idO (idR s) = .tup [.v (.agg (u8L l)), .v (.int .i64 0)] := by rw [h]; rfl
theorem idO_none {s : List UInt8} (h : idR s = none) : idO (idR s) = .tup [.v (.agg z16), .v (.int .i64 3)] := by rw [h]; rfl
theorem parseQ2_bad {n e : Int} {s : List UInt8} {r : List (List UInt8)} {p : List UInt8} (h : linQ s = (p, e)) (he : ¬ e = 0) : parseQ2 n (s :: r) = (([], []), 0, e) := by
  simp only [parseQ2, h]; rw [if_neg he]
theorem parseQ2_ok {n : Int} {s p : List UInt8} {r : List (List UInt8)} (h : linQ s = (p, 0)) : parseQ2 n (s :: r) = if (fieldsR r).2 = 0 then (if p = pthL then (if (fieldsQ (fieldsR r).1).2 = 0 then ((fieldsQ (fieldsR r).1).1, n, 0) else (([], []), 0, (fieldsQ (fieldsR r).1).2)) else (([], []), 0, 6)) else (([], []), 0, (fieldsR r).2) := by
  simp only [parseQ2, h, if_true]
theorem id_len {s l : List UInt8} (h : idR s = some l) : l.length = 16 := by
  obtain ⟨k, n, e, hk⟩ := idO_shape s
  rw [h] at e
  simp only [idO, D.tup.injEq, List.cons.injEq, D.v.injEq, V.agg.injEq] at e
  have := congrArg List.length e.1
  rw [u8L_len, u8L_len] at this
  omega
theorem r_Parse15 (b : List UInt8) (h : b.length ≤ 100000) : run G 6 [.v (.slc 1 (u8L b))] [] = some (pqO (parseQ b), []) := by
  have I1 := r_Head b h
  unfold parseQ
  rw [xq_fn G rfl euphroeref15_Parse.g _ _ rfl]
  rcases hdR_cases b with ⟨ls, n, rest, hr, g, hn, h1, h2, e⟩ | ⟨e, hr, he⟩
  · rw [hr] at I1 ⊢
    simp only [if_true]
    simp only [hdP] at I1
    cases ls with
    | nil =>
      simp only [parseQ2]
      have I1 : run G 16 [.v (.slc 1 (u8L b))] [] = some (.tup [.lin 1 [], .v (.int .i64 n), .v (.int .i64 0)], []) := I1
      simp -implicitDefEqProofs (maxSteps := 2000000) (disch := omega) only [euphroeref15_Parse.s, I1, List.length_nil, go_sem, reduceIte, Nat.reduceAdd, Nat.reduceSub, Nat.reduceMul, Nat.reduceLeDiff, Nat.reduceLT, Nat.reduceEqDiff, Int.reduceToNat, Int.reduceLT, Int.reduceLE, Int.reduceEq, Int.reduceNe, Int.reduceAdd, Int.reduceSub, Int.reduceMul, Int.reduceNeg, Int.reduceBEq, Int.reduceBNe, reduceCtorEq, dreduceIte, oWS, oW8, oW16, oW32, oW64, oLtT, oLtF, oLeT, oLeF, oNLtT, oNLtF, oNLeT, oNLeF, oEqT, oEqF, oNEqT, oNEqF, oBeqT, oBeqF, oBneT, oBneF, Int.natCast_add, List.take_length]
    | cons s r =>
      have I1 : run G 16 [.v (.slc 1 (u8L b))] [] = some (.tup [.lin 1 (.str s :: sL r), .v (.int .i64 n), .v (.int .i64 0)], []) := I1
      have hfl := ql_len (s :: r)
      have hit := ql_item (s :: r)
      have hsl : s.length ≤ 3000 := by have := hit s (by simp); omega
      have hrl : r.length ≤ 100000 := by simp at hfl; omega
      have hri : ∀ x ∈ r, x.length ≤ 3000 := fun x hx => by have := hit x (by simp [hx]); omega
      have hsr := sL_len r
      have hd : List.take r.length (sL r) = sL r := by rw [← sL_len r, List.take_length]
      have I2 := p_parts s (by omega)
      have hpl := sL_len (splitC 32 s)
      rcases linQ_cases s with ⟨q, h3⟩ | ⟨a, c, d, e3, q⟩
      · rw [parseQ2_bad q (by decide)]
        have h3' : ¬ ((splitC 32 s).length : Int) = 3 := by omega
        generalize splitC 32 s = l at *
        simp -implicitDefEqProofs (maxSteps := 2000000) (disch := omega) only [euphroeref15_Parse.s, I1, I2, hsr, hpl, h3', List.length_cons, go_sem, reduceIte, Nat.reduceAdd, Nat.reduceSub, Nat.reduceMul, Nat.reduceLeDiff, Nat.reduceLT, Nat.reduceEqDiff, Int.reduceToNat, Int.reduceLT, Int.reduceLE, Int.reduceEq, Int.reduceNe, Int.reduceAdd, Int.reduceSub, Int.reduceMul, Int.reduceNeg, Int.reduceBEq, Int.reduceBNe, reduceCtorEq, dreduceIte, oWS, oW8, oW16, oW32, oW64, oLtT, oLtF, oLeT, oLeF, oNLtT, oNLtF, oNLeT, oNLeF, oEqT, oEqF, oNEqT, oNEqF, oBeqT, oBeqF, oBneT, oBneF, Int.natCast_add, List.take_length]
      · rw [e3] at I2
        have e2 : sL [a, c, d] = [.str a, .str c, .str d] := rfl
        rw [e2] at I2
        rcases q with ⟨q, hb⟩ | ⟨ha, hc, hdd, q⟩
        · rw [parseQ2_bad q (by decide)]
          by_cases ha : a = []
          · have qa : (a == []) = true := by simpa using ha
            simp -implicitDefEqProofs (maxSteps := 2000000) (disch := omega) only [euphroeref15_Parse.s, I1, I2, hsr, qa, List.length_cons, List.length_nil, go_sem, reduceIte, Nat.reduceAdd, Nat.reduceSub, Nat.reduceMul, Nat.reduceLeDiff, Nat.reduceLT, Nat.reduceEqDiff, Int.reduceToNat, Int.reduceLT, Int.reduceLE, Int.reduceEq, Int.reduceNe, Int.reduceAdd, Int.reduceSub, Int.reduceMul, Int.reduceNeg, Int.reduceBEq, Int.reduceBNe, reduceCtorEq, dreduceIte, oWS, oW8, oW16, oW32, oW64, oLtT, oLtF, oLeT, oLeF, oNLtT, oNLtF, oNLeT, oNLeF, oEqT, oEqF, oNEqT, oNEqF, oBeqT, oBeqF, oBneT, oBneF, Int.natCast_add, List.take_length]
          · have qa : (a == []) = false := by simpa using ha
            by_cases hc : c = []
            · have qb : (c == []) = true := by simpa using hc
              simp -implicitDefEqProofs (maxSteps := 2000000) (disch := omega) only [euphroeref15_Parse.s, I1, I2, hsr, qa, qb, List.length_cons, List.length_nil, go_sem, reduceIte, Nat.reduceAdd, Nat.reduceSub, Nat.reduceMul, Nat.reduceLeDiff, Nat.reduceLT, Nat.reduceEqDiff, Int.reduceToNat, Int.reduceLT, Int.reduceLE, Int.reduceEq, Int.reduceNe, Int.reduceAdd, Int.reduceSub, Int.reduceMul, Int.reduceNeg, Int.reduceBEq, Int.reduceBNe, reduceCtorEq, dreduceIte, oWS, oW8, oW16, oW32, oW64, oLtT, oLtF, oLeT, oLeF, oNLtT, oNLtF, oNLeT, oNLeF, oEqT, oEqF, oNEqT, oNEqF, oBeqT, oBeqF, oBneT, oBneF, Int.natCast_add, List.take_length]
            · have qb : (c == []) = false := by simpa using hc
              have qc : (d == []) = true := by
                rcases hb with hb | hb | hb
                · exact absurd hb ha
                · exact absurd hb hc
                · simpa using hb
              simp -implicitDefEqProofs (maxSteps := 2000000) (disch := omega) only [euphroeref15_Parse.s, I1, I2, hsr, qa, qb, qc, List.length_cons, List.length_nil, go_sem, reduceIte, Nat.reduceAdd, Nat.reduceSub, Nat.reduceMul, Nat.reduceLeDiff, Nat.reduceLT, Nat.reduceEqDiff, Int.reduceToNat, Int.reduceLT, Int.reduceLE, Int.reduceEq, Int.reduceNe, Int.reduceAdd, Int.reduceSub, Int.reduceMul, Int.reduceNeg, Int.reduceBEq, Int.reduceBNe, reduceCtorEq, dreduceIte, oWS, oW8, oW16, oW32, oW64, oLtT, oLtF, oLeT, oLeF, oNLtT, oNLtF, oNLeT, oNLeF, oEqT, oEqF, oNEqT, oNEqF, oBeqT, oBeqF, oBneT, oBneF, Int.natCast_add, List.take_length]
        · have qa : (a == []) = false := by simpa using ha
          have qb : (c == []) = false := by simpa using hc
          have qc : (d == []) = false := by simpa using hdd
          rcases q with ⟨hm, q⟩ | ⟨hm, q⟩
          · rw [parseQ2_bad q (by decide)]
            have qm : (a == metL) = false := by simpa using hm
            simp only [metL] at qm
            simp -implicitDefEqProofs (maxSteps := 2000000) (disch := omega) only [euphroeref15_Parse.s, I1, I2, hsr, qa, qb, qc, qm, List.length_cons, List.length_nil, go_sem, reduceIte, Nat.reduceAdd, Nat.reduceSub, Nat.reduceMul, Nat.reduceLeDiff, Nat.reduceLT, Nat.reduceEqDiff, Int.reduceToNat, Int.reduceLT, Int.reduceLE, Int.reduceEq, Int.reduceNe, Int.reduceAdd, Int.reduceSub, Int.reduceMul, Int.reduceNeg, Int.reduceBEq, Int.reduceBNe, reduceCtorEq, dreduceIte, oWS, oW8, oW16, oW32, oW64, oLtT, oLtF, oLeT, oLeF, oNLtT, oNLtF, oNLeT, oNLeF, oEqT, oEqF, oNEqT, oNEqF, oBeqT, oBeqF, oBneT, oBneF, Int.natCast_add, List.take_length]
          · have qm : (a == metL) = true := by simpa using hm
            simp only [metL] at qm
            rcases q with ⟨hv, q⟩ | ⟨hv, q⟩
            · rw [parseQ2_bad q (by decide)]
              have qv : (d == vrsL) = false := by simpa using hv
              simp only [vrsL] at qv
              simp -implicitDefEqProofs (maxSteps := 2000000) (disch := omega) only [euphroeref15_Parse.s, I1, I2, hsr, qa, qb, qc, qm, qv, List.length_cons, List.length_nil, go_sem, reduceIte, Nat.reduceAdd, Nat.reduceSub, Nat.reduceMul, Nat.reduceLeDiff, Nat.reduceLT, Nat.reduceEqDiff, Int.reduceToNat, Int.reduceLT, Int.reduceLE, Int.reduceEq, Int.reduceNe, Int.reduceAdd, Int.reduceSub, Int.reduceMul, Int.reduceNeg, Int.reduceBEq, Int.reduceBNe, reduceCtorEq, dreduceIte, oWS, oW8, oW16, oW32, oW64, oLtT, oLtF, oLeT, oLeF, oNLtT, oNLtF, oNLeT, oNLeF, oEqT, oEqF, oNEqT, oNEqF, oBeqT, oBeqF, oBneT, oBneF, Int.natCast_add, List.take_length]
            · rw [parseQ2_ok q]
              have qv : (d == vrsL) = true := by simpa using hv
              simp only [vrsL] at qv
              have I3 := r_Fields r hrl (fun x hx => by have := hri x hx; omega)
              obtain ⟨k1, k2⟩ := fieldsR_lens 3000 r hri
              simp only [flO] at I3
              generalize (fieldsR r).1 = fl at *
              generalize (fieldsR r).2 = fe at *
              have k3 : ∀ p ∈ fl, p.1.length ≤ 100000 := fun p hp => by have := (k2 p hp).1; omega
              have I4 := r_Find hstN (by decide) fl (by omega) k3
              have I5 := r_Find lenN (by decide) fl (by omega) k3
              have I6 := r_Find corN (by decide) fl (by omega) k3
              have l4 := findR_len hstN fl 3000 (fun p hp => (k2 p hp).2)
              have l6 := findR_len corN fl 3000 (fun p hp => (k2 p hp).2)
              have I7 := r_host (findR hstN fl).1 (by omega)
              have I8 := r_Id (findR corN fl).1 (by omega)
              have e4 := findR_err hstN fl
              have e5 := findR_err lenN fl
              have e6 := findR_err corN fl
              have n6 := findR_none corN fl
              simp only [fdO] at I4 I5 I6
              unfold fieldsQ
              by_cases c1 : fe = 0
              · subst c1
                rw [if_pos rfl]
                by_cases c2 : c = pthL
                · rw [if_pos c2]
                  have qp : (c == pthL) = true := by simpa using c2
                  simp only [pthL] at qp
                  by_cases c4 : (findR hstN fl).2 = 0
                  · rw [c4] at I4
                    cases c5 : hostR (findR hstN fl).1 with
                    | false =>
                      rw [c5] at I7
                      simp only [oneR_bad c4 c5]
                      simp -implicitDefEqProofs (maxSteps := 2000000) (disch := omega) only [euphroeref15_Parse.s, I1, I2, I3, I4, I7, hsr, hd, qa, qb, qc, qm, qv, qp, List.length_cons, List.length_nil, go_sem, reduceIte, Nat.reduceAdd, Nat.reduceSub, Nat.reduceMul, Nat.reduceLeDiff, Nat.reduceLT, Nat.reduceEqDiff, Int.reduceToNat, Int.reduceLT, Int.reduceLE, Int.reduceEq, Int.reduceNe, Int.reduceAdd, Int.reduceSub, Int.reduceMul, Int.reduceNeg, Int.reduceBEq, Int.reduceBNe, reduceCtorEq, dreduceIte, oWS, oW8, oW16, oW32, oW64, oLtT, oLtF, oLeT, oLeF, oNLtT, oNLtF, oNLeT, oNLeF, oEqT, oEqF, oNEqT, oNEqF, oBeqT, oBeqF, oBneT, oBneF, Int.natCast_add, List.take_length]
                    | true =>
                      rw [c5] at I7
                      simp only [oneR_val c4 c5]
                      rw [c4]
                      by_cases c6 : (findR lenN fl).2 = 0
                      · rw [c6] at I5
                        cases c7 : lngB (findR lenN fl).1 with
                        | false =>
                          simp only [oneR_bad c6 c7]
                          simp only [lngB, lngL] at c7
                          simp -implicitDefEqProofs (maxSteps := 2000000) (disch := omega) only [euphroeref15_Parse.s, I1, I2, I3, I4, I5, I7, hsr, hd, qa, qb, qc, qm, qv, qp, c7, List.length_cons, List.length_nil, go_sem, reduceIte, Nat.reduceAdd, Nat.reduceSub, Nat.reduceMul, Nat.reduceLeDiff, Nat.reduceLT, Nat.reduceEqDiff, Int.reduceToNat, Int.reduceLT, Int.reduceLE, Int.reduceEq, Int.reduceNe, Int.reduceAdd, Int.reduceSub, Int.reduceMul, Int.reduceNeg, Int.reduceBEq, Int.reduceBNe, reduceCtorEq, dreduceIte, oWS, oW8, oW16, oW32, oW64, oLtT, oLtF, oLeT, oLeF, oNLtT, oNLtF, oNLeT, oNLeF, oEqT, oEqF, oNEqT, oNEqF, oBeqT, oBeqF, oBneT, oBneF, Int.natCast_add, List.take_length]
                        | true =>
                          simp only [oneR_val c6 c7]
                          simp only [lngB, lngL] at c7
                          rw [c6]
                          by_cases c8 : (findR corN fl).2 = 0
                          · rw [c8] at I6
                            cases c9 : idR (findR corN fl).1 with
                            | none =>
                              rw [idO_none c9] at I8
                              have c10 : corB (findR corN fl).1 = false := by rw [corB_eq, c9]; rfl
                              simp only [oneR_bad c8 c10]
                              simp -implicitDefEqProofs (maxSteps := 2000000) (disch := omega) only [euphroeref15_Parse.s, I1, I2, I3, I4, I5, I6, I7, I8, hsr, hd, qa, qb, qc, qm, qv, qp, c7, List.length_cons, List.length_nil, go_sem, reduceIte, Nat.reduceAdd, Nat.reduceSub, Nat.reduceMul, Nat.reduceLeDiff, Nat.reduceLT, Nat.reduceEqDiff, Int.reduceToNat, Int.reduceLT, Int.reduceLE, Int.reduceEq, Int.reduceNe, Int.reduceAdd, Int.reduceSub, Int.reduceMul, Int.reduceNeg, Int.reduceBEq, Int.reduceBNe, reduceCtorEq, dreduceIte, oWS, oW8, oW16, oW32, oW64, oLtT, oLtF, oLeT, oLeF, oNLtT, oNLtF, oNLeT, oNLeF, oEqT, oEqF, oNEqT, oNEqF, oBeqT, oBeqF, oBneT, oBneF, Int.natCast_add, List.take_length]
                            | some i =>
                              rw [idO_some c9] at I8
                              have hil := id_len c9
                              have hul := u8L_len i
                              have c10 : corB (findR corN fl).1 = true := by rw [corB_eq, c9]; rfl
                              simp only [oneR_val c8 c10]
                              rw [c8]
                              simp -implicitDefEqProofs (maxSteps := 2000000) (disch := omega) only [euphroeref15_Parse.s, I1, I2, I3, I4, I5, I6, I7, I8, hsr, hd, qa, qb, qc, qm, qv, qp, c7, hil, hul, List.length_map, List.length_cons, List.length_nil, go_sem, reduceIte, Nat.reduceAdd, Nat.reduceSub, Nat.reduceMul, Nat.reduceLeDiff, Nat.reduceLT, Nat.reduceEqDiff, Int.reduceToNat, Int.reduceLT, Int.reduceLE, Int.reduceEq, Int.reduceNe, Int.reduceAdd, Int.reduceSub, Int.reduceMul, Int.reduceNeg, Int.reduceBEq, Int.reduceBNe, reduceCtorEq, dreduceIte, oWS, oW8, oW16, oW32, oW64, oLtT, oLtF, oLeT, oLeF, oNLtT, oNLtF, oNLeT, oNLeF, oEqT, oEqF, oNEqT, oNEqF, oBeqT, oBeqF, oBneT, oBneF, Int.natCast_add, List.take_length]
                          · simp only [oneR_err c8]
                            have n6 := n6 c8
                            rw [n6] at I6 I8 ⊢
                            have hid : idR [] = none := rfl
                            rw [idO_none hid] at I8
                            rcases e6 with e6 | e6 | e6
                            · exact absurd e6 c8
                            · rw [e6] at I6 ⊢
                              simp -implicitDefEqProofs (maxSteps := 2000000) (disch := omega) only [euphroeref15_Parse.s, I1, I2, I3, I4, I5, I6, I7, I8, hsr, hd, qa, qb, qc, qm, qv, qp, c7, List.length_cons, List.length_nil, go_sem, reduceIte, Nat.reduceAdd, Nat.reduceSub, Nat.reduceMul, Nat.reduceLeDiff, Nat.reduceLT, Nat.reduceEqDiff, Int.reduceToNat, Int.reduceLT, Int.reduceLE, Int.reduceEq, Int.reduceNe, Int.reduceAdd, Int.reduceSub, Int.reduceMul, Int.reduceNeg, Int.reduceBEq, Int.reduceBNe, reduceCtorEq, dreduceIte, oWS, oW8, oW16, oW32, oW64, oLtT, oLtF, oLeT, oLeF, oNLtT, oNLtF, oNLeT, oNLeF, oEqT, oEqF, oNEqT, oNEqF, oBeqT, oBeqF, oBneT, oBneF, Int.natCast_add, List.take_length]
                            · rw [e6] at I6 ⊢
                              simp -implicitDefEqProofs (maxSteps := 2000000) (disch := omega) only [euphroeref15_Parse.s, I1, I2, I3, I4, I5, I6, I7, I8, hsr, hd, qa, qb, qc, qm, qv, qp, c7, List.length_cons, List.length_nil, go_sem, reduceIte, Nat.reduceAdd, Nat.reduceSub, Nat.reduceMul, Nat.reduceLeDiff, Nat.reduceLT, Nat.reduceEqDiff, Int.reduceToNat, Int.reduceLT, Int.reduceLE, Int.reduceEq, Int.reduceNe, Int.reduceAdd, Int.reduceSub, Int.reduceMul, Int.reduceNeg, Int.reduceBEq, Int.reduceBNe, reduceCtorEq, dreduceIte, oWS, oW8, oW16, oW32, oW64, oLtT, oLtF, oLeT, oLeF, oNLtT, oNLtF, oNLeT, oNLeF, oEqT, oEqF, oNEqT, oNEqF, oBeqT, oBeqF, oBneT, oBneF, Int.natCast_add, List.take_length]
                      · simp only [oneR_err c6]
                        generalize (findR lenN fl).2 = z at *
                        simp -implicitDefEqProofs (maxSteps := 2000000) (disch := omega) only [euphroeref15_Parse.s, I1, I2, I3, I4, I5, I7, hsr, hd, qa, qb, qc, qm, qv, qp, c6, List.length_cons, List.length_nil, go_sem, reduceIte, Nat.reduceAdd, Nat.reduceSub, Nat.reduceMul, Nat.reduceLeDiff, Nat.reduceLT, Nat.reduceEqDiff, Int.reduceToNat, Int.reduceLT, Int.reduceLE, Int.reduceEq, Int.reduceNe, Int.reduceAdd, Int.reduceSub, Int.reduceMul, Int.reduceNeg, Int.reduceBEq, Int.reduceBNe, reduceCtorEq, dreduceIte, oWS, oW8, oW16, oW32, oW64, oLtT, oLtF, oLeT, oLeF, oNLtT, oNLtF, oNLeT, oNLeF, oEqT, oEqF, oNEqT, oNEqF, oBeqT, oBeqF, oBneT, oBneF, Int.natCast_add, List.take_length]
                  · simp only [oneR_err c4]
                    generalize (findR hstN fl).2 = z at *
                    simp -implicitDefEqProofs (maxSteps := 2000000) (disch := omega) only [euphroeref15_Parse.s, I1, I2, I3, I4, hsr, hd, qa, qb, qc, qm, qv, qp, c4, List.length_cons, List.length_nil, go_sem, reduceIte, Nat.reduceAdd, Nat.reduceSub, Nat.reduceMul, Nat.reduceLeDiff, Nat.reduceLT, Nat.reduceEqDiff, Int.reduceToNat, Int.reduceLT, Int.reduceLE, Int.reduceEq, Int.reduceNe, Int.reduceAdd, Int.reduceSub, Int.reduceMul, Int.reduceNeg, Int.reduceBEq, Int.reduceBNe, reduceCtorEq, dreduceIte, oWS, oW8, oW16, oW32, oW64, oLtT, oLtF, oLeT, oLeF, oNLtT, oNLtF, oNLeT, oNLeF, oEqT, oEqF, oNEqT, oNEqF, oBeqT, oBeqF, oBneT, oBneF, Int.natCast_add, List.take_length]
                · rw [if_neg c2]
                  have qp : (c == pthL) = false := by simpa using c2
                  simp only [pthL] at qp
                  simp -implicitDefEqProofs (maxSteps := 2000000) (disch := omega) only [euphroeref15_Parse.s, I1, I2, I3, hsr, hd, qa, qb, qc, qm, qv, qp, List.length_cons, List.length_nil, go_sem, reduceIte, Nat.reduceAdd, Nat.reduceSub, Nat.reduceMul, Nat.reduceLeDiff, Nat.reduceLT, Nat.reduceEqDiff, Int.reduceToNat, Int.reduceLT, Int.reduceLE, Int.reduceEq, Int.reduceNe, Int.reduceAdd, Int.reduceSub, Int.reduceMul, Int.reduceNeg, Int.reduceBEq, Int.reduceBNe, reduceCtorEq, dreduceIte, oWS, oW8, oW16, oW32, oW64, oLtT, oLtF, oLeT, oLeF, oNLtT, oNLtF, oNLeT, oNLeF, oEqT, oEqF, oNEqT, oNEqF, oBeqT, oBeqF, oBneT, oBneF, Int.natCast_add, List.take_length]
              · rw [if_neg c1]
                simp -implicitDefEqProofs (maxSteps := 2000000) (disch := omega) only [euphroeref15_Parse.s, I1, I2, I3, hsr, hd, qa, qb, qc, qm, qv, c1, List.length_cons, List.length_nil, go_sem, reduceIte, Nat.reduceAdd, Nat.reduceSub, Nat.reduceMul, Nat.reduceLeDiff, Nat.reduceLT, Nat.reduceEqDiff, Int.reduceToNat, Int.reduceLT, Int.reduceLE, Int.reduceEq, Int.reduceNe, Int.reduceAdd, Int.reduceSub, Int.reduceMul, Int.reduceNeg, Int.reduceBEq, Int.reduceBNe, reduceCtorEq, dreduceIte, oWS, oW8, oW16, oW32, oW64, oLtT, oLtF, oLeT, oLeF, oNLtT, oNLtF, oNLeT, oNLeF, oEqT, oEqF, oNEqT, oNEqF, oBeqT, oBeqF, oBneT, oBneF, Int.natCast_add, List.take_length]
  · rw [hr] at I1 ⊢
    have I1 : run G 16 [.v (.slc 1 (u8L b))] [] = some (.tup [.lin 1 [], .v (.int .i64 0), .v (.int .i64 e)], []) := I1
    have hne : ¬ e = 0 := by omega
    simp only
    rw [if_neg hne]
    simp -implicitDefEqProofs (maxSteps := 2000000) (disch := omega) only [euphroeref15_Parse.s, I1, hne, go_sem, reduceIte, Nat.reduceAdd, Nat.reduceSub, Nat.reduceMul, Nat.reduceLeDiff, Nat.reduceLT, Nat.reduceEqDiff, Int.reduceToNat, Int.reduceLT, Int.reduceLE, Int.reduceEq, Int.reduceNe, Int.reduceAdd, Int.reduceSub, Int.reduceMul, Int.reduceNeg, Int.reduceBEq, Int.reduceBNe, reduceCtorEq, dreduceIte, oWS, oW8, oW16, oW32, oW64, oLtT, oLtF, oLeT, oLeF, oNLtT, oNLtF, oNLeT, oNLeF, oEqT, oEqF, oNEqT, oNEqF, oBeqT, oBeqF, oBneT, oBneF, Int.natCast_add, List.take_length]
theorem httpqParses (b : List UInt8) (c : Int) : run G 3 [.v (.slc 1 (u8L b)), .v (.int .i64 c)] [] = some (.v (.bool true), []) := by
  have A := a15
  have hub := u8L_len b
  rw [xq_fn G rfl euphroelaw15_HttpqParses.g _ _ rfl]
  by_cases h : 3000 < b.length
  · simp -implicitDefEqProofs (maxSteps := 2000000) (disch := omega) only [euphroelaw15_HttpqParses.s, A, hub, go_sem, reduceIte, Nat.reduceAdd, Nat.reduceSub, Nat.reduceMul, Nat.reduceLeDiff, Nat.reduceLT, Nat.reduceEqDiff, Int.reduceToNat, Int.reduceLT, Int.reduceLE, Int.reduceEq, Int.reduceNe, Int.reduceAdd, Int.reduceSub, Int.reduceMul, Int.reduceNeg, Int.reduceBEq, Int.reduceBNe, reduceCtorEq, dreduceIte, oWS, oW8, oW16, oW32, oW64, oLtT, oLtF, oLeT, oLeF, oNLtT, oNLtF, oNLeT, oNLeF, oEqT, oEqF, oNEqT, oNEqF, oBeqT, oBeqF, oBneT, oBneF, Int.natCast_add, List.take_length]
  have I1 := h_Parse b (by omega)
  have I2 := r_Parse15 b (by omega)
  generalize parseQ b = q at *
  obtain ⟨⟨p, i⟩, n, e⟩ := q
  have S1 := h_Status e
  have S2 := r_Status e
  have S3 := h_Status c
  have S4 := r_Status c
  simp only [pqO] at I1 I2
  have q1 : (p == p) = true := beq_self_eq_true _
  have q2 : (i == i) = true := beq_self_eq_true _
  generalize statV e = x at *
  generalize statV c = y at *
  simp -implicitDefEqProofs (maxSteps := 2000000) (disch := omega) only [euphroelaw15_HttpqParses.s, A, hub, I1, I2, S1, S2, S3, S4, q1, q2, Bool.and_self, go_sem, reduceIte, Nat.reduceAdd, Nat.reduceSub, Nat.reduceMul, Nat.reduceLeDiff, Nat.reduceLT, Nat.reduceEqDiff, Int.reduceToNat, Int.reduceLT, Int.reduceLE, Int.reduceEq, Int.reduceNe, Int.reduceAdd, Int.reduceSub, Int.reduceMul, Int.reduceNeg, Int.reduceBEq, Int.reduceBNe, reduceCtorEq, dreduceIte, oWS, oW8, oW16, oW32, oW64, oLtT, oLtF, oLeT, oLeF, oNLtT, oNLtF, oNLeT, oNLeF, oEqT, oEqF, oNEqT, oNEqF, oBeqT, oBeqF, oBneT, oBneF, Int.natCast_add, List.take_length]
end Go.Q
