/- Options judged: Judge, and the laws on it. No condition. -/
import Derived.Test.YtmbdamompcdolaaGreatDoorLj
set_option linter.all false
set_option maxRecDepth 100000
namespace Go.Q
open SOp SCode
attribute [local congr] bind_c map_c

def dds : List Int → List Int → List Int
  | acc, [] => acc
  | acc, k :: ks => dds (if acc.contains k = true then acc else acc ++ [k]) ks
def dd (ks : List Int) : List Int := dds [] ks
theorem dds_app : ∀ (ks acc : List Int) (k : Int), dds acc (ks ++ [k]) = (if (dds acc ks).contains k = true then dds acc ks else dds acc ks ++ [k])
  | [], acc, k => rfl
  | x :: ks, acc, k => by simp only [List.cons_append, dds]; exact dds_app ks _ k
theorem dds_mem : ∀ (ks acc : List Int) (k : Int), (dds acc ks).contains k = (acc.contains k || ks.contains k)
  | [], acc, k => by simp [dds]
  | x :: ks, acc, k => by
    rw [dds, dds_mem ks]
    by_cases h : acc.contains x = true
    · rw [if_pos h]
      by_cases hk : k = x
      · subst hk; rw [h]; simp
      · simp only [List.contains_cons, beq_ne hk, Bool.false_or]
    · rw [if_neg h]
      simp only [List.contains_cons, List.contains_append, List.contains_nil, Bool.or_false, Bool.or_assoc]
def em (ds : List Int) : List (V × D) := ds.map fun k => (V.int .u8 k, D.v (.bool true))
theorem em_find (k : Int) : ∀ (ds : List Int), mfind (.int .u8 k) (em ds) = some (if ds.contains k = true then some (.v (.bool true)) else none)
  | [] => rfl
  | x :: ds => by
    have ih := em_find k ds
    simp only [em, List.map_cons, mfind, keyEq, if_true, Option.bind_some]
    by_cases h : k = x
    · subst h; simp
    · rw [beq_ne h]
      simp only [Bool.false_eq_true, if_false, List.contains_cons, beq_ne h, Bool.false_or]
      exact ih
theorem em_put (k : Int) : ∀ (ds : List Int), mput (.int .u8 k) (.v (.bool true)) (em ds) = some (em (if ds.contains k = true then ds else ds ++ [k]))
  | [] => rfl
  | x :: ds => by
    have ih := em_put k ds
    simp only [em, List.map_cons, mput, keyEq, if_true, Option.bind_some]
    by_cases h : k = x
    · subst h; simp
    · rw [beq_ne h]
      simp only [Bool.false_eq_true, if_false, List.contains_cons, beq_ne h, Bool.false_or]
      simp only [em] at ih
      rw [ih]
      by_cases c : ds.contains k = true
      · rw [if_pos c, if_pos c]; rfl
      · rw [if_neg c, if_neg c]; rfl
theorem kds_app (a b : List Opt) : kds (a ++ b) = kds a ++ kds b := by simp [kds]
def metR (l : List Opt) (i : Nat) (k : Int) : Bool := (kds (l.take i)).contains k
def jstep (m pv : Bool) (own fresh : Int) (o : Opt) (s : List Opt × List Opt) : List Opt × List Opt :=
  if (!rightR o || (m || (decide (o.1 = 3) && !pv))) = true then (s.1 ++ [o], s.2) else if (betR o own fresh).2 = true then (s.1, s.2 ++ [(betR o own fresh).1]) else s
def jR (l : List Opt) (pv : Bool) (own fresh : Int) : Nat → List Opt × List Opt
  | 0 => ([], [])
  | i + 1 => match l[i]? with
    | some o => jstep (metR l i o.1) pv own fresh o (jR l pv own fresh i)
    | none => jR l pv own fresh i
theorem jR_succ {l : List Opt} {pv : Bool} {own fresh : Int} {i : Nat} (h : i < l.length) : jR l pv own fresh (i + 1) = jstep (metR l i l[i].1) pv own fresh l[i] (jR l pv own fresh i) := by
  rw [jR, List.getElem?_eq_getElem h]
theorem jR_len (l : List Opt) (pv : Bool) (own fresh : Int) : ∀ i, i ≤ l.length → (jR l pv own fresh i).1.length + (jR l pv own fresh i).2.length ≤ i
  | 0, _ => by simp [jR]
  | i + 1, h => by
    have ih := jR_len l pv own fresh i (by omega)
    rw [jR_succ (by omega), jstep]
    split
    · simp; omega
    · split
      · simp; omega
      · omega
def judR (l : List Opt) (pv : Bool) (own fresh : Int) : Int × List Opt :=
  if 0 < (jR l pv own fresh l.length).1.length then (4, (jR l pv own fresh l.length).1) else if 0 < (jR l pv own fresh l.length).2.length then (3, (jR l pv own fresh l.length).2) else (2, l)
theorem o_row (l : List Opt) : rowV 2 0 l.length (some (.row ((oes l).map .v))) = some (.slc 2 (oes l)) := by
  have e : ((oes l).map D.v).take l.length = (oes l).map D.v := List.take_of_length_le (by simp [oes_len])
  have q : ∀ (l : List Opt), toVL ((oes l).map .v) = some (oes l) := fun l => by
    induction l with
    | nil => rfl
    | cons x l ih =>
      simp only [oes] at ih
      simp only [oes, List.map_cons, toVL, toV, Option.bind_some, ih, Option.map_some]
  simp only [rowV, Nat.zero_add]
  rw [if_pos (by simp [oes_len]), List.drop_zero, e, q]; rfl
def judD (l : List Opt) (pv : Bool) (own fresh : Int) : D :=
  if (judR l pv own fresh).1 = 2 then .v (.slc 2 (oes (judR l pv own fresh).2)) else .lin 2 (oes (judR l pv own fresh).2)
theorem judD_or (l : List Opt) (pv : Bool) (own fresh : Int) : judD l pv own fresh = .v (.slc 2 (oes (judR l pv own fresh).2)) ∨ judD l pv own fresh = .lin 2 (oes (judR l pv own fresh).2) := by
  unfold judD
  split
  · exact .inl rfl
  · exact .inr rfl
theorem accG_pos {l : List Opt} (h : 0 < l.length) : accG 2 (oes l) = .lin 2 (oes l) := by
  cases l with
  | nil => simp at h
  | cons o l => rfl
theorem j_judge (l : List Opt) (pv : Bool) (own fresh : Int) (hl : okL l) (hn : l.length ≤ 40) (h1 : 0 ≤ own ∧ own ≤ 4294967295) (h2 : 0 ≤ fresh ∧ fresh ≤ 4294967295) :
    run G 131 [.v (.slc 2 (oes l)), .v (.bool pv), .v (.int .u32 own), .v (.int .u32 fresh)] [] = some (.tup [.v (.int .u8 (judR l pv own fresh).1), judD l pv own fresh], []) := by
  rw [xq_fn G rfl lcpo_Judge.g _ _ rfl]
  have hM := hmax
  have L := lpFor (G := G) (kill := [12, 13, 14]) (body := lcpo_Judge.l0) (fun i => [.v (.slc 2 (oes l)), .v (.bool pv), .v (.int .u32 own), .v (.int .u32 fresh), .v (.int .u8 0), .nils 2,
      accG 2 (oes (jR l pv own fresh i).1), accG 2 (oes (jR l pv own fresh i).2), .map ⟨0, 0⟩, .v (.slc 2 (oes l)), .v (.int .i64 (l.length : Nat)), .v (.int .i64 i), .undef, .undef, .undef]) (fun i => [[.mp (em (dd (kds (l.take i))))]]) l.length
    (fun i hi => by
      have ho := hl _ (List.getElem_mem hi)
      have hx := oes_at (List.getElem?_eq_getElem hi)
      have jl := jR_len l pv own fresh i (by omega)
      have ha := ac_app 2 (oes (jR l pv own fresh i).1) 32 [oe l[i]] (by simp) (by rw [oes_len]; simp; omega)
      have hb := ac_app 2 (oes (jR l pv own fresh i).2) 32 [oe (betR l[i] own fresh).1] (by simp) (by rw [oes_len]; simp; omega)
      have b := j_better l[i] own fresh ho h1 h2
      have r := j_right l[i]
      have ef := em_find l[i].1 (dd (kds (l.take i)))
      have ep := em_put l[i].1 (dd (kds (l.take i)))
      have em1 : (dd (kds (l.take i))).contains l[i].1 = metR l i l[i].1 := by rw [dd, dds_mem]; simp [metR]
      have em2 : (if (dd (kds (l.take i))).contains l[i].1 = true then dd (kds (l.take i)) else dd (kds (l.take i)) ++ [l[i].1]) = dd (kds (l.take (i + 1))) := by
        rw [take_succ hi, kds_app, dd, dd, show kds [l[i]] = [l[i].1] from rfl, dds_app]
      rw [em2] at ep
      rw [em1] at ef
      have e1 : oes (jR l pv own fresh i).1 ++ [oe l[i]] = oes ((jR l pv own fresh i).1 ++ [l[i]]) := by rw [← oes_app]; rfl
      have e2 : oes (jR l pv own fresh i).2 ++ [oe (betR l[i] own fresh).1] = oes ((jR l pv own fresh i).2 ++ [(betR l[i] own fresh).1]) := by rw [← oes_app]; rfl
      rw [e1] at ha
      rw [e2] at hb
      have mv : mapV 1 (D.v (.bool true)) = true := rfl
      rw [jR_succ hi]
      unfold jstep
      generalize jR l pv own fresh i = s at *
      generalize metR l i l[i].1 = m at *
      generalize betR l[i] own fresh = bt at *
      generalize em (dd (kds (List.take i l))) = em0 at *
      generalize em (dd (kds (List.take (i + 1) l))) = em9 at *
      cases hr : rightR l[i] with
      | false =>
        rw [hr] at r
        simp -implicitDefEqProofs (maxSteps := 2000000) (disch := omega) only [lcpo_Judge.l0, oes_len, hx, b, r, ha, hb, ep, mv, go_sem, reduceIte, Nat.reduceAdd, Nat.reduceSub, Nat.reduceMul, Nat.reduceLeDiff, Nat.reduceLT, Nat.reduceEqDiff, Int.reduceToNat, Int.reduceLT, Int.reduceLE, Int.reduceEq, Int.reduceNe, Int.reduceAdd, Int.reduceSub, Int.reduceMul, Int.reduceNeg, Int.reduceBEq, Int.reduceBNe, reduceCtorEq, dreduceIte, oWS, oW8, oW16, oW32, oW64, oLtT, oLtF, oLeT, oLeF, oNLtT, oNLtF, oNLeT, oNLeF, oEqT, oEqF, oNEqT, oNEqF, oBeqT, oBeqF, oBneT, oBneF, Int.natCast_add, List.take_length]
      | true =>
        rw [hr] at r
        cases m with
        | true =>
          simp -implicitDefEqProofs (maxSteps := 2000000) (disch := omega) only [lcpo_Judge.l0, oes_len, hx, b, r, ef, ha, hb, ep, mv, go_sem, reduceIte, Nat.reduceAdd, Nat.reduceSub, Nat.reduceMul, Nat.reduceLeDiff, Nat.reduceLT, Nat.reduceEqDiff, Int.reduceToNat, Int.reduceLT, Int.reduceLE, Int.reduceEq, Int.reduceNe, Int.reduceAdd, Int.reduceSub, Int.reduceMul, Int.reduceNeg, Int.reduceBEq, Int.reduceBNe, reduceCtorEq, dreduceIte, oWS, oW8, oW16, oW32, oW64, oLtT, oLtF, oLeT, oLeF, oNLtT, oNLtF, oNLeT, oNLeF, oEqT, oEqF, oNEqT, oNEqF, oBeqT, oBeqF, oBneT, oBneF, Int.natCast_add, List.take_length]
        | false =>
          by_cases k3 : l[i].1 = 3
          · cases pv with
            | false => simp -implicitDefEqProofs (maxSteps := 2000000) (disch := omega) only [lcpo_Judge.l0, oes_len, hx, b, r, ef, ha, hb, ep, mv, go_sem, reduceIte, Nat.reduceAdd, Nat.reduceSub, Nat.reduceMul, Nat.reduceLeDiff, Nat.reduceLT, Nat.reduceEqDiff, Int.reduceToNat, Int.reduceLT, Int.reduceLE, Int.reduceEq, Int.reduceNe, Int.reduceAdd, Int.reduceSub, Int.reduceMul, Int.reduceNeg, Int.reduceBEq, Int.reduceBNe, reduceCtorEq, dreduceIte, oWS, oW8, oW16, oW32, oW64, oLtT, oLtF, oLeT, oLeF, oNLtT, oNLtF, oNLeT, oNLeF, oEqT, oEqF, oNEqT, oNEqF, oBeqT, oBeqF, oBneT, oBneF, Int.natCast_add, List.take_length]
            | true =>
              cases hbt : bt.2 with
              | false => rw [hbt] at b; simp -implicitDefEqProofs (maxSteps := 2000000) (disch := omega) only [lcpo_Judge.l0, oes_len, hx, b, r, ef, ha, hb, ep, mv, go_sem, reduceIte, Nat.reduceAdd, Nat.reduceSub, Nat.reduceMul, Nat.reduceLeDiff, Nat.reduceLT, Nat.reduceEqDiff, Int.reduceToNat, Int.reduceLT, Int.reduceLE, Int.reduceEq, Int.reduceNe, Int.reduceAdd, Int.reduceSub, Int.reduceMul, Int.reduceNeg, Int.reduceBEq, Int.reduceBNe, reduceCtorEq, dreduceIte, oWS, oW8, oW16, oW32, oW64, oLtT, oLtF, oLeT, oLeF, oNLtT, oNLtF, oNLeT, oNLeF, oEqT, oEqF, oNEqT, oNEqF, oBeqT, oBeqF, oBneT, oBneF, Int.natCast_add, List.take_length]
              | true => rw [hbt] at b; simp -implicitDefEqProofs (maxSteps := 2000000) (disch := omega) only [lcpo_Judge.l0, oes_len, hx, b, r, ef, ha, hb, ep, mv, go_sem, reduceIte, Nat.reduceAdd, Nat.reduceSub, Nat.reduceMul, Nat.reduceLeDiff, Nat.reduceLT, Nat.reduceEqDiff, Int.reduceToNat, Int.reduceLT, Int.reduceLE, Int.reduceEq, Int.reduceNe, Int.reduceAdd, Int.reduceSub, Int.reduceMul, Int.reduceNeg, Int.reduceBEq, Int.reduceBNe, reduceCtorEq, dreduceIte, oWS, oW8, oW16, oW32, oW64, oLtT, oLtF, oLeT, oLeF, oNLtT, oNLtF, oNLeT, oNLeF, oEqT, oEqF, oNEqT, oNEqF, oBeqT, oBeqF, oBneT, oBneF, Int.natCast_add, List.take_length]
          · cases hbt : bt.2 with
            | false => rw [hbt] at b; simp -implicitDefEqProofs (maxSteps := 2000000) (disch := omega) only [lcpo_Judge.l0, oes_len, hx, b, r, ef, ha, hb, ep, mv, go_sem, reduceIte, Nat.reduceAdd, Nat.reduceSub, Nat.reduceMul, Nat.reduceLeDiff, Nat.reduceLT, Nat.reduceEqDiff, Int.reduceToNat, Int.reduceLT, Int.reduceLE, Int.reduceEq, Int.reduceNe, Int.reduceAdd, Int.reduceSub, Int.reduceMul, Int.reduceNeg, Int.reduceBEq, Int.reduceBNe, reduceCtorEq, dreduceIte, oWS, oW8, oW16, oW32, oW64, oLtT, oLtF, oLeT, oLeF, oNLtT, oNLtF, oNLeT, oNLeF, oEqT, oEqF, oNEqT, oNEqF, oBeqT, oBeqF, oBneT, oBneF, Int.natCast_add, List.take_length]
            | true => rw [hbt] at b; simp -implicitDefEqProofs (maxSteps := 2000000) (disch := omega) only [lcpo_Judge.l0, oes_len, hx, b, r, ef, ha, hb, ep, mv, go_sem, reduceIte, Nat.reduceAdd, Nat.reduceSub, Nat.reduceMul, Nat.reduceLeDiff, Nat.reduceLT, Nat.reduceEqDiff, Int.reduceToNat, Int.reduceLT, Int.reduceLE, Int.reduceEq, Int.reduceNe, Int.reduceAdd, Int.reduceSub, Int.reduceMul, Int.reduceNeg, Int.reduceBEq, Int.reduceBNe, reduceCtorEq, dreduceIte, oWS, oW8, oW16, oW32, oW64, oLtT, oLtF, oLeT, oLeF, oNLtT, oNLtF, oNLeT, oNLeF, oEqT, oEqF, oNEqT, oNEqF, oBeqT, oBeqF, oBneT, oBneF, Int.natCast_add, List.take_length]) (by simp -implicitDefEqProofs (maxSteps := 2000000) (disch := omega) only [lcpo_Judge.l0, go_sem, reduceIte, Nat.reduceAdd, Nat.reduceSub, Nat.reduceMul, Nat.reduceLeDiff, Nat.reduceLT, Nat.reduceEqDiff, Int.reduceToNat, Int.reduceLT, Int.reduceLE, Int.reduceEq, Int.reduceNe, Int.reduceAdd, Int.reduceSub, Int.reduceMul, Int.reduceNeg, Int.reduceBEq, Int.reduceBNe, reduceCtorEq, dreduceIte, oWS, oW8, oW16, oW32, oW64, oLtT, oLtF, oLeT, oLeF, oNLtT, oNLtF, oNLeT, oNLeF, oEqT, oEqF, oNEqT, oNEqF, oBeqT, oBeqF, oBneT, oBneF, Int.natCast_add, List.take_length]; rfl)
  have j0 : jR l pv own fresh 0 = ([], []) := rfl
  have d0 : em (dd (kds [])) = [] := rfl
  simp only [j0, oes_nil, d0, z0, Int.cast_ofNat_Int, List.take_zero, List.map_nil, List.drop_zero, accN, b8_nil, Int.sub_zero, Int.add_zero, Int.zero_add, Nat.zero_add, Nat.sub_zero, List.nil_append, List.append_nil] at L
  unfold judD judR
  by_cases c1 : 0 < (jR l pv own fresh l.length).1.length
  · have a1 := accG_pos c1
    rw [a1] at L
    rw [if_pos c1]
    simp -implicitDefEqProofs (maxSteps := 2000000) (disch := omega) only [lcpo_Judge.s, oes_len, L, go_sem, reduceIte, Nat.reduceAdd, Nat.reduceSub, Nat.reduceMul, Nat.reduceLeDiff, Nat.reduceLT, Nat.reduceEqDiff, Int.reduceToNat, Int.reduceLT, Int.reduceLE, Int.reduceEq, Int.reduceNe, Int.reduceAdd, Int.reduceSub, Int.reduceMul, Int.reduceNeg, Int.reduceBEq, Int.reduceBNe, reduceCtorEq, dreduceIte, oWS, oW8, oW16, oW32, oW64, oLtT, oLtF, oLeT, oLeF, oNLtT, oNLtF, oNLeT, oNLeF, oEqT, oEqF, oNEqT, oNEqF, oBeqT, oBeqF, oBneT, oBneF, Int.natCast_add, List.take_length]
  · rw [if_neg c1]
    have a0 : (jR l pv own fresh l.length).1 = [] := List.eq_nil_of_length_eq_zero (by omega)
    rw [a0] at L
    simp only [oes_nil, z0, Int.cast_ofNat_Int, List.take_zero, List.map_nil, List.drop_zero, accN, b8_nil, Int.sub_zero, Int.add_zero, Int.zero_add, Nat.zero_add, Nat.sub_zero, List.nil_append, List.append_nil] at L
    by_cases c2 : 0 < (jR l pv own fresh l.length).2.length
    · have a1 := accG_pos c2
      rw [a1] at L
      rw [if_pos c2]
      simp -implicitDefEqProofs (maxSteps := 2000000) (disch := omega) only [lcpo_Judge.s, oes_len, L, go_sem, reduceIte, Nat.reduceAdd, Nat.reduceSub, Nat.reduceMul, Nat.reduceLeDiff, Nat.reduceLT, Nat.reduceEqDiff, Int.reduceToNat, Int.reduceLT, Int.reduceLE, Int.reduceEq, Int.reduceNe, Int.reduceAdd, Int.reduceSub, Int.reduceMul, Int.reduceNeg, Int.reduceBEq, Int.reduceBNe, reduceCtorEq, dreduceIte, oWS, oW8, oW16, oW32, oW64, oLtT, oLtF, oLeT, oLeF, oNLtT, oNLtF, oNLeT, oNLeF, oEqT, oEqF, oNEqT, oNEqF, oBeqT, oBeqF, oBneT, oBneF, Int.natCast_add, List.take_length]
    · rw [if_neg c2]
      have a2 : (jR l pv own fresh l.length).2 = [] := List.eq_nil_of_length_eq_zero (by omega)
      rw [a2] at L
      simp only [oes_nil, z0, Int.cast_ofNat_Int, List.take_zero, List.map_nil, List.drop_zero, accN, b8_nil, Int.sub_zero, Int.add_zero, Int.zero_add, Nat.zero_add, Nat.sub_zero, List.nil_append, List.append_nil] at L
      by_cases h0 : l = []
      · subst h0
        have c := clone101n [[.mp (em (dd (kds [])))]]
        simp only [oes_nil, z0, Int.cast_ofNat_Int, List.take_zero, List.map_nil, List.drop_zero, accN, b8_nil, Int.sub_zero, Int.add_zero, Int.zero_add, Nat.zero_add, Nat.sub_zero, List.nil_append, List.append_nil] at c
        simp only [oes_nil, List.length_nil, z0, Int.cast_ofNat_Int, List.take_zero, List.map_nil, List.drop_zero, accN, b8_nil, Int.sub_zero, Int.add_zero, Int.zero_add, Nat.zero_add, Nat.sub_zero, List.nil_append, List.append_nil] at L
        simp -implicitDefEqProofs (maxSteps := 2000000) (disch := omega) only [lcpo_Judge.s, oes_nil, L, c, go_sem, reduceIte, Nat.reduceAdd, Nat.reduceSub, Nat.reduceMul, Nat.reduceLeDiff, Nat.reduceLT, Nat.reduceEqDiff, Int.reduceToNat, Int.reduceLT, Int.reduceLE, Int.reduceEq, Int.reduceNe, Int.reduceAdd, Int.reduceSub, Int.reduceMul, Int.reduceNeg, Int.reduceBEq, Int.reduceBNe, reduceCtorEq, dreduceIte, oWS, oW8, oW16, oW32, oW64, oLtT, oLtF, oLeT, oLeF, oNLtT, oNLtF, oNLeT, oNLeF, oEqT, oEqF, oNEqT, oNEqF, oBeqT, oBeqF, oBneT, oBneF, Int.natCast_add, List.take_length]
      · have c := clone101 l h0 hn [.mp (em (dd (kds l)))] []
        simp only [List.length_nil, List.length_cons, List.cons_append, z0, Int.cast_ofNat_Int, List.take_zero, List.map_nil, List.drop_zero, accN, b8_nil, Int.sub_zero, Int.add_zero, Int.zero_add, Nat.zero_add, Nat.sub_zero, List.nil_append, List.append_nil] at c
        have w := o_row l
        simp -implicitDefEqProofs (maxSteps := 2000000) (disch := omega) only [lcpo_Judge.s, oes_len, L, c, w, go_sem, reduceIte, Nat.reduceAdd, Nat.reduceSub, Nat.reduceMul, Nat.reduceLeDiff, Nat.reduceLT, Nat.reduceEqDiff, Int.reduceToNat, Int.reduceLT, Int.reduceLE, Int.reduceEq, Int.reduceNe, Int.reduceAdd, Int.reduceSub, Int.reduceMul, Int.reduceNeg, Int.reduceBEq, Int.reduceBNe, reduceCtorEq, dreduceIte, oWS, oW8, oW16, oW32, oW64, oLtT, oLtF, oLeT, oLeF, oNLtT, oNLtF, oNLeT, oNLeF, oEqT, oEqF, oNEqT, oNEqF, oBeqT, oBeqF, oBneT, oBneF, Int.natCast_add, List.take_length]
theorem met_fd (l : List Opt) (k : Int) : (fdR l k).2 = (kds l).contains k := by
  unfold fdR
  cases h : l.find? (·.1 == k) with
  | none =>
    have := List.find?_eq_none.1 h
    cases hc : (kds l).contains k with
    | false => rfl
    | true =>
      obtain ⟨o, ho, he⟩ := List.mem_map.1 (List.contains_iff_mem.1 hc)
      exact absurd (by rw [he]; exact beq_self_eq_true k) (this o ho)
  | some o =>
    have h1 := List.find?_some h
    have h2 := List.mem_of_find?_eq_some h
    exact (List.contains_iff_mem.2 (List.mem_map.2 ⟨o, h2, eq_of_beq h1⟩)).symm
theorem bet_ok (o : Opt) (own fresh : Int) : okO (betR o own fresh).1 := by
  have n : ∀ k : Int, k = 1 ∨ k = 3 ∨ k = 5 → 0 ≤ k ∧ k ≤ 255 := fun k h => by omega
  unfold betR
  split
  · exact ⟨n 1 (by simp), big_ok _ _⟩
  split
  · exact ⟨n 3 (by simp), chap_ok⟩
  split
  · exact ⟨n 5 (by simp), big_ok _ _⟩
  · exact ⟨by decide, fun x h => (by cases h)⟩
theorem jR_ok (l : List Opt) (pv : Bool) (own fresh : Int) (hl : okL l) : ∀ i, i ≤ l.length → okL (jR l pv own fresh i).1 ∧ okL (jR l pv own fresh i).2
  | 0, _ => ⟨fun o h => (by cases h), fun o h => (by cases h)⟩
  | i + 1, h => by
    obtain ⟨h1, h2⟩ := jR_ok l pv own fresh hl i (by omega)
    rw [jR_succ (by omega), jstep]
    have ap : ∀ (s : List Opt) (o : Opt), okL s → okO o → okL (s ++ [o]) := fun s o hs ho x hx => (List.mem_append.1 hx).elim (hs x) (fun hh => by rw [List.mem_singleton.1 hh]; exact ho)
    split
    · exact ⟨ap _ _ h1 (hl _ (List.getElem_mem _)), h2⟩
    · split
      · exact ⟨h1, ap _ _ h2 (bet_ok _ _ _)⟩
      · exact ⟨h1, h2⟩
theorem jud_ok (l : List Opt) (pv : Bool) (own fresh : Int) (hl : okL l) (hn : l.length ≤ 40) : okL (judR l pv own fresh).2 ∧ (judR l pv own fresh).2.length ≤ 40 := by
  obtain ⟨h1, h2⟩ := jR_ok l pv own fresh hl l.length (Nat.le_refl _)
  have := jR_len l pv own fresh l.length (Nat.le_refl _)
  unfold judR
  split
  · exact ⟨h1, by simp only; omega⟩
  split
  · exact ⟨h2, by simp only; omega⟩
  · exact ⟨hl, hn⟩
abbrev n2 (a b : Int) : V := .agg [.int .u32 a, .int .u32 b]
end Go.Q
