/- Requests: ids read. No condition. -/
import Derived.Test.YtdcknpkednpckaaGreatDoorHl
set_option linter.all false
set_option maxRecDepth 100000
namespace Go.Q
open SOp SCode
attribute [local congr] bind_c map_c
abbrev z16 : List V := [.int .u8 0, .int .u8 0, .int .u8 0, .int .u8 0, .int .u8 0, .int .u8 0, .int .u8 0, .int .u8 0, .int .u8 0, .int .u8 0, .int .u8 0, .int .u8 0, .int .u8 0, .int .u8 0, .int .u8 0, .int .u8 0]
def idO (o : Option (List UInt8)) : D := match o with
  | none => .tup [.v (.agg z16), .v (.int .i64 3)]
  | some l => .tup [.v (.agg (u8L l)), .v (.int .i64 0)]
theorem p_split (c : UInt8) (s : List UInt8) (h : s.length ≤ 100000) : run G 27 [.v (.str s), .v (.str [c])] [] = some (.lin 1 (sL (splitC c s)), []) := by
  rw [xq_prim G (f := 27) (F := primSplit splitF) (by rfl)]
  simp only [primSplit, splitF, Option.map_some]
  rw [if_pos (by omega)]
  rfl
theorem joinF5e (a b c d e : List UInt8) (h : a.length + b.length + c.length + d.length + e.length ≤ 100000) : joinF [.slc 1 (sL [a, b, c, d, e]), .str []] = some (.v (.str (a ++ b ++ c ++ d ++ e))) := by
  have e1 : strsOf (sL [a, b, c, d, e]) = some [a, b, c, d, e] := rfl
  have e2 : Lib.join [a, b, c, d, e] [] = a ++ b ++ c ++ d ++ e := by simp [Lib.join]
  simp only [joinF, e1, e2, Option.bind_some]
  rw [if_pos (by simp; omega)]
abbrev idE (s : List UInt8) (l : List (List UInt8)) (r : Int) (i : Nat) : List D := [.v (.str s), .ptr ⟨0, 0⟩ 0 0, .v (.int .i64 r), .v (.bool true), .v (.bool true), .lin 1 (sL l), .v (.agg grpL), .v (.int .i64 i), .undef, .undef, .undef, .undef]
abbrev cZ : List (List Blk) := [[Blk.row [D.v (V.agg z16)]]]
theorem id_step (s : List UInt8) (l : List (List UInt8)) (i n : Nat) (hi : i < 5) (h5 : l.length = 5) (x : List UInt8) (hx : (sL l)[i]? = some (.str x)) (hn : grpL[i]? = some (.int .i64 n)) (hl : x.length = n) :
    rndE G [8, 9] httpq_Id.l0 (idE s l 0 i) cZ = some (.inl (idE s l 0 (i + 1), cZ)) := by
  have hgl : grpL.length = 5 := rfl
  have hsl := sL_len l
  have hn2 : (List.map D.v grpL)[i * 1]? = some (.v (.int .i64 n)) := by rw [Nat.mul_one, List.getElem?_map, hn]; rfl
  generalize hg : grpL = gr at *
  simp only [idE, hg]
  generalize sL l = q at *
  generalize z16 = z
  simp -implicitDefEqProofs (maxSteps := 2000000) (disch := omega) only [httpq_Id.l0, hgl, hn2, Function.comp_apply, hx, hsl, go_sem, reduceIte, Nat.reduceAdd, Nat.reduceSub, Nat.reduceMul, Nat.reduceLeDiff, Nat.reduceLT, Nat.reduceEqDiff, Int.reduceToNat, Int.reduceLT, Int.reduceLE, Int.reduceEq, Int.reduceNe, Int.reduceAdd, Int.reduceSub, Int.reduceMul, Int.reduceNeg, Int.reduceBEq, Int.reduceBNe, reduceCtorEq, dreduceIte, oWS, oW8, oW16, oW32, oW64, oLtT, oLtF, oLeT, oLeF, oNLtT, oNLtF, oNLeT, oNLeF, oEqT, oEqF, oNEqT, oNEqF, oBeqT, oBeqF, oBneT, oBneF, Int.natCast_add, List.take_length]
theorem id_bad (s : List UInt8) (l : List (List UInt8)) (i n : Nat) (hi : i < 5) (h5 : l.length = 5) (x : List UInt8) (hx : (sL l)[i]? = some (.str x)) (hn : grpL[i]? = some (.int .i64 n)) (hl : ¬ x.length = n) :
    rndE G [8, 9] httpq_Id.l0 (idE s l 0 i) cZ = some (.inr (.ret, idE s l 3 i, cZ)) := by
  have hgl : grpL.length = 5 := rfl
  have hsl := sL_len l
  have hn2 : (List.map D.v grpL)[i * 1]? = some (.v (.int .i64 n)) := by rw [Nat.mul_one, List.getElem?_map, hn]; rfl
  generalize hg : grpL = gr at *
  simp only [idE, hg]
  generalize sL l = q at *
  simp -implicitDefEqProofs (maxSteps := 2000000) (disch := omega) only [httpq_Id.l0, hgl, hn2, Function.comp_apply, hx, hsl, go_sem, reduceIte, Nat.reduceAdd, Nat.reduceSub, Nat.reduceMul, Nat.reduceLeDiff, Nat.reduceLT, Nat.reduceEqDiff, Int.reduceToNat, Int.reduceLT, Int.reduceLE, Int.reduceEq, Int.reduceNe, Int.reduceAdd, Int.reduceSub, Int.reduceMul, Int.reduceNeg, Int.reduceBEq, Int.reduceBNe, reduceCtorEq, dreduceIte, oWS, oW8, oW16, oW32, oW64, oLtT, oLtF, oLeT, oLeF, oNLtT, oNLtF, oNLeT, oNLeF, oEqT, oEqF, oNEqT, oNEqF, oBeqT, oBeqF, oBneT, oBneF, Int.natCast_add, List.take_length]
abbrev gN : List Nat := [8, 4, 4, 4, 12]
theorem grp_at {i : Nat} (h : i < 5) : grpL[i]? = some (.int .i64 ((gN[i]?.getD 0 : Nat) : Int)) := by
  match i, h with
  | 0, _ => rfl
  | 1, _ => rfl
  | 2, _ => rfl
  | 3, _ => rfl
  | 4, _ => rfl
theorem id_rounds (s : List UInt8) (l : List (List UInt8)) (h5 : l.length = 5) (hs : ∀ x ∈ l, x.length ≤ 4000) :
    (l.map List.length = gN → ex G (.loop [8, 9] httpq_Id.l0) (idE s l 0 0) cZ = some (.exit 0, idE s l 0 5, cZ)) ∧
    (l.map List.length ≠ gN → ∃ j : Nat, ex G (.loop [8, 9] httpq_Id.l0) (idE s l 0 0) cZ = some (.ret, idE s l 3 j, cZ)) := by
  have hlm : (l.map List.length).length = gN.length := by simp [h5]
  have step : ∀ i, i < 5 → l[i]?.map List.length = gN[i]? → rndE G [8, 9] httpq_Id.l0 (idE s l 0 i) cZ = some (.inl (idE s l 0 (i + 1), cZ)) := by
    intro i hi h
    have hil : i < l.length := by omega
    have hx := sL_at hil
    refine id_step s l i _ hi h5 _ hx (grp_at hi) ?_
    rw [← h, List.getElem?_eq_getElem hil]
    rfl
  rcases first_or (fun i => l[i]?.map List.length ≠ gN[i]?) 5 with k | ⟨j, hj, hne, k⟩
  · have he : l.map List.length = gN := by
      apply List.ext_getElem?
      intro i
      rw [List.getElem?_map]
      by_cases hi : i < 5
      · exact Classical.not_not.1 (k i hi)
      · rw [List.getElem?_eq_none (by omega), List.getElem?_eq_none (by show 5 ≤ i; omega)]; rfl
    refine ⟨fun _ => ?_, fun h => absurd he h⟩
    refine lpFor (G := G) (kill := [8, 9]) (body := httpq_Id.l0) (fun i => idE s l 0 i) (fun i => cZ) 5 (fun i hi => step i hi (Classical.not_not.1 (k i hi))) ?_
    simp only [idE]
    generalize sL l = q
    generalize grpL = gr
    simp -implicitDefEqProofs (maxSteps := 2000000) (disch := omega) only [httpq_Id.l0, go_sem, reduceIte, Nat.reduceAdd, Nat.reduceSub, Nat.reduceMul, Nat.reduceLeDiff, Nat.reduceLT, Nat.reduceEqDiff, Int.reduceToNat, Int.reduceLT, Int.reduceLE, Int.reduceEq, Int.reduceNe, Int.reduceAdd, Int.reduceSub, Int.reduceMul, Int.reduceNeg, Int.reduceBEq, Int.reduceBNe, reduceCtorEq, dreduceIte, oWS, oW8, oW16, oW32, oW64, oLtT, oLtF, oLeT, oLeF, oNLtT, oNLtF, oNLeT, oNLeF, oEqT, oEqF, oNEqT, oNEqF, oBeqT, oBeqF, oBneT, oBneF, Int.natCast_add, List.take_length]
  · refine ⟨fun h => absurd (by rw [← h, List.getElem?_map]) hne, fun _ => ⟨j, ?_⟩⟩
    have hjl : j < l.length := by omega
    refine lpFor (G := G) (kill := [8, 9]) (body := httpq_Id.l0) (fun i => idE s l 0 i) (fun i => cZ) j (fun i hi => step i (by omega) (Classical.not_not.1 (k i hi))) ?_
    refine id_bad s l j _ hj h5 _ (sL_at hjl) (grp_at hj) ?_
    intro e
    apply hne
    rw [List.getElem?_eq_getElem hjl, Option.map_some, e]
    match j, hj with
    | 0, _ => rfl
    | 1, _ => rfl
    | 2, _ => rfl
    | 3, _ => rfl
    | 4, _ => rfl
theorem cells1_u8 : ∀ l : List UInt8, cells1 (u8L l) = true
  | [] => rfl
  | c :: r => by
    have := cells1_u8 r
    simp only [u8L, List.map_cons, cells1] at this ⊢
    rw [this]; rfl
theorem cp1_u8 : ∀ l : List UInt8, List.map cp1 (List.map D.v (u8L l)) = List.map D.v (u8L l)
  | [] => rfl
  | c :: r => by
    have := cp1_u8 r
    simp only [u8L, List.map_cons] at this ⊢
    rw [this]; rfl
theorem allV_u8 : ∀ l : List UInt8, allV (List.map D.v (u8L l)) = some (u8L l)
  | [] => rfl
  | c :: r => by
    have := allV_u8 r
    simp only [u8L, List.map_cons, allV] at this ⊢
    rw [this]; rfl
theorem h_Id (s : List UInt8) (hs : s.length ≤ 4000) : run G 10 [.v (.str s)] [] = some (idO (idR s), []) := by
  have I1 := h_CutPrefix 123 s (by omega)
  have hp : (preR 123 s).1.length ≤ s.length := by
    cases s with
    | nil => simp [preR]
    | cons b t => simp only [preR]; split <;> simp
  have I2 := h_CutSuffix 125 (preR 123 s).1 (by omega)
  have hp2 : (sufR 125 (preR 123 s).1).1.length ≤ s.length := by
    unfold sufR; split <;> simp <;> omega
  have I3 := p_split 45 (sufR 125 (preR 123 s).1).1 (by omega)
  have I4 := h_groups
  have hno : ¬ idW s → idR s = none := fun hw => by
    unfold idR
    by_cases hc : idC s
    · rw [if_pos hc]
      cases hu : unhR (idP s) with
      | none => rfl
      | some l => exact absurd (idW_of hc hu) hw
    · rw [if_neg hc]
  have hyes : ∀ a b c d e, splitC 45 (sufR 125 (preR 123 s).1).1 = [a, b, c, d, e] → idW s → idR s = unhR (a ++ b ++ c ++ d ++ e) := fun a b c d e h hw => by
    obtain ⟨a', b', c', d', e', k1, k2, k3⟩ := idW_form hw
    rw [h] at k1
    cases k1
    unfold idR
    rw [if_pos k2, k3]
  have hwl := splitC_word2 45 (sufR 125 (preR 123 s).1).1
  have hll := splitC_len2 45 (sufR 125 (preR 123 s).1).1
  unfold idW at hno hyes
  rw [xq_fn G rfl httpq_Id.g _ _ rfl]
  generalize (preR 123 s).2 = A at *
  generalize (preR 123 s).1 = s1 at *
  generalize (sufR 125 s1).2 = B at *
  generalize (sufR 125 s1).1 = s2 at *
  generalize splitC 45 s2 = l at *
  generalize idR s = o at *
  have hsl := sL_len l
  cases A with
  | false =>
    rw [hno (fun h => by simp at h)]
    simp -implicitDefEqProofs (maxSteps := 2000000) (disch := omega) only [httpq_Id.s, I1, I2, I3, I4, go_sem, reduceIte, Nat.reduceAdd, Nat.reduceSub, Nat.reduceMul, Nat.reduceLeDiff, Nat.reduceLT, Nat.reduceEqDiff, Int.reduceToNat, Int.reduceLT, Int.reduceLE, Int.reduceEq, Int.reduceNe, Int.reduceAdd, Int.reduceSub, Int.reduceMul, Int.reduceNeg, Int.reduceBEq, Int.reduceBNe, reduceCtorEq, dreduceIte, oWS, oW8, oW16, oW32, oW64, oLtT, oLtF, oLeT, oLeF, oNLtT, oNLtF, oNLeT, oNLeF, oEqT, oEqF, oNEqT, oNEqF, oBeqT, oBeqF, oBneT, oBneF, Int.natCast_add, List.take_length]
    rfl
  | true =>
    cases B with
    | false =>
      rw [hno (fun h => by simp at h)]
      simp -implicitDefEqProofs (maxSteps := 2000000) (disch := omega) only [httpq_Id.s, I1, I2, I3, I4, go_sem, reduceIte, Nat.reduceAdd, Nat.reduceSub, Nat.reduceMul, Nat.reduceLeDiff, Nat.reduceLT, Nat.reduceEqDiff, Int.reduceToNat, Int.reduceLT, Int.reduceLE, Int.reduceEq, Int.reduceNe, Int.reduceAdd, Int.reduceSub, Int.reduceMul, Int.reduceNeg, Int.reduceBEq, Int.reduceBNe, reduceCtorEq, dreduceIte, oWS, oW8, oW16, oW32, oW64, oLtT, oLtF, oLeT, oLeF, oNLtT, oNLtF, oNLeT, oNLeF, oEqT, oEqF, oNEqT, oNEqF, oBeqT, oBeqF, oBneT, oBneF, Int.natCast_add, List.take_length]
      rfl
    | true =>
      by_cases h5 : l.length = 5
      · have hg : grpL.length = 5 := rfl
        obtain ⟨R1, R2⟩ := id_rounds s2 l h5 (fun x hx => by have := hwl x hx; omega)
        by_cases hm : l.map List.length = gN
        · obtain ⟨a, b, c, d, e, rfl, k1, k2, k3, k4, k5⟩ := map_len5 hm
          have L := R1 hm
          rw [hyes a b c d e rfl ⟨rfl, rfl, hm⟩]
          have I5 : run G 24 [.v (.slc 1 (sL [a, b, c, d, e])), .v (.str [])] [] = some (.v (.str (a ++ b ++ c ++ d ++ e)), []) := by
            rw [xq_prim G (f := 24) (F := primPure joinF) (by rfl)]
            simp only [primPure, allV, Option.map_some, Option.bind_some]
            rw [joinF5e _ _ _ _ _ (by omega)]
            rfl
          have htl : (a ++ b ++ c ++ d ++ e).length = 32 := by simp; omega
          have I6 := o_Unhex (a ++ b ++ c ++ d ++ e) (by omega)
          have hu := unhR_len (a ++ b ++ c ++ d ++ e)
          rw [htl] at hu
          generalize a ++ b ++ c ++ d ++ e = t at *
          simp only [idE, cZ, z16] at L
          generalize sL [a, b, c, d, e] = q at *
          generalize grpL = gr at *
          simp only [z0, Int.cast_ofNat_Int, List.take_zero, List.map_nil, List.drop_zero, accN, b8_nil, Int.sub_zero, Int.add_zero, Int.zero_add, Nat.zero_add, Nat.sub_zero, List.nil_append, List.append_nil] at L
          cases hr : unhR t with
          | none =>
            rw [hr] at I6
            simp only [unhO] at I6
            simp -implicitDefEqProofs (maxSteps := 2000000) (disch := omega) only [httpq_Id.s, I1, I2, I3, I4, I5, I6, L, hsl, hg, List.length_cons, List.length_nil, go_sem, reduceIte, Nat.reduceAdd, Nat.reduceSub, Nat.reduceMul, Nat.reduceLeDiff, Nat.reduceLT, Nat.reduceEqDiff, Int.reduceToNat, Int.reduceLT, Int.reduceLE, Int.reduceEq, Int.reduceNe, Int.reduceAdd, Int.reduceSub, Int.reduceMul, Int.reduceNeg, Int.reduceBEq, Int.reduceBNe, reduceCtorEq, dreduceIte, oWS, oW8, oW16, oW32, oW64, oLtT, oLtF, oLeT, oLeF, oNLtT, oNLtF, oNLeT, oNLeF, oEqT, oEqF, oNEqT, oNEqF, oBeqT, oBeqF, oBneT, oBneF, Int.natCast_add, List.take_length]
            rfl
          | some r =>
            rw [hr] at I6
            simp only [unhO] at I6
            have hrl := hu r hr
            have hul := u8L_len r
            rw [show r.length = 16 by omega] at hul
            simp only [idO]
            have hs2 : s2aD 16 (D.v (V.slc 1 (u8L r))) = some (.va (u8L r) 0) := by
              simp only [s2aD]
              rw [if_pos ⟨trivial, by omega, cells1_u8 r⟩, List.take_of_length_le (by omega)]
            have hml : (List.map D.v (u8L r)).length = 16 := by rw [List.length_map, hul]
            have hc1 : List.map cp1 (List.take 16 (List.map D.v (u8L r))) = List.map D.v (u8L r) := by rw [List.take_of_length_le (by omega), cp1_u8]
            have hav := allV_u8 r
            have htk : List.take 16 (u8L r) = u8L r := List.take_of_length_le (by omega)
            generalize u8L r = ur at *
            simp -implicitDefEqProofs (maxSteps := 2000000) (disch := omega) only [httpq_Id.s, I1, I2, I3, I4, I5, I6, L, hsl, hg, hul, hml, hs2, htk, hc1, hav, mkAgg1, List.length_cons, List.length_nil, go_sem, reduceIte, Nat.reduceAdd, Nat.reduceSub, Nat.reduceMul, Nat.reduceLeDiff, Nat.reduceLT, Nat.reduceEqDiff, Int.reduceToNat, Int.reduceLT, Int.reduceLE, Int.reduceEq, Int.reduceNe, Int.reduceAdd, Int.reduceSub, Int.reduceMul, Int.reduceNeg, Int.reduceBEq, Int.reduceBNe, reduceCtorEq, dreduceIte, oWS, oW8, oW16, oW32, oW64, oLtT, oLtF, oLeT, oLeF, oNLtT, oNLtF, oNLeT, oNLeF, oEqT, oEqF, oNEqT, oNEqF, oBeqT, oBeqF, oBneT, oBneF, Int.natCast_add, List.take_length]
        · obtain ⟨j, L⟩ := R2 hm
          rw [hno (fun h => hm h.2.2)]
          simp only [idE, cZ, z16] at L
          generalize grpL = gr at *
          simp only [z0, Int.cast_ofNat_Int, List.take_zero, List.map_nil, List.drop_zero, accN, b8_nil, Int.sub_zero, Int.add_zero, Int.zero_add, Nat.zero_add, Nat.sub_zero, List.nil_append, List.append_nil] at L
          generalize sL l = q at *
          simp -implicitDefEqProofs (maxSteps := 2000000) (disch := omega) only [httpq_Id.s, I1, I2, I3, I4, L, hsl, hg, go_sem, reduceIte, Nat.reduceAdd, Nat.reduceSub, Nat.reduceMul, Nat.reduceLeDiff, Nat.reduceLT, Nat.reduceEqDiff, Int.reduceToNat, Int.reduceLT, Int.reduceLE, Int.reduceEq, Int.reduceNe, Int.reduceAdd, Int.reduceSub, Int.reduceMul, Int.reduceNeg, Int.reduceBEq, Int.reduceBNe, reduceCtorEq, dreduceIte, oWS, oW8, oW16, oW32, oW64, oLtT, oLtF, oLeT, oLeF, oNLtT, oNLtF, oNLeT, oNLeF, oEqT, oEqF, oNEqT, oNEqF, oBeqT, oBeqF, oBneT, oBneF, Int.natCast_add, List.take_length]
          rfl
      · rw [hno (fun h => h5 (by have := congrArg List.length h.2.2; simpa using this))]
        have h5' : ¬ (l.length : Int) = 5 := by omega
        generalize sL l = q at *
        simp -implicitDefEqProofs (maxSteps := 2000000) (disch := omega) only [httpq_Id.s, I1, I2, I3, I4, hsl, go_sem, reduceIte, Nat.reduceAdd, Nat.reduceSub, Nat.reduceMul, Nat.reduceLeDiff, Nat.reduceLT, Nat.reduceEqDiff, Int.reduceToNat, Int.reduceLT, Int.reduceLE, Int.reduceEq, Int.reduceNe, Int.reduceAdd, Int.reduceSub, Int.reduceMul, Int.reduceNeg, Int.reduceBEq, Int.reduceBNe, reduceCtorEq, dreduceIte, oWS, oW8, oW16, oW32, oW64, oLtT, oLtF, oLeT, oLeF, oNLtT, oNLtF, oNLeT, oNLeF, oEqT, oEqF, oNEqT, oNEqF, oBeqT, oBeqF, oBneT, oBneF, Int.natCast_add, List.take_length]
        rfl
def mixR (r : List UInt8) (i : Nat) : List V := u8L (r.take i) ++ List.replicate (16 - i) (.int .u8 0)
abbrev riE (s r : List UInt8) (i : Nat) : List D := [.v (.str s), .ptr ⟨0, 0⟩ 0 0, .v (.int .i64 0), .ptr ⟨0, 1⟩ 0 0, .lin 1 (u8L r), .v (.int .i64 0), .v (.int .i64 i)]
abbrev riS (r : List UInt8) (i : Nat) : List (List Blk) := [[Blk.row [D.v (V.agg z16)], Blk.row [D.v (V.agg (mixR r i))]]]
theorem mixR_set (r : List UInt8) (h : r.length = 16) (i : Nat) (hi : i < 16) : (mixR r i).take i ++ [V.int .u8 (r[i].toNat : Int)] ++ (mixR r i).drop (i + 1) = mixR r (i + 1) := by
  have hl : (u8L (r.take i)).length = i := by rw [u8L_len, List.length_take]; omega
  have e1 : u8L (r.take (i + 1)) = u8L (r.take i) ++ [V.int .u8 (r[i].toNat : Int)] := by
    rw [take_succ (by omega), u8L_app]; rfl
  have e2 : 16 - i = (16 - (i + 1)) + 1 := by omega
  unfold mixR
  rw [e1, e2, List.replicate_succ, List.take_left' hl]
  have e3 : List.drop (i + 1) (u8L (List.take i r) ++ V.int IntKind.u8 0 :: List.replicate (16 - (i + 1)) (V.int IntKind.u8 0)) = List.replicate (16 - (i + 1)) (V.int IntKind.u8 0) := by
    have := List.drop_append (l₁ := u8L (List.take i r)) (l₂ := V.int IntKind.u8 0 :: List.replicate (16 - (i + 1)) (V.int IntKind.u8 0)) (i := i + 1)
    rw [this, hl, List.drop_of_length_le (by omega), show i + 1 - i = 1 by omega]
    rfl
  rw [e3]
theorem ri_step (s r : List UInt8) (h : r.length = 16) (i : Nat) (hi : i < 16) : rndE G [] euphroeref15_Id.l0 (riE s r i) (riS r i) = some (.inl (riE s r (i + 1), riS r (i + 1))) := by
  have hx := u8L_at (List.getElem?_eq_getElem (show i < r.length by omega))
  have hul := u8L_len r
  rw [h] at hul
  have hml : (mixR r i).length = 16 := by simp only [mixR, List.length_append, u8L_len, List.length_take, List.length_replicate]; omega
  have hml2 : (List.map D.v (mixR r i)).length = 16 := by rw [List.length_map, hml]
  have hset : List.take (i * 1) (List.map D.v (mixR r i)) ++ [D.v (V.int .u8 (r[i].toNat : Int))] ++ List.drop (i * 1 + 1) (List.map D.v (mixR r i)) = List.map D.v (mixR r (i + 1)) := by
    rw [← mixR_set r h i hi, Nat.mul_one]
    simp [List.map_take, List.map_drop]
  have hav := allV_map (mixR r (i + 1))
  simp only [riE, riS]
  generalize u8L r = ur at *
  generalize mixR r i = m at *
  generalize mixR r (i + 1) = m2 at *
  generalize z16 = z at *
  simp -implicitDefEqProofs (maxSteps := 2000000) (disch := omega) only [euphroeref15_Id.l0, hx, hul, hml, hml2, hset, hav, mkAgg1, go_sem, reduceIte, Nat.reduceAdd, Nat.reduceSub, Nat.reduceMul, Nat.reduceLeDiff, Nat.reduceLT, Nat.reduceEqDiff, Int.reduceToNat, Int.reduceLT, Int.reduceLE, Int.reduceEq, Int.reduceNe, Int.reduceAdd, Int.reduceSub, Int.reduceMul, Int.reduceNeg, Int.reduceBEq, Int.reduceBNe, reduceCtorEq, dreduceIte, oWS, oW8, oW16, oW32, oW64, oLtT, oLtF, oLeT, oLeF, oNLtT, oNLtF, oNLeT, oNLeF, oEqT, oEqF, oNEqT, oNEqF, oBeqT, oBeqF, oBneT, oBneF, Int.natCast_add, List.take_length]
theorem c_int (c : UInt8) (n : Nat) (hn : n < 256) : ((c.toNat : Int) = (n : Int)) ↔ c = UInt8.ofNat n := by
  constructor
  · intro h
    apply UInt8.toNat_inj.1
    rw [UInt8.toNat_ofNat']; omega
  · intro h
    rw [h, UInt8.toNat_ofNat']; omega
theorem r_Id (s : List UInt8) (hs : s.length ≤ 4000) : run G 21 [.v (.str s)] [] = some (idO (idR s), []) := by
  by_cases hC : idC s
  · have hlt := idC s
    obtain ⟨a, b, c, d, e, k1, k2, k3, k4, k5, e1, e2⟩ := id_form hC
    have hpl : (idP s).length = 32 := by rw [e2]; simp; omega
    obtain ⟨g0, g1, g2, g3, g4, g5, g6⟩ := hC
    have hr : idR s = unhR (idP s) := by unfold idR; rw [if_pos ⟨g0, g1, g2, g3, g4, g5, g6⟩]
    rw [hr]
    have I1 := r_Unhex (idP s) (by omega)
    have hu := unhR_len (idP s)
    rw [hpl] at hu
    have q1 : (List.drop 1 (List.take 9 s)).length = 8 := by simp; omega
    have q2 : (List.drop 10 (List.take 14 s)).length = 4 := by simp; omega
    have q3 : (List.drop 15 (List.take 19 s)).length = 4 := by simp; omega
    have q4 : (List.drop 20 (List.take 24 s)).length = 4 := by simp; omega
    have q5 : (List.drop 25 (List.take 37 s)).length = 12 := by simp; omega
    have hP : List.drop 1 (List.take 9 s) ++ (List.drop 10 (List.take 14 s) ++ (List.drop 15 (List.take 19 s) ++ (List.drop 20 (List.take 24 s) ++ List.drop 25 (List.take 37 s)))) = idP s := by simp [idP]
    have n1 : ((123 : UInt8).toNat : Int) = 123 := rfl
    have n2 : ((125 : UInt8).toNat : Int) = 125 := rfl
    have n3 : ((45 : UInt8).toNat : Int) = 45 := rfl
    generalize idP s = t at *
    rw [xq_fn G rfl euphroeref15_Id.g _ _ rfl]
    cases hr2 : unhR t with
    | none =>
      rw [hr2] at I1
      simp only [unhO] at I1
      simp -implicitDefEqProofs (maxSteps := 2000000) (disch := omega) only [euphroeref15_Id.s, g0, g1, g2, g3, g4, g5, g6, n1, n2, n3, q1, q2, q3, q4, q5, hP, I1, List.length_append, List.append_assoc, go_sem, reduceIte, Nat.reduceAdd, Nat.reduceSub, Nat.reduceMul, Nat.reduceLeDiff, Nat.reduceLT, Nat.reduceEqDiff, Int.reduceToNat, Int.reduceLT, Int.reduceLE, Int.reduceEq, Int.reduceNe, Int.reduceAdd, Int.reduceSub, Int.reduceMul, Int.reduceNeg, Int.reduceBEq, Int.reduceBNe, reduceCtorEq, dreduceIte, oWS, oW8, oW16, oW32, oW64, oLtT, oLtF, oLeT, oLeF, oNLtT, oNLtF, oNLeT, oNLeF, oEqT, oEqF, oNEqT, oNEqF, oBeqT, oBeqF, oBneT, oBneF, Int.natCast_add, List.take_length]
      rfl
    | some r =>
      rw [hr2] at I1
      simp only [unhO] at I1
      have hrl : r.length = 16 := by have := hu r hr2; omega
      have L := lpFor (G := G) (kill := []) (body := euphroeref15_Id.l0) (o := (.exit 0, riE s r 16, riS r 16)) (fun i => riE s r i) (fun i => riS r i) 16 (fun i hi => ri_step s r hrl i hi) (by
        simp only [riE, riS]
        generalize u8L r = ur
        generalize mixR r 16 = m
        generalize z16 = z
        simp -implicitDefEqProofs (maxSteps := 2000000) (disch := omega) only [euphroeref15_Id.l0, go_sem, reduceIte, Nat.reduceAdd, Nat.reduceSub, Nat.reduceMul, Nat.reduceLeDiff, Nat.reduceLT, Nat.reduceEqDiff, Int.reduceToNat, Int.reduceLT, Int.reduceLE, Int.reduceEq, Int.reduceNe, Int.reduceAdd, Int.reduceSub, Int.reduceMul, Int.reduceNeg, Int.reduceBEq, Int.reduceBNe, reduceCtorEq, dreduceIte, oWS, oW8, oW16, oW32, oW64, oLtT, oLtF, oLeT, oLeF, oNLtT, oNLtF, oNLeT, oNLeF, oEqT, oEqF, oNEqT, oNEqF, oBeqT, oBeqF, oBneT, oBneF, Int.natCast_add, List.take_length])
      have m0 : mixR r 0 = z16 := rfl
      have m16 : mixR r 16 = u8L r := by unfold mixR; rw [List.take_of_length_le (by omega)]; simp
      have hul := u8L_len r
      rw [hrl] at hul
      have hc1 : List.map cp1 (List.take 16 (List.map D.v (u8L r))) = List.map D.v (u8L r) := by rw [List.take_of_length_le (by simp; omega), cp1_u8]
      have hml : (List.map D.v (u8L r)).length = 16 := by rw [List.length_map, hul]
      have hav := allV_u8 r
      simp only [riE, riS] at L
      rw [m0, m16] at L
      simp only [idO]
      generalize u8L r = ur at *
      simp only [z16] at L
      simp only [z0, Int.cast_ofNat_Int, List.take_zero, List.map_nil, List.drop_zero, accN, b8_nil, Int.sub_zero, Int.add_zero, Int.zero_add, Nat.zero_add, Nat.sub_zero, List.nil_append, List.append_nil] at L
      simp -implicitDefEqProofs (maxSteps := 2000000) (disch := omega) only [euphroeref15_Id.s, g0, g1, g2, g3, g4, g5, g6, n1, n2, n3, q1, q2, q3, q4, q5, hP, I1, L, hul, hml, hc1, hav, mkAgg1, List.length_append, List.append_assoc, go_sem, reduceIte, Nat.reduceAdd, Nat.reduceSub, Nat.reduceMul, Nat.reduceLeDiff, Nat.reduceLT, Nat.reduceEqDiff, Int.reduceToNat, Int.reduceLT, Int.reduceLE, Int.reduceEq, Int.reduceNe, Int.reduceAdd, Int.reduceSub, Int.reduceMul, Int.reduceNeg, Int.reduceBEq, Int.reduceBNe, reduceCtorEq, dreduceIte, oWS, oW8, oW16, oW32, oW64, oLtT, oLtF, oLeT, oLeF, oNLtT, oNLtF, oNLeT, oNLeF, oEqT, oEqF, oNEqT, oNEqF, oBeqT, oBeqF, oBneT, oBneF, Int.natCast_add, List.take_length]
  · have hr : idR s = none := by unfold idR; rw [if_neg hC]
    rw [hr]
    rw [xq_fn G rfl euphroeref15_Id.g _ _ rfl]
    by_cases h38 : s.length = 38
    · have hg : ∀ n, n < 38 → ∃ c, s[n]? = some c := fun n hn => ⟨s[n], List.getElem?_eq_getElem (by omega)⟩
      obtain ⟨c0, g0⟩ := hg 0 (by omega)
      obtain ⟨c1, g1⟩ := hg 37 (by omega)
      obtain ⟨c2, g2⟩ := hg 9 (by omega)
      obtain ⟨c3, g3⟩ := hg 14 (by omega)
      obtain ⟨c4, g4⟩ := hg 19 (by omega)
      obtain ⟨c5, g5⟩ := hg 24 (by omega)
      have hn : ¬ ((c0.toNat : Int) = 123 ∧ (c1.toNat : Int) = 125 ∧ (c2.toNat : Int) = 45 ∧ (c3.toNat : Int) = 45 ∧ (c4.toNat : Int) = 45 ∧ (c5.toNat : Int) = 45) := by
        intro ⟨m0, m1, m2, m3, m4, m5⟩
        apply hC
        refine ⟨h38, ?_, ?_, ?_, ?_, ?_, ?_⟩
        · rw [g0, (c_int c0 123 (by omega)).1 m0]; rfl
        · rw [g1, (c_int c1 125 (by omega)).1 m1]; rfl
        · rw [g2, (c_int c2 45 (by omega)).1 m2]; rfl
        · rw [g3, (c_int c3 45 (by omega)).1 m3]; rfl
        · rw [g4, (c_int c4 45 (by omega)).1 m4]; rfl
        · rw [g5, (c_int c5 45 (by omega)).1 m5]; rfl
      by_cases m0 : (c0.toNat : Int) = 123
      · by_cases m1 : (c1.toNat : Int) = 125
        · by_cases m2 : (c2.toNat : Int) = 45
          · by_cases m3 : (c3.toNat : Int) = 45
            · by_cases m4 : (c4.toNat : Int) = 45
              · have m5 : ¬ (c5.toNat : Int) = 45 := fun m5 => hn ⟨m0, m1, m2, m3, m4, m5⟩
                simp -implicitDefEqProofs (maxSteps := 2000000) (disch := omega) only [euphroeref15_Id.s, h38, g0, g1, g2, g3, g4, g5, m0, m1, m2, m3, m4, m5, go_sem, reduceIte, Nat.reduceAdd, Nat.reduceSub, Nat.reduceMul, Nat.reduceLeDiff, Nat.reduceLT, Nat.reduceEqDiff, Int.reduceToNat, Int.reduceLT, Int.reduceLE, Int.reduceEq, Int.reduceNe, Int.reduceAdd, Int.reduceSub, Int.reduceMul, Int.reduceNeg, Int.reduceBEq, Int.reduceBNe, reduceCtorEq, dreduceIte, oWS, oW8, oW16, oW32, oW64, oLtT, oLtF, oLeT, oLeF, oNLtT, oNLtF, oNLeT, oNLeF, oEqT, oEqF, oNEqT, oNEqF, oBeqT, oBeqF, oBneT, oBneF, Int.natCast_add, List.take_length]
                rfl
              · simp -implicitDefEqProofs (maxSteps := 2000000) (disch := omega) only [euphroeref15_Id.s, h38, g0, g1, g2, g3, g4, m0, m1, m2, m3, m4, go_sem, reduceIte, Nat.reduceAdd, Nat.reduceSub, Nat.reduceMul, Nat.reduceLeDiff, Nat.reduceLT, Nat.reduceEqDiff, Int.reduceToNat, Int.reduceLT, Int.reduceLE, Int.reduceEq, Int.reduceNe, Int.reduceAdd, Int.reduceSub, Int.reduceMul, Int.reduceNeg, Int.reduceBEq, Int.reduceBNe, reduceCtorEq, dreduceIte, oWS, oW8, oW16, oW32, oW64, oLtT, oLtF, oLeT, oLeF, oNLtT, oNLtF, oNLeT, oNLeF, oEqT, oEqF, oNEqT, oNEqF, oBeqT, oBeqF, oBneT, oBneF, Int.natCast_add, List.take_length]
                rfl
            · simp -implicitDefEqProofs (maxSteps := 2000000) (disch := omega) only [euphroeref15_Id.s, h38, g0, g1, g2, g3, m0, m1, m2, m3, go_sem, reduceIte, Nat.reduceAdd, Nat.reduceSub, Nat.reduceMul, Nat.reduceLeDiff, Nat.reduceLT, Nat.reduceEqDiff, Int.reduceToNat, Int.reduceLT, Int.reduceLE, Int.reduceEq, Int.reduceNe, Int.reduceAdd, Int.reduceSub, Int.reduceMul, Int.reduceNeg, Int.reduceBEq, Int.reduceBNe, reduceCtorEq, dreduceIte, oWS, oW8, oW16, oW32, oW64, oLtT, oLtF, oLeT, oLeF, oNLtT, oNLtF, oNLeT, oNLeF, oEqT, oEqF, oNEqT, oNEqF, oBeqT, oBeqF, oBneT, oBneF, Int.natCast_add, List.take_length]
              rfl
          · simp -implicitDefEqProofs (maxSteps := 2000000) (disch := omega) only [euphroeref15_Id.s, h38, g0, g1, g2, m0, m1, m2, go_sem, reduceIte, Nat.reduceAdd, Nat.reduceSub, Nat.reduceMul, Nat.reduceLeDiff, Nat.reduceLT, Nat.reduceEqDiff, Int.reduceToNat, Int.reduceLT, Int.reduceLE, Int.reduceEq, Int.reduceNe, Int.reduceAdd, Int.reduceSub, Int.reduceMul, Int.reduceNeg, Int.reduceBEq, Int.reduceBNe, reduceCtorEq, dreduceIte, oWS, oW8, oW16, oW32, oW64, oLtT, oLtF, oLeT, oLeF, oNLtT, oNLtF, oNLeT, oNLeF, oEqT, oEqF, oNEqT, oNEqF, oBeqT, oBeqF, oBneT, oBneF, Int.natCast_add, List.take_length]
            rfl
        · simp -implicitDefEqProofs (maxSteps := 2000000) (disch := omega) only [euphroeref15_Id.s, h38, g0, g1, m0, m1, go_sem, reduceIte, Nat.reduceAdd, Nat.reduceSub, Nat.reduceMul, Nat.reduceLeDiff, Nat.reduceLT, Nat.reduceEqDiff, Int.reduceToNat, Int.reduceLT, Int.reduceLE, Int.reduceEq, Int.reduceNe, Int.reduceAdd, Int.reduceSub, Int.reduceMul, Int.reduceNeg, Int.reduceBEq, Int.reduceBNe, reduceCtorEq, dreduceIte, oWS, oW8, oW16, oW32, oW64, oLtT, oLtF, oLeT, oLeF, oNLtT, oNLtF, oNLeT, oNLeF, oEqT, oEqF, oNEqT, oNEqF, oBeqT, oBeqF, oBneT, oBneF, Int.natCast_add, List.take_length]
          rfl
      · simp -implicitDefEqProofs (maxSteps := 2000000) (disch := omega) only [euphroeref15_Id.s, h38, g0, m0, go_sem, reduceIte, Nat.reduceAdd, Nat.reduceSub, Nat.reduceMul, Nat.reduceLeDiff, Nat.reduceLT, Nat.reduceEqDiff, Int.reduceToNat, Int.reduceLT, Int.reduceLE, Int.reduceEq, Int.reduceNe, Int.reduceAdd, Int.reduceSub, Int.reduceMul, Int.reduceNeg, Int.reduceBEq, Int.reduceBNe, reduceCtorEq, dreduceIte, oWS, oW8, oW16, oW32, oW64, oLtT, oLtF, oLeT, oLeF, oNLtT, oNLtF, oNLeT, oNLeF, oEqT, oEqF, oNEqT, oNEqF, oBeqT, oBeqF, oBneT, oBneF, Int.natCast_add, List.take_length]
        rfl
    · have h38' : ¬ (s.length : Int) = 38 := by omega
      simp -implicitDefEqProofs (maxSteps := 2000000) (disch := omega) only [euphroeref15_Id.s, h38', go_sem, reduceIte, Nat.reduceAdd, Nat.reduceSub, Nat.reduceMul, Nat.reduceLeDiff, Nat.reduceLT, Nat.reduceEqDiff, Int.reduceToNat, Int.reduceLT, Int.reduceLE, Int.reduceEq, Int.reduceNe, Int.reduceAdd, Int.reduceSub, Int.reduceMul, Int.reduceNeg, Int.reduceBEq, Int.reduceBNe, reduceCtorEq, dreduceIte, oWS, oW8, oW16, oW32, oW64, oLtT, oLtF, oLeT, oLeF, oNLtT, oNLtF, oNLeT, oNLeF, oEqT, oEqF, oNEqT, oNEqF, oBeqT, oBeqF, oBneT, oBneF, Int.natCast_add, List.take_length]
      rfl
end Go.Q
