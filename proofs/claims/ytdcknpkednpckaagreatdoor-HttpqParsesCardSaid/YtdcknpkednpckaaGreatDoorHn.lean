/- Requests laid; the law HttpqLays, in the machine. No condition. -/
import Derived.Test.YtdcknpkednpckaaGreatDoorHm
set_option linter.all false
set_option maxRecDepth 100000
namespace Go.Q
open SOp SCode
attribute [local congr] bind_c map_c
def isIdR (s : List UInt8) : Bool := s.isEmpty || (idR s).isSome
theorem h_isID (s : List UInt8) (hs : s.length ≤ 4000) : run G 23 [.v (.str s)] [] = some (.v (.bool (isIdR s)), []) := by
  have I := h_Id s hs
  unfold isIdR
  rw [xq_fn G rfl httpq_isID.g _ _ rfl]
  have hul := u8L_len
  cases s with
  | nil =>
    have hq : (([] : List UInt8) == []) = true := rfl
    have h0 : idR [] = none := by decide
    rw [h0] at I
    simp only [idO] at I
    have hml : (List.map D.v z16).length = 16 := rfl
    simp only [List.isEmpty_nil, Bool.true_or]
    generalize z16 = z at *
    simp -implicitDefEqProofs (maxSteps := 2000000) (disch := omega) only [httpq_isID.s, hq, I, hml, go_sem, reduceIte, Nat.reduceAdd, Nat.reduceSub, Nat.reduceMul, Nat.reduceLeDiff, Nat.reduceLT, Nat.reduceEqDiff, Int.reduceToNat, Int.reduceLT, Int.reduceLE, Int.reduceEq, Int.reduceNe, Int.reduceAdd, Int.reduceSub, Int.reduceMul, Int.reduceNeg, Int.reduceBEq, Int.reduceBNe, reduceCtorEq, dreduceIte, oWS, oW8, oW16, oW32, oW64, oLtT, oLtF, oLeT, oLeF, oNLtT, oNLtF, oNLeT, oNLeF, oEqT, oEqF, oNEqT, oNEqF, oBeqT, oBeqF, oBneT, oBneF, Int.natCast_add, List.take_length]
  | cons a s =>
    have hq : ((a :: s : List UInt8) == []) = false := rfl
    simp only [List.isEmpty_cons, Bool.false_or]
    generalize (a :: s) = t at *
    cases hi : idR t with
    | none =>
      rw [hi] at I
      simp only [idO] at I
      have hml : (List.map D.v z16).length = 16 := rfl
      simp only [Option.isSome_none]
      generalize z16 = z at *
      simp -implicitDefEqProofs (maxSteps := 2000000) (disch := omega) only [httpq_isID.s, hq, I, hml, go_sem, reduceIte, Nat.reduceAdd, Nat.reduceSub, Nat.reduceMul, Nat.reduceLeDiff, Nat.reduceLT, Nat.reduceEqDiff, Int.reduceToNat, Int.reduceLT, Int.reduceLE, Int.reduceEq, Int.reduceNe, Int.reduceAdd, Int.reduceSub, Int.reduceMul, Int.reduceNeg, Int.reduceBEq, Int.reduceBNe, reduceCtorEq, dreduceIte, oWS, oW8, oW16, oW32, oW64, oLtT, oLtF, oLeT, oLeF, oNLtT, oNLtF, oNLeT, oNLeF, oEqT, oEqF, oNEqT, oNEqF, oBeqT, oBeqF, oBneT, oBneF, Int.natCast_add, List.take_length]
    | some l =>
      rw [hi] at I
      simp only [idO] at I
      have hml : (List.map D.v (u8L l)).length = 16 := by
        rw [List.length_map, u8L_len]
        unfold idR at hi
        split at hi
        · rename_i hc
          obtain ⟨a, b, c, d, e, k1, k2, k3, k4, k5, e1, e2⟩ := id_form hc
          have := unhR_len _ _ hi
          rw [e2] at this
          simp at this; omega
        · cases hi
      simp only [Option.isSome_some]
      generalize u8L l = z at *
      simp -implicitDefEqProofs (maxSteps := 2000000) (disch := omega) only [httpq_isID.s, hq, I, hml, go_sem, reduceIte, Nat.reduceAdd, Nat.reduceSub, Nat.reduceMul, Nat.reduceLeDiff, Nat.reduceLT, Nat.reduceEqDiff, Int.reduceToNat, Int.reduceLT, Int.reduceLE, Int.reduceEq, Int.reduceNe, Int.reduceAdd, Int.reduceSub, Int.reduceMul, Int.reduceNeg, Int.reduceBEq, Int.reduceBNe, reduceCtorEq, dreduceIte, oWS, oW8, oW16, oW32, oW64, oLtT, oLtF, oLeT, oLeF, oNLtT, oNLtF, oNLeT, oNLeF, oEqT, oEqF, oNEqT, oNEqF, oBeqT, oBeqF, oBneT, oBneF, Int.natCast_add, List.take_length]
abbrev reqL : List UInt8 := [83, 83, 84, 80, 95, 68, 85, 80, 76, 69, 88, 95, 80, 79, 83, 84, 32, 47, 115, 114, 97, 95, 123, 66, 65, 49, 57, 53, 57, 56, 48, 45, 67, 68, 52, 57, 45, 52, 53, 56, 98, 45, 57, 69, 50, 51, 45, 67, 56, 52, 69, 69, 48, 65, 68, 67, 68, 55, 53, 125, 47, 32, 72, 84, 84, 80, 47, 49, 46, 49]
abbrev hosL : List UInt8 := [72, 111, 115, 116, 58, 32]
abbrev lenL : List UInt8 := [67, 111, 110, 116, 101, 110, 116, 45, 76, 101, 110, 103, 116, 104, 58, 32, 49, 56, 52, 52, 54, 55, 52, 52, 48, 55, 51, 55, 48, 57, 53, 53, 49, 54, 49, 53]
abbrev corL : List UInt8 := [83, 83, 84, 80, 67, 79, 82, 82, 69, 76, 65, 84, 73, 79, 78, 73, 68, 58, 32]
def layLs (h i : List UInt8) : List (List UInt8) := if i = [] then [reqL, hosL ++ h, lenL] else [reqL, hosL ++ h, lenL, corL ++ i]
def layR (h i : List UInt8) : Option (List UInt8) := if hostR h = true ∧ isIdR i = true then some (flt (layLs h i) ++ [13, 10]) else none
def layO (o : Option (List UInt8)) : D := match o with
  | none => .tup [.lin 1 [], .v (.int .i64 3)]
  | some b => .tup [.lin 1 (u8L b), .v (.int .i64 0)]
theorem joinF_e (ls : List (List UInt8)) (h : ls.length ≤ 10) (h2 : (Lib.join ls [13, 10]).length ≤ 100000) : joinF [.slc 1 (sL ls), .str [13, 10]] = some (.v (.str (Lib.join ls [13, 10]))) := by
  have e1 : ∀ l : List (List UInt8), strsOf (sL l) = some l := fun l => by
    induction l with
    | nil => rfl
    | cons a l ih => simp only [sL, List.map_cons, strsOf] at ih ⊢; rw [ih]; rfl
  simp only [joinF, e1, Option.bind_some]
  rw [if_pos (by omega)]
theorem join3 (a b c : List UInt8) : Lib.join [a, b, c] [13, 10] = jn [a, b, c] := by simp [Lib.join, jn]
theorem join4 (a b c d : List UInt8) : Lib.join [a, b, c, d] [13, 10] = jn [a, b, c, d] := by simp [Lib.join, jn]
theorem p_join (ls : List (List UInt8)) (h : ls.length ≤ 10) (h2 : (Lib.join ls [13, 10]).length ≤ 100000) : run G 24 [.v (.slc 1 (sL ls)), .v (.str [13, 10])] [] = some (.v (.str (Lib.join ls [13, 10])), []) := by
  rw [xq_prim G (f := 24) (F := primPure joinF) (by rfl)]
  simp only [primPure, allV, Option.map_some, Option.bind_some]
  rw [joinF_e ls h h2]
  rfl
theorem h_Lay (h i : List UInt8) (hh : h.length ≤ 1000) (hi : i.length ≤ 1000) : run G 9 [.v (.agg [.str h, .str i])] [] = some (layO (layR h i), []) := by
  have I1 := h_isHost h (by omega)
  have I2 := h_isID i (by omega)
  have hM := hmax
  unfold layR
  rw [xq_fn G rfl httpq_Lay.g _ _ rfl]
  cases c1 : hostR h with
  | false =>
    rw [c1] at I1
    rw [if_neg (fun x => by simp at x)]
    simp only [layO]
    simp -implicitDefEqProofs (maxSteps := 2000000) (disch := omega) only [httpq_Lay.s, I1, go_sem, reduceIte, Nat.reduceAdd, Nat.reduceSub, Nat.reduceMul, Nat.reduceLeDiff, Nat.reduceLT, Nat.reduceEqDiff, Int.reduceToNat, Int.reduceLT, Int.reduceLE, Int.reduceEq, Int.reduceNe, Int.reduceAdd, Int.reduceSub, Int.reduceMul, Int.reduceNeg, Int.reduceBEq, Int.reduceBNe, reduceCtorEq, dreduceIte, oWS, oW8, oW16, oW32, oW64, oLtT, oLtF, oLeT, oLeF, oNLtT, oNLtF, oNLeT, oNLeF, oEqT, oEqF, oNEqT, oNEqF, oBeqT, oBeqF, oBneT, oBneF, Int.natCast_add, List.take_length]
  | true =>
    rw [c1] at I1
    cases c2 : isIdR i with
    | false =>
      rw [c2] at I2
      rw [if_neg (fun x => by simp at x)]
      simp only [layO]
      simp -implicitDefEqProofs (maxSteps := 2000000) (disch := omega) only [httpq_Lay.s, I1, I2, go_sem, reduceIte, Nat.reduceAdd, Nat.reduceSub, Nat.reduceMul, Nat.reduceLeDiff, Nat.reduceLT, Nat.reduceEqDiff, Int.reduceToNat, Int.reduceLT, Int.reduceLE, Int.reduceEq, Int.reduceNe, Int.reduceAdd, Int.reduceSub, Int.reduceMul, Int.reduceNeg, Int.reduceBEq, Int.reduceBNe, reduceCtorEq, dreduceIte, oWS, oW8, oW16, oW32, oW64, oLtT, oLtF, oLeT, oLeF, oNLtT, oNLtF, oNLeT, oNLeF, oEqT, oEqF, oNEqT, oNEqF, oBeqT, oBeqF, oBneT, oBneF, Int.natCast_add, List.take_length]
    | true =>
      rw [c2] at I2
      rw [if_pos ⟨rfl, rfl⟩]
      simp only [layO]
      by_cases hi0 : i = []
      · subst hi0
        have hq : (([] : List UInt8) == []) = true := rfl
        have e : layLs h [] = [reqL, hosL ++ h, lenL] := rfl
        rw [e]
        have hl : (jn [reqL, hosL ++ h, lenL]).length ≤ 2000 := by simp [jn]; omega
        have I3 := p_join [reqL, hosL ++ h, lenL] (by simp) (by rw [join3]; omega)
        rw [join3] at I3
        have e2 : flt [reqL, hosL ++ h, lenL] = jn [reqL, hosL ++ h, lenL] ++ [13, 10] := flt_jn _ (by simp)
        rw [e2]
        have e3 : sL [reqL, hosL ++ h, lenL] = [.str reqL, .str (hosL ++ h), .str lenL] := rfl
        rw [e3] at I3
        generalize jn [reqL, hosL ++ h, lenL] = t at *
        simp only [reqL, lenL, hosL, List.cons_append, List.nil_append] at I3
        simp -implicitDefEqProofs (maxSteps := 2000000) (disch := omega) only [httpq_Lay.s, I1, I2, I3, hq, u8_strV, List.length_append, List.length_cons, List.length_nil, go_sem, reduceIte, Nat.reduceAdd, Nat.reduceSub, Nat.reduceMul, Nat.reduceLeDiff, Nat.reduceLT, Nat.reduceEqDiff, Int.reduceToNat, Int.reduceLT, Int.reduceLE, Int.reduceEq, Int.reduceNe, Int.reduceAdd, Int.reduceSub, Int.reduceMul, Int.reduceNeg, Int.reduceBEq, Int.reduceBNe, reduceCtorEq, dreduceIte, oWS, oW8, oW16, oW32, oW64, oLtT, oLtF, oLeT, oLeF, oNLtT, oNLtF, oNLeT, oNLeF, oEqT, oEqF, oNEqT, oNEqF, oBeqT, oBeqF, oBneT, oBneF, Int.natCast_add, List.take_length]
      · have hq : (i == []) = false := by simpa using hi0
        have e : layLs h i = [reqL, hosL ++ h, lenL, corL ++ i] := by unfold layLs; rw [if_neg hi0]
        rw [e]
        have hl : (jn [reqL, hosL ++ h, lenL, corL ++ i]).length ≤ 4000 := by simp [jn]; omega
        have I3 := p_join [reqL, hosL ++ h, lenL, corL ++ i] (by simp) (by rw [join4]; omega)
        rw [join4] at I3
        have e2 : flt [reqL, hosL ++ h, lenL, corL ++ i] = jn [reqL, hosL ++ h, lenL, corL ++ i] ++ [13, 10] := flt_jn _ (by simp)
        rw [e2]
        have e3 : sL [reqL, hosL ++ h, lenL, corL ++ i] = [.str reqL, .str (hosL ++ h), .str lenL, .str (corL ++ i)] := rfl
        rw [e3] at I3
        generalize jn [reqL, hosL ++ h, lenL, corL ++ i] = t at *
        simp only [reqL, lenL, hosL, corL, List.cons_append, List.nil_append] at I3
        simp -implicitDefEqProofs (maxSteps := 2000000) (disch := omega) only [httpq_Lay.s, I1, I2, I3, hq, hM, u8_strV, List.length_append, List.length_cons, List.length_nil, go_sem, reduceIte, Nat.reduceAdd, Nat.reduceSub, Nat.reduceMul, Nat.reduceLeDiff, Nat.reduceLT, Nat.reduceEqDiff, Int.reduceToNat, Int.reduceLT, Int.reduceLE, Int.reduceEq, Int.reduceNe, Int.reduceAdd, Int.reduceSub, Int.reduceMul, Int.reduceNeg, Int.reduceBEq, Int.reduceBNe, reduceCtorEq, dreduceIte, oWS, oW8, oW16, oW32, oW64, oLtT, oLtF, oLeT, oLeF, oNLtT, oNLtF, oNLeT, oNLeF, oEqT, oEqF, oNEqT, oNEqF, oBeqT, oBeqF, oBneT, oBneF, Int.natCast_add, List.take_length]
theorem a15 : run G 4 [] [] = some (.v (.bool true), []) := run_of (n := 300) (by kernel_rfl)
theorem layR_len (h i : List UInt8) (b : List UInt8) (hh : h.length ≤ 1000) (hi : i.length ≤ 1000) (e : layR h i = some b) : b.length ≤ 4000 := by
  unfold layR at e
  split at e
  · cases e
    unfold layLs
    split
    · simp [flt]; omega
    · simp [flt]; omega
  · cases e
theorem eqVs_u8 : ∀ l : List UInt8, eqVs (List.replicate l.length 1) (u8L l) (u8L l) = some true
  | [] => rfl
  | c :: r => by
    have ih := eqVs_u8 r
    simp only [u8L, List.map_cons, List.length_cons, List.replicate_succ, eqVs] at ih ⊢
    rw [ih]
    simp
theorem idO_shape (i : List UInt8) : ∃ (l : List UInt8) (n : Int), idO (idR i) = .tup [.v (.agg (u8L l)), .v (.int .i64 n)] ∧ l.length = 16 := by
  cases hi : idR i with
  | none => exact ⟨List.replicate 16 0, 3, rfl, rfl⟩
  | some l =>
    refine ⟨l, 0, rfl, ?_⟩
    unfold idR at hi
    split at hi
    · rename_i hc
      obtain ⟨a, b, c, d, e, k1, k2, k3, k4, k5, e1, e2⟩ := id_form hc
      have := unhR_len _ _ hi
      rw [e2] at this
      simp at this; omega
    · cases hi
theorem u8s_of : ∀ (n : Nat) (cs : List V), hasCs (List.replicate n (.int .u8)) cs → ∃ l : List UInt8, cs = u8L l ∧ l.length = n
  | 0, cs, h => by
    simp only [List.replicate_zero, hasCs] at h
    exact ⟨[], h, rfl⟩
  | n + 1, cs, h => by
    simp only [List.replicate_succ, hasCs] at h
    obtain ⟨x, r, rfl, ⟨k, rfl, k0, k1⟩, h2⟩ := h
    obtain ⟨l, rfl, hl⟩ := u8s_of n r h2
    have e0 : IntKind.u8.min = 0 := by decide
    have e1 : IntKind.u8.max = 255 := by decide
    rw [e0] at k0
    rw [e1] at k1
    refine ⟨UInt8.ofNat k.toNat :: l, ?_, by simp [hl]⟩
    have e2 : ((UInt8.ofNat k.toNat).toNat : Int) = k := by rw [UInt8.toNat_ofNat']; omega
    simp only [u8L, List.map_cons, cV, e2]
theorem strs2_of {cs : List V} (h : hasCs [.str, .str] cs) : ∃ a b : List UInt8, cs = [.str a, .str b] := by
  simp only [hasCs] at h
  obtain ⟨x, r, rfl, ⟨a, rfl, _⟩, y, r2, rfl, ⟨b, rfl, _⟩, rfl⟩ := h
  exact ⟨a, b, rfl⟩
end Go.Q
