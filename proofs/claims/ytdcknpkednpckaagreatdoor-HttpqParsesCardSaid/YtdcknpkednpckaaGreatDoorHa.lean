/- Words: what the functions of words and of its reference compute. No condition. -/
import Derived.Test.YtdcknpkednpckaaGreatDoorBx
import Derived.Test.YtdcknpkednpckaaGreatDoorSv
set_option linter.all false
set_option maxRecDepth 100000
namespace Go.Q
open SOp SCode
attribute [local congr] bind_c map_c
abbrev cV (b : UInt8) : V := .int .u8 (b.toNat : Int)
def u8L (l : List UInt8) : List V := l.map cV
theorem u8L_len (l : List UInt8) : (u8L l).length = l.length := by simp [u8L]
theorem u8L_at {l : List UInt8} {i : Nat} {b : UInt8} (h : l[i]? = some b) : (u8L l)[i]? = some (cV b) := by simp [u8L, h]
theorem u8_lt (b : UInt8) : (b.toNat : Int) < 256 := by have := b.toNat_lt; omega
theorem bytesOf_u8L : ∀ l : List UInt8, bytesOf (u8L l) = some l
  | [] => rfl
  | b :: l => by
    have := u8_lt b
    have ih := bytesOf_u8L l
    simp only [u8L] at ih
    simp only [u8L, List.map_cons, bytesOf, ih]
    rw [if_pos ⟨by omega, this⟩]
    simp
def lowN (n : Int) : Int := if 65 ≤ n ∧ n ≤ 90 then n + 32 else n
def lowB (b : UInt8) : UInt8 := if 65 ≤ b.toNat ∧ b.toNat ≤ 90 then UInt8.ofNat (b.toNat + 32) else b
theorem lowB_nat (b : UInt8) : ((lowB b).toNat : Int) = lowN b.toNat := by
  have := b.toNat_lt
  unfold lowB lowN
  by_cases h : 65 ≤ b.toNat ∧ b.toNat ≤ 90
  · rw [if_pos h, if_pos (by omega)]
    simp only [UInt8.toNat_ofNat']
    omega
  · rw [if_neg h, if_neg (by omega)]
theorem lowN_rng (b : UInt8) : 0 ≤ lowN b.toNat ∧ lowN b.toNat ≤ 255 := by
  have := u8_lt b
  unfold lowN
  split <;> omega
theorem w_lower (n : Int) (h : 0 ≤ n ∧ n ≤ 255) : run G 59 [.v (.int .i32 n)] [] = some (.v (.int .i32 (lowN n)), []) := by
  have w1 : IntKind.i32.wrap (n + 97) = n + 97 := by simp only [IntKind.wrap, IntKind.signed, IntKind.bits]; simp; omega
  have w2 : IntKind.i32.wrap (n + 97 - 65) = n + 32 := by simp only [IntKind.wrap, IntKind.signed, IntKind.bits]; simp; omega
  rw [xq_fn G rfl words_lower.g _ _ rfl]
  unfold lowN
  by_cases h1 : 65 ≤ n
  · by_cases h2 : n ≤ 90
    · simp -implicitDefEqProofs (maxSteps := 2000000) (disch := omega) only [words_lower.s, h1, h2, w1, w2, go_sem, reduceIte, Nat.reduceAdd, Nat.reduceSub, Nat.reduceMul, Nat.reduceLeDiff, Nat.reduceLT, Nat.reduceEqDiff, Int.reduceToNat, Int.reduceLT, Int.reduceLE, Int.reduceEq, Int.reduceNe, Int.reduceAdd, Int.reduceSub, Int.reduceMul, Int.reduceNeg, Int.reduceBEq, Int.reduceBNe, reduceCtorEq, dreduceIte, oWS, oW8, oW16, oW32, oW64, oLtT, oLtF, oLeT, oLeF, oNLtT, oNLtF, oNLeT, oNLeF, oEqT, oEqF, oNEqT, oNEqF, oBeqT, oBeqF, oBneT, oBneF, Int.natCast_add, List.take_length]
    · simp -implicitDefEqProofs (maxSteps := 2000000) (disch := omega) only [words_lower.s, h1, h2, go_sem, reduceIte, Nat.reduceAdd, Nat.reduceSub, Nat.reduceMul, Nat.reduceLeDiff, Nat.reduceLT, Nat.reduceEqDiff, Int.reduceToNat, Int.reduceLT, Int.reduceLE, Int.reduceEq, Int.reduceNe, Int.reduceAdd, Int.reduceSub, Int.reduceMul, Int.reduceNeg, Int.reduceBEq, Int.reduceBNe, reduceCtorEq, dreduceIte, oWS, oW8, oW16, oW32, oW64, oLtT, oLtF, oLeT, oLeF, oNLtT, oNLtF, oNLeT, oNLeF, oEqT, oEqF, oNEqT, oNEqF, oBeqT, oBeqF, oBneT, oBneF, Int.natCast_add, List.take_length]
  · simp -implicitDefEqProofs (maxSteps := 2000000) (disch := omega) only [words_lower.s, h1, go_sem, reduceIte, Nat.reduceAdd, Nat.reduceSub, Nat.reduceMul, Nat.reduceLeDiff, Nat.reduceLT, Nat.reduceEqDiff, Int.reduceToNat, Int.reduceLT, Int.reduceLE, Int.reduceEq, Int.reduceNe, Int.reduceAdd, Int.reduceSub, Int.reduceMul, Int.reduceNeg, Int.reduceBEq, Int.reduceBNe, reduceCtorEq, dreduceIte, oWS, oW8, oW16, oW32, oW64, oLtT, oLtF, oLeT, oLeF, oNLtT, oNLtF, oNLeT, oNLeF, oEqT, oEqF, oNEqT, oNEqF, oBeqT, oBeqF, oBneT, oBneF, Int.natCast_add, List.take_length]
theorem r_small (n : Int) (h : 0 ≤ n ∧ n ≤ 255) : run G 63 [.v (.int .u8 n)] [] = some (.v (.int .u8 (lowN n)), []) := by
  rw [xq_fn G rfl euphroeref14_small.g _ _ rfl]
  unfold lowN
  by_cases h1 : 65 ≤ n
  · by_cases h2 : n ≤ 90
    · simp -implicitDefEqProofs (maxSteps := 2000000) (disch := omega) only [euphroeref14_small.s, h1, h2, go_sem, reduceIte, Nat.reduceAdd, Nat.reduceSub, Nat.reduceMul, Nat.reduceLeDiff, Nat.reduceLT, Nat.reduceEqDiff, Int.reduceToNat, Int.reduceLT, Int.reduceLE, Int.reduceEq, Int.reduceNe, Int.reduceAdd, Int.reduceSub, Int.reduceMul, Int.reduceNeg, Int.reduceBEq, Int.reduceBNe, reduceCtorEq, dreduceIte, oWS, oW8, oW16, oW32, oW64, oLtT, oLtF, oLeT, oLeF, oNLtT, oNLtF, oNLeT, oNLeF, oEqT, oEqF, oNEqT, oNEqF, oBeqT, oBeqF, oBneT, oBneF, Int.natCast_add, List.take_length]
    · simp -implicitDefEqProofs (maxSteps := 2000000) (disch := omega) only [euphroeref14_small.s, h1, h2, go_sem, reduceIte, Nat.reduceAdd, Nat.reduceSub, Nat.reduceMul, Nat.reduceLeDiff, Nat.reduceLT, Nat.reduceEqDiff, Int.reduceToNat, Int.reduceLT, Int.reduceLE, Int.reduceEq, Int.reduceNe, Int.reduceAdd, Int.reduceSub, Int.reduceMul, Int.reduceNeg, Int.reduceBEq, Int.reduceBNe, reduceCtorEq, dreduceIte, oWS, oW8, oW16, oW32, oW64, oLtT, oLtF, oLeT, oLeF, oNLtT, oNLtF, oNLeT, oNLeF, oEqT, oEqF, oNEqT, oNEqF, oBeqT, oBeqF, oBneT, oBneF, Int.natCast_add, List.take_length]
  · simp -implicitDefEqProofs (maxSteps := 2000000) (disch := omega) only [euphroeref14_small.s, h1, go_sem, reduceIte, Nat.reduceAdd, Nat.reduceSub, Nat.reduceMul, Nat.reduceLeDiff, Nat.reduceLT, Nat.reduceEqDiff, Int.reduceToNat, Int.reduceLT, Int.reduceLE, Int.reduceEq, Int.reduceNe, Int.reduceAdd, Int.reduceSub, Int.reduceMul, Int.reduceNeg, Int.reduceBEq, Int.reduceBNe, reduceCtorEq, dreduceIte, oWS, oW8, oW16, oW32, oW64, oLtT, oLtF, oLeT, oLeF, oNLtT, oNLtF, oNLeT, oNLeF, oEqT, oEqF, oNEqT, oNEqF, oBeqT, oBeqF, oBneT, oBneF, Int.natCast_add, List.take_length]
def u8R (l : List UInt8) : List D := (u8L l).map .v
theorem u8R_len (l : List UInt8) : (u8R l).length = l.length := by simp [u8R, u8L]
theorem u8R_at {l : List UInt8} {i : Nat} {b : UInt8} (h : l[i]? = some b) : (u8R l)[i]? = some (.v (.int .u8 (b.toNat : Int))) := by simp [u8R, u8L, h]
theorem u8R_set (l : List UInt8) (i : Nat) (b : UInt8) : (u8R l).set i (.v (.int .u8 (b.toNat : Int))) = u8R (l.set i b) := by simp [u8R, u8L, List.map_set]
theorem u8_str (s : List UInt8) : (s.map fun b => D.v (.int .u8 (b.toNat : Int))) = u8R s := by simp [u8R, u8L, List.map_map, Function.comp_def]
theorem u8_strV (s : List UInt8) : (s.map fun b => V.int .u8 (b.toNat : Int)) = u8L s := rfl
theorem toVL_u8 : ∀ (l : List UInt8), toVL (u8R l) = some (u8L l)
  | [] => rfl
  | x :: l => by
    have := toVL_u8 l
    simp only [u8R, u8L] at this
    simp only [u8R, u8L, List.map_cons, toVL, toV, Option.bind_some, this, Option.map_some]
theorem u8_row (l : List UInt8) (n : Nat) (h : n = l.length) : rowV 1 0 n (some (.row (u8R l))) = some (.slc 1 (u8L l)) := by
  subst h
  have e : (u8R l).take l.length = u8R l := List.take_of_length_le (by rw [u8R_len]; exact Nat.le_refl _)
  simp only [rowV, Nat.zero_add]
  rw [if_pos (by rw [u8R_len]; exact Nat.le_refl _), List.drop_zero, e, toVL_u8]; rfl
def lowP (s : List UInt8) (k : Nat) : List UInt8 := (s.take k).map lowB ++ s.drop k
theorem lowP_len (s : List UInt8) (k : Nat) : (lowP s k).length = s.length := by simp [lowP]; omega
theorem lowP_0 (s : List UInt8) : lowP s 0 = s := by simp [lowP]
theorem lowP_n (s : List UInt8) : lowP s s.length = s.map lowB := by simp [lowP]
theorem lowP_at {s : List UInt8} {k : Nat} (h : k < s.length) : (lowP s k)[k]? = some s[k] := by
  simp [lowP, List.getElem?_append_right, h, Nat.min_eq_left (Nat.le_of_lt h)]
theorem lowP_set {s : List UInt8} {k : Nat} (h : k < s.length) : (lowP s k).set k (lowB s[k]) = lowP s (k + 1) := by
  have e : s.drop k = s[k] :: s.drop (k + 1) := List.drop_eq_getElem_cons h
  rw [lowP, e, List.set_append_right _ _ (by simp [Nat.min_eq_left (Nat.le_of_lt h)]), lowP, take_succ h, List.map_append]
  simp [Nat.min_eq_left (Nat.le_of_lt h)]
  rw [e]; rfl
theorem wI32 {n : Int} (h : 0 ≤ n ∧ n ≤ 255) : IntKind.i32.wrap n = n := by simp only [IntKind.wrap, IntKind.signed, IntKind.bits]; simp; omega
theorem w_Lower (s : List UInt8) (h : s.length ≤ 100000) : run G 100 [.v (.str s)] [] = some (.v (.str (s.map lowB)), []) := by
  rw [xq_fn G rfl words_Lower.g _ _ rfl]
  have hM := hmax
  have L := lpFor (G := G) (kill := [6, 7]) (body := words_Lower.l0) (fun i => [.v (.str s), .v (.str []), .own ⟨0, 0⟩ 1 0 s.length false, .own ⟨0, 0⟩ 1 0 s.length false, .v (.int .i64 s.length), .v (.int .i64 i), .undef, .undef])
    (fun i => [[.row (u8R (lowP s i))]]) s.length
    (fun i hi => by
      have hx := u8R_at (lowP_at hi)
      have hl := u8R_len (lowP s i)
      have hl2 := lowP_len s i
      have hs := u8R_set (lowP s i) i (lowB s[i])
      rw [lowP_set hi, lowB_nat] at hs
      have hb := u8_lt s[i]
      have hr := lowN_rng s[i]
      have I := w_lower s[i].toNat ⟨by omega, by omega⟩
      have hw := wI32 (n := s[i].toNat) ⟨by omega, by omega⟩
      generalize lowN (s[i].toNat : Int) = q at *
      generalize (s[i].toNat : Int) = c at *
      simp -implicitDefEqProofs (maxSteps := 2000000) (disch := omega) only [words_Lower.l0, hx, hl, hl2, hs, I, hw, go_sem, reduceIte, Nat.reduceAdd, Nat.reduceSub, Nat.reduceMul, Nat.reduceLeDiff, Nat.reduceLT, Nat.reduceEqDiff, Int.reduceToNat, Int.reduceLT, Int.reduceLE, Int.reduceEq, Int.reduceNe, Int.reduceAdd, Int.reduceSub, Int.reduceMul, Int.reduceNeg, Int.reduceBEq, Int.reduceBNe, reduceCtorEq, dreduceIte, oWS, oW8, oW16, oW32, oW64, oLtT, oLtF, oLeT, oLeF, oNLtT, oNLtF, oNLeT, oNLeF, oEqT, oEqF, oNEqT, oNEqF, oBeqT, oBeqF, oBneT, oBneF, Int.natCast_add, List.take_length])
    (by simp -implicitDefEqProofs (maxSteps := 2000000) (disch := omega) only [words_Lower.l0, go_sem, reduceIte, Nat.reduceAdd, Nat.reduceSub, Nat.reduceMul, Nat.reduceLeDiff, Nat.reduceLT, Nat.reduceEqDiff, Int.reduceToNat, Int.reduceLT, Int.reduceLE, Int.reduceEq, Int.reduceNe, Int.reduceAdd, Int.reduceSub, Int.reduceMul, Int.reduceNeg, Int.reduceBEq, Int.reduceBNe, reduceCtorEq, dreduceIte, oWS, oW8, oW16, oW32, oW64, oLtT, oLtF, oLeT, oLeF, oNLtT, oNLtF, oNLeT, oNLeF, oEqT, oEqF, oNEqT, oNEqF, oBeqT, oBeqF, oBneT, oBneF, Int.natCast_add, List.take_length]; rfl)
  simp only [z0, Int.cast_ofNat_Int, List.take_zero, List.map_nil, List.drop_zero, accN, b8_nil, Int.sub_zero, Int.add_zero, Int.zero_add, Nat.zero_add, Nat.sub_zero, List.nil_append, List.append_nil] at L
  have hr := u8_row (s.map lowB) s.length (by simp)
  have hb := bytesOf_u8L (s.map lowB)
  rw [lowP_n, lowP_0] at L
  simp -implicitDefEqProofs (maxSteps := 2000000) (disch := omega) only [words_Lower.s, L, u8_str, u8R_len, hr, hb, slcOf, go_sem, reduceIte, Nat.reduceAdd, Nat.reduceSub, Nat.reduceMul, Nat.reduceLeDiff, Nat.reduceLT, Nat.reduceEqDiff, Int.reduceToNat, Int.reduceLT, Int.reduceLE, Int.reduceEq, Int.reduceNe, Int.reduceAdd, Int.reduceSub, Int.reduceMul, Int.reduceNeg, Int.reduceBEq, Int.reduceBNe, reduceCtorEq, dreduceIte, oWS, oW8, oW16, oW32, oW64, oLtT, oLtF, oLeT, oLeF, oNLtT, oNLtF, oNLeT, oNLeF, oEqT, oEqF, oNEqT, oNEqF, oBeqT, oBeqF, oBneT, oBneF, Int.natCast_add, List.take_length]
def zerP (s : List UInt8) (k : Nat) : List UInt8 := (s.take k).map lowB ++ List.replicate (s.length - k) 0
theorem zerP_len (s : List UInt8) (k : Nat) : (zerP s k).length = s.length ∨ s.length < k := by
  simp [zerP]; omega
theorem zerP_0 (s : List UInt8) : u8R (zerP s 0) = List.replicate s.length (.v (.int .u8 0)) := by simp [zerP, u8R, u8L]
theorem zerP_n (s : List UInt8) : zerP s s.length = s.map lowB := by simp [zerP]
theorem zerP_set {s : List UInt8} {k : Nat} (h : k < s.length) : (zerP s k).set k (lowB s[k]) = zerP s (k + 1) := by
  have e : s.length - k = (s.length - (k + 1)) + 1 := by omega
  rw [zerP, e, List.replicate_succ, List.set_append_right _ _ (by simp [Nat.min_eq_left (Nat.le_of_lt h)]), zerP, take_succ h, List.map_append]
  simp [Nat.min_eq_left (Nat.le_of_lt h)]
theorem zerP_at {s : List UInt8} {k : Nat} (h : k < s.length) : (zerP s k)[k]? = some 0 := by
  have e : s.length - k = (s.length - (k + 1)) + 1 := by omega
  rw [zerP, e, List.replicate_succ, List.getElem?_append_right (by simp [Nat.min_eq_left (Nat.le_of_lt h)])]
  simp [Nat.min_eq_left (Nat.le_of_lt h)]
theorem r_Lower (s : List UInt8) (h : s.length ≤ 100000) : run G 65 [.v (.str s)] [] = some (.v (.str (s.map lowB)), []) := by
  rw [xq_fn G rfl euphroeref14_Lower.g _ _ rfl]
  have hM := hmax
  have L := lpFor (G := G) (kill := []) (body := euphroeref14_Lower.l0) (fun i => [.v (.str s), .v (.str []), .own ⟨0, 0⟩ 1 0 s.length true, .v (.int .i64 i)])
    (fun i => [[.row (u8R (zerP s i))]]) s.length
    (fun i hi => by
      have hx : s[i]? = some s[i] := List.getElem?_eq_getElem hi
      have hl := u8R_len (zerP s i)
      have hl2 : (zerP s i).length = s.length := (zerP_len s i).resolve_right (by omega)
      have hs := u8R_set (zerP s i) i (lowB s[i])
      rw [zerP_set hi, lowB_nat] at hs
      have hb := u8_lt s[i]
      have hr := lowN_rng s[i]
      have I := r_small s[i].toNat ⟨by omega, by omega⟩
      have hz := u8R_at (zerP_at hi)
      simp -implicitDefEqProofs (maxSteps := 2000000) (disch := omega) only [euphroeref14_Lower.l0, hx, hz, hl, hl2, hs, I, go_sem, reduceIte, Nat.reduceAdd, Nat.reduceSub, Nat.reduceMul, Nat.reduceLeDiff, Nat.reduceLT, Nat.reduceEqDiff, Int.reduceToNat, Int.reduceLT, Int.reduceLE, Int.reduceEq, Int.reduceNe, Int.reduceAdd, Int.reduceSub, Int.reduceMul, Int.reduceNeg, Int.reduceBEq, Int.reduceBNe, reduceCtorEq, dreduceIte, oWS, oW8, oW16, oW32, oW64, oLtT, oLtF, oLeT, oLeF, oNLtT, oNLtF, oNLeT, oNLeF, oEqT, oEqF, oNEqT, oNEqF, oBeqT, oBeqF, oBneT, oBneF, Int.natCast_add, List.take_length])
    (by simp -implicitDefEqProofs (maxSteps := 2000000) (disch := omega) only [euphroeref14_Lower.l0, go_sem, reduceIte, Nat.reduceAdd, Nat.reduceSub, Nat.reduceMul, Nat.reduceLeDiff, Nat.reduceLT, Nat.reduceEqDiff, Int.reduceToNat, Int.reduceLT, Int.reduceLE, Int.reduceEq, Int.reduceNe, Int.reduceAdd, Int.reduceSub, Int.reduceMul, Int.reduceNeg, Int.reduceBEq, Int.reduceBNe, reduceCtorEq, dreduceIte, oWS, oW8, oW16, oW32, oW64, oLtT, oLtF, oLeT, oLeF, oNLtT, oNLtF, oNLeT, oNLeF, oEqT, oEqF, oNEqT, oNEqF, oBeqT, oBeqF, oBneT, oBneF, Int.natCast_add, List.take_length]; rfl)
  simp only [z0, Int.cast_ofNat_Int, List.take_zero, List.map_nil, List.drop_zero, accN, b8_nil, Int.sub_zero, Int.add_zero, Int.zero_add, Nat.zero_add, Nat.sub_zero, List.nil_append, List.append_nil] at L
  have hr := u8_row (s.map lowB) s.length (by simp)
  have hb := bytesOf_u8L (s.map lowB)
  rw [zerP_n, zerP_0] at L
  simp -implicitDefEqProofs (maxSteps := 2000000) (disch := omega) only [euphroeref14_Lower.s, L, makeD, addB, hr, hb, slcOf, hM, go_sem, reduceIte, Nat.reduceAdd, Nat.reduceSub, Nat.reduceMul, Nat.reduceLeDiff, Nat.reduceLT, Nat.reduceEqDiff, Int.reduceToNat, Int.reduceLT, Int.reduceLE, Int.reduceEq, Int.reduceNe, Int.reduceAdd, Int.reduceSub, Int.reduceMul, Int.reduceNeg, Int.reduceBEq, Int.reduceBNe, reduceCtorEq, dreduceIte, oWS, oW8, oW16, oW32, oW64, oLtT, oLtF, oLeT, oLeF, oNLtT, oNLtF, oNLeT, oNLeF, oEqT, oEqF, oNEqT, oNEqF, oBeqT, oBeqF, oBneT, oBneF, Int.natCast_add, List.take_length]
theorem w_Alike (s t : List UInt8) (h : s.length ≤ 100000) (h2 : t.length ≤ 100000) : run G 88 [.v (.str s), .v (.str t)] [] = some (.v (.bool (s.map lowB == t.map lowB)), []) := by
  rw [xq_fn G rfl words_Alike.g _ _ rfl]
  simp -implicitDefEqProofs (maxSteps := 2000000) (disch := omega) only [words_Alike.s, w_Lower s h, w_Lower t h2, go_sem, reduceIte, Nat.reduceAdd, Nat.reduceSub, Nat.reduceMul, Nat.reduceLeDiff, Nat.reduceLT, Nat.reduceEqDiff, Int.reduceToNat, Int.reduceLT, Int.reduceLE, Int.reduceEq, Int.reduceNe, Int.reduceAdd, Int.reduceSub, Int.reduceMul, Int.reduceNeg, Int.reduceBEq, Int.reduceBNe, reduceCtorEq, dreduceIte, oWS, oW8, oW16, oW32, oW64, oLtT, oLtF, oLeT, oLeF, oNLtT, oNLtF, oNLeT, oNLeF, oEqT, oEqF, oNEqT, oNEqF, oBeqT, oBeqF, oBneT, oBneF, Int.natCast_add, List.take_length]
theorem r_Alike (s t : List UInt8) (h : s.length ≤ 100000) (h2 : t.length ≤ 100000) : run G 43 [.v (.str s), .v (.str t)] [] = some (.v (.bool (s.map lowB == t.map lowB)), []) := by
  rw [xq_fn G rfl euphroeref14_Alike.g _ _ rfl]
  simp -implicitDefEqProofs (maxSteps := 2000000) (disch := omega) only [euphroeref14_Alike.s, r_Lower s h, r_Lower t h2, go_sem, reduceIte, Nat.reduceAdd, Nat.reduceSub, Nat.reduceMul, Nat.reduceLeDiff, Nat.reduceLT, Nat.reduceEqDiff, Int.reduceToNat, Int.reduceLT, Int.reduceLE, Int.reduceEq, Int.reduceNe, Int.reduceAdd, Int.reduceSub, Int.reduceMul, Int.reduceNeg, Int.reduceBEq, Int.reduceBNe, reduceCtorEq, dreduceIte, oWS, oW8, oW16, oW32, oW64, oLtT, oLtF, oLeT, oLeF, oNLtT, oNLtF, oNLeT, oNLeF, oEqT, oEqF, oNEqT, oNEqF, oBeqT, oBeqF, oBneT, oBneF, Int.natCast_add, List.take_length]
def tokN (n : Int) : Bool := decide (97 ≤ n ∧ n ≤ 122) || decide (48 ≤ n ∧ n ≤ 57) || n == 45 || n == 95 || n == 46 || n == 123 || n == 125 || n == 47
theorem tokB_low (b : UInt8) : tokN (lowN b.toNat) = tokB b := by
  have key : ∀ n : Nat, n < 256 → tokN (lowN n) = tokB (UInt8.ofNat n) := by decide +kernel
  have := key b.toNat b.toNat_lt
  simpa using this
theorem p_Token : G.prim 36 = some (primPure tokenF) := by rfl
theorem w_Token (s : List UInt8) : run G 36 [.v (.str s)] [] = some (.v (.bool (decide (1 ≤ s.length ∧ s.length ≤ 64) && s.all tokB)), []) := by
  rw [xq_prim G p_Token]
  simp only [primPure, allV, Option.map_some, Option.bind_some, tokenF]
theorem tok_true {q : Int} (h : tokN q = true) : q = 45 ∨ q = 46 ∨ q = 47 ∨ (48 ≤ q ∧ q ≤ 57) ∨ q = 95 ∨ (97 ≤ q ∧ q ≤ 122) ∨ q = 123 ∨ q = 125 := by
  simp [tokN] at h; omega
theorem tok_false {q : Int} (h : tokN q = false) : q < 45 ∨ (58 ≤ q ∧ q ≤ 94) ∨ q = 96 ∨ q = 124 ∨ 126 ≤ q := by
  simp [tokN] at h; omega
theorem all_first (f : UInt8 → Bool) (s : List UInt8) : (s.all f = true ∧ ∀ i (h : i < s.length), f s[i] = true) ∨ (s.all f = false ∧ ∃ j, ∃ h : j < s.length, f s[j] = false ∧ ∀ i (h : i < s.length), i < j → f s[i] = true) := by
  rcases first_or (fun i => ∃ h : i < s.length, f s[i] = false) s.length with h | ⟨j, hj, ⟨h1, h2⟩, h3⟩
  · have key : ∀ i (h : i < s.length), f s[i] = true := fun i hi => by
      have := h i hi
      cases hf : f s[i] with
      | true => rfl
      | false => exact absurd ⟨hi, hf⟩ this
    refine .inl ⟨List.all_eq_true.2 fun x hx => ?_, key⟩
    obtain ⟨i, hi, rfl⟩ := List.getElem_of_mem hx
    exact key i hi
  · refine .inr ⟨?_, j, h1, h2, fun i hi hlt => ?_⟩
    · rw [List.all_eq_false]
      exact ⟨s[j], List.getElem_mem h1, by rw [h2]; simp⟩
    · have := h3 i hlt
      cases hf : f s[i] with
      | true => rfl
      | false => exact absurd ⟨hi, hf⟩ this
theorem r_Token (s : List UInt8) (h : s.length ≤ 100000) : run G 41 [.v (.str s)] [] = some (.v (.bool (decide (1 ≤ s.length ∧ s.length ≤ 64) && s.all tokB)), []) := by
  rw [xq_fn G rfl euphroeref14_Token.g _ _ rfl]
  have hM := hmax
  have step : ∀ i, (hi : i < s.length) → tokB s[i] = true → rndE G [3] euphroeref14_Token.l0 [.v (.str s), .v (.bool false), .v (.int .i64 i), .undef] [[]] = some (.inl ([.v (.str s), .v (.bool false), .v (.int .i64 ((i + 1 : Nat) : Int)), .undef], [[]])) := fun i hi ht => by
    have hx : s[i]? = some s[i] := List.getElem?_eq_getElem hi
    have hr := lowN_rng s[i]
    have hb := u8_lt s[i]
    have I := r_small s[i].toNat ⟨by omega, by omega⟩
    rw [← tokB_low] at ht
    generalize lowN (s[i].toNat : Int) = q at *
    rcases tok_true ht with rfl | rfl | rfl | h1 | rfl | h1 | rfl | rfl <;> simp -implicitDefEqProofs (maxSteps := 2000000) (disch := omega) only [euphroeref14_Token.l0, hx, I, go_sem, reduceIte, Nat.reduceAdd, Nat.reduceSub, Nat.reduceMul, Nat.reduceLeDiff, Nat.reduceLT, Nat.reduceEqDiff, Int.reduceToNat, Int.reduceLT, Int.reduceLE, Int.reduceEq, Int.reduceNe, Int.reduceAdd, Int.reduceSub, Int.reduceMul, Int.reduceNeg, Int.reduceBEq, Int.reduceBNe, reduceCtorEq, dreduceIte, oWS, oW8, oW16, oW32, oW64, oLtT, oLtF, oLeT, oLeF, oNLtT, oNLtF, oNLeT, oNLeF, oEqT, oEqF, oNEqT, oNEqF, oBeqT, oBeqF, oBneT, oBneF, Int.natCast_add, List.take_length]
  rcases all_first tokB s with ⟨e, hall⟩ | ⟨e, j, hj, hf, hall⟩
  · rw [e]
    have L := lpFor (G := G) (kill := [3]) (body := euphroeref14_Token.l0) (fun i => [.v (.str s), .v (.bool false), .v (.int .i64 i), .undef]) (fun i => [[]]) s.length (fun i hi => step i hi (hall i hi)) (by simp -implicitDefEqProofs (maxSteps := 2000000) (disch := omega) only [euphroeref14_Token.l0, go_sem, reduceIte, Nat.reduceAdd, Nat.reduceSub, Nat.reduceMul, Nat.reduceLeDiff, Nat.reduceLT, Nat.reduceEqDiff, Int.reduceToNat, Int.reduceLT, Int.reduceLE, Int.reduceEq, Int.reduceNe, Int.reduceAdd, Int.reduceSub, Int.reduceMul, Int.reduceNeg, Int.reduceBEq, Int.reduceBNe, reduceCtorEq, dreduceIte, oWS, oW8, oW16, oW32, oW64, oLtT, oLtF, oLeT, oLeF, oNLtT, oNLtF, oNLeT, oNLeF, oEqT, oEqF, oNEqT, oNEqF, oBeqT, oBeqF, oBneT, oBneF, Int.natCast_add, List.take_length]; rfl)
    simp only [z0, Int.cast_ofNat_Int, List.take_zero, List.map_nil, List.drop_zero, accN, b8_nil, Int.sub_zero, Int.add_zero, Int.zero_add, Nat.zero_add, Nat.sub_zero, List.nil_append, List.append_nil] at L
    by_cases h1 : 1 ≤ s.length
    · by_cases h2 : s.length ≤ 64
      · simp -implicitDefEqProofs (maxSteps := 2000000) (disch := omega) only [euphroeref14_Token.s, L, h1, h2, go_sem, reduceIte, Nat.reduceAdd, Nat.reduceSub, Nat.reduceMul, Nat.reduceLeDiff, Nat.reduceLT, Nat.reduceEqDiff, Int.reduceToNat, Int.reduceLT, Int.reduceLE, Int.reduceEq, Int.reduceNe, Int.reduceAdd, Int.reduceSub, Int.reduceMul, Int.reduceNeg, Int.reduceBEq, Int.reduceBNe, reduceCtorEq, dreduceIte, oWS, oW8, oW16, oW32, oW64, oLtT, oLtF, oLeT, oLeF, oNLtT, oNLtF, oNLeT, oNLeF, oEqT, oEqF, oNEqT, oNEqF, oBeqT, oBeqF, oBneT, oBneF, Int.natCast_add, List.take_length]
      · simp -implicitDefEqProofs (maxSteps := 2000000) (disch := omega) only [euphroeref14_Token.s, L, h1, h2, go_sem, reduceIte, Nat.reduceAdd, Nat.reduceSub, Nat.reduceMul, Nat.reduceLeDiff, Nat.reduceLT, Nat.reduceEqDiff, Int.reduceToNat, Int.reduceLT, Int.reduceLE, Int.reduceEq, Int.reduceNe, Int.reduceAdd, Int.reduceSub, Int.reduceMul, Int.reduceNeg, Int.reduceBEq, Int.reduceBNe, reduceCtorEq, dreduceIte, oWS, oW8, oW16, oW32, oW64, oLtT, oLtF, oLeT, oLeF, oNLtT, oNLtF, oNLeT, oNLeF, oEqT, oEqF, oNEqT, oNEqF, oBeqT, oBeqF, oBneT, oBneF, Int.natCast_add, List.take_length]
    · simp -implicitDefEqProofs (maxSteps := 2000000) (disch := omega) only [euphroeref14_Token.s, L, h1, go_sem, reduceIte, Nat.reduceAdd, Nat.reduceSub, Nat.reduceMul, Nat.reduceLeDiff, Nat.reduceLT, Nat.reduceEqDiff, Int.reduceToNat, Int.reduceLT, Int.reduceLE, Int.reduceEq, Int.reduceNe, Int.reduceAdd, Int.reduceSub, Int.reduceMul, Int.reduceNeg, Int.reduceBEq, Int.reduceBNe, reduceCtorEq, dreduceIte, oWS, oW8, oW16, oW32, oW64, oLtT, oLtF, oLeT, oLeF, oNLtT, oNLtF, oNLeT, oNLeF, oEqT, oEqF, oNEqT, oNEqF, oBeqT, oBeqF, oBneT, oBneF, Int.natCast_add, List.take_length]
  · rw [e, Bool.and_false]
    have L := lpFor (G := G) (kill := [3]) (body := euphroeref14_Token.l0) (o := (.ret, [.v (.str s), .v (.bool false), .v (.int .i64 j), .undef], [[]])) (fun i => [.v (.str s), .v (.bool false), .v (.int .i64 i), .undef]) (fun i => [[]]) j (fun i hi => step i (by omega) (hall i (by omega) hi)) (by
      have hx : s[j]? = some s[j] := List.getElem?_eq_getElem hj
      have hr := lowN_rng s[j]
      have hb := u8_lt s[j]
      have I := r_small s[j].toNat ⟨by omega, by omega⟩
      rw [← tokB_low] at hf
      generalize lowN (s[j].toNat : Int) = q at *
      rcases tok_false hf with h1 | h1 | rfl | rfl | h1 <;> simp -implicitDefEqProofs (maxSteps := 2000000) (disch := omega) only [euphroeref14_Token.l0, hx, I, go_sem, reduceIte, Nat.reduceAdd, Nat.reduceSub, Nat.reduceMul, Nat.reduceLeDiff, Nat.reduceLT, Nat.reduceEqDiff, Int.reduceToNat, Int.reduceLT, Int.reduceLE, Int.reduceEq, Int.reduceNe, Int.reduceAdd, Int.reduceSub, Int.reduceMul, Int.reduceNeg, Int.reduceBEq, Int.reduceBNe, reduceCtorEq, dreduceIte, oWS, oW8, oW16, oW32, oW64, oLtT, oLtF, oLeT, oLeF, oNLtT, oNLtF, oNLeT, oNLeF, oEqT, oEqF, oNEqT, oNEqF, oBeqT, oBeqF, oBneT, oBneF, Int.natCast_add, List.take_length])
    simp only [z0, Int.cast_ofNat_Int, List.take_zero, List.map_nil, List.drop_zero, accN, b8_nil, Int.sub_zero, Int.add_zero, Int.zero_add, Nat.zero_add, Nat.sub_zero, List.nil_append, List.append_nil] at L
    simp -implicitDefEqProofs (maxSteps := 2000000) (disch := omega) only [euphroeref14_Token.s, L, go_sem, reduceIte, Nat.reduceAdd, Nat.reduceSub, Nat.reduceMul, Nat.reduceLeDiff, Nat.reduceLT, Nat.reduceEqDiff, Int.reduceToNat, Int.reduceLT, Int.reduceLE, Int.reduceEq, Int.reduceNe, Int.reduceAdd, Int.reduceSub, Int.reduceMul, Int.reduceNeg, Int.reduceBEq, Int.reduceBNe, reduceCtorEq, dreduceIte, oWS, oW8, oW16, oW32, oW64, oLtT, oLtF, oLeT, oLeF, oNLtT, oNLtF, oNLeT, oNLeF, oEqT, oEqF, oNEqT, oNEqF, oBeqT, oBeqF, oBneT, oBneF, Int.natCast_add, List.take_length]
end Go.Q
