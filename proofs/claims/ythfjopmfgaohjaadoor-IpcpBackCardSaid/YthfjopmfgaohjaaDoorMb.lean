/- Datagrams: Same, Lay, Parse of ipcp and of the document. No condition. -/
import Derived.Test.YthfjopmfgaohjaaDoorMa
set_option linter.all false
set_option maxRecDepth 100000
namespace Go.Q
open SOp SCode
attribute [local congr] bind_c map_c

structure Dg where
  ttl : Int
  pr : Int
  src : Int
  dst : Int
  dat : List Int
abbrev dgV (x : Dg) : V := .agg [.int .u8 x.ttl, .int .u8 x.pr, .int .u32 x.src, .int .u32 x.dst, .slc 1 (b8 x.dat)]
abbrev okG (x : Dg) : Prop := (0 ≤ x.ttl ∧ x.ttl ≤ 255) ∧ (0 ≤ x.pr ∧ x.pr ≤ 255) ∧ (0 ≤ x.src ∧ x.src ≤ 4294967295) ∧ (0 ≤ x.dst ∧ x.dst ≤ 4294967295) ∧ okB x.dat
theorem d_theirs (x : Dg) : run G 7 [.v (dgV x)] [] = some (.v (dgV x), []) := by
  rw [xq_fn G rfl euphroelaw32_theirs.g _ _ rfl]
  simp -implicitDefEqProofs (maxSteps := 2000000) (disch := omega) only [euphroelaw32_theirs.s, go_sem, reduceIte, Nat.reduceAdd, Nat.reduceSub, Nat.reduceMul, Nat.reduceLeDiff, Nat.reduceLT, Nat.reduceEqDiff, Int.reduceToNat, Int.reduceLT, Int.reduceLE, Int.reduceEq, Int.reduceNe, Int.reduceAdd, Int.reduceSub, Int.reduceMul, Int.reduceNeg, Int.reduceBEq, Int.reduceBNe, reduceCtorEq, dreduceIte, oWS, oW8, oW16, oW32, oW64, oLtT, oLtF, oLeT, oLeF, oNLtT, oNLtF, oNLeT, oNLeF, oEqT, oEqF, oNEqT, oNEqF, oBeqT, oBeqF, oBneT, oBneF, Int.natCast_add, List.take_length]
def sameG (a b : Dg) : Bool := a.ttl == b.ttl && (a.pr == b.pr && (a.src == b.src && (a.dst == b.dst && a.dat == b.dat)))
theorem d_Same (a b : Dg) (ha : okG a) (hb : okG b) : run G 12 [.v (dgV a), .v (dgV b)] [] = some (.v (.bool (sameG a b)), []) := by
  rw [xq_fn G rfl ipcp_Same.g _ _ rfl]
  unfold sameG
  have E := equal91 a.dat b.dat ha.2.2.2.2 hb.2.2.2.2 []
  by_cases h1 : a.ttl = b.ttl
  · by_cases h2 : a.pr = b.pr
    · by_cases h3 : a.src = b.src
      · by_cases h4 : a.dst = b.dst
        · simp -implicitDefEqProofs (maxSteps := 2000000) (disch := omega) only [ipcp_Same.s, E, h1, h2, h3, h4, beq_self_eq_true, Bool.true_and, go_sem, reduceIte, Nat.reduceAdd, Nat.reduceSub, Nat.reduceMul, Nat.reduceLeDiff, Nat.reduceLT, Nat.reduceEqDiff, Int.reduceToNat, Int.reduceLT, Int.reduceLE, Int.reduceEq, Int.reduceNe, Int.reduceAdd, Int.reduceSub, Int.reduceMul, Int.reduceNeg, Int.reduceBEq, Int.reduceBNe, reduceCtorEq, dreduceIte, oWS, oW8, oW16, oW32, oW64, oLtT, oLtF, oLeT, oLeF, oNLtT, oNLtF, oNLeT, oNLeF, oEqT, oEqF, oNEqT, oNEqF, oBeqT, oBeqF, oBneT, oBneF, Int.natCast_add, List.take_length]
        · have g4 : (a.dst == b.dst) = false := beq_ne h4
          simp -implicitDefEqProofs (maxSteps := 2000000) (disch := omega) only [ipcp_Same.s, E, h1, h2, h3, g4, beq_self_eq_true, Bool.true_and, Bool.false_and, go_sem, reduceIte, Nat.reduceAdd, Nat.reduceSub, Nat.reduceMul, Nat.reduceLeDiff, Nat.reduceLT, Nat.reduceEqDiff, Int.reduceToNat, Int.reduceLT, Int.reduceLE, Int.reduceEq, Int.reduceNe, Int.reduceAdd, Int.reduceSub, Int.reduceMul, Int.reduceNeg, Int.reduceBEq, Int.reduceBNe, reduceCtorEq, dreduceIte, oWS, oW8, oW16, oW32, oW64, oLtT, oLtF, oLeT, oLeF, oNLtT, oNLtF, oNLeT, oNLeF, oEqT, oEqF, oNEqT, oNEqF, oBeqT, oBeqF, oBneT, oBneF, Int.natCast_add, List.take_length]
      · have g3 : (a.src == b.src) = false := beq_ne h3
        simp -implicitDefEqProofs (maxSteps := 2000000) (disch := omega) only [ipcp_Same.s, E, h1, h2, g3, beq_self_eq_true, Bool.true_and, Bool.false_and, go_sem, reduceIte, Nat.reduceAdd, Nat.reduceSub, Nat.reduceMul, Nat.reduceLeDiff, Nat.reduceLT, Nat.reduceEqDiff, Int.reduceToNat, Int.reduceLT, Int.reduceLE, Int.reduceEq, Int.reduceNe, Int.reduceAdd, Int.reduceSub, Int.reduceMul, Int.reduceNeg, Int.reduceBEq, Int.reduceBNe, reduceCtorEq, dreduceIte, oWS, oW8, oW16, oW32, oW64, oLtT, oLtF, oLeT, oLeF, oNLtT, oNLtF, oNLeT, oNLeF, oEqT, oEqF, oNEqT, oNEqF, oBeqT, oBeqF, oBneT, oBneF, Int.natCast_add, List.take_length]
    · have g2 : (a.pr == b.pr) = false := beq_ne h2
      simp -implicitDefEqProofs (maxSteps := 2000000) (disch := omega) only [ipcp_Same.s, E, h1, g2, beq_self_eq_true, Bool.true_and, Bool.false_and, go_sem, reduceIte, Nat.reduceAdd, Nat.reduceSub, Nat.reduceMul, Nat.reduceLeDiff, Nat.reduceLT, Nat.reduceEqDiff, Int.reduceToNat, Int.reduceLT, Int.reduceLE, Int.reduceEq, Int.reduceNe, Int.reduceAdd, Int.reduceSub, Int.reduceMul, Int.reduceNeg, Int.reduceBEq, Int.reduceBNe, reduceCtorEq, dreduceIte, oWS, oW8, oW16, oW32, oW64, oLtT, oLtF, oLeT, oLeF, oNLtT, oNLtF, oNLeT, oNLeF, oEqT, oEqF, oNEqT, oNEqF, oBeqT, oBeqF, oBneT, oBneF, Int.natCast_add, List.take_length]
  · have g1 : (a.ttl == b.ttl) = false := beq_ne h1
    simp -implicitDefEqProofs (maxSteps := 2000000) (disch := omega) only [ipcp_Same.s, E, g1, beq_self_eq_true, Bool.true_and, Bool.false_and, go_sem, reduceIte, Nat.reduceAdd, Nat.reduceSub, Nat.reduceMul, Nat.reduceLeDiff, Nat.reduceLT, Nat.reduceEqDiff, Int.reduceToNat, Int.reduceLT, Int.reduceLE, Int.reduceEq, Int.reduceNe, Int.reduceAdd, Int.reduceSub, Int.reduceMul, Int.reduceNeg, Int.reduceBEq, Int.reduceBNe, reduceCtorEq, dreduceIte, oWS, oW8, oW16, oW32, oW64, oLtT, oLtF, oLeT, oLeF, oNLtT, oNLtF, oNLeT, oNLeF, oEqT, oEqF, oNEqT, oNEqF, oBeqT, oBeqF, oBneT, oBneF, Int.natCast_add, List.take_length]
theorem r_Same (a b : Dg) (ha : a.dat.length ≤ M) : run G 15 [.v (dgV a), .v (dgV b)] [] = some (.v (.bool (sameG a b)), []) := by
  rw [xq_fn G rfl euphroeref32_Same.g _ _ rfl]
  unfold sameG
  have E := same40 a.dat b.dat ha
  by_cases h1 : a.ttl = b.ttl
  · by_cases h2 : a.pr = b.pr
    · by_cases h3 : a.src = b.src
      · by_cases h4 : a.dst = b.dst
        · simp -implicitDefEqProofs (maxSteps := 2000000) (disch := omega) only [euphroeref32_Same.s, E, h1, h2, h3, h4, beq_self_eq_true, Bool.true_and, go_sem, reduceIte, Nat.reduceAdd, Nat.reduceSub, Nat.reduceMul, Nat.reduceLeDiff, Nat.reduceLT, Nat.reduceEqDiff, Int.reduceToNat, Int.reduceLT, Int.reduceLE, Int.reduceEq, Int.reduceNe, Int.reduceAdd, Int.reduceSub, Int.reduceMul, Int.reduceNeg, Int.reduceBEq, Int.reduceBNe, reduceCtorEq, dreduceIte, oWS, oW8, oW16, oW32, oW64, oLtT, oLtF, oLeT, oLeF, oNLtT, oNLtF, oNLeT, oNLeF, oEqT, oEqF, oNEqT, oNEqF, oBeqT, oBeqF, oBneT, oBneF, Int.natCast_add, List.take_length]
        · have g4 : (a.dst == b.dst) = false := beq_ne h4
          simp -implicitDefEqProofs (maxSteps := 2000000) (disch := omega) only [euphroeref32_Same.s, E, h1, h2, h3, g4, beq_self_eq_true, Bool.true_and, Bool.false_and, go_sem, reduceIte, Nat.reduceAdd, Nat.reduceSub, Nat.reduceMul, Nat.reduceLeDiff, Nat.reduceLT, Nat.reduceEqDiff, Int.reduceToNat, Int.reduceLT, Int.reduceLE, Int.reduceEq, Int.reduceNe, Int.reduceAdd, Int.reduceSub, Int.reduceMul, Int.reduceNeg, Int.reduceBEq, Int.reduceBNe, reduceCtorEq, dreduceIte, oWS, oW8, oW16, oW32, oW64, oLtT, oLtF, oLeT, oLeF, oNLtT, oNLtF, oNLeT, oNLeF, oEqT, oEqF, oNEqT, oNEqF, oBeqT, oBeqF, oBneT, oBneF, Int.natCast_add, List.take_length]
      · have g3 : (a.src == b.src) = false := beq_ne h3
        simp -implicitDefEqProofs (maxSteps := 2000000) (disch := omega) only [euphroeref32_Same.s, E, h1, h2, g3, beq_self_eq_true, Bool.true_and, Bool.false_and, go_sem, reduceIte, Nat.reduceAdd, Nat.reduceSub, Nat.reduceMul, Nat.reduceLeDiff, Nat.reduceLT, Nat.reduceEqDiff, Int.reduceToNat, Int.reduceLT, Int.reduceLE, Int.reduceEq, Int.reduceNe, Int.reduceAdd, Int.reduceSub, Int.reduceMul, Int.reduceNeg, Int.reduceBEq, Int.reduceBNe, reduceCtorEq, dreduceIte, oWS, oW8, oW16, oW32, oW64, oLtT, oLtF, oLeT, oLeF, oNLtT, oNLtF, oNLeT, oNLeF, oEqT, oEqF, oNEqT, oNEqF, oBeqT, oBeqF, oBneT, oBneF, Int.natCast_add, List.take_length]
    · have g2 : (a.pr == b.pr) = false := beq_ne h2
      simp -implicitDefEqProofs (maxSteps := 2000000) (disch := omega) only [euphroeref32_Same.s, E, h1, g2, beq_self_eq_true, Bool.true_and, Bool.false_and, go_sem, reduceIte, Nat.reduceAdd, Nat.reduceSub, Nat.reduceMul, Nat.reduceLeDiff, Nat.reduceLT, Nat.reduceEqDiff, Int.reduceToNat, Int.reduceLT, Int.reduceLE, Int.reduceEq, Int.reduceNe, Int.reduceAdd, Int.reduceSub, Int.reduceMul, Int.reduceNeg, Int.reduceBEq, Int.reduceBNe, reduceCtorEq, dreduceIte, oWS, oW8, oW16, oW32, oW64, oLtT, oLtF, oLeT, oLeF, oNLtT, oNLtF, oNLeT, oNLeF, oEqT, oEqF, oNEqT, oNEqF, oBeqT, oBeqF, oBneT, oBneF, Int.natCast_add, List.take_length]
  · have g1 : (a.ttl == b.ttl) = false := beq_ne h1
    simp -implicitDefEqProofs (maxSteps := 2000000) (disch := omega) only [euphroeref32_Same.s, E, g1, beq_self_eq_true, Bool.true_and, Bool.false_and, go_sem, reduceIte, Nat.reduceAdd, Nat.reduceSub, Nat.reduceMul, Nat.reduceLeDiff, Nat.reduceLT, Nat.reduceEqDiff, Int.reduceToNat, Int.reduceLT, Int.reduceLE, Int.reduceEq, Int.reduceNe, Int.reduceAdd, Int.reduceSub, Int.reduceMul, Int.reduceNeg, Int.reduceBEq, Int.reduceBNe, reduceCtorEq, dreduceIte, oWS, oW8, oW16, oW32, oW64, oLtT, oLtF, oLeT, oLeF, oNLtT, oNLtF, oNLeT, oNLeF, oEqT, oEqF, oNEqT, oNEqF, oBeqT, oBeqF, oBneT, oBneF, Int.natCast_add, List.take_length]
theorem d_number (n : Int) (h0 : 0 ≤ n) (hn : n ≤ 18446744073709551615) (w : Nat) (h1 : 1 ≤ w) (hw : w ≤ 8) : run G 20 [.v (.int .u64 n), .v (.int .i64 w)] [] = some (.lin 1 (b8 (big w n)), []) := by
  rw [xq_fn G rfl ipcp_number.g _ _ rfl]
  have P := put85 n h0 hn w h1 hw
  simp -implicitDefEqProofs (maxSteps := 2000000) (disch := omega) only [ipcp_number.s, P, go_sem, reduceIte, Nat.reduceAdd, Nat.reduceSub, Nat.reduceMul, Nat.reduceLeDiff, Nat.reduceLT, Nat.reduceEqDiff, Int.reduceToNat, Int.reduceLT, Int.reduceLE, Int.reduceEq, Int.reduceNe, Int.reduceAdd, Int.reduceSub, Int.reduceMul, Int.reduceNeg, Int.reduceBEq, Int.reduceBNe, reduceCtorEq, dreduceIte, oWS, oW8, oW16, oW32, oW64, oLtT, oLtF, oLeT, oLeF, oNLtT, oNLtF, oNLeT, oNLeF, oEqT, oEqF, oNEqT, oNEqF, oBeqT, oBeqF, oBneT, oBneF, Int.natCast_add, List.take_length]
def hdL (x : Dg) : List Int := [69, 0] ++ big 2 (20 + x.dat.length) ++ [0, 0, 0, 0] ++ [x.ttl, x.pr, 0, 0] ++ big 4 x.src ++ big 4 x.dst
theorem hdL_len (x : Dg) : (hdL x).length = 20 := by simp [hdL, big_len]
theorem hdL_ok (x : Dg) (h : okG x) : okB (hdL x) := by
  obtain ⟨h1, h2, h3, h4, h5⟩ := h
  intro y hy
  simp only [hdL, List.mem_append, List.mem_cons, List.not_mem_nil, or_false] at hy
  rcases hy with ((((hy | hy) | hy) | hy) | hy) | hy
  · omega
  · exact big_ok _ _ y hy
  · omega
  · omega
  · exact big_ok _ _ y hy
  · exact big_ok _ _ y hy
def hdS (x : Dg) : List Int := (hdL x).take 10 ++ big 2 (sumR (hdL x)) ++ (hdL x).drop 12
def layG (x : Dg) : D := if 1480 < x.dat.length then .lin 1 [] else .v (.slc 1 (b8 (hdS x ++ x.dat)))
def layE (x : Dg) : Int := if 1480 < x.dat.length then 8 else 0
theorem all_b8 : ∀ (l : List Int), (b8 l).all isIntV = true
  | [] => rfl
  | x :: l => all_b8 l
theorem joinGo_b8 (st : St) (bss : List (List V)) (l : List Int) (h : bss.flatten = b8 l) (h0 : l.length ≠ 0) (hn : l.length ≤ 100000) (hb : bss.length ≤ 1000) (hs : 1 ≤ st.length) :
    joinGo st bss = some (.own (addB st (.row ((b8 l).map .v))).2 1 0 l.length false, (addB st (.row ((b8 l).map .v))).1) := by
  unfold joinGo
  rw [h, b8_len, if_pos ⟨all_b8 l, h0, hn, hb, hs⟩]
theorem sumR_rng {l : List Int} (h : okB l) : 0 ≤ sumR l ∧ sumR l ≤ 65535 := by
  have h1 := fo_rng (rs_rng l h).1
  unfold sumR; omega
theorem toVL_all : ∀ (l : List Int), allV ((b8 l).map D.v) = some (b8 l)
  | [] => rfl
  | x :: l => by
    have := toVL_all l
    simp only [b8] at this
    simp only [b8, List.map_cons, allV, this, Option.map_some]
theorem hdS_len (x : Dg) : (hdS x).length = 20 := by simp [hdS, hdL_len, big_len]
theorem hdS_put (x : Dg) : putAt ((b8 (hdL x)).map D.v) 10 ((b8 (big 2 (sumR (hdL x)))).map D.v) = (b8 (hdS x)).map D.v := by
  simp [putAt, hdS, b8, big_len, List.map_take, List.map_drop]
theorem d_Lay (x : Dg) (hx : okG x) (hl : x.dat.length ≤ 2000) : run G 6 [.v (dgV x)] [] = some (.tup [layG x, .v (.int .i64 (layE x))], []) := by
  rw [xq_fn G rfl ipcp_Lay.g _ _ rfl]
  unfold layG layE
  by_cases hb : 1480 < x.dat.length
  · rw [if_pos hb, if_pos hb]
    simp -implicitDefEqProofs (maxSteps := 2000000) (disch := omega) only [ipcp_Lay.s, b8_len, go_sem, reduceIte, Nat.reduceAdd, Nat.reduceSub, Nat.reduceMul, Nat.reduceLeDiff, Nat.reduceLT, Nat.reduceEqDiff, Int.reduceToNat, Int.reduceLT, Int.reduceLE, Int.reduceEq, Int.reduceNe, Int.reduceAdd, Int.reduceSub, Int.reduceMul, Int.reduceNeg, Int.reduceBEq, Int.reduceBNe, reduceCtorEq, dreduceIte, oWS, oW8, oW16, oW32, oW64, oLtT, oLtF, oLeT, oLeF, oNLtT, oNLtF, oNLeT, oNLeF, oEqT, oEqF, oNEqT, oNEqF, oBeqT, oBeqF, oBneT, oBneF, Int.natCast_add, List.take_length]
  · rw [if_neg hb, if_neg hb]
    have hS := p_Sum (hdL x) (hdL_ok x hx) (by rw [hdL_len]; decide)
    have hs := sumR_rng (hdL_ok x hx)
    have R1 := b8_row (hdL x) 20 (hdL_len x).symm
    have R2 := b8_row (hdS x) 20 (hdS_len x).symm
    have PA := hdS_put x
    have n4 : run G 20 [.v (.int .u64 (sumR (hdL x))), .v (.int .i64 2)] [] = some (.lin 1 (b8 (big 2 (sumR (hdL x)))), []) := d_number (sumR (hdL x)) (by omega) (by omega) 2 (by omega) (by omega)
    obtain ⟨h1, h2, h3, h4, h5⟩ := hx
    have n1 : run G 20 [.v (.int .u64 (20 + x.dat.length)), .v (.int .i64 2)] [] = some (.lin 1 (b8 (big 2 (20 + x.dat.length))), []) := d_number (20 + x.dat.length) (by omega) (by omega) 2 (by omega) (by omega)
    have n2 : run G 20 [.v (.int .u64 x.src), .v (.int .i64 4)] [] = some (.lin 1 (b8 (big 4 x.src)), []) := d_number x.src (by omega) (by omega) 4 (by omega) (by omega)
    have n3 : run G 20 [.v (.int .u64 x.dst), .v (.int .i64 4)] [] = some (.lin 1 (b8 (big 4 x.dst)), []) := d_number x.dst (by omega) (by omega) 4 (by omega) (by omega)
    have J : ∀ args st, run G 19 args st = primJoinO args st := fun args st => by rw [xq_prim G (f := 19) (F := primJoinO) (by rfl)]
    have JG := fun fr st => joinGo_b8 (fr :: st) [[.int .u8 69, .int .u8 0], b8 (big 2 (20 + x.dat.length)), [.int .u8 0, .int .u8 0, .int .u8 0, .int .u8 0], [.int .u8 x.ttl, .int .u8 x.pr, .int .u8 0, .int .u8 0], b8 (big 4 x.src), b8 (big 4 x.dst)] (hdL x) (by simp [hdL, b8]) (by rw [hdL_len]; decide) (by rw [hdL_len]; decide) (by simp) (by simp)
    rw [hdL_len] at JG
    have hM := hmax
    by_cases hd : x.dat = []
    · rw [hd, List.append_nil]
      simp only [hd, List.length_nil, z0, Int.add_zero] at JG n1
      have : b8 [] = [] := rfl
      simp -implicitDefEqProofs (maxSteps := 2000000) (disch := omega) only [ipcp_Lay.s, b8_len, hd, n1, n2, n3, n4, J, primJoinO, joinRow, partsV, rdV, JG, slcOf, R1, R2, PA, hS, b8r, hdL_len, hdS_len, big_len, this, go_sem, reduceIte, Nat.reduceAdd, Nat.reduceSub, Nat.reduceMul, Nat.reduceLeDiff, Nat.reduceLT, Nat.reduceEqDiff, Int.reduceToNat, Int.reduceLT, Int.reduceLE, Int.reduceEq, Int.reduceNe, Int.reduceAdd, Int.reduceSub, Int.reduceMul, Int.reduceNeg, Int.reduceBEq, Int.reduceBNe, reduceCtorEq, dreduceIte, oWS, oW8, oW16, oW32, oW64, oLtT, oLtF, oLeT, oLeF, oNLtT, oNLtF, oNLeT, oNLeF, oEqT, oEqF, oNEqT, oNEqF, oBeqT, oBeqF, oBneT, oBneF, Int.natCast_add, List.take_length]
    · have hy : b8 x.dat ≠ [] := by simpa [b8] using hd
      have AO := fun st r z len fl => appO_ne hy 1 1 st r z len fl
      have R3 : toVL (List.take (20 + x.dat.length) ((b8 (hdS x ++ x.dat)).map D.v)) = some (b8 (hdS x ++ x.dat)) := by rw [List.take_of_length_le (by simp [b8, hdS_len]), toVL_b8]
      simp -implicitDefEqProofs (maxSteps := 2000000) (disch := omega) only [ipcp_Lay.s, b8_len, n1, n2, n3, n4, J, primJoinO, joinRow, partsV, rdV, JG, slcOf, R1, PA, hS, b8r, hdL_len, hdS_len, big_len, AO, toVL_all, b8_app, R3, go_sem, reduceIte, Nat.reduceAdd, Nat.reduceSub, Nat.reduceMul, Nat.reduceLeDiff, Nat.reduceLT, Nat.reduceEqDiff, Int.reduceToNat, Int.reduceLT, Int.reduceLE, Int.reduceEq, Int.reduceNe, Int.reduceAdd, Int.reduceSub, Int.reduceMul, Int.reduceNeg, Int.reduceBEq, Int.reduceBNe, reduceCtorEq, dreduceIte, oWS, oW8, oW16, oW32, oW64, oLtT, oLtF, oLeT, oLeF, oNLtT, oNLtF, oNLeT, oNLeF, oEqT, oEqF, oNEqT, oNEqF, oBeqT, oBeqF, oBneT, oBneF, Int.natCast_add, List.take_length]
theorem szs_b81 : ∀ (l : List Int), szs 1 (b8 l) = true
  | [] => rfl
  | x :: l => by
    have := szs_b81 l
    simp only [b8] at this
    simp only [b8, List.map_cons, szs, this, Bool.and_true]
    rfl
theorem hdS_set (x : Dg) (h : 0 ≤ sumR (hdL x) ∧ sumR (hdL x) ≤ 65535) : ((hdL x).set 10 (sumR (hdL x) / 256)).set 11 (sumR (hdL x) % 256) = hdS x := by
  unfold hdS
  generalize sumR (hdL x) = s at h
  have : s / 256 % 256 = s / 256 := by omega
  simp [hdL, big, this]
theorem r_Lay (x : Dg) (hx : okG x) (hl : x.dat.length ≤ 2000) : run G 8 [.v (dgV x)] [] = some (.tup [layG x, .v (.int .i64 (layE x))], []) := by
  rw [xq_fn G rfl euphroeref32_Lay.g _ _ rfl]
  unfold layG layE
  by_cases hb : 1480 < x.dat.length
  · rw [if_pos hb, if_pos hb]
    simp -implicitDefEqProofs (maxSteps := 2000000) (disch := omega) only [euphroeref32_Lay.s, b8_len, go_sem, reduceIte, Nat.reduceAdd, Nat.reduceSub, Nat.reduceMul, Nat.reduceLeDiff, Nat.reduceLT, Nat.reduceEqDiff, Int.reduceToNat, Int.reduceLT, Int.reduceLE, Int.reduceEq, Int.reduceNe, Int.reduceAdd, Int.reduceSub, Int.reduceMul, Int.reduceNeg, Int.reduceBEq, Int.reduceBNe, reduceCtorEq, dreduceIte, oWS, oW8, oW16, oW32, oW64, oLtT, oLtF, oLeT, oLeF, oNLtT, oNLtF, oNLeT, oNLeF, oEqT, oEqF, oNEqT, oNEqF, oBeqT, oBeqF, oBneT, oBneF, Int.natCast_add, List.take_length]
  · rw [if_neg hb, if_neg hb]
    have hS := r_Sum (hdL x) (hdL_ok x hx) (by rw [hdL_len]; decide)
    have hs := sumR_rng (hdL_ok x hx)
    have R1 := b8_row (hdL x) 20 (hdL_len x).symm
    have R2 := b8_row (hdS x) 20 (hdS_len x).symm
    have SS := hdS_set x hs
    obtain ⟨h1, h2, h3, h4, h5⟩ := hx
    have n1 : run G 21 [.v (.int .u64 (20 + x.dat.length)), .v (.int .i64 2)] [] = some (.lin 1 (b8 (big 2 (20 + x.dat.length))), []) := big87 (20 + x.dat.length) (by omega) (by omega) 2 (by omega)
    have n2 : run G 21 [.v (.int .u64 x.src), .v (.int .i64 4)] [] = some (.lin 1 (b8 (big 4 x.src)), []) := big87 x.src (by omega) (by omega) 4 (by omega)
    have n3 : run G 21 [.v (.int .u64 x.dst), .v (.int .i64 4)] [] = some (.lin 1 (b8 (big 4 x.dst)), []) := big87 x.dst (by omega) (by omega) 4 (by omega)
    have hM := hmax
    have bne : ∀ w n, 0 < w → b8 (big w n) ≠ [] := fun w n h hh => by
      have := congrArg List.length hh
      rw [b8_len, big_len] at this; simp at this; omega
    have A1 := fun st r z len fl => appO_ne (bne 2 (20 + x.dat.length) (by omega)) 1 1 st r z len fl
    have A2 := fun st r z len fl => appO_ne (bne 4 x.src (by omega)) 1 1 st r z len fl
    have A3 := fun st r z len fl => appO_ne (bne 4 x.dst (by omega)) 1 1 st r z len fl
    have A4 := fun st r z len fl => appO_ne (show b8 [0, 0, 0, 0, x.ttl, x.pr, 0, 0] ≠ [] from by simp [b8]) 1 1 st r z len fl
    have b0 : [V.int .u8 69, .int .u8 0] = b8 [69, 0] := rfl
    have b1 : [V.int .u8 0, .int .u8 0, .int .u8 0, .int .u8 0, .int .u8 x.ttl, .int .u8 x.pr, .int .u8 0, .int .u8 0] = b8 [0, 0, 0, 0, x.ttl, x.pr, 0, 0] := rfl
    have dk : (decide ¬ ({ lvl := 0, k := 0 } : Ref) = { lvl := 0, k := 3 }) = true := by decide
    have hL : 69 :: 0 :: (big 2 (20 + x.dat.length) ++ [0, 0, 0, 0, x.ttl, x.pr, 0, 0] ++ big 4 x.src ++ big 4 x.dst) = hdL x := by simp [hdL]
    have tm := tmod256 hs.1
    have td := tdiv256 hs.1
    have g10 : ((b8 (hdL x)).map D.v)[10]? = some (.v (.int .u8 ((hdL x)[10]'(by rw [hdL_len]; decide)))) := b8_rat (List.getElem?_eq_getElem _)
    have s10 := b8_rset (hdL x) 10 (sumR (hdL x) / 256)
    have g11 : ((b8 ((hdL x).set 10 (sumR (hdL x) / 256))).map D.v)[11]? = some (.v (.int .u8 (((hdL x).set 10 (sumR (hdL x) / 256))[11]'(by rw [List.length_set, hdL_len]; decide)))) := b8_rat (List.getElem?_eq_getElem _)
    have s11 := b8_rset ((hdL x).set 10 (sumR (hdL x) / 256)) 11 (sumR (hdL x) % 256)
    rw [SS] at s11
    have w1 : IntKind.u8.wrap (sumR (hdL x) / 256) = sumR (hdL x) / 256 := wrap8 (by omega)
    have w2 : IntKind.u8.wrap (sumR (hdL x) % 256) = sumR (hdL x) % 256 := wrap8 (by omega)
    have w3 : IntKind.u16.wrap (sumR (hdL x) / 256) = sumR (hdL x) / 256 := oW16 (by omega)
    by_cases hd : x.dat = []
    · have e0 : hdS x ++ x.dat = hdS x := by rw [hd, List.append_nil]
      have e1 : b8 x.dat = [] := by rw [hd]; rfl
      have AO0 : ∀ st r z off len fl, opAppO 1 1 st (b8 x.dat) (.own r z off len fl) = some (.own r z off len fl, st) := fun st r z off len fl => by rw [e1]; rfl
      rw [e0]
      simp -implicitDefEqProofs (maxSteps := 2000000) (disch := omega) only [euphroeref32_Lay.s, b8_len, n1, n2, n3, A1, A2, A3, A4, b0, b1, toVL_all, b8_app, b8r, big_len, szs_b81, List.length_append, List.length_cons, List.length_nil, dk, hL, R1, R2, hS, g10, s10, g11, s11, tm, td, w1, w2, w3, AO0, go_sem, reduceIte, Nat.reduceAdd, Nat.reduceSub, Nat.reduceMul, Nat.reduceLeDiff, Nat.reduceLT, Nat.reduceEqDiff, Int.reduceToNat, Int.reduceLT, Int.reduceLE, Int.reduceEq, Int.reduceNe, Int.reduceAdd, Int.reduceSub, Int.reduceMul, Int.reduceNeg, Int.reduceBEq, Int.reduceBNe, reduceCtorEq, dreduceIte, oWS, oW8, oW16, oW32, oW64, oLtT, oLtF, oLeT, oLeF, oNLtT, oNLtF, oNLeT, oNLeF, oEqT, oEqF, oNEqT, oNEqF, oBeqT, oBeqF, oBneT, oBneF, Int.natCast_add, List.take_length]
    · have hy : b8 x.dat ≠ [] := by simpa [b8] using hd
      have AO := fun st r z len fl => appO_ne hy 1 1 st r z len fl
      have R3 : toVL (List.take (20 + x.dat.length) ((b8 (hdS x ++ x.dat)).map D.v)) = some (b8 (hdS x ++ x.dat)) := by rw [List.take_of_length_le (by simp [b8, hdS_len]), toVL_b8]
      simp -implicitDefEqProofs (maxSteps := 2000000) (disch := omega) only [euphroeref32_Lay.s, b8_len, n1, n2, n3, A1, A2, A3, A4, AO, R3, b0, b1, toVL_all, b8_app, b8r, big_len, szs_b81, List.length_append, List.length_cons, List.length_nil, dk, hL, R1, hS, hdS_len, g10, s10, g11, s11, tm, td, w1, w2, w3, go_sem, reduceIte, Nat.reduceAdd, Nat.reduceSub, Nat.reduceMul, Nat.reduceLeDiff, Nat.reduceLT, Nat.reduceEqDiff, Int.reduceToNat, Int.reduceLT, Int.reduceLE, Int.reduceEq, Int.reduceNe, Int.reduceAdd, Int.reduceSub, Int.reduceMul, Int.reduceNeg, Int.reduceBEq, Int.reduceBNe, reduceCtorEq, dreduceIte, oWS, oW8, oW16, oW32, oW64, oLtT, oLtF, oLeT, oLeF, oNLtT, oNLtF, oNLeT, oNLeF, oEqT, oEqF, oNEqT, oNEqF, oBeqT, oBeqF, oBneT, oBneF, Int.natCast_add, List.take_length]
end Go.Q
