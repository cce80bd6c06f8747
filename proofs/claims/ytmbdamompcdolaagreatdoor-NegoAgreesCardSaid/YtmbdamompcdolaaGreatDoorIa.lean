/- Addresses' options: what the small functions of ipcpo and its reference compute. No condition. -/
import Derived.Test.YtmbdamompcdolaaGreatDoorLk
import Derived.Test.YtmbdamompcdolaaGreatDoorLt
set_option linter.all false
set_option maxRecDepth 100000
namespace Go.Q
open SOp SCode
attribute [local congr] bind_c map_c
structure Sd where
  srv : Bool
  own : Int
  give : Int
  dns : Int
  asks : Bool
deriving DecidableEq
abbrev u32ok (a : Int) : Prop := 0 ≤ a ∧ a ≤ 4294967295
abbrev okSd (s : Sd) : Prop := u32ok s.own ∧ u32ok s.give ∧ u32ok s.dns
abbrev sv (s : Sd) : V := .agg [.bool s.srv, .int .u32 s.own, .int .u32 s.give, .int .u32 s.dns, .bool s.asks]
theorem i_option (k a : Int) (h : u32ok a) : run G 48 [.v (.int .u8 k), .v (.int .u32 a)] [] = some (.v (oe (k, big 4 a)), []) := by
  rw [xq_fn G rfl ipcpo_option.g _ _ rfl]
  have P := put85 a (by omega) (by omega) 4 (by omega) (by omega)
  simp only [z0, Int.cast_ofNat_Int, List.take_zero, List.map_nil, List.drop_zero, accN, b8_nil, Int.sub_zero, Int.add_zero, Int.zero_add, Nat.zero_add, Nat.sub_zero, List.nil_append, List.append_nil] at P
  simp -implicitDefEqProofs (maxSteps := 2000000) (disch := omega) only [ipcpo_option.s, oe, P, go_sem, reduceIte, Nat.reduceAdd, Nat.reduceSub, Nat.reduceMul, Nat.reduceLeDiff, Nat.reduceLT, Nat.reduceEqDiff, Int.reduceToNat, Int.reduceLT, Int.reduceLE, Int.reduceEq, Int.reduceNe, Int.reduceAdd, Int.reduceSub, Int.reduceMul, Int.reduceNeg, Int.reduceBEq, Int.reduceBNe, reduceCtorEq, dreduceIte, oWS, oW8, oW16, oW32, oW64, oLtT, oLtF, oLeT, oLeF, oNLtT, oNLtF, oNLeT, oNLeF, oEqT, oEqF, oNEqT, oNEqF, oBeqT, oBeqF, oBneT, oBneF, Int.natCast_add, List.take_length]
def optsI (s : Sd) : List Opt := (3, big 4 s.own) :: if s.srv = false ∧ s.asks = true then [(129, big 4 s.dns)] else []
theorem i_options (s : Sd) (h : okSd s) : run G 15 [.v (sv s)] [] = some (.lin 2 (oes (optsI s)), []) := by
  rw [xq_fn G rfl ipcpo_Options.g _ _ rfl]
  obtain ⟨srv, own, give, dns, asks⟩ := s
  obtain ⟨h1, h2, h3⟩ := h
  have hM := hmax
  have P := i_option 3 own h1
  have Q := i_option 129 dns h3
  simp only [oe, z0, Int.cast_ofNat_Int, List.take_zero, List.map_nil, List.drop_zero, accN, b8_nil, Int.sub_zero, Int.add_zero, Int.zero_add, Nat.zero_add, Nat.sub_zero, List.nil_append, List.append_nil] at P
  simp only [oe, z0, Int.cast_ofNat_Int, List.take_zero, List.map_nil, List.drop_zero, accN, b8_nil, Int.sub_zero, Int.add_zero, Int.zero_add, Nat.zero_add, Nat.sub_zero, List.nil_append, List.append_nil] at Q
  cases srv with
  | true => simp -implicitDefEqProofs (maxSteps := 2000000) (disch := omega) only [ipcpo_Options.s, sv, P, Q, optsI, oes, oe, go_sem, reduceIte, Nat.reduceAdd, Nat.reduceSub, Nat.reduceMul, Nat.reduceLeDiff, Nat.reduceLT, Nat.reduceEqDiff, Int.reduceToNat, Int.reduceLT, Int.reduceLE, Int.reduceEq, Int.reduceNe, Int.reduceAdd, Int.reduceSub, Int.reduceMul, Int.reduceNeg, Int.reduceBEq, Int.reduceBNe, reduceCtorEq, dreduceIte, oWS, oW8, oW16, oW32, oW64, oLtT, oLtF, oLeT, oLeF, oNLtT, oNLtF, oNLeT, oNLeF, oEqT, oEqF, oNEqT, oNEqF, oBeqT, oBeqF, oBneT, oBneF, Int.natCast_add, List.take_length]
  | false =>
    cases asks with
    | true => simp -implicitDefEqProofs (maxSteps := 2000000) (disch := omega) only [ipcpo_Options.s, sv, P, Q, optsI, oes, oe, hM, go_sem, reduceIte, Nat.reduceAdd, Nat.reduceSub, Nat.reduceMul, Nat.reduceLeDiff, Nat.reduceLT, Nat.reduceEqDiff, Int.reduceToNat, Int.reduceLT, Int.reduceLE, Int.reduceEq, Int.reduceNe, Int.reduceAdd, Int.reduceSub, Int.reduceMul, Int.reduceNeg, Int.reduceBEq, Int.reduceBNe, reduceCtorEq, dreduceIte, oWS, oW8, oW16, oW32, oW64, oLtT, oLtF, oLeT, oLeF, oNLtT, oNLtF, oNLeT, oNLeF, oEqT, oEqF, oNEqT, oNEqF, oBeqT, oBeqF, oBneT, oBneF, Int.natCast_add, List.take_length]
    | false => simp -implicitDefEqProofs (maxSteps := 2000000) (disch := omega) only [ipcpo_Options.s, sv, P, Q, optsI, oes, oe, go_sem, reduceIte, Nat.reduceAdd, Nat.reduceSub, Nat.reduceMul, Nat.reduceLeDiff, Nat.reduceLT, Nat.reduceEqDiff, Int.reduceToNat, Int.reduceLT, Int.reduceLE, Int.reduceEq, Int.reduceNe, Int.reduceAdd, Int.reduceSub, Int.reduceMul, Int.reduceNeg, Int.reduceBEq, Int.reduceBNe, reduceCtorEq, dreduceIte, oWS, oW8, oW16, oW32, oW64, oLtT, oLtF, oLeT, oLeF, oNLtT, oNLtF, oNLeT, oNLeF, oEqT, oEqF, oNEqT, oNEqF, oBeqT, oBeqF, oBneT, oBneF, Int.natCast_add, List.take_length]
def addrI (o : Opt) : Int × Bool := if o.2.length = 4 then (num o.2, true) else (0, false)
theorem num4 {l : List Int} (h : okB l) (hl : l.length = 4) : u32ok (num l) := by
  have := num_rng l h
  rw [hl] at this
  have e : (256 : Int) ^ 4 = 4294967296 := by decide
  omega
theorem addrI_rng {o : Opt} (h : okB o.2) : u32ok (addrI o).1 := by
  unfold addrI
  split
  · rename_i hl; exact num4 h hl
  · exact ⟨by decide, by decide⟩
theorem i_addr (o : Opt) (h : okB o.2) : run G 185 [.v (oe o)] [] = some (.tup [.v (.int .u32 (addrI o).1), .v (.bool (addrI o).2)], []) := by
  rw [xq_fn G rfl ipcpo_addr.g _ _ rfl]
  unfold addrI
  by_cases hl : o.2.length = 4
  · rw [if_pos hl]
    have g := get88 o.2 h (by omega) (by omega)
    have := num4 h hl
    simp -implicitDefEqProofs (maxSteps := 2000000) (disch := omega) only [ipcpo_addr.s, oe, b8_len, g, go_sem, reduceIte, Nat.reduceAdd, Nat.reduceSub, Nat.reduceMul, Nat.reduceLeDiff, Nat.reduceLT, Nat.reduceEqDiff, Int.reduceToNat, Int.reduceLT, Int.reduceLE, Int.reduceEq, Int.reduceNe, Int.reduceAdd, Int.reduceSub, Int.reduceMul, Int.reduceNeg, Int.reduceBEq, Int.reduceBNe, reduceCtorEq, dreduceIte, oWS, oW8, oW16, oW32, oW64, oLtT, oLtF, oLeT, oLeF, oNLtT, oNLtF, oNLeT, oNLeF, oEqT, oEqF, oNEqT, oNEqF, oBeqT, oBeqF, oBneT, oBneF, Int.natCast_add, List.take_length]
  · rw [if_neg hl]
    simp -implicitDefEqProofs (maxSteps := 2000000) (disch := omega) only [ipcpo_addr.s, oe, b8_len, go_sem, reduceIte, Nat.reduceAdd, Nat.reduceSub, Nat.reduceMul, Nat.reduceLeDiff, Nat.reduceLT, Nat.reduceEqDiff, Int.reduceToNat, Int.reduceLT, Int.reduceLE, Int.reduceEq, Int.reduceNe, Int.reduceAdd, Int.reduceSub, Int.reduceMul, Int.reduceNeg, Int.reduceBEq, Int.reduceBNe, reduceCtorEq, dreduceIte, oWS, oW8, oW16, oW32, oW64, oLtT, oLtF, oLeT, oLeF, oNLtT, oNLtF, oNLeT, oNLeF, oEqT, oEqF, oNEqT, oNEqF, oBeqT, oBeqF, oBneT, oBneF, Int.natCast_add, List.take_length]
def givesI (s : Sd) (k : Int) : Int × Bool := if k = 3 then (s.give, true) else if k = 129 then (s.dns, s.dns != 0) else (0, false)
theorem i_gives (s : Sd) (k : Int) : run G 186 [.v (sv s), .v (.int .u8 k)] [] = some (.tup [.v (.int .u32 (givesI s k).1), .v (.bool (givesI s k).2)], []) := by
  rw [xq_fn G rfl ipcpo_Side_gives.g _ _ rfl]
  unfold givesI
  by_cases h3 : k = 3
  · subst h3; simp -implicitDefEqProofs (maxSteps := 2000000) (disch := omega) only [ipcpo_Side_gives.s, sv, go_sem, reduceIte, Nat.reduceAdd, Nat.reduceSub, Nat.reduceMul, Nat.reduceLeDiff, Nat.reduceLT, Nat.reduceEqDiff, Int.reduceToNat, Int.reduceLT, Int.reduceLE, Int.reduceEq, Int.reduceNe, Int.reduceAdd, Int.reduceSub, Int.reduceMul, Int.reduceNeg, Int.reduceBEq, Int.reduceBNe, reduceCtorEq, dreduceIte, oWS, oW8, oW16, oW32, oW64, oLtT, oLtF, oLeT, oLeF, oNLtT, oNLtF, oNLeT, oNLeF, oEqT, oEqF, oNEqT, oNEqF, oBeqT, oBeqF, oBneT, oBneF, Int.natCast_add, List.take_length]
  by_cases h9 : k = 129
  · subst h9; simp -implicitDefEqProofs (maxSteps := 2000000) (disch := omega) only [ipcpo_Side_gives.s, sv, go_sem, reduceIte, Nat.reduceAdd, Nat.reduceSub, Nat.reduceMul, Nat.reduceLeDiff, Nat.reduceLT, Nat.reduceEqDiff, Int.reduceToNat, Int.reduceLT, Int.reduceLE, Int.reduceEq, Int.reduceNe, Int.reduceAdd, Int.reduceSub, Int.reduceMul, Int.reduceNeg, Int.reduceBEq, Int.reduceBNe, reduceCtorEq, dreduceIte, oWS, oW8, oW16, oW32, oW64, oLtT, oLtF, oLeT, oLeF, oNLtT, oNLtF, oNLeT, oNLeF, oEqT, oEqF, oNEqT, oNEqF, oBeqT, oBeqF, oBneT, oBneF, Int.natCast_add, List.take_length]
  · simp -implicitDefEqProofs (maxSteps := 2000000) (disch := omega) only [ipcpo_Side_gives.s, sv, if_neg h3, if_neg h9, go_sem, reduceIte, Nat.reduceAdd, Nat.reduceSub, Nat.reduceMul, Nat.reduceLeDiff, Nat.reduceLT, Nat.reduceEqDiff, Int.reduceToNat, Int.reduceLT, Int.reduceLE, Int.reduceEq, Int.reduceNe, Int.reduceAdd, Int.reduceSub, Int.reduceMul, Int.reduceNeg, Int.reduceBEq, Int.reduceBNe, reduceCtorEq, dreduceIte, oWS, oW8, oW16, oW32, oW64, oLtT, oLtF, oLeT, oLeF, oNLtT, oNLtF, oNLeT, oNLeF, oEqT, oEqF, oNEqT, oNEqF, oBeqT, oBeqF, oBneT, oBneF, Int.natCast_add, List.take_length]
def oneI (s : Sd) (o : Opt) : Int × Opt :=
  if s.srv = false then (if (addrI o).2 = false ∨ o.1 ≠ 3 ∨ (addrI o).1 = 0 then (4, o) else (2, o))
  else if (addrI o).2 = false ∨ (givesI s o.1).2 = false then (4, o)
  else if (addrI o).1 ≠ (givesI s o.1).1 then (3, (o.1, big 4 (givesI s o.1).1))
  else (2, o)
theorem givesI_rng {s : Sd} (h : okSd s) (k : Int) : u32ok (givesI s k).1 := by
  unfold givesI
  split
  · exact h.2.1
  split
  · exact h.2.2
  · exact ⟨by decide, by decide⟩
theorem i_one (s : Sd) (o : Opt) (hs : okSd s) (ho : okO o) : run G 164 [.v (sv s), .v (oe o)] [] = some (.tup [.v (.int .u8 (oneI s o).1), .v (oe (oneI s o).2)], []) := by
  rw [xq_fn G rfl ipcpo_Side_one.g _ _ rfl]
  have A := i_addr o ho.2
  have Gv := i_gives s o.1
  have P := i_option o.1 (givesI s o.1).1 (givesI_rng hs o.1)
  unfold oneI
  generalize addrI o = a at *
  generalize givesI s o.1 = gv at *
  obtain ⟨srv, own, give, dns, asks⟩ := s
  obtain ⟨a1, a2⟩ := a
  obtain ⟨g1, g2⟩ := gv
  obtain ⟨k, d⟩ := o
  simp only [oe, z0, Int.cast_ofNat_Int, List.take_zero, List.map_nil, List.drop_zero, accN, b8_nil, Int.sub_zero, Int.add_zero, Int.zero_add, Nat.zero_add, Nat.sub_zero, List.nil_append, List.append_nil] at A
  simp only [oe, sv, z0, Int.cast_ofNat_Int, List.take_zero, List.map_nil, List.drop_zero, accN, b8_nil, Int.sub_zero, Int.add_zero, Int.zero_add, Nat.zero_add, Nat.sub_zero, List.nil_append, List.append_nil] at Gv
  simp only [oe, z0, Int.cast_ofNat_Int, List.take_zero, List.map_nil, List.drop_zero, accN, b8_nil, Int.sub_zero, Int.add_zero, Int.zero_add, Nat.zero_add, Nat.sub_zero, List.nil_append, List.append_nil] at P
  cases srv with
  | false =>
    cases a2 with
    | false => simp -implicitDefEqProofs (maxSteps := 2000000) (disch := omega) only [ipcpo_Side_one.s, sv, oe, A, go_sem, reduceIte, Nat.reduceAdd, Nat.reduceSub, Nat.reduceMul, Nat.reduceLeDiff, Nat.reduceLT, Nat.reduceEqDiff, Int.reduceToNat, Int.reduceLT, Int.reduceLE, Int.reduceEq, Int.reduceNe, Int.reduceAdd, Int.reduceSub, Int.reduceMul, Int.reduceNeg, Int.reduceBEq, Int.reduceBNe, reduceCtorEq, dreduceIte, oWS, oW8, oW16, oW32, oW64, oLtT, oLtF, oLeT, oLeF, oNLtT, oNLtF, oNLeT, oNLeF, oEqT, oEqF, oNEqT, oNEqF, oBeqT, oBeqF, oBneT, oBneF, Int.natCast_add, List.take_length]
    | true =>
      by_cases h3 : k = 3
      · subst h3
        by_cases h0 : a1 = 0
        · subst h0
          simp -implicitDefEqProofs (maxSteps := 2000000) (disch := omega) only [ipcpo_Side_one.s, sv, oe, A, go_sem, reduceIte, Nat.reduceAdd, Nat.reduceSub, Nat.reduceMul, Nat.reduceLeDiff, Nat.reduceLT, Nat.reduceEqDiff, Int.reduceToNat, Int.reduceLT, Int.reduceLE, Int.reduceEq, Int.reduceNe, Int.reduceAdd, Int.reduceSub, Int.reduceMul, Int.reduceNeg, Int.reduceBEq, Int.reduceBNe, reduceCtorEq, dreduceIte, oWS, oW8, oW16, oW32, oW64, oLtT, oLtF, oLeT, oLeF, oNLtT, oNLtF, oNLeT, oNLeF, oEqT, oEqF, oNEqT, oNEqF, oBeqT, oBeqF, oBneT, oBneF, Int.natCast_add, List.take_length]
        · simp -implicitDefEqProofs (maxSteps := 2000000) (disch := omega) only [ipcpo_Side_one.s, sv, oe, A, go_sem, reduceIte, Nat.reduceAdd, Nat.reduceSub, Nat.reduceMul, Nat.reduceLeDiff, Nat.reduceLT, Nat.reduceEqDiff, Int.reduceToNat, Int.reduceLT, Int.reduceLE, Int.reduceEq, Int.reduceNe, Int.reduceAdd, Int.reduceSub, Int.reduceMul, Int.reduceNeg, Int.reduceBEq, Int.reduceBNe, reduceCtorEq, dreduceIte, oWS, oW8, oW16, oW32, oW64, oLtT, oLtF, oLeT, oLeF, oNLtT, oNLtF, oNLeT, oNLeF, oEqT, oEqF, oNEqT, oNEqF, oBeqT, oBeqF, oBneT, oBneF, Int.natCast_add, List.take_length]
      · simp -implicitDefEqProofs (maxSteps := 2000000) (disch := omega) only [ipcpo_Side_one.s, sv, oe, A, go_sem, reduceIte, Nat.reduceAdd, Nat.reduceSub, Nat.reduceMul, Nat.reduceLeDiff, Nat.reduceLT, Nat.reduceEqDiff, Int.reduceToNat, Int.reduceLT, Int.reduceLE, Int.reduceEq, Int.reduceNe, Int.reduceAdd, Int.reduceSub, Int.reduceMul, Int.reduceNeg, Int.reduceBEq, Int.reduceBNe, reduceCtorEq, dreduceIte, oWS, oW8, oW16, oW32, oW64, oLtT, oLtF, oLeT, oLeF, oNLtT, oNLtF, oNLeT, oNLeF, oEqT, oEqF, oNEqT, oNEqF, oBeqT, oBeqF, oBneT, oBneF, Int.natCast_add, List.take_length]
  | true =>
    cases a2 with
    | false =>
      cases g2 with
      | false => simp -implicitDefEqProofs (maxSteps := 2000000) (disch := omega) only [ipcpo_Side_one.s, sv, oe, A, Gv, go_sem, reduceIte, Nat.reduceAdd, Nat.reduceSub, Nat.reduceMul, Nat.reduceLeDiff, Nat.reduceLT, Nat.reduceEqDiff, Int.reduceToNat, Int.reduceLT, Int.reduceLE, Int.reduceEq, Int.reduceNe, Int.reduceAdd, Int.reduceSub, Int.reduceMul, Int.reduceNeg, Int.reduceBEq, Int.reduceBNe, reduceCtorEq, dreduceIte, oWS, oW8, oW16, oW32, oW64, oLtT, oLtF, oLeT, oLeF, oNLtT, oNLtF, oNLeT, oNLeF, oEqT, oEqF, oNEqT, oNEqF, oBeqT, oBeqF, oBneT, oBneF, Int.natCast_add, List.take_length]
      | true => simp -implicitDefEqProofs (maxSteps := 2000000) (disch := omega) only [ipcpo_Side_one.s, sv, oe, A, Gv, go_sem, reduceIte, Nat.reduceAdd, Nat.reduceSub, Nat.reduceMul, Nat.reduceLeDiff, Nat.reduceLT, Nat.reduceEqDiff, Int.reduceToNat, Int.reduceLT, Int.reduceLE, Int.reduceEq, Int.reduceNe, Int.reduceAdd, Int.reduceSub, Int.reduceMul, Int.reduceNeg, Int.reduceBEq, Int.reduceBNe, reduceCtorEq, dreduceIte, oWS, oW8, oW16, oW32, oW64, oLtT, oLtF, oLeT, oLeF, oNLtT, oNLtF, oNLeT, oNLeF, oEqT, oEqF, oNEqT, oNEqF, oBeqT, oBeqF, oBneT, oBneF, Int.natCast_add, List.take_length]
    | true =>
      cases g2 with
      | false => simp -implicitDefEqProofs (maxSteps := 2000000) (disch := omega) only [ipcpo_Side_one.s, sv, oe, A, Gv, go_sem, reduceIte, Nat.reduceAdd, Nat.reduceSub, Nat.reduceMul, Nat.reduceLeDiff, Nat.reduceLT, Nat.reduceEqDiff, Int.reduceToNat, Int.reduceLT, Int.reduceLE, Int.reduceEq, Int.reduceNe, Int.reduceAdd, Int.reduceSub, Int.reduceMul, Int.reduceNeg, Int.reduceBEq, Int.reduceBNe, reduceCtorEq, dreduceIte, oWS, oW8, oW16, oW32, oW64, oLtT, oLtF, oLeT, oLeF, oNLtT, oNLtF, oNLeT, oNLeF, oEqT, oEqF, oNEqT, oNEqF, oBeqT, oBeqF, oBneT, oBneF, Int.natCast_add, List.take_length]
      | true =>
        by_cases hg : a1 = g1
        · simp -implicitDefEqProofs (maxSteps := 2000000) (disch := omega) only [ipcpo_Side_one.s, sv, oe, A, Gv, P, or_self, go_sem, reduceIte, Nat.reduceAdd, Nat.reduceSub, Nat.reduceMul, Nat.reduceLeDiff, Nat.reduceLT, Nat.reduceEqDiff, Int.reduceToNat, Int.reduceLT, Int.reduceLE, Int.reduceEq, Int.reduceNe, Int.reduceAdd, Int.reduceSub, Int.reduceMul, Int.reduceNeg, Int.reduceBEq, Int.reduceBNe, reduceCtorEq, dreduceIte, oWS, oW8, oW16, oW32, oW64, oLtT, oLtF, oLeT, oLeF, oNLtT, oNLtF, oNLeT, oNLeF, oEqT, oEqF, oNEqT, oNEqF, oBeqT, oBeqF, oBneT, oBneF, Int.natCast_add, List.take_length]
        · simp -implicitDefEqProofs (maxSteps := 2000000) (disch := omega) only [ipcpo_Side_one.s, sv, oe, A, Gv, P, or_self, go_sem, reduceIte, Nat.reduceAdd, Nat.reduceSub, Nat.reduceMul, Nat.reduceLeDiff, Nat.reduceLT, Nat.reduceEqDiff, Int.reduceToNat, Int.reduceLT, Int.reduceLE, Int.reduceEq, Int.reduceNe, Int.reduceAdd, Int.reduceSub, Int.reduceMul, Int.reduceNeg, Int.reduceBEq, Int.reduceBNe, reduceCtorEq, dreduceIte, oWS, oW8, oW16, oW32, oW64, oLtT, oLtF, oLeT, oLeF, oNLtT, oNLtF, oNLeT, oNLeF, oEqT, oEqF, oNEqT, oNEqF, oBeqT, oBeqF, oBneT, oBneF, Int.natCast_add, List.take_length]
end Go.Q
set_option maxRecDepth 100000
namespace Go.Q
open SOp SCode
attribute [local congr] bind_c map_c

def tkI (k : Int) (o : Opt) : Bool := (addrI o).2 && (o.1 == k) && ((addrI o).1 != 0)
def toldI (l : List Opt) (k d : Int) : Int := match l.find? (tkI k) with
  | some o => (addrI o).1
  | none => d
theorem told_not {l : List Opt} {k : Int} (h : ∀ i, ∀ h : i < l.length, tkI k l[i] = false) : l.find? (tkI k) = none := by
  rw [List.find?_eq_none]
  intro o ho
  obtain ⟨i, hi, rfl⟩ := List.mem_iff_getElem.1 ho
  simp [h i hi]
theorem told_first {l : List Opt} {k : Int} {j : Nat} (h1 : j < l.length) (h2 : tkI k l[j] = true) (h3 : ∀ i, i < j → ∀ h : i < l.length, tkI k l[i] = false) : l.find? (tkI k) = some l[j] := by
  induction l generalizing j with
  | nil => simp at h1
  | cons x l ih =>
    cases j with
    | zero => simp only [List.getElem_cons_zero] at h2 ⊢; rw [List.find?_cons_of_pos h2]
    | succ j =>
      have hx := h3 0 (by omega) (by simp)
      simp only [List.getElem_cons_zero] at hx
      rw [List.find?_cons_of_neg (by simp [hx])]
      simp only [List.getElem_cons_succ] at h2 ⊢
      exact ih (j := j) (by simpa using h1) h2 (fun i hi h => by have := h3 (i + 1) (by omega) (by simpa using h); simpa using this)
theorem i_told (l : List Opt) (k d : Int) (hl : okL l) (hn : l.length ≤ 40) : run G 168 [.v (.slc 2 (oes l)), .v (.int .u8 k), .v (.int .u32 d)] [] = some (.v (.int .u32 (toldI l k d)), []) := by
  rw [xq_fn G rfl ipcpo_told.g _ _ rfl]
  let E := fun (i : Nat) => [D.v (.slc 2 (oes l)), .v (.int .u8 k), .v (.int .u32 d), .v (.int .u32 0), .v (.slc 2 (oes l)), .v (.int .i64 (l.length : Nat)), .v (.int .i64 (i : Nat)), .undef, .undef, .undef]
  have step : ∀ i, i < l.length → (∀ h : i < l.length, tkI k l[i] = false) → rndE G [7, 8, 9] ipcpo_told.l0 (E i) [[]] = some (.inl (E (i + 1), [[]])) := fun i hi h => by
    have hx := oes_at (List.getElem?_eq_getElem hi)
    have A := i_addr l[i] (hl _ (List.getElem_mem hi)).2
    have hb := h hi
    unfold tkI at hb
    generalize addrI l[i] = a at *
    obtain ⟨a1, a2⟩ := a
    generalize l[i] = o at *
    obtain ⟨o1, o2⟩ := o
    simp only at hb
    simp only [oe, z0, Int.cast_ofNat_Int, List.take_zero, List.map_nil, List.drop_zero, accN, b8_nil, Int.sub_zero, Int.add_zero, Int.zero_add, Nat.zero_add, Nat.sub_zero, List.nil_append, List.append_nil] at A
    simp only [E]
    cases a2 with
    | false => simp -implicitDefEqProofs (maxSteps := 2000000) (disch := omega) only [ipcpo_told.l0, oes_len, oe, hx, A, go_sem, reduceIte, Nat.reduceAdd, Nat.reduceSub, Nat.reduceMul, Nat.reduceLeDiff, Nat.reduceLT, Nat.reduceEqDiff, Int.reduceToNat, Int.reduceLT, Int.reduceLE, Int.reduceEq, Int.reduceNe, Int.reduceAdd, Int.reduceSub, Int.reduceMul, Int.reduceNeg, Int.reduceBEq, Int.reduceBNe, reduceCtorEq, dreduceIte, oWS, oW8, oW16, oW32, oW64, oLtT, oLtF, oLeT, oLeF, oNLtT, oNLtF, oNLeT, oNLeF, oEqT, oEqF, oNEqT, oNEqF, oBeqT, oBeqF, oBneT, oBneF, Int.natCast_add, List.take_length]
    | true =>
      by_cases e : o1 = k
      · by_cases e0 : a1 = 0
        · simp -implicitDefEqProofs (maxSteps := 2000000) (disch := omega) only [ipcpo_told.l0, oes_len, oe, hx, A, go_sem, reduceIte, Nat.reduceAdd, Nat.reduceSub, Nat.reduceMul, Nat.reduceLeDiff, Nat.reduceLT, Nat.reduceEqDiff, Int.reduceToNat, Int.reduceLT, Int.reduceLE, Int.reduceEq, Int.reduceNe, Int.reduceAdd, Int.reduceSub, Int.reduceMul, Int.reduceNeg, Int.reduceBEq, Int.reduceBNe, reduceCtorEq, dreduceIte, oWS, oW8, oW16, oW32, oW64, oLtT, oLtF, oLeT, oLeF, oNLtT, oNLtF, oNLeT, oNLeF, oEqT, oEqF, oNEqT, oNEqF, oBeqT, oBeqF, oBneT, oBneF, Int.natCast_add, List.take_length]
        · simp [e, e0] at hb
      · simp -implicitDefEqProofs (maxSteps := 2000000) (disch := omega) only [ipcpo_told.l0, oes_len, oe, hx, A, go_sem, reduceIte, Nat.reduceAdd, Nat.reduceSub, Nat.reduceMul, Nat.reduceLeDiff, Nat.reduceLT, Nat.reduceEqDiff, Int.reduceToNat, Int.reduceLT, Int.reduceLE, Int.reduceEq, Int.reduceNe, Int.reduceAdd, Int.reduceSub, Int.reduceMul, Int.reduceNeg, Int.reduceBEq, Int.reduceBNe, reduceCtorEq, dreduceIte, oWS, oW8, oW16, oW32, oW64, oLtT, oLtF, oLeT, oLeF, oNLtT, oNLtF, oNLeT, oNLeF, oEqT, oEqF, oNEqT, oNEqF, oBeqT, oBeqF, oBneT, oBneF, Int.natCast_add, List.take_length]
  rcases first_or (fun i => ∃ h : i < l.length, tkI k l[i] = true) l.length with h | ⟨j, h1, ⟨h2, h3⟩, h4⟩
  · have hno : ∀ i, ∀ h : i < l.length, tkI k l[i] = false := fun i hi => by
      have := h i hi
      simp only [not_exists] at this
      simpa using this hi
    have L := lpFor (G := G) (kill := [7, 8, 9]) (body := ipcpo_told.l0) E (fun _ => [[]]) l.length (fun i hi => step i hi (hno i)) (by simp only [E]; simp -implicitDefEqProofs (maxSteps := 2000000) (disch := omega) only [ipcpo_told.l0, oes_len, go_sem, reduceIte, Nat.reduceAdd, Nat.reduceSub, Nat.reduceMul, Nat.reduceLeDiff, Nat.reduceLT, Nat.reduceEqDiff, Int.reduceToNat, Int.reduceLT, Int.reduceLE, Int.reduceEq, Int.reduceNe, Int.reduceAdd, Int.reduceSub, Int.reduceMul, Int.reduceNeg, Int.reduceBEq, Int.reduceBNe, reduceCtorEq, dreduceIte, oWS, oW8, oW16, oW32, oW64, oLtT, oLtF, oLeT, oLeF, oNLtT, oNLtF, oNLeT, oNLeF, oEqT, oEqF, oNEqT, oNEqF, oBeqT, oBeqF, oBneT, oBneF, Int.natCast_add, List.take_length]; rfl)
    simp only [E, z0, Int.cast_ofNat_Int, List.take_zero, List.map_nil, List.drop_zero, accN, b8_nil, Int.sub_zero, Int.add_zero, Int.zero_add, Nat.zero_add, Nat.sub_zero, List.nil_append, List.append_nil] at L
    rw [toldI, told_not hno]
    simp -implicitDefEqProofs (maxSteps := 2000000) (disch := omega) only [ipcpo_told.s, oes_len, L, go_sem, reduceIte, Nat.reduceAdd, Nat.reduceSub, Nat.reduceMul, Nat.reduceLeDiff, Nat.reduceLT, Nat.reduceEqDiff, Int.reduceToNat, Int.reduceLT, Int.reduceLE, Int.reduceEq, Int.reduceNe, Int.reduceAdd, Int.reduceSub, Int.reduceMul, Int.reduceNeg, Int.reduceBEq, Int.reduceBNe, reduceCtorEq, dreduceIte, oWS, oW8, oW16, oW32, oW64, oLtT, oLtF, oLeT, oLeF, oNLtT, oNLtF, oNLeT, oNLeF, oEqT, oEqF, oNEqT, oNEqF, oBeqT, oBeqF, oBneT, oBneF, Int.natCast_add, List.take_length]
  · have hno : ∀ i, i < j → ∀ h : i < l.length, tkI k l[i] = false := fun i hi hil => by
      have := h4 i hi
      simp only [not_exists] at this
      simpa using this hil
    have L := lpFor (G := G) (kill := [7, 8, 9]) (body := ipcpo_told.l0) E (fun _ => [[]]) j (fun i hi => step i (by omega) (hno i hi)) (o := (.ret, [D.v (.slc 2 (oes l)), .v (.int .u8 k), .v (.int .u32 d), .v (.int .u32 (addrI l[j]).1), .v (.slc 2 (oes l)), .v (.int .i64 (l.length : Nat)), .v (.int .i64 (j : Nat)), .undef, .undef, .undef], [[]])) (by
      have hx := oes_at (List.getElem?_eq_getElem h2)
      have A := i_addr l[j] (hl _ (List.getElem_mem h2)).2
      have hb := h3
      unfold tkI at hb
      generalize addrI l[j] = a at *
      obtain ⟨a1, a2⟩ := a
      generalize l[j] = o at *
      obtain ⟨o1, o2⟩ := o
      simp only at hb
      simp only [oe, z0, Int.cast_ofNat_Int, List.take_zero, List.map_nil, List.drop_zero, accN, b8_nil, Int.sub_zero, Int.add_zero, Int.zero_add, Nat.zero_add, Nat.sub_zero, List.nil_append, List.append_nil] at A
      simp only [E]
      have hb' : (a2 = true ∧ o1 = k) ∧ a1 ≠ 0 := by simpa using hb
      obtain ⟨⟨rfl, e⟩, e0⟩ := hb'
      simp -implicitDefEqProofs (maxSteps := 2000000) (disch := omega) only [ipcpo_told.l0, oes_len, oe, hx, A, go_sem, reduceIte, Nat.reduceAdd, Nat.reduceSub, Nat.reduceMul, Nat.reduceLeDiff, Nat.reduceLT, Nat.reduceEqDiff, Int.reduceToNat, Int.reduceLT, Int.reduceLE, Int.reduceEq, Int.reduceNe, Int.reduceAdd, Int.reduceSub, Int.reduceMul, Int.reduceNeg, Int.reduceBEq, Int.reduceBNe, reduceCtorEq, dreduceIte, oWS, oW8, oW16, oW32, oW64, oLtT, oLtF, oLeT, oLeF, oNLtT, oNLtF, oNLeT, oNLeF, oEqT, oEqF, oNEqT, oNEqF, oBeqT, oBeqF, oBneT, oBneF, Int.natCast_add, List.take_length])
    simp only [E, z0, Int.cast_ofNat_Int, List.take_zero, List.map_nil, List.drop_zero, accN, b8_nil, Int.sub_zero, Int.add_zero, Int.zero_add, Nat.zero_add, Nat.sub_zero, List.nil_append, List.append_nil] at L
    rw [toldI, told_first h2 h3 hno]
    simp -implicitDefEqProofs (maxSteps := 2000000) (disch := omega) only [ipcpo_told.s, oes_len, L, go_sem, reduceIte, Nat.reduceAdd, Nat.reduceSub, Nat.reduceMul, Nat.reduceLeDiff, Nat.reduceLT, Nat.reduceEqDiff, Int.reduceToNat, Int.reduceLT, Int.reduceLE, Int.reduceEq, Int.reduceNe, Int.reduceAdd, Int.reduceSub, Int.reduceMul, Int.reduceNeg, Int.reduceBEq, Int.reduceBNe, reduceCtorEq, dreduceIte, oWS, oW8, oW16, oW32, oW64, oLtT, oLtF, oLeT, oLeF, oNLtT, oNLtF, oNLeT, oNLeF, oEqT, oEqF, oNEqT, oNEqF, oBeqT, oBeqF, oBneT, oBneF, Int.natCast_add, List.take_length]
theorem addr_num {o : Opt} (h : o.2.length = 4) : addrI o = (num o.2, true) := by rw [addrI, if_pos h]
theorem addr_no {o : Opt} (h : ¬ o.2.length = 4) : addrI o = (0, false) := by rw [addrI, if_neg h]
theorem told_else (l : List Opt) (k d : Int) : toldI l k d = if toldI l k 0 = 0 then d else toldI l k 0 := by
  unfold toldI
  cases h : l.find? (tkI k) with
  | none => simp
  | some o =>
    have h1 := List.find?_some h
    have h2 : (addrI o).1 ≠ 0 := by
      unfold tkI at h1
      simp only [Bool.and_eq_true, bne_iff_ne] at h1
      exact h1.2
    simp only [if_neg h2]
theorem told_rng (l : List Opt) (k d : Int) (hl : okL l) (hd : u32ok d) : u32ok (toldI l k d) := by
  unfold toldI
  cases h : l.find? (tkI k) with
  | none => exact hd
  | some o => exact addrI_rng (hl o (List.mem_of_find?_eq_some h)).2
def nakedI (s : Sd) (l : List Opt) : Sd := if s.srv = true then s else { s with own := toldI l 3 s.own, dns := if s.asks = true then toldI l 129 s.dns else s.dns }
theorem i_naked (s : Sd) (l : List Opt) (hl : okL l) (hn : l.length ≤ 40) : run G 135 [.v (sv s), .v (.slc 2 (oes l))] [] = some (.v (sv (nakedI s l)), []) := by
  rw [xq_fn G rfl ipcpo_Naked.g _ _ rfl]
  have t3 := i_told l 3 s.own hl hn
  have t9 := i_told l 129 s.dns hl hn
  unfold nakedI
  cases h1 : s.srv with
  | true => simp -implicitDefEqProofs (maxSteps := 2000000) (disch := omega) only [ipcpo_Naked.s, sv, h1, go_sem, reduceIte, Nat.reduceAdd, Nat.reduceSub, Nat.reduceMul, Nat.reduceLeDiff, Nat.reduceLT, Nat.reduceEqDiff, Int.reduceToNat, Int.reduceLT, Int.reduceLE, Int.reduceEq, Int.reduceNe, Int.reduceAdd, Int.reduceSub, Int.reduceMul, Int.reduceNeg, Int.reduceBEq, Int.reduceBNe, reduceCtorEq, dreduceIte, oWS, oW8, oW16, oW32, oW64, oLtT, oLtF, oLeT, oLeF, oNLtT, oNLtF, oNLeT, oNLeF, oEqT, oEqF, oNEqT, oNEqF, oBeqT, oBeqF, oBneT, oBneF, Int.natCast_add, List.take_length]
  | false =>
    cases h2 : s.asks with
    | false => simp -implicitDefEqProofs (maxSteps := 2000000) (disch := omega) only [ipcpo_Naked.s, sv, h1, h2, t3, go_sem, reduceIte, Nat.reduceAdd, Nat.reduceSub, Nat.reduceMul, Nat.reduceLeDiff, Nat.reduceLT, Nat.reduceEqDiff, Int.reduceToNat, Int.reduceLT, Int.reduceLE, Int.reduceEq, Int.reduceNe, Int.reduceAdd, Int.reduceSub, Int.reduceMul, Int.reduceNeg, Int.reduceBEq, Int.reduceBNe, reduceCtorEq, dreduceIte, oWS, oW8, oW16, oW32, oW64, oLtT, oLtF, oLeT, oLeF, oNLtT, oNLtF, oNLeT, oNLeF, oEqT, oEqF, oNEqT, oNEqF, oBeqT, oBeqF, oBneT, oBneF, Int.natCast_add, List.take_length]
    | true => simp -implicitDefEqProofs (maxSteps := 2000000) (disch := omega) only [ipcpo_Naked.s, sv, h1, h2, t3, t9, go_sem, reduceIte, Nat.reduceAdd, Nat.reduceSub, Nat.reduceMul, Nat.reduceLeDiff, Nat.reduceLT, Nat.reduceEqDiff, Int.reduceToNat, Int.reduceLT, Int.reduceLE, Int.reduceEq, Int.reduceNe, Int.reduceAdd, Int.reduceSub, Int.reduceMul, Int.reduceNeg, Int.reduceBEq, Int.reduceBNe, reduceCtorEq, dreduceIte, oWS, oW8, oW16, oW32, oW64, oLtT, oLtF, oLeT, oLeF, oNLtT, oNLtF, oNLeT, oNLeF, oEqT, oEqF, oNEqT, oNEqF, oBeqT, oBeqF, oBneT, oBneF, Int.natCast_add, List.take_length]
def rejI (s : Sd) (l : List Opt) : Sd := if (fdR l 129).2 = true ∧ s.srv = false then { s with asks := false } else s
theorem i_rejected (s : Sd) (l : List Opt) (hn : l.length ≤ 40) : run G 137 [.v (sv s), .v (.slc 2 (oes l))] [] = some (.tup [.v (sv (rejI s l)), .v (.bool (!(fdR l 3).2))], []) := by
  rw [xq_fn G rfl ipcpo_Rejected.g _ _ rfl]
  have f3 := find59 l 3 hn
  have f9 := find59 l 129 hn
  unfold rejI
  cases h1 : (fdR l 129).2 with
  | false => rw [h1] at f9; simp -implicitDefEqProofs (maxSteps := 2000000) (disch := omega) only [ipcpo_Rejected.s, sv, oe, f3, f9, go_sem, reduceIte, Nat.reduceAdd, Nat.reduceSub, Nat.reduceMul, Nat.reduceLeDiff, Nat.reduceLT, Nat.reduceEqDiff, Int.reduceToNat, Int.reduceLT, Int.reduceLE, Int.reduceEq, Int.reduceNe, Int.reduceAdd, Int.reduceSub, Int.reduceMul, Int.reduceNeg, Int.reduceBEq, Int.reduceBNe, reduceCtorEq, dreduceIte, oWS, oW8, oW16, oW32, oW64, oLtT, oLtF, oLeT, oLeF, oNLtT, oNLtF, oNLeT, oNLeF, oEqT, oEqF, oNEqT, oNEqF, oBeqT, oBeqF, oBneT, oBneF, Int.natCast_add, List.take_length]
  | true =>
    rw [h1] at f9
    cases h2 : s.srv with
    | false => simp -implicitDefEqProofs (maxSteps := 2000000) (disch := omega) only [ipcpo_Rejected.s, sv, oe, h2, f3, f9, go_sem, reduceIte, Nat.reduceAdd, Nat.reduceSub, Nat.reduceMul, Nat.reduceLeDiff, Nat.reduceLT, Nat.reduceEqDiff, Int.reduceToNat, Int.reduceLT, Int.reduceLE, Int.reduceEq, Int.reduceNe, Int.reduceAdd, Int.reduceSub, Int.reduceMul, Int.reduceNeg, Int.reduceBEq, Int.reduceBNe, reduceCtorEq, dreduceIte, oWS, oW8, oW16, oW32, oW64, oLtT, oLtF, oLeT, oLeF, oNLtT, oNLtF, oNLeT, oNLeF, oEqT, oEqF, oNEqT, oNEqF, oBeqT, oBeqF, oBneT, oBneF, Int.natCast_add, List.take_length]
    | true => simp -implicitDefEqProofs (maxSteps := 2000000) (disch := omega) only [ipcpo_Rejected.s, sv, oe, h2, f3, f9, go_sem, reduceIte, Nat.reduceAdd, Nat.reduceSub, Nat.reduceMul, Nat.reduceLeDiff, Nat.reduceLT, Nat.reduceEqDiff, Int.reduceToNat, Int.reduceLT, Int.reduceLE, Int.reduceEq, Int.reduceNe, Int.reduceAdd, Int.reduceSub, Int.reduceMul, Int.reduceNeg, Int.reduceBEq, Int.reduceBNe, reduceCtorEq, dreduceIte, oWS, oW8, oW16, oW32, oW64, oLtT, oLtF, oLeT, oLeF, oNLtT, oNLtF, oNLeT, oNLeF, oEqT, oEqF, oNEqT, oNEqF, oBeqT, oBeqF, oBneT, oBneF, Int.natCast_add, List.take_length]
end Go.Q
set_option maxRecDepth 100000
namespace Go.Q
open SOp SCode
attribute [local congr] bind_c map_c
def jiStep (s : Sd) (m : Bool) (o : Opt) (r : List Opt × List Opt) : List Opt × List Opt :=
  if m = true ∨ (oneI s o).1 = 4 then (r.1 ++ [o], r.2) else if (oneI s o).1 = 3 then (r.1, r.2 ++ [(oneI s o).2]) else r
def jiR (s : Sd) (l : List Opt) : Nat → List Opt × List Opt
  | 0 => ([], [])
  | i + 1 => match l[i]? with
    | some o => jiStep s (fdR (l.take i) o.1).2 o (jiR s l i)
    | none => jiR s l i
theorem jiR_succ {s : Sd} {l : List Opt} {i : Nat} (h : i < l.length) : jiR s l (i + 1) = jiStep s (fdR (l.take i) l[i].1).2 l[i] (jiR s l i) := by
  rw [jiR, List.getElem?_eq_getElem h]
theorem jiR_len (s : Sd) (l : List Opt) : ∀ i, i ≤ l.length → (jiR s l i).1.length ≤ i ∧ (jiR s l i).2.length ≤ i
  | 0, _ => ⟨Nat.le_refl _, Nat.le_refl _⟩
  | i + 1, h => by
    obtain ⟨h1, h2⟩ := jiR_len s l i (by omega)
    rw [jiR_succ (by omega), jiStep]
    split
    · simp; omega
    · split
      · simp; omega
      · omega
theorem nz_acc (z : Nat) (h : z ≠ 0) (l : List V) : solidB (.row [accG z l]) = true := by
  cases l with
  | nil => rfl
  | cons x l => simp [solidB, accG, cellsOf, nz, h]
abbrev jiS (s : Sd) (l : List Opt) (i : Nat) : St := [[.row [.v (sv s)], .row [.v (.slc 2 (oes l))], .row [accG 2 (oes (jiR s l i).1)], .row [accG 2 (oes (jiR s l i).2)], .row [.v (.slc 2 (oes l))]]]
theorem jiS_solid (s : Sd) (l : List Opt) (i : Nat) : solid (jiS s l i) = true := by
  have h1 := nz_acc 2 (by decide) (oes (jiR s l i).1)
  have h2 := nz_acc 2 (by decide) (oes (jiR s l i).2)
  simp only [solid, jiS, List.all_cons, List.all_nil, h1, h2, Bool.and_true, Bool.true_and]
  rfl
theorem solid_cons (fr : List Blk) (st : St) (h : fr.all solidB = true) (h2 : solid st = true) : solid (fr :: st) = true := by
  simp only [solid, List.all_cons, h, Bool.true_and] at h2 ⊢; exact h2
theorem ac_cells (z : Nat) (l : List V) : cellsOf (accG z l) = [accG z l] := by cases l <;> rfl
theorem ac_cp1 (z : Nat) (l : List V) : cp1 (accG z l) = wkG z l := by cases l <;> rfl
theorem ac_unc (z : Nat) (l : List V) (cs : List D) : unCells (accG z l) cs = cs.headD .undef := by cases l <;> rfl
theorem ac_cellsw (z : Nat) (l : List V) : cellsOf (wkG z l) = [wkG z l] := by cases l <;> rfl
theorem ac_uncw (z : Nat) (l : List V) (cs : List D) : unCells (wkG z l) cs = cs.headD .undef := by cases l <;> rfl
theorem ac_good (z : Nat) (l : List V) : goodD (accG z l) = true := by cases l <;> rfl
theorem ac_refs (n z : Nat) (l : List V) : refsBelow n (accG z l) = true := by cases l <;> rfl
theorem ac_agg (z : Nat) (l : List V) : isAggD (accG z l) = false := by cases l <;> rfl
theorem ac_aggw (z : Nat) (l : List V) : isAggD (wkG z l) = false := by cases l <;> rfl
theorem ji_round (s : Sd) (l : List Opt) (hs : okSd s) (hl : okL l) (hn : l.length ≤ 40) (i : Nat) (hi : i < l.length) (a6 a7 a8 a9 a10 a11 : D) :
    ∃ env' fr, rgB (fun env st => ex G ipcpo_Judge.l0 env st) (fun env st => ex G ipcpo_Judge.l1 env st)
      (setPs [2, 3] [.int .i64 i, oe l[i]] [.v (sv s), .v (.slc 2 (oes l)), .undef, .undef, .ptr ⟨0, 0⟩ 0 0, .ptr ⟨0, 1⟩ 0 0, .v (.int .u8 0), .nils 2, .ptr ⟨0, 2⟩ 0 0, .ptr ⟨0, 3⟩ 0 0, .clo 184 [] [.ptr ⟨0, 4⟩ 0 0], .undef, .undef, .undef, .undef, .undef]) ([] :: jiS s l i) =
      some (.normal, env', fr :: jiS s l (i + 1)) := by
  have ho := hl _ (List.getElem_mem hi)
  have O := i_one s l[i] hs ho
  have f := find59 (l.take i) l[i].1 (by rw [List.length_take]; omega)
  have jl := jiR_len s l i (by omega)
  have hM := hmax
  have ha := ac_app 2 (oes (jiR s l i).1) 32 [oe l[i]] (by simp) (by rw [oes_len]; simp; omega)
  have hb := ac_app 2 (oes (jiR s l i).2) 32 [oe (oneI s l[i]).2] (by simp) (by rw [oes_len]; simp; omega)
  have e1 : oes (jiR s l i).1 ++ [oe l[i]] = oes ((jiR s l i).1 ++ [l[i]]) := by rw [← oes_app]; rfl
  have e2 : oes (jiR s l i).2 ++ [oe (oneI s l[i]).2] = oes ((jiR s l i).2 ++ [(oneI s l[i]).2]) := by rw [← oes_app]; rfl
  rw [e1] at ha
  rw [e2] at hb
  have hsol := jiS_solid s l i
  have hlen : (oes l).length = l.length := oes_len l
  have h1 : ex G ipcpo_Judge.l0 (setPs [2, 3] [.int .i64 i, oe l[i]] [.v (sv s), .v (.slc 2 (oes l)), .undef, .undef, .ptr ⟨0, 0⟩ 0 0, .ptr ⟨0, 1⟩ 0 0, .v (.int .u8 0), .nils 2, .ptr ⟨0, 2⟩ 0 0, .ptr ⟨0, 3⟩ 0 0, .clo 184 [] [.ptr ⟨0, 4⟩ 0 0], .undef, .undef, .undef, .undef, .undef]) ([] :: jiS s l i) =
      some (.normal, [.v (sv s), .v (.slc 2 (oes l)), .v (.int .i64 i), .v (oe l[i]), .ptr ⟨0, 0⟩ 0 0, .ptr ⟨0, 1⟩ 0 0, .v (.int .u8 0), .nils 2, .ptr ⟨0, 2⟩ 0 0, .ptr ⟨0, 3⟩ 0 0, .clo 184 [] [.ptr ⟨0, 4⟩ 0 0], .v (.int .i64 i), .ptr ⟨1, 0⟩ 0 0, .undef, .undef, .undef], [.row [.v (oe l[i])]] :: jiS s l i) := by
    generalize l[i] = o at *
    simp -implicitDefEqProofs (maxSteps := 2000000) (disch := omega) only [ipcpo_Judge.l0, go_sem, reduceIte, Nat.reduceAdd, Nat.reduceSub, Nat.reduceMul, Nat.reduceLeDiff, Nat.reduceLT, Nat.reduceEqDiff, Int.reduceToNat, Int.reduceLT, Int.reduceLE, Int.reduceEq, Int.reduceNe, Int.reduceAdd, Int.reduceSub, Int.reduceMul, Int.reduceNeg, Int.reduceBEq, Int.reduceBNe, reduceCtorEq, dreduceIte, oWS, oW8, oW16, oW32, oW64, oLtT, oLtF, oLeT, oLeF, oNLtT, oNLtF, oNLeT, oNLeF, oEqT, oEqF, oNEqT, oNEqF, oBeqT, oBeqF, oBneT, oBneF, Int.natCast_add, List.take_length]
  have h2 : ∃ env' fr, ex G ipcpo_Judge.l1 [.v (sv s), .v (.slc 2 (oes l)), .v (.int .i64 i), .v (oe l[i]), .ptr ⟨0, 0⟩ 0 0, .ptr ⟨0, 1⟩ 0 0, .v (.int .u8 0), .nils 2, .ptr ⟨0, 2⟩ 0 0, .ptr ⟨0, 3⟩ 0 0, .clo 184 [] [.ptr ⟨0, 4⟩ 0 0], .v (.int .i64 i), .ptr ⟨1, 0⟩ 0 0, .undef, .undef, .undef] ([.row [.v (oe l[i])]] :: jiS s l i) =
      some (.normal, env', fr :: jiS s l (i + 1)) := by
    unfold jiS
    rw [jiR_succ hi]
    unfold jiStep
    generalize jiR s l i = r at *
    generalize oneI s l[i] = b at *
    generalize l[i] = o at *
    obtain ⟨b1, b2⟩ := b
    obtain ⟨o1, o2⟩ := o
    obtain ⟨x1, x2⟩ := b2
    generalize fdR (l.take i) o1 = fo at *
    obtain ⟨⟨y1, y2⟩, m⟩ := fo
    obtain ⟨r1, r2⟩ := r
    simp only [oe, z0, Int.cast_ofNat_Int, List.take_zero, List.map_nil, List.drop_zero, accN, b8_nil, Int.sub_zero, Int.add_zero, Int.zero_add, Nat.zero_add, Nat.sub_zero, List.nil_append, List.append_nil] at O
    simp only [oe, z0, Int.cast_ofNat_Int, List.take_zero, List.map_nil, List.drop_zero, accN, b8_nil, Int.sub_zero, Int.add_zero, Int.zero_add, Nat.zero_add, Nat.sub_zero, List.nil_append, List.append_nil] at f
    simp only [oe, z0, Int.cast_ofNat_Int, List.take_zero, List.map_nil, List.drop_zero, accN, b8_nil, Int.sub_zero, Int.add_zero, Int.zero_add, Nat.zero_add, Nat.sub_zero, List.nil_append, List.append_nil] at ha
    simp only [oe, z0, Int.cast_ofNat_Int, List.take_zero, List.map_nil, List.drop_zero, accN, b8_nil, Int.sub_zero, Int.add_zero, Int.zero_add, Nat.zero_add, Nat.sub_zero, List.nil_append, List.append_nil] at hb
    cases m with
    | true =>
      refine ⟨?_, ?_, ?_⟩
      rotate_left 2
      · simp -implicitDefEqProofs (maxSteps := 2000000) (disch := omega) only [ipcpo_Judge.l1, oe, O, f, ha, hb, ac_cells, ac_cp1, ac_unc, ac_cellsw, ac_uncw, ac_good, ac_refs, ac_agg, ac_aggw, oes_len, oes_take, go_sem, reduceIte, Nat.reduceAdd, Nat.reduceSub, Nat.reduceMul, Nat.reduceLeDiff, Nat.reduceLT, Nat.reduceEqDiff, Int.reduceToNat, Int.reduceLT, Int.reduceLE, Int.reduceEq, Int.reduceNe, Int.reduceAdd, Int.reduceSub, Int.reduceMul, Int.reduceNeg, Int.reduceBEq, Int.reduceBNe, reduceCtorEq, dreduceIte, oWS, oW8, oW16, oW32, oW64, oLtT, oLtF, oLeT, oLeF, oNLtT, oNLtF, oNLeT, oNLeF, oEqT, oEqF, oNEqT, oNEqF, oBeqT, oBeqF, oBneT, oBneF, Int.natCast_add, List.take_length]
        rfl
    | false =>
      by_cases c4 : b1 = 4
      · refine ⟨?_, ?_, ?_⟩
        rotate_left 2
        · simp -implicitDefEqProofs (maxSteps := 2000000) (disch := omega) only [ipcpo_Judge.l1, oe, O, f, ha, hb, ac_cells, ac_cp1, ac_unc, ac_cellsw, ac_uncw, ac_good, ac_refs, ac_agg, ac_aggw, oes_len, oes_take, go_sem, reduceIte, Nat.reduceAdd, Nat.reduceSub, Nat.reduceMul, Nat.reduceLeDiff, Nat.reduceLT, Nat.reduceEqDiff, Int.reduceToNat, Int.reduceLT, Int.reduceLE, Int.reduceEq, Int.reduceNe, Int.reduceAdd, Int.reduceSub, Int.reduceMul, Int.reduceNeg, Int.reduceBEq, Int.reduceBNe, reduceCtorEq, dreduceIte, oWS, oW8, oW16, oW32, oW64, oLtT, oLtF, oLeT, oLeF, oNLtT, oNLtF, oNLeT, oNLeF, oEqT, oEqF, oNEqT, oNEqF, oBeqT, oBeqF, oBneT, oBneF, Int.natCast_add, List.take_length]
          rfl
      · by_cases c3 : b1 = 3
        · refine ⟨?_, ?_, ?_⟩
          rotate_left 2
          · simp -implicitDefEqProofs (maxSteps := 2000000) (disch := omega) only [ipcpo_Judge.l1, oe, O, f, ha, hb, ac_cells, ac_cp1, ac_unc, ac_cellsw, ac_uncw, ac_good, ac_refs, ac_agg, ac_aggw, oes_len, oes_take, go_sem, reduceIte, Nat.reduceAdd, Nat.reduceSub, Nat.reduceMul, Nat.reduceLeDiff, Nat.reduceLT, Nat.reduceEqDiff, Int.reduceToNat, Int.reduceLT, Int.reduceLE, Int.reduceEq, Int.reduceNe, Int.reduceAdd, Int.reduceSub, Int.reduceMul, Int.reduceNeg, Int.reduceBEq, Int.reduceBNe, reduceCtorEq, dreduceIte, oWS, oW8, oW16, oW32, oW64, oLtT, oLtF, oLeT, oLeF, oNLtT, oNLtF, oNLeT, oNLeF, oEqT, oEqF, oNEqT, oNEqF, oBeqT, oBeqF, oBneT, oBneF, Int.natCast_add, List.take_length]
            rfl
        · refine ⟨?_, ?_, ?_⟩
          rotate_left 2
          · simp -implicitDefEqProofs (maxSteps := 2000000) (disch := omega) only [ipcpo_Judge.l1, oe, O, f, ha, hb, ac_cells, ac_cp1, ac_unc, ac_cellsw, ac_uncw, ac_good, ac_refs, ac_agg, ac_aggw, oes_len, oes_take, go_sem, reduceIte, Nat.reduceAdd, Nat.reduceSub, Nat.reduceMul, Nat.reduceLeDiff, Nat.reduceLT, Nat.reduceEqDiff, Int.reduceToNat, Int.reduceLT, Int.reduceLE, Int.reduceEq, Int.reduceNe, Int.reduceAdd, Int.reduceSub, Int.reduceMul, Int.reduceNeg, Int.reduceBEq, Int.reduceBNe, reduceCtorEq, dreduceIte, oWS, oW8, oW16, oW32, oW64, oLtT, oLtF, oLeT, oLeF, oNLtT, oNLtF, oNLeT, oNLeF, oEqT, oEqF, oNEqT, oNEqF, oBeqT, oBeqF, oBneT, oBneF, Int.natCast_add, List.take_length]
            rfl
  obtain ⟨env', fr, h2⟩ := h2
  exact ⟨env', fr, rgB_of h1 (solid_cons _ _ (by simp [solidB, cellsOf, nz]) hsol) h2⟩
def judI (s : Sd) (l : List Opt) : Int × List Opt :=
  if 0 < (jiR s l l.length).1.length then (4, (jiR s l l.length).1) else if 0 < (jiR s l l.length).2.length then (3, (jiR s l l.length).2) else (2, l)
theorem wk_pos {l : List Opt} (h : 0 < l.length) : wkG 2 (oes l) = .v (.slc 2 (oes l)) := by
  cases l with
  | nil => simp at h
  | cons o l => rfl
theorem ac_posI {l : List Opt} (h : 0 < l.length) : accG 2 (oes l) = .lin 2 (oes l) := by
  cases l with
  | nil => simp at h
  | cons o l => rfl
theorem i_all (s : Sd) (l : List Opt) : run G 163 [.v (.slc 2 (oes l))] [[.row [.v (sv s)], .row [.v (.slc 2 (oes l))], .row [.nils 2], .row [.nils 2]]] = some (.clo 184 [] [.ptr ⟨0, 4⟩ 0 0], [[.row [.v (sv s)], .row [.v (.slc 2 (oes l))], .row [.nils 2], .row [.nils 2], .row [.v (.slc 2 (oes l))]]]) := by
  rw [xq_fn G rfl slices_All_api_Option.g _ _ rfl]
  simp -implicitDefEqProofs (maxSteps := 2000000) (disch := omega) only [slices_All_api_Option.s, addBot, addB, mkfD, go_sem, reduceIte, Nat.reduceAdd, Nat.reduceSub, Nat.reduceMul, Nat.reduceLeDiff, Nat.reduceLT, Nat.reduceEqDiff, Int.reduceToNat, Int.reduceLT, Int.reduceLE, Int.reduceEq, Int.reduceNe, Int.reduceAdd, Int.reduceSub, Int.reduceMul, Int.reduceNeg, Int.reduceBEq, Int.reduceBNe, reduceCtorEq, dreduceIte, oWS, oW8, oW16, oW32, oW64, oLtT, oLtF, oLeT, oLeF, oNLtT, oNLtF, oNLeT, oNLeF, oEqT, oEqF, oNEqT, oNEqF, oBeqT, oBeqF, oBneT, oBneF, Int.natCast_add, List.take_length]
theorem i_row (l : List Opt) : rowV 2 0 l.length (some (.row ((oes l).map .v))) = some (.slc 2 (oes l)) := by
  have e : ((oes l).map D.v).take l.length = (oes l).map D.v := List.take_of_length_le (by simp [oes_len])
  have q : ∀ (l : List Opt), toVL ((oes l).map .v) = some (oes l) := fun l => by
    induction l with
    | nil => rfl
    | cons x l ih =>
      simp only [oes] at ih
      simp only [oes, List.map_cons, toVL, toV, Option.bind_some, ih, Option.map_some]
  simp only [rowV, Nat.zero_add]
  rw [if_pos (by simp [oes_len]), List.drop_zero, e, q, Option.map_some]
theorem i_judge (s : Sd) (l : List Opt) (hs : okSd s) (hl : okL l) (hn : l.length ≤ 40) :
    run G 130 [.v (sv s), .v (.slc 2 (oes l))] [] = some (.tup [.v (.int .u8 (judI s l).1), .v (.slc 2 (oes (judI s l).2))], []) := by
  have hM := hmax
  have C := i_all s l
  have I := iterD_all (f := 184) (st := jiS s l 0) (d := .ptr ⟨0, 4⟩ 0 0) (z := 1) (xs := oes l) (by rw [oes_len]; omega) rfl
  have il := idxV_len 0 (oes l)
  have L := rangeN_all (body := rgB (fun env st => ex G ipcpo_Judge.l0 env st) (fun env st => ex G ipcpo_Judge.l1 env st)) (ps := [2, 3])
    (env0 := [.v (sv s), .v (.slc 2 (oes l)), .undef, .undef, .ptr ⟨0, 0⟩ 0 0, .ptr ⟨0, 1⟩ 0 0, .v (.int .u8 0), .nils 2, .ptr ⟨0, 2⟩ 0 0, .ptr ⟨0, 3⟩ 0 0, .clo 184 [] [.ptr ⟨0, 4⟩ 0 0], .undef, .undef, .undef, .undef, .undef])
    (xs := idxV 0 (oes l)) (jiS s l) (fun i _ => jiS_solid s l i) (fun i hi => by
      have hi' : i < l.length := by rw [il, oes_len] at hi; exact hi
      have e := idxV_at 0 (oes l) i hi (by rw [oes_len]; exact hi')
      have e2 : (oes l)[i]'(by rw [oes_len]; exact hi') = oe l[i] := by simp [oes]
      rw [e, e2, Nat.zero_add]
      exact ji_round s l hs hl hn i hi' .undef .undef .undef .undef .undef .undef)
  rw [il, oes_len] at L
  have j0 : jiR s l 0 = ([], []) := rfl
  rw [xq_fn G rfl ipcpo_Judge.g _ _ rfl]
  unfold judI
  by_cases c1 : 0 < (jiR s l l.length).1.length
  · have w1 := wk_pos c1
    rw [if_pos c1]
    simp only [jiS, j0, oes_nil, accN, w1] at I L
    simp -implicitDefEqProofs (maxSteps := 2000000) (disch := omega) only [ipcpo_Judge.s, C, xq_range, I, L, ac_cells, ac_posI c1, oes_len, go_sem, reduceIte, Nat.reduceAdd, Nat.reduceSub, Nat.reduceMul, Nat.reduceLeDiff, Nat.reduceLT, Nat.reduceEqDiff, Int.reduceToNat, Int.reduceLT, Int.reduceLE, Int.reduceEq, Int.reduceNe, Int.reduceAdd, Int.reduceSub, Int.reduceMul, Int.reduceNeg, Int.reduceBEq, Int.reduceBNe, reduceCtorEq, dreduceIte, oWS, oW8, oW16, oW32, oW64, oLtT, oLtF, oLeT, oLeF, oNLtT, oNLtF, oNLeT, oNLeF, oEqT, oEqF, oNEqT, oNEqF, oBeqT, oBeqF, oBneT, oBneF, Int.natCast_add, List.take_length]
  · have a0 : (jiR s l l.length).1 = [] := List.eq_nil_of_length_eq_zero (by omega)
    rw [if_neg c1]
    by_cases c2 : 0 < (jiR s l l.length).2.length
    · have w1 := wk_pos c2
      rw [if_pos c2]
      simp only [jiS, j0, a0, oes_nil, accN, w1] at I L
      simp -implicitDefEqProofs (maxSteps := 2000000) (disch := omega) only [ipcpo_Judge.s, C, xq_range, I, L, ac_cells, ac_posI c2, oes_len, go_sem, reduceIte, Nat.reduceAdd, Nat.reduceSub, Nat.reduceMul, Nat.reduceLeDiff, Nat.reduceLT, Nat.reduceEqDiff, Int.reduceToNat, Int.reduceLT, Int.reduceLE, Int.reduceEq, Int.reduceNe, Int.reduceAdd, Int.reduceSub, Int.reduceMul, Int.reduceNeg, Int.reduceBEq, Int.reduceBNe, reduceCtorEq, dreduceIte, oWS, oW8, oW16, oW32, oW64, oLtT, oLtF, oLeT, oLeF, oNLtT, oNLtF, oNLeT, oNLeF, oEqT, oEqF, oNEqT, oNEqF, oBeqT, oBeqF, oBneT, oBneF, Int.natCast_add, List.take_length]
    · have b0 : (jiR s l l.length).2 = [] := List.eq_nil_of_length_eq_zero (by omega)
      rw [if_neg c2]
      simp only [jiS, j0, a0, b0, oes_nil, accN] at I L
      by_cases hl0 : l = []
      · have K := clone101n [[.row [.v (sv s)], .row [.v (.slc 2 (oes l))], .row [.nils 2], .row [.nils 2], .row [.v (.slc 2 (oes l))]]]
        rw [← hl0] at K
        have e0 : oes l = [] := by rw [hl0]; rfl
        simp -implicitDefEqProofs (maxSteps := 2000000) (disch := omega) only [ipcpo_Judge.s, C, xq_range, I, L, K, ac_cells, oes_len, go_sem, reduceIte, Nat.reduceAdd, Nat.reduceSub, Nat.reduceMul, Nat.reduceLeDiff, Nat.reduceLT, Nat.reduceEqDiff, Int.reduceToNat, Int.reduceLT, Int.reduceLE, Int.reduceEq, Int.reduceNe, Int.reduceAdd, Int.reduceSub, Int.reduceMul, Int.reduceNeg, Int.reduceBEq, Int.reduceBNe, reduceCtorEq, dreduceIte, oWS, oW8, oW16, oW32, oW64, oLtT, oLtF, oLeT, oLeF, oNLtT, oNLtF, oNLeT, oNLeF, oEqT, oEqF, oNEqT, oNEqF, oBeqT, oBeqF, oBneT, oBneF, Int.natCast_add, List.take_length]
        rw [e0]
      · have K := clone101 l hl0 hn [.row [.v (sv s)], .row [.v (.slc 2 (oes l))], .row [.nils 2], .row [.nils 2], .row [.v (.slc 2 (oes l))]] []
        have w := i_row l
        simp -implicitDefEqProofs (maxSteps := 2000000) (disch := omega) only [ipcpo_Judge.s, C, xq_range, I, L, K, w, ac_cells, oes_len, go_sem, reduceIte, Nat.reduceAdd, Nat.reduceSub, Nat.reduceMul, Nat.reduceLeDiff, Nat.reduceLT, Nat.reduceEqDiff, Int.reduceToNat, Int.reduceLT, Int.reduceLE, Int.reduceEq, Int.reduceNe, Int.reduceAdd, Int.reduceSub, Int.reduceMul, Int.reduceNeg, Int.reduceBEq, Int.reduceBNe, reduceCtorEq, dreduceIte, oWS, oW8, oW16, oW32, oW64, oLtT, oLtF, oLeT, oLeF, oNLtT, oNLtF, oNLeT, oNLeF, oEqT, oEqF, oNEqT, oNEqF, oBeqT, oBeqF, oBneT, oBneF, Int.natCast_add, List.take_length]
theorem rejects_one (s : Sd) (o : Opt) : (oneI s o).1 = 4 ↔ (¬ o.2.length = 4 ∨ (if s.srv = true then o.1 ≠ 3 ∧ (o.1 ≠ 129 ∨ s.dns = 0) else o.1 ≠ 3 ∨ num o.2 = 0)) := by
  unfold oneI
  by_cases e4 : o.2.length = 4
  · rw [addr_num e4]
    cases hs : s.srv with
    | false =>
      by_cases h3 : o.1 = 3
      · by_cases h0 : num o.2 = 0
        · simp [e4, h3, h0]
        · simp [e4, h3, h0]
      · simp [e4, h3]
    | true =>
      unfold givesI
      by_cases h3 : o.1 = 3
      · by_cases hg : num o.2 = s.give
        · simp [e4, h3, hg]
        · simp [e4, h3, hg]
      · by_cases h9 : o.1 = 129
        · by_cases h0 : s.dns = 0
          · simp [e4, h9, h0]
          · by_cases hg : num o.2 = s.dns
            · simp [e4, h9, h0, hg]
            · simp [e4, h9, h0, hg]
        · simp [e4, h3, h9]
  · rw [addr_no e4]
    cases hs : s.srv with
    | false => simp [e4]
    | true => simp [e4]
def rjP (s : Sd) (o : Opt) (m : Bool) : Bool := m || decide ((oneI s o).1 = 4)
def rgI (s : Sd) (k : Int) : Int := if k = 129 then s.dns else s.give
theorem rgI_rng {s : Sd} (h : okSd s) (k : Int) : u32ok (rgI s k) := by
  unfold rgI
  split
  · exact h.2.2
  · exact h.2.1
theorem one_not (s : Sd) (o : Opt) (h : ¬ (oneI s o).1 = 4) : o.2.length = 4 ∧ oneI s o = if s.srv = true ∧ num o.2 ≠ rgI s o.1 then (3, (o.1, big 4 (rgI s o.1))) else (2, o) := by
  have h' := h
  rw [rejects_one] at h'
  have e4 : o.2.length = 4 := by
    by_cases e4 : o.2.length = 4
    · exact e4
    · exact absurd (.inl e4) h'
  refine ⟨e4, ?_⟩
  unfold oneI rgI givesI
  rw [addr_num e4]
  obtain ⟨srv, own, give, dns, asks⟩ := s
  cases srv with
  | false =>
    have : o.1 = 3 ∧ ¬ num o.2 = 0 := by
      by_cases h3 : o.1 = 3 <;> by_cases h0 : num o.2 = 0 <;> simp [e4, h3, h0] at h' ⊢
    simp [this.1, this.2]
  | true =>
    by_cases h3 : o.1 = 3
    · by_cases hg : num o.2 = give
      · simp [h3, hg]
      · simp [h3, hg]
    · by_cases h9 : o.1 = 129
      · by_cases h0 : dns = 0
        · simp [e4, h9, h0] at h'
        · by_cases hg : num o.2 = dns
          · simp [h9, h0, hg]
          · simp [h9, h0, hg]
      · simp [e4, h3, h9] at h'
end Go.Q
set_option maxRecDepth 100000
namespace Go.Q
open SOp SCode
attribute [local congr] bind_c map_c
theorem one_ok (s : Sd) (o : Opt) (ho : okO o) : okO (oneI s o).2 := by
  unfold oneI
  split
  · split
    · exact ho
    · exact ho
  · split
    · exact ho
    · split
      · exact ⟨ho.1, big_ok _ _⟩
      · exact ho
theorem jiR_ok (s : Sd) (l : List Opt) (hl : okL l) : ∀ i, i ≤ l.length → okL (jiR s l i).1 ∧ okL (jiR s l i).2
  | 0, _ => ⟨fun o h => (by cases h), fun o h => (by cases h)⟩
  | i + 1, h => by
    obtain ⟨h1, h2⟩ := jiR_ok s l hl i (by omega)
    rw [jiR_succ (by omega), jiStep]
    have ap : ∀ (s : List Opt) (o : Opt), okL s → okO o → okL (s ++ [o]) := fun s o hs ho x hx => (List.mem_append.1 hx).elim (hs x) (fun hh => by rw [List.mem_singleton.1 hh]; exact ho)
    split
    · exact ⟨ap _ _ h1 (hl _ (List.getElem_mem _)), h2⟩
    · split
      · exact ⟨h1, ap _ _ h2 (one_ok _ _ (hl _ (List.getElem_mem _)))⟩
      · exact ⟨h1, h2⟩
theorem judI_ok (s : Sd) (l : List Opt) (hl : okL l) (hn : l.length ≤ 40) : okL (judI s l).2 ∧ (judI s l).2.length ≤ 40 := by
  obtain ⟨h1, h2⟩ := jiR_ok s l hl l.length (Nat.le_refl _)
  have := jiR_len s l l.length (Nat.le_refl _)
  unfold judI
  split
  · exact ⟨h1, by simp only; omega⟩
  split
  · exact ⟨h2, by simp only; omega⟩
  · exact ⟨hl, hn⟩
theorem optsI_ok (s : Sd) : okL (optsI s) ∧ (optsI s).length ≤ 40 := by
  unfold optsI
  split
  · refine ⟨fun o ho => ?_, by simp⟩
    simp only [List.mem_cons, List.not_mem_nil, or_false] at ho
    rcases ho with rfl | rfl
    · exact ⟨by simp, big_ok _ _⟩
    · exact ⟨by simp, big_ok _ _⟩
  · refine ⟨fun o ho => ?_, by simp⟩
    simp only [List.mem_cons, List.not_mem_nil, or_false] at ho
    rcases ho with rfl
    exact ⟨by simp, big_ok _ _⟩
end Go.Q
