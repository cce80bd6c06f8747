/- The law NegoAgrees. No condition. -/
import Derived.Test.YtmbdamompcdolaaGreatDoorNh
set_option linter.all false
set_option maxRecDepth 100000
set_option maxHeartbeats 4000000
namespace Go.Q
open SOp SCode
attribute [local congr] bind_c map_c
theorem eq_sameO (l : List Opt) (hl : okL l) (hn : l.length ≤ 40) : run G 13 [.v (.slc 2 (oes l)), .v (.slc 2 (oes l))] [] = some (.v (.bool true), []) := by
  have := same58 l l hl hl hn
  rwa [beq_self_eq_true] at this
abbrev two (p q : Rl) : V := .agg [.bool p.ip, .int .u16 p.want.1, .int .u32 p.want.2.1, .bool p.want.2.2, .bool p.pv, .bool p.side.srv, .int .u32 p.side.own, .int .u32 p.side.give, .int .u32 p.side.dns, .bool p.side.asks, .bool q.ip, .int .u16 q.want.1, .int .u32 q.want.2.1, .bool q.want.2.2, .bool q.pv, .bool q.side.srv, .int .u32 q.side.own, .int .u32 q.side.give, .int .u32 q.side.dns, .bool q.side.asks]
abbrev eA (ip : Bool) (p : Rl) : Rl := ⟨ip, (p.want.1, p.want.2.1, false), true, ⟨false, p.side.own, p.side.give, p.side.dns, p.side.asks⟩⟩
abbrev eB (ip : Bool) (q : Rl) : Rl := ⟨ip, (q.want.1, q.want.2.1, true), false, ⟨true, q.side.own, q.side.give, q.side.dns, q.side.asks⟩⟩
theorem agreesI0 (p q : Rl) (h : q.side.own = 0 ∨ q.side.give = 0) : ∃ st', run G 3 [.v (two p q), .v (.bool true)] [[]] = some (.v (.bool true), st') := by
  rw [xq_fn G rfl euphroelaw27_NegoAgrees.g _ _ rfl]
  obtain ⟨pip, ⟨pm, pg, pp⟩, ppv, ⟨ps, po, pgv, pd, pa⟩⟩ := p
  obtain ⟨qip, ⟨qm, qg, qp⟩, qpv, ⟨qs, qo, qgv, qd, qa⟩⟩ := q
  simp only at h
  refine ⟨?_, ?_⟩
  rotate_left 1
  · by_cases h1 : qo = 0
    · simp -implicitDefEqProofs (maxSteps := 2000000) (disch := omega) only [euphroelaw27_NegoAgrees.s, two, n_alive, addBot, addB, Ref.mk.injEq, go_sem, reduceIte, Nat.reduceAdd, Nat.reduceSub, Nat.reduceMul, Nat.reduceLeDiff, Nat.reduceLT, Nat.reduceEqDiff, Int.reduceToNat, Int.reduceLT, Int.reduceLE, Int.reduceEq, Int.reduceNe, Int.reduceAdd, Int.reduceSub, Int.reduceMul, Int.reduceNeg, Int.reduceBEq, Int.reduceBNe, reduceCtorEq, dreduceIte, oWS, oW8, oW16, oW32, oW64, oLtT, oLtF, oLeT, oLeF, oNLtT, oNLtF, oNLeT, oNLeF, oEqT, oEqF, oNEqT, oNEqF, oBeqT, oBeqF, oBneT, oBneF, Int.natCast_add, List.take_length]
      rfl
    · have h2 : qgv = 0 := h.resolve_left h1
      simp -implicitDefEqProofs (maxSteps := 2000000) (disch := omega) only [euphroelaw27_NegoAgrees.s, two, n_alive, addBot, addB, Ref.mk.injEq, go_sem, reduceIte, Nat.reduceAdd, Nat.reduceSub, Nat.reduceMul, Nat.reduceLeDiff, Nat.reduceLT, Nat.reduceEqDiff, Int.reduceToNat, Int.reduceLT, Int.reduceLE, Int.reduceEq, Int.reduceNe, Int.reduceAdd, Int.reduceSub, Int.reduceMul, Int.reduceNeg, Int.reduceBEq, Int.reduceBNe, reduceCtorEq, dreduceIte, oWS, oW8, oW16, oW32, oW64, oLtT, oLtF, oLeT, oLeF, oNLtT, oNLtF, oNLeT, oNLeF, oEqT, oEqF, oNEqT, oNEqF, oBeqT, oBeqF, oBneT, oBneF, Int.natCast_add, List.take_length]
theorem agreesI (p q : Rl) (hp : okR p) (hq : okR q) (h1 : q.side.own ≠ 0) (h2 : q.side.give ≠ 0) : ∃ st', run G 3 [.v (two p q), .v (.bool true)] [[]] = some (.v (.bool true), st') := by
  have okA : okR (eA true p) := hp
  have okB : okR (eB true q) := hq
  obtain ⟨k, hk, C, i, nk, hC, hg, hf⟩ := ip_all (eA true p) (eB true q) rfl rfl hq.2 rfl h1 h2 hp.2 rfl
  have t12 : tkR (eA true p) (eB true q) 12 = tkR (eA true p) (eB true q) k := by
    have := tk_end (eA true p) (eB true q) (k := k) (by rw [hf]; exact ⟨rfl, rfl⟩) (12 - k)
    rwa [show k + (12 - k) = 12 by omega] at this
  have tk := n_talk (eA true p) (eB true q) okA okB
  rw [t12, hf] at tk
  have nA := n_new (eA true p)
  have nB := n_new (eB true q)
  have lA := n_lrules (eA true p)
  have lB := n_lrules (eB true q)
  have oC := optsI_ok C
  have oS := optsI_ok (eB true q).side
  have sA := n_state ⟨9, 10, 0, i, optsI C, pr (eA true p) C, optsI (eB true q).side, 0⟩
  have sB := n_state ⟨9, 10, 0, 1, optsI (eB true q).side, eB true q, optsI C, nk⟩
  have rA := n_rules ⟨9, 10, 0, i, optsI C, pr (eA true p) C, optsI (eB true q).side, 0⟩
  have rB := n_rules ⟨9, 10, 0, 1, optsI (eB true q).side, eB true q, optsI C, nk⟩
  have aA := n_acked ⟨9, 10, 0, i, optsI C, pr (eA true p) C, optsI (eB true q).side, 0⟩ oS.2
  have aB := n_acked ⟨9, 10, 0, 1, optsI (eB true q).side, eB true q, optsI C, nk⟩ oC.2
  have pC := i_options C hC
  have pS := i_options (eB true q).side hq.2
  have smC := eq_sameO (optsI C) oC.1 oC.2
  have smS := eq_sameO (optsI (eB true q).side) oS.1 oS.2
  clear hf t12
  generalize hoS : optsI (eB true q).side = ws at *
  generalize optsI C = wc at *
  obtain ⟨pip, ⟨pm, pg, pp⟩, ppv, ⟨ps, po, pgv, pd, pa⟩⟩ := p
  obtain ⟨qip, ⟨qm, qg, qp⟩, qpv, ⟨qs, qo, qgv, qd, qa⟩⟩ := q
  obtain ⟨csv, co, cg, cd, ca⟩ := C
  clear hoS
  simp only at h1 h2 hg
  subst hg
  simp only [newN, oes_nil, rlv, nv, sv, pr] at tk nA nB lA lB sA sB rA rB aA aB pC pS
  refine ⟨?_, ?_⟩
  rotate_left 1
  · rw [xq_fn G rfl euphroelaw27_NegoAgrees.g _ _ rfl]
    simp -implicitDefEqProofs (maxSteps := 2000000) (disch := omega) only [euphroelaw27_NegoAgrees.s, two, n_alive, addBot, addB, Ref.mk.injEq, oes_nil, tk, nA, nB, lA, lB, sA, sB, rA, rB, aA, aB, pC, pS, smC, smS, go_sem, reduceIte, Nat.reduceAdd, Nat.reduceSub, Nat.reduceMul, Nat.reduceLeDiff, Nat.reduceLT, Nat.reduceEqDiff, Int.reduceToNat, Int.reduceLT, Int.reduceLE, Int.reduceEq, Int.reduceNe, Int.reduceAdd, Int.reduceSub, Int.reduceMul, Int.reduceNeg, Int.reduceBEq, Int.reduceBNe, reduceCtorEq, dreduceIte, oWS, oW8, oW16, oW32, oW64, oLtT, oLtF, oLeT, oLeF, oNLtT, oNLtF, oNLeT, oNLeF, oEqT, oEqF, oNEqT, oNEqF, oBeqT, oBeqF, oBneT, oBneF, Int.natCast_add, List.take_length]
    all_goals try rfl
abbrev badW (p q : Rl) : Prop := (0 < p.want.1 ∧ p.want.1 < 128) ∨ (0 < q.want.1 ∧ q.want.1 < 128) ∨ (p.want.2.1 = q.want.2.1 ∧ p.want.2.1 ≠ 0)
theorem agreesL0 (p q : Rl) (h : badW p q) : ∃ st', run G 3 [.v (two p q), .v (.bool false)] [[]] = some (.v (.bool true), st') := by
  obtain ⟨pip, ⟨pm, pg, pp⟩, ppv, ⟨ps, po, pgv, pd, pa⟩⟩ := p
  obtain ⟨qip, ⟨qm, qg, qp⟩, qpv, ⟨qs, qo, qgv, qd, qa⟩⟩ := q
  simp only [badW] at h
  refine ⟨?_, ?_⟩
  rotate_left 1
  · rw [xq_fn G rfl euphroelaw27_NegoAgrees.g _ _ rfl]
    by_cases p0 : 0 < pm
    · by_cases p1 : pm < 128
      · simp -implicitDefEqProofs (maxSteps := 2000000) (disch := omega) only [euphroelaw27_NegoAgrees.s, two, n_alive, addBot, addB, Ref.mk.injEq, go_sem, reduceIte, Nat.reduceAdd, Nat.reduceSub, Nat.reduceMul, Nat.reduceLeDiff, Nat.reduceLT, Nat.reduceEqDiff, Int.reduceToNat, Int.reduceLT, Int.reduceLE, Int.reduceEq, Int.reduceNe, Int.reduceAdd, Int.reduceSub, Int.reduceMul, Int.reduceNeg, Int.reduceBEq, Int.reduceBNe, reduceCtorEq, dreduceIte, oWS, oW8, oW16, oW32, oW64, oLtT, oLtF, oLeT, oLeF, oNLtT, oNLtF, oNLeT, oNLeF, oEqT, oEqF, oNEqT, oNEqF, oBeqT, oBeqF, oBneT, oBneF, Int.natCast_add, List.take_length]
        try rfl
      · by_cases q0 : 0 < qm
        · by_cases q1 : qm < 128
          · simp -implicitDefEqProofs (maxSteps := 2000000) (disch := omega) only [euphroelaw27_NegoAgrees.s, two, n_alive, addBot, addB, Ref.mk.injEq, go_sem, reduceIte, Nat.reduceAdd, Nat.reduceSub, Nat.reduceMul, Nat.reduceLeDiff, Nat.reduceLT, Nat.reduceEqDiff, Int.reduceToNat, Int.reduceLT, Int.reduceLE, Int.reduceEq, Int.reduceNe, Int.reduceAdd, Int.reduceSub, Int.reduceMul, Int.reduceNeg, Int.reduceBEq, Int.reduceBNe, reduceCtorEq, dreduceIte, oWS, oW8, oW16, oW32, oW64, oLtT, oLtF, oLeT, oLeF, oNLtT, oNLtF, oNLeT, oNLeF, oEqT, oEqF, oNEqT, oNEqF, oBeqT, oBeqF, oBneT, oBneF, Int.natCast_add, List.take_length]
            try rfl
          · have e : pg = qg := by omega
            subst e
            have e2 : pg ≠ 0 := by omega
            simp -implicitDefEqProofs (maxSteps := 2000000) (disch := omega) only [euphroelaw27_NegoAgrees.s, two, n_alive, addBot, addB, Ref.mk.injEq, go_sem, reduceIte, Nat.reduceAdd, Nat.reduceSub, Nat.reduceMul, Nat.reduceLeDiff, Nat.reduceLT, Nat.reduceEqDiff, Int.reduceToNat, Int.reduceLT, Int.reduceLE, Int.reduceEq, Int.reduceNe, Int.reduceAdd, Int.reduceSub, Int.reduceMul, Int.reduceNeg, Int.reduceBEq, Int.reduceBNe, reduceCtorEq, dreduceIte, oWS, oW8, oW16, oW32, oW64, oLtT, oLtF, oLeT, oLeF, oNLtT, oNLtF, oNLeT, oNLeF, oEqT, oEqF, oNEqT, oNEqF, oBeqT, oBeqF, oBneT, oBneF, Int.natCast_add, List.take_length]
            try rfl
        · have e : pg = qg := by omega
          subst e
          have e2 : pg ≠ 0 := by omega
          simp -implicitDefEqProofs (maxSteps := 2000000) (disch := omega) only [euphroelaw27_NegoAgrees.s, two, n_alive, addBot, addB, Ref.mk.injEq, go_sem, reduceIte, Nat.reduceAdd, Nat.reduceSub, Nat.reduceMul, Nat.reduceLeDiff, Nat.reduceLT, Nat.reduceEqDiff, Int.reduceToNat, Int.reduceLT, Int.reduceLE, Int.reduceEq, Int.reduceNe, Int.reduceAdd, Int.reduceSub, Int.reduceMul, Int.reduceNeg, Int.reduceBEq, Int.reduceBNe, reduceCtorEq, dreduceIte, oWS, oW8, oW16, oW32, oW64, oLtT, oLtF, oLeT, oLeF, oNLtT, oNLtF, oNLeT, oNLeF, oEqT, oEqF, oNEqT, oNEqF, oBeqT, oBeqF, oBneT, oBneF, Int.natCast_add, List.take_length]
          try rfl
    · by_cases q0 : 0 < qm
      · by_cases q1 : qm < 128
        · simp -implicitDefEqProofs (maxSteps := 2000000) (disch := omega) only [euphroelaw27_NegoAgrees.s, two, n_alive, addBot, addB, Ref.mk.injEq, go_sem, reduceIte, Nat.reduceAdd, Nat.reduceSub, Nat.reduceMul, Nat.reduceLeDiff, Nat.reduceLT, Nat.reduceEqDiff, Int.reduceToNat, Int.reduceLT, Int.reduceLE, Int.reduceEq, Int.reduceNe, Int.reduceAdd, Int.reduceSub, Int.reduceMul, Int.reduceNeg, Int.reduceBEq, Int.reduceBNe, reduceCtorEq, dreduceIte, oWS, oW8, oW16, oW32, oW64, oLtT, oLtF, oLeT, oLeF, oNLtT, oNLtF, oNLeT, oNLeF, oEqT, oEqF, oNEqT, oNEqF, oBeqT, oBeqF, oBneT, oBneF, Int.natCast_add, List.take_length]
          try rfl
        · have e : pg = qg := by omega
          subst e
          have e2 : pg ≠ 0 := by omega
          simp -implicitDefEqProofs (maxSteps := 2000000) (disch := omega) only [euphroelaw27_NegoAgrees.s, two, n_alive, addBot, addB, Ref.mk.injEq, go_sem, reduceIte, Nat.reduceAdd, Nat.reduceSub, Nat.reduceMul, Nat.reduceLeDiff, Nat.reduceLT, Nat.reduceEqDiff, Int.reduceToNat, Int.reduceLT, Int.reduceLE, Int.reduceEq, Int.reduceNe, Int.reduceAdd, Int.reduceSub, Int.reduceMul, Int.reduceNeg, Int.reduceBEq, Int.reduceBNe, reduceCtorEq, dreduceIte, oWS, oW8, oW16, oW32, oW64, oLtT, oLtF, oLeT, oLeF, oNLtT, oNLtF, oNLeT, oNLeF, oEqT, oEqF, oNEqT, oNEqF, oBeqT, oBeqF, oBneT, oBneF, Int.natCast_add, List.take_length]
          try rfl
      · have e : pg = qg := by omega
        subst e
        have e2 : pg ≠ 0 := by omega
        simp -implicitDefEqProofs (maxSteps := 2000000) (disch := omega) only [euphroelaw27_NegoAgrees.s, two, n_alive, addBot, addB, Ref.mk.injEq, go_sem, reduceIte, Nat.reduceAdd, Nat.reduceSub, Nat.reduceMul, Nat.reduceLeDiff, Nat.reduceLT, Nat.reduceEqDiff, Int.reduceToNat, Int.reduceLT, Int.reduceLE, Int.reduceEq, Int.reduceNe, Int.reduceAdd, Int.reduceSub, Int.reduceMul, Int.reduceNeg, Int.reduceBEq, Int.reduceBNe, reduceCtorEq, dreduceIte, oWS, oW8, oW16, oW32, oW64, oLtT, oLtF, oLeT, oLeF, oNLtT, oNLtF, oNLeT, oNLeF, oEqT, oEqF, oNEqT, oNEqF, oBeqT, oBeqF, oBneT, oBneF, Int.natCast_add, List.take_length]
        try rfl
theorem agreesL (p q : Rl) (hp : okR p) (hq : okR q) (h : ¬ badW p q) : ∃ st', run G 3 [.v (two p q), .v (.bool false)] [[]] = some (.v (.bool true), st') := by
  have okA : okR (eA false p) := hp
  have okB : okR (eB false q) := hq
  have b1 := hp.1
  have b2 := hq.1
  have t2 := lcp_2 (eA false p) (eB false q) rfl rfl okA.1 okB.1 rfl rfl (by show p.want.1 = 0 ∨ 128 ≤ p.want.1; omega) (by show q.want.1 = 0 ∨ 128 ≤ q.want.1; omega) (by show p.want.2.1 ≠ q.want.2.1 ∨ p.want.2.1 = 0 ∧ q.want.2.1 = 0; omega)
  have t12 : tkR (eA false p) (eB false q) 12 = tkR (eA false p) (eB false q) 2 := tk_end (eA false p) (eB false q) (k := 2) (by rw [t2]; exact ⟨rfl, rfl⟩) 10
  have tk := n_talk (eA false p) (eB false q) okA okB
  have wA : askN (eA false p) = optW (p.want.1, p.want.2.1, false) := rfl
  have wB : askN (eB false q) = optW (q.want.1, q.want.2.1, true) := rfl
  rw [t12, t2, wA, wB] at tk
  have nA := n_new (eA false p)
  have nB := n_new (eB false q)
  have lA := n_lrules (eA false p)
  have lB := n_lrules (eB false q)
  have oA := optW_ok (p.want.1, p.want.2.1, false)
  have oB := optW_ok (q.want.1, q.want.2.1, true)
  have jA := j_options (p.want.1, p.want.2.1, false) hp.1
  have jB := j_options (q.want.1, q.want.2.1, true) hq.1
  have smA := eq_sameO (optW (p.want.1, p.want.2.1, false)) oA.1 (by omega)
  have smB := eq_sameO (optW (q.want.1, q.want.2.1, true)) oB.1 (by omega)
  have l3 : (optW (p.want.1, p.want.2.1, false)).length ≤ 40 := by omega
  have l4 : (optW (q.want.1, q.want.2.1, true)).length ≤ 40 := by omega
  clear t2 t12 wA wB oA oB
  generalize optW (p.want.1, p.want.2.1, false) = wa at *
  generalize optW (q.want.1, q.want.2.1, true) = wb at *
  have sA := n_state ⟨9, 10, 0, 1, wa, eA false p, wb, 0⟩
  have sB := n_state ⟨9, 10, 0, 1, wb, eB false q, wa, 0⟩
  have rA := n_rules ⟨9, 10, 0, 1, wa, eA false p, wb, 0⟩
  have rB := n_rules ⟨9, 10, 0, 1, wb, eB false q, wa, 0⟩
  have aA := n_acked ⟨9, 10, 0, 1, wa, eA false p, wb, 0⟩ l4
  have aB := n_acked ⟨9, 10, 0, 1, wb, eB false q, wa, 0⟩ l3
  obtain ⟨pip, ⟨pm, pg, pp⟩, ppv, ⟨ps, po, pgv, pd, pa⟩⟩ := p
  obtain ⟨qip, ⟨qm, qg, qp⟩, qpv, ⟨qs, qo, qgv, qd, qa⟩⟩ := q
  simp only [badW] at h b1 b2
  simp only [newN, oes_nil, rlv, nv, wv] at tk nA nB lA lB sA sB rA rB aA aB jA jB
  by_cases e : pg = qg
  · subst e
    obtain rfl : pg = 0 := by omega
    refine ⟨?_, ?_⟩
    rotate_left 1
    · rw [xq_fn G rfl euphroelaw27_NegoAgrees.g _ _ rfl]
      by_cases p0 : 0 < pm <;> by_cases q0 : 0 < qm <;> simp -implicitDefEqProofs (maxSteps := 2000000) (disch := omega) only [euphroelaw27_NegoAgrees.s, two, n_alive, addBot, addB, Ref.mk.injEq, oes_nil, tk, nA, nB, lA, lB, sA, sB, rA, rB, aA, aB, jA, jB, smA, smB, nqFF, go_sem, reduceIte, Nat.reduceAdd, Nat.reduceSub, Nat.reduceMul, Nat.reduceLeDiff, Nat.reduceLT, Nat.reduceEqDiff, Int.reduceToNat, Int.reduceLT, Int.reduceLE, Int.reduceEq, Int.reduceNe, Int.reduceAdd, Int.reduceSub, Int.reduceMul, Int.reduceNeg, Int.reduceBEq, Int.reduceBNe, reduceCtorEq, dreduceIte, oWS, oW8, oW16, oW32, oW64, oLtT, oLtF, oLeT, oLeF, oNLtT, oNLtF, oNLeT, oNLeF, oEqT, oEqF, oNEqT, oNEqF, oBeqT, oBeqF, oBneT, oBneF, Int.natCast_add, List.take_length]
      all_goals try rfl
  · refine ⟨?_, ?_⟩
    rotate_left 1
    · rw [xq_fn G rfl euphroelaw27_NegoAgrees.g _ _ rfl]
      by_cases p0 : 0 < pm <;> by_cases q0 : 0 < qm <;> simp -implicitDefEqProofs (maxSteps := 2000000) (disch := omega) only [euphroelaw27_NegoAgrees.s, two, n_alive, addBot, addB, Ref.mk.injEq, oes_nil, tk, nA, nB, lA, lB, sA, sB, rA, rB, aA, aB, jA, jB, smA, smB, nqFF, go_sem, reduceIte, Nat.reduceAdd, Nat.reduceSub, Nat.reduceMul, Nat.reduceLeDiff, Nat.reduceLT, Nat.reduceEqDiff, Int.reduceToNat, Int.reduceLT, Int.reduceLE, Int.reduceEq, Int.reduceNe, Int.reduceAdd, Int.reduceSub, Int.reduceMul, Int.reduceNeg, Int.reduceBEq, Int.reduceBNe, reduceCtorEq, dreduceIte, oWS, oW8, oW16, oW32, oW64, oLtT, oLtF, oLeT, oLeF, oNLtT, oNLtF, oNLeT, oNLeF, oEqT, oEqF, oNEqT, oNEqF, oBeqT, oBeqF, oBneT, oBneF, Int.natCast_add, List.take_length]
      all_goals try rfl
theorem negoAgrees (p q : Rl) (ip : Bool) (hp : okR p) (hq : okR q) : ∃ st', run G 3 [.v (two p q), .v (.bool ip)] [[]] = some (.v (.bool true), st') := by
  cases ip with
  | true =>
    by_cases h : q.side.own = 0 ∨ q.side.give = 0
    · exact agreesI0 p q h
    · exact agreesI p q hp hq (fun e => h (.inl e)) (fun e => h (.inr e))
  | false =>
    by_cases h : badW p q
    · exact agreesL0 p q h
    · exact agreesL p q hp hq h
end Go.Q
