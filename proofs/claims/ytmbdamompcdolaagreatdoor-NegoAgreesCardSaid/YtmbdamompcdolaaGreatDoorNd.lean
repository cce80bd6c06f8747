/- Negotiations: any packet, event and tick. No condition. -/
import Derived.Test.YtmbdamompcdolaaGreatDoorNc
set_option linter.all false
set_option maxRecDepth 100000
namespace Go.Q
open SOp SCode
attribute [local congr] bind_c map_c
theorem wr16 (x : Int) : IntKind.u16.wrap x = x % 65536 := by simp [IntKind.wrap, IntKind.signed, IntKind.bits]
theorem nkR_ok {w : Want} (l : List Opt) {f : Int} (hw : okW w) (hf : u32ok f) : okW (nkR w l f) := by
  have h : 0 ≤ nmW l ∧ nmW l ≤ 65535 := by unfold nmW; rw [wr16]; omega
  obtain ⟨h1, h2⟩ := hw
  unfold nkR
  generalize nmW l = m at *
  refine ⟨?_, ?_⟩
  · simp only
    repeat' split
    all_goals omega
  · simp only
    split
    · exact hf
    · exact h2
theorem rjR_ok {w : Want} (l : List Opt) (hw : okW w) : okW (rjR w l) := by
  obtain ⟨h1, h2⟩ := hw
  unfold rjR
  refine ⟨?_, ?_⟩ <;> simp only <;> split <;> omega
theorem nakedI_ok {s : Sd} (l : List Opt) (hs : okSd s) (hl : okL l) : okSd (nakedI s l) := by
  obtain ⟨h1, h2, h3⟩ := hs
  unfold nakedI
  split
  · exact ⟨h1, h2, h3⟩
  · refine ⟨told_rng l 3 s.own hl h1, h2, ?_⟩
    simp only
    split
    · exact told_rng l 129 s.dns hl h3
    · exact h3
theorem rejI_ok {s : Sd} (l : List Opt) (hs : okSd s) : okSd (rejI s l) := by
  unfold rejI
  split
  · exact hs
  · exact hs
theorem nakN_ok {r : Rl} {l : List Opt} (h : okR r) (hl : okL l) : okR (nakN r l) := by
  unfold nakN
  split
  · exact ⟨h.1, nakedI_ok l h.2 hl⟩
  · exact ⟨nkR_ok l h.1 (fre_rng _), h.2⟩
theorem rejN_ok {r : Rl} {l : List Opt} (h : okR r) : okR (rejN r l) := by
  unfold rejN
  split
  · exact ⟨h.1, rejI_ok l h.2⟩
  · exact ⟨rjR_ok l h.1, h.2⟩
def anwdN (n : Ng) (c : Ctl) : Ng × Ou :=
  if (optsR c).2 ≠ 0 ∨ c.2.1 ≠ n.id then (n, noOu) else
    let l := (optsR c).1
    if c.1 = 2 ∧ l = n.sent then evN { n with nk := 0 } 8 c noC
    else if c.1 = 3 ∧ 0 < l.length then evN { n with rl := nakN n.rl l } 9 c noC
    else if c.1 = 4 ∧ 0 < l.length ∧ amR l n.sent = true then evN { n with rl := rejN n.rl l } (if rejB n.rl l = true then 9 else 14) c noC
    else (n, noOu)
theorem cv_noC : cv noC = .agg [.int .u8 0, .int .u8 0, .slc 1 []] := rfl
theorem answX (n : Ng) (c : Ctl) (bad : Int) (l : List Opt) (hb : bad ≠ 0 ∨ c.2.1 ≠ n.id) (op : run G 88 [.v (cv c)] [] = some (.tup [.lin 2 (oes l), .v (.int .i64 bad)], [])) :
    run G 55 [.v (nv n), .v (cv c)] [] = some (.tup [.v (nv n), .v (ov noOu)], []) := by
  rw [xq_fn G rfl nego_Nego_answered.g _ _ rfl]
  simp only [cv, nv, ov] at *
  by_cases hz : bad = 0
  · have hi := hb.resolve_left (by omega)
    simp -implicitDefEqProofs (maxSteps := 2000000) (disch := omega) only [nego_Nego_answered.s, cv, nv, ov, op, cvs_nil, go_sem, reduceIte, Nat.reduceAdd, Nat.reduceSub, Nat.reduceMul, Nat.reduceLeDiff, Nat.reduceLT, Nat.reduceEqDiff, Int.reduceToNat, Int.reduceLT, Int.reduceLE, Int.reduceEq, Int.reduceNe, Int.reduceAdd, Int.reduceSub, Int.reduceMul, Int.reduceNeg, Int.reduceBEq, Int.reduceBNe, reduceCtorEq, dreduceIte, oWS, oW8, oW16, oW32, oW64, oLtT, oLtF, oLeT, oLeF, oNLtT, oNLtF, oNLeT, oNLeF, oEqT, oEqF, oNEqT, oNEqF, oBeqT, oBeqF, oBneT, oBneF, Int.natCast_add, List.take_length]
  · simp -implicitDefEqProofs (maxSteps := 2000000) (disch := omega) only [nego_Nego_answered.s, cv, nv, ov, op, cvs_nil, go_sem, reduceIte, Nat.reduceAdd, Nat.reduceSub, Nat.reduceMul, Nat.reduceLeDiff, Nat.reduceLT, Nat.reduceEqDiff, Int.reduceToNat, Int.reduceLT, Int.reduceLE, Int.reduceEq, Int.reduceNe, Int.reduceAdd, Int.reduceSub, Int.reduceMul, Int.reduceNeg, Int.reduceBEq, Int.reduceBNe, reduceCtorEq, dreduceIte, oWS, oW8, oW16, oW32, oW64, oLtT, oLtF, oLeT, oLeF, oNLtT, oNLtF, oNLeT, oNLeF, oEqT, oEqF, oNEqT, oNEqF, oBeqT, oBeqF, oBneT, oBneF, Int.natCast_add, List.take_length]
theorem answ2 (n : Ng) (c : Ctl) (l : List Opt) (ho : okN n) (hd : c.2.2.length ≤ 10000) (hi : c.2.1 = n.id) (h2 : c.1 = 2) (op : run G 88 [.v (cv c)] [] = some (.tup [.lin 2 (oes l), .v (.int .i64 0)], []))
    (sm : run G 13 [.v (.slc 2 (oes l)), .v (.slc 2 (oes n.sent))] [] = some (.v (.bool true), [])) :
    run G 55 [.v (nv n), .v (cv c)] [] = some (.tup [.v (nv (evN { n with nk := 0 } 8 c noC).1), .v (ov (evN { n with nk := 0 } 8 c noC).2)], []) := by
  have ev := n_event { n with nk := 0 } 8 c noC ho hd
  rw [cv_noC] at ev
  generalize evN { n with nk := 0 } 8 c noC = r at *
  obtain ⟨n2, o2⟩ := r
  simp only [cv, nv, ov] at *
  rw [xq_fn G rfl nego_Nego_answered.g _ _ rfl]
  simp -implicitDefEqProofs (maxSteps := 2000000) (disch := omega) only [nego_Nego_answered.s, cv, nv, ov, op, ev, sm, go_sem, reduceIte, Nat.reduceAdd, Nat.reduceSub, Nat.reduceMul, Nat.reduceLeDiff, Nat.reduceLT, Nat.reduceEqDiff, Int.reduceToNat, Int.reduceLT, Int.reduceLE, Int.reduceEq, Int.reduceNe, Int.reduceAdd, Int.reduceSub, Int.reduceMul, Int.reduceNeg, Int.reduceBEq, Int.reduceBNe, reduceCtorEq, dreduceIte, oWS, oW8, oW16, oW32, oW64, oLtT, oLtF, oLeT, oLeF, oNLtT, oNLtF, oNLeT, oNLeF, oEqT, oEqF, oNEqT, oNEqF, oBeqT, oBeqF, oBneT, oBneF, Int.natCast_add, List.take_length]
theorem answ3 (n : Ng) (c : Ctl) (l : List Opt) (ho : okN n) (hl : okL l ∧ l.length ≤ 40) (hd : c.2.2.length ≤ 10000) (hi : c.2.1 = n.id) (h3 : c.1 = 3) (hp : 0 < l.length) (op : run G 88 [.v (cv c)] [] = some (.tup [.lin 2 (oes l), .v (.int .i64 0)], [])) :
    run G 55 [.v (nv n), .v (cv c)] [] = some (.tup [.v (nv (evN { n with rl := nakN n.rl l } 9 c noC).1), .v (ov (evN { n with rl := nakN n.rl l } 9 c noC).2)], []) := by
  have ev := n_event { n with rl := nakN n.rl l } 9 c noC ⟨ho.1, nakN_ok ho.2 hl.1⟩ hd
  have nk := n_naked n.rl l hl.1 hl.2
  rw [cv_noC] at ev
  generalize evN { n with rl := nakN n.rl l } 9 c noC = r at *
  generalize nakN n.rl l = rl2 at *
  obtain ⟨n2, o2⟩ := r
  simp only [cv, nv, ov, rlv] at *
  rw [xq_fn G rfl nego_Nego_answered.g _ _ rfl]
  simp -implicitDefEqProofs (maxSteps := 2000000) (disch := omega) only [nego_Nego_answered.s, cv, nv, ov, op, ev, nk, oes_len, go_sem, reduceIte, Nat.reduceAdd, Nat.reduceSub, Nat.reduceMul, Nat.reduceLeDiff, Nat.reduceLT, Nat.reduceEqDiff, Int.reduceToNat, Int.reduceLT, Int.reduceLE, Int.reduceEq, Int.reduceNe, Int.reduceAdd, Int.reduceSub, Int.reduceMul, Int.reduceNeg, Int.reduceBEq, Int.reduceBNe, reduceCtorEq, dreduceIte, oWS, oW8, oW16, oW32, oW64, oLtT, oLtF, oLeT, oLeF, oNLtT, oNLtF, oNLeT, oNLeF, oEqT, oEqF, oNEqT, oNEqF, oBeqT, oBeqF, oBneT, oBneF, Int.natCast_add, List.take_length]
theorem answ4 (n : Ng) (c : Ctl) (l : List Opt) (ho : okN n) (hl : okL l ∧ l.length ≤ 40) (hd : c.2.2.length ≤ 10000) (hi : c.2.1 = n.id) (h4 : c.1 = 4) (hp : 0 < l.length) (op : run G 88 [.v (cv c)] [] = some (.tup [.lin 2 (oes l), .v (.int .i64 0)], []))
    (am : run G 96 [.v (.slc 2 (oes l)), .v (.slc 2 (oes n.sent))] [] = some (.v (.bool true), [])) :
    run G 55 [.v (nv n), .v (cv c)] [] = some (.tup [.v (nv (evN { n with rl := rejN n.rl l } (if rejB n.rl l = true then 9 else 14) c noC).1), .v (ov (evN { n with rl := rejN n.rl l } (if rejB n.rl l = true then 9 else 14) c noC).2)], []) := by
  have ev := fun e => n_event { n with rl := rejN n.rl l } e c noC ⟨ho.1, rejN_ok ho.2⟩ hd
  have nk := n_rejected n.rl l hl.1 hl.2
  rw [cv_noC] at ev
  generalize rejN n.rl l = rl2 at *
  cases hb : rejB n.rl l with
  | true =>
    rw [hb] at nk
    have ev := ev 9
    rw [if_pos rfl]
    generalize evN { n with rl := rl2 } 9 c noC = r at *
    obtain ⟨n2, o2⟩ := r
    simp only [cv, nv, ov, rlv] at *
    rw [xq_fn G rfl nego_Nego_answered.g _ _ rfl]
    simp -implicitDefEqProofs (maxSteps := 2000000) (disch := omega) only [nego_Nego_answered.s, cv, nv, ov, op, ev, nk, am, oes_len, go_sem, reduceIte, Nat.reduceAdd, Nat.reduceSub, Nat.reduceMul, Nat.reduceLeDiff, Nat.reduceLT, Nat.reduceEqDiff, Int.reduceToNat, Int.reduceLT, Int.reduceLE, Int.reduceEq, Int.reduceNe, Int.reduceAdd, Int.reduceSub, Int.reduceMul, Int.reduceNeg, Int.reduceBEq, Int.reduceBNe, reduceCtorEq, dreduceIte, oWS, oW8, oW16, oW32, oW64, oLtT, oLtF, oLeT, oLeF, oNLtT, oNLtF, oNLeT, oNLeF, oEqT, oEqF, oNEqT, oNEqF, oBeqT, oBeqF, oBneT, oBneF, Int.natCast_add, List.take_length]
  | false =>
    rw [hb] at nk
    have ev := ev 14
    rw [if_neg (by simp)]
    generalize evN { n with rl := rl2 } 14 c noC = r at *
    obtain ⟨n2, o2⟩ := r
    simp only [cv, nv, ov, rlv] at *
    rw [xq_fn G rfl nego_Nego_answered.g _ _ rfl]
    simp -implicitDefEqProofs (maxSteps := 2000000) (disch := omega) only [nego_Nego_answered.s, cv, nv, ov, op, ev, nk, am, oes_len, go_sem, reduceIte, Nat.reduceAdd, Nat.reduceSub, Nat.reduceMul, Nat.reduceLeDiff, Nat.reduceLT, Nat.reduceEqDiff, Int.reduceToNat, Int.reduceLT, Int.reduceLE, Int.reduceEq, Int.reduceNe, Int.reduceAdd, Int.reduceSub, Int.reduceMul, Int.reduceNeg, Int.reduceBEq, Int.reduceBNe, reduceCtorEq, dreduceIte, oWS, oW8, oW16, oW32, oW64, oLtT, oLtF, oLeT, oLeF, oNLtT, oNLtF, oNLeT, oNLeF, oEqT, oEqF, oNEqT, oNEqF, oBeqT, oBeqF, oBneT, oBneF, Int.natCast_add, List.take_length]
theorem answD (n : Ng) (c : Ctl) (l : List Opt) (q a : Bool) (hi : c.2.1 = n.id) (h2 : ¬ (c.1 = 2 ∧ q = true)) (h3 : ¬ (c.1 = 3 ∧ 0 < l.length)) (h4 : ¬ (c.1 = 4 ∧ 0 < l.length ∧ a = true)) (op : run G 88 [.v (cv c)] [] = some (.tup [.lin 2 (oes l), .v (.int .i64 0)], []))
    (sm : run G 13 [.v (.slc 2 (oes l)), .v (.slc 2 (oes n.sent))] [] = some (.v (.bool q), [])) (am : run G 96 [.v (.slc 2 (oes l)), .v (.slc 2 (oes n.sent))] [] = some (.v (.bool a), [])) :
    run G 55 [.v (nv n), .v (cv c)] [] = some (.tup [.v (nv n), .v (ov noOu)], []) := by
  simp only [cv, nv, ov] at *
  rw [xq_fn G rfl nego_Nego_answered.g _ _ rfl]
  by_cases c2 : c.1 = 2
  · have : q = false := by simpa [c2] using h2
    subst this
    simp -implicitDefEqProofs (maxSteps := 2000000) (disch := omega) only [nego_Nego_answered.s, cv, nv, ov, op, sm, cvs_nil, go_sem, reduceIte, Nat.reduceAdd, Nat.reduceSub, Nat.reduceMul, Nat.reduceLeDiff, Nat.reduceLT, Nat.reduceEqDiff, Int.reduceToNat, Int.reduceLT, Int.reduceLE, Int.reduceEq, Int.reduceNe, Int.reduceAdd, Int.reduceSub, Int.reduceMul, Int.reduceNeg, Int.reduceBEq, Int.reduceBNe, reduceCtorEq, dreduceIte, oWS, oW8, oW16, oW32, oW64, oLtT, oLtF, oLeT, oLeF, oNLtT, oNLtF, oNLeT, oNLeF, oEqT, oEqF, oNEqT, oNEqF, oBeqT, oBeqF, oBneT, oBneF, Int.natCast_add, List.take_length]
  by_cases c3 : c.1 = 3
  · have : ¬ 0 < l.length := fun h => h3 ⟨c3, h⟩
    simp -implicitDefEqProofs (maxSteps := 2000000) (disch := omega) only [nego_Nego_answered.s, cv, nv, ov, op, cvs_nil, oes_len, go_sem, reduceIte, Nat.reduceAdd, Nat.reduceSub, Nat.reduceMul, Nat.reduceLeDiff, Nat.reduceLT, Nat.reduceEqDiff, Int.reduceToNat, Int.reduceLT, Int.reduceLE, Int.reduceEq, Int.reduceNe, Int.reduceAdd, Int.reduceSub, Int.reduceMul, Int.reduceNeg, Int.reduceBEq, Int.reduceBNe, reduceCtorEq, dreduceIte, oWS, oW8, oW16, oW32, oW64, oLtT, oLtF, oLeT, oLeF, oNLtT, oNLtF, oNLeT, oNLeF, oEqT, oEqF, oNEqT, oNEqF, oBeqT, oBeqF, oBneT, oBneF, Int.natCast_add, List.take_length]
  by_cases c4 : c.1 = 4
  · by_cases hp : 0 < l.length
    · have : a = false := by simpa [c4, hp] using h4
      subst this
      simp -implicitDefEqProofs (maxSteps := 2000000) (disch := omega) only [nego_Nego_answered.s, cv, nv, ov, op, am, cvs_nil, oes_len, go_sem, reduceIte, Nat.reduceAdd, Nat.reduceSub, Nat.reduceMul, Nat.reduceLeDiff, Nat.reduceLT, Nat.reduceEqDiff, Int.reduceToNat, Int.reduceLT, Int.reduceLE, Int.reduceEq, Int.reduceNe, Int.reduceAdd, Int.reduceSub, Int.reduceMul, Int.reduceNeg, Int.reduceBEq, Int.reduceBNe, reduceCtorEq, dreduceIte, oWS, oW8, oW16, oW32, oW64, oLtT, oLtF, oLeT, oLeF, oNLtT, oNLtF, oNLeT, oNLeF, oEqT, oEqF, oNEqT, oNEqF, oBeqT, oBeqF, oBneT, oBneF, Int.natCast_add, List.take_length]
    · simp -implicitDefEqProofs (maxSteps := 2000000) (disch := omega) only [nego_Nego_answered.s, cv, nv, ov, op, cvs_nil, oes_len, go_sem, reduceIte, Nat.reduceAdd, Nat.reduceSub, Nat.reduceMul, Nat.reduceLeDiff, Nat.reduceLT, Nat.reduceEqDiff, Int.reduceToNat, Int.reduceLT, Int.reduceLE, Int.reduceEq, Int.reduceNe, Int.reduceAdd, Int.reduceSub, Int.reduceMul, Int.reduceNeg, Int.reduceBEq, Int.reduceBNe, reduceCtorEq, dreduceIte, oWS, oW8, oW16, oW32, oW64, oLtT, oLtF, oLeT, oLeF, oNLtT, oNLtF, oNLeT, oNLeF, oEqT, oEqF, oNEqT, oNEqF, oBeqT, oBeqF, oBneT, oBneF, Int.natCast_add, List.take_length]
  · simp -implicitDefEqProofs (maxSteps := 2000000) (disch := omega) only [nego_Nego_answered.s, cv, nv, ov, op, cvs_nil, oes_len, go_sem, reduceIte, Nat.reduceAdd, Nat.reduceSub, Nat.reduceMul, Nat.reduceLeDiff, Nat.reduceLT, Nat.reduceEqDiff, Int.reduceToNat, Int.reduceLT, Int.reduceLE, Int.reduceEq, Int.reduceNe, Int.reduceAdd, Int.reduceSub, Int.reduceMul, Int.reduceNeg, Int.reduceBEq, Int.reduceBNe, reduceCtorEq, dreduceIte, oWS, oW8, oW16, oW32, oW64, oLtT, oLtF, oLeT, oLeF, oNLtT, oNLtF, oNLeT, oNLeF, oEqT, oEqF, oNEqT, oNEqF, oBeqT, oBeqF, oBneT, oBneF, Int.natCast_add, List.take_length]
abbrev okS (n : Ng) : Prop := okL n.sent ∧ n.sent.length ≤ 40
theorem n_answered (n : Ng) (c : Ctl) (ho : okN n) (hs : okS n) (hc : okC c) (hd : c.2.2.length ≤ 10000) :
    run G 55 [.v (nv n), .v (cv c)] [] = some (.tup [.v (nv (anwdN n c).1), .v (ov (anwdN n c).2)], []) := by
  have op := c_opts c hc.2.2 hd
  have hl := optsR_ok c hc.2.2
  unfold anwdN
  by_cases hb : (optsR c).2 ≠ 0 ∨ c.2.1 ≠ n.id
  · rw [if_pos hb]
    exact answX n c _ _ hb op
  · rw [if_neg hb]
    have hb1 : (optsR c).2 = 0 := by omega
    have hi : c.2.1 = n.id := by omega
    rw [hb1] at op
    generalize (optsR c).1 = l at *
    have sm := same58 l n.sent hl.1 hs.1 hl.2
    have am := among65 l n.sent hl.1 hs.1 hs.2
    simp only
    by_cases c2 : c.1 = 2 ∧ l = n.sent
    · rw [if_pos c2]
      rw [show (l == n.sent) = true by simp [c2.2]] at sm
      exact answ2 n c l ho hd hi c2.1 op sm
    · rw [if_neg c2]
      by_cases c3 : c.1 = 3 ∧ 0 < l.length
      · rw [if_pos c3]
        exact answ3 n c l ho hl hd hi c3.1 c3.2 op
      · rw [if_neg c3]
        by_cases c4 : c.1 = 4 ∧ 0 < l.length ∧ amR l n.sent = true
        · rw [if_pos c4]
          rw [c4.2.2] at am
          exact answ4 n c l ho hl hd hi c4.1 c4.2.1 op am
        · rw [if_neg c4]
          exact answD n c l _ _ hi (by simpa using c2) c3 c4 op sm am
def meaN (n : Ng) (c : Ctl) : Int :=
  if c.1 = 5 then 10 else if c.1 = 6 then 11 else if c.1 = 7 ∧ 0 < c.2.2.length ∧ 1 ≤ c.2.2.getD 0 0 ∧ c.2.2.getD 0 0 ≤ 7 then 14
  else if c.1 = 7 ∨ (c.1 = 8 ∧ n.rl.ip = false) then 13 else if 9 ≤ c.1 ∧ c.1 ≤ 11 ∧ n.rl.ip = false then 15 else 12
theorem n_meant (n : Ng) (c : Ctl) (hc : c.2.2.length ≤ 10000) : run G 56 [.v (nv n), .v (cv c)] [] = some (.v (.int .i64 (meaN n c)), []) := by
  rw [xq_fn G rfl nego_Nego_meant.g _ _ rfl]
  unfold meaN
  obtain ⟨k, id, d⟩ := c
  simp only at *
  by_cases h5 : k = 5
  · subst h5; simp -implicitDefEqProofs (maxSteps := 2000000) (disch := omega) only [nego_Nego_meant.s, nv, cv, go_sem, reduceIte, Nat.reduceAdd, Nat.reduceSub, Nat.reduceMul, Nat.reduceLeDiff, Nat.reduceLT, Nat.reduceEqDiff, Int.reduceToNat, Int.reduceLT, Int.reduceLE, Int.reduceEq, Int.reduceNe, Int.reduceAdd, Int.reduceSub, Int.reduceMul, Int.reduceNeg, Int.reduceBEq, Int.reduceBNe, reduceCtorEq, dreduceIte, oWS, oW8, oW16, oW32, oW64, oLtT, oLtF, oLeT, oLeF, oNLtT, oNLtF, oNLeT, oNLeF, oEqT, oEqF, oNEqT, oNEqF, oBeqT, oBeqF, oBneT, oBneF, Int.natCast_add, List.take_length]
  by_cases h6 : k = 6
  · subst h6; simp -implicitDefEqProofs (maxSteps := 2000000) (disch := omega) only [nego_Nego_meant.s, nv, cv, go_sem, reduceIte, Nat.reduceAdd, Nat.reduceSub, Nat.reduceMul, Nat.reduceLeDiff, Nat.reduceLT, Nat.reduceEqDiff, Int.reduceToNat, Int.reduceLT, Int.reduceLE, Int.reduceEq, Int.reduceNe, Int.reduceAdd, Int.reduceSub, Int.reduceMul, Int.reduceNeg, Int.reduceBEq, Int.reduceBNe, reduceCtorEq, dreduceIte, oWS, oW8, oW16, oW32, oW64, oLtT, oLtF, oLeT, oLeF, oNLtT, oNLtF, oNLeT, oNLeF, oEqT, oEqF, oNEqT, oNEqF, oBeqT, oBeqF, oBneT, oBneF, Int.natCast_add, List.take_length]
  by_cases h7 : k = 7
  · subst h7
    cases d with
    | nil => simp -implicitDefEqProofs (maxSteps := 2000000) (disch := omega) only [nego_Nego_meant.s, nv, cv, b8_nil, go_sem, reduceIte, Nat.reduceAdd, Nat.reduceSub, Nat.reduceMul, Nat.reduceLeDiff, Nat.reduceLT, Nat.reduceEqDiff, Int.reduceToNat, Int.reduceLT, Int.reduceLE, Int.reduceEq, Int.reduceNe, Int.reduceAdd, Int.reduceSub, Int.reduceMul, Int.reduceNeg, Int.reduceBEq, Int.reduceBNe, reduceCtorEq, dreduceIte, oWS, oW8, oW16, oW32, oW64, oLtT, oLtF, oLeT, oLeF, oNLtT, oNLtF, oNLeT, oNLeF, oEqT, oEqF, oNEqT, oNEqF, oBeqT, oBeqF, oBneT, oBneF, Int.natCast_add, List.take_length]
    | cons x d =>
      have e0 : (x :: d).getD 0 0 = x := rfl
      rw [e0]
      by_cases x1 : 1 ≤ x
      · by_cases x7 : x ≤ 7
        · simp -implicitDefEqProofs (maxSteps := 2000000) (disch := omega) only [nego_Nego_meant.s, nv, cv, b8_cons, b8_len, go_sem, reduceIte, Nat.reduceAdd, Nat.reduceSub, Nat.reduceMul, Nat.reduceLeDiff, Nat.reduceLT, Nat.reduceEqDiff, Int.reduceToNat, Int.reduceLT, Int.reduceLE, Int.reduceEq, Int.reduceNe, Int.reduceAdd, Int.reduceSub, Int.reduceMul, Int.reduceNeg, Int.reduceBEq, Int.reduceBNe, reduceCtorEq, dreduceIte, oWS, oW8, oW16, oW32, oW64, oLtT, oLtF, oLeT, oLeF, oNLtT, oNLtF, oNLeT, oNLeF, oEqT, oEqF, oNEqT, oNEqF, oBeqT, oBeqF, oBneT, oBneF, Int.natCast_add, List.take_length]
        · simp -implicitDefEqProofs (maxSteps := 2000000) (disch := omega) only [nego_Nego_meant.s, nv, cv, b8_cons, b8_len, go_sem, reduceIte, Nat.reduceAdd, Nat.reduceSub, Nat.reduceMul, Nat.reduceLeDiff, Nat.reduceLT, Nat.reduceEqDiff, Int.reduceToNat, Int.reduceLT, Int.reduceLE, Int.reduceEq, Int.reduceNe, Int.reduceAdd, Int.reduceSub, Int.reduceMul, Int.reduceNeg, Int.reduceBEq, Int.reduceBNe, reduceCtorEq, dreduceIte, oWS, oW8, oW16, oW32, oW64, oLtT, oLtF, oLeT, oLeF, oNLtT, oNLtF, oNLeT, oNLeF, oEqT, oEqF, oNEqT, oNEqF, oBeqT, oBeqF, oBneT, oBneF, Int.natCast_add, List.take_length]
      · simp -implicitDefEqProofs (maxSteps := 2000000) (disch := omega) only [nego_Nego_meant.s, nv, cv, b8_cons, b8_len, go_sem, reduceIte, Nat.reduceAdd, Nat.reduceSub, Nat.reduceMul, Nat.reduceLeDiff, Nat.reduceLT, Nat.reduceEqDiff, Int.reduceToNat, Int.reduceLT, Int.reduceLE, Int.reduceEq, Int.reduceNe, Int.reduceAdd, Int.reduceSub, Int.reduceMul, Int.reduceNeg, Int.reduceBEq, Int.reduceBNe, reduceCtorEq, dreduceIte, oWS, oW8, oW16, oW32, oW64, oLtT, oLtF, oLeT, oLeF, oNLtT, oNLtF, oNLeT, oNLeF, oEqT, oEqF, oNEqT, oNEqF, oBeqT, oBeqF, oBneT, oBneF, Int.natCast_add, List.take_length]
  obtain ⟨q1, q2, q3, q4, q5, rl, q7, q8⟩ := n
  obtain ⟨ip, w, pv, sd⟩ := rl
  by_cases h8 : k = 8
  · subst h8; cases ip <;> simp -implicitDefEqProofs (maxSteps := 2000000) (disch := omega) only [nego_Nego_meant.s, nv, cv, go_sem, reduceIte, Nat.reduceAdd, Nat.reduceSub, Nat.reduceMul, Nat.reduceLeDiff, Nat.reduceLT, Nat.reduceEqDiff, Int.reduceToNat, Int.reduceLT, Int.reduceLE, Int.reduceEq, Int.reduceNe, Int.reduceAdd, Int.reduceSub, Int.reduceMul, Int.reduceNeg, Int.reduceBEq, Int.reduceBNe, reduceCtorEq, dreduceIte, oWS, oW8, oW16, oW32, oW64, oLtT, oLtF, oLeT, oLeF, oNLtT, oNLtF, oNLeT, oNLeF, oEqT, oEqF, oNEqT, oNEqF, oBeqT, oBeqF, oBneT, oBneF, Int.natCast_add, List.take_length]
  by_cases h9 : 9 ≤ k
  · by_cases h11 : k ≤ 11
    · cases ip <;> simp -implicitDefEqProofs (maxSteps := 2000000) (disch := omega) only [nego_Nego_meant.s, nv, cv, go_sem, reduceIte, Nat.reduceAdd, Nat.reduceSub, Nat.reduceMul, Nat.reduceLeDiff, Nat.reduceLT, Nat.reduceEqDiff, Int.reduceToNat, Int.reduceLT, Int.reduceLE, Int.reduceEq, Int.reduceNe, Int.reduceAdd, Int.reduceSub, Int.reduceMul, Int.reduceNeg, Int.reduceBEq, Int.reduceBNe, reduceCtorEq, dreduceIte, oWS, oW8, oW16, oW32, oW64, oLtT, oLtF, oLeT, oLeF, oNLtT, oNLtF, oNLeT, oNLeF, oEqT, oEqF, oNEqT, oNEqF, oBeqT, oBeqF, oBneT, oBneF, Int.natCast_add, List.take_length]
    · cases ip <;> simp -implicitDefEqProofs (maxSteps := 2000000) (disch := omega) only [nego_Nego_meant.s, nv, cv, go_sem, reduceIte, Nat.reduceAdd, Nat.reduceSub, Nat.reduceMul, Nat.reduceLeDiff, Nat.reduceLT, Nat.reduceEqDiff, Int.reduceToNat, Int.reduceLT, Int.reduceLE, Int.reduceEq, Int.reduceNe, Int.reduceAdd, Int.reduceSub, Int.reduceMul, Int.reduceNeg, Int.reduceBEq, Int.reduceBNe, reduceCtorEq, dreduceIte, oWS, oW8, oW16, oW32, oW64, oLtT, oLtF, oLeT, oLeF, oNLtT, oNLtF, oNLeT, oNLeF, oEqT, oEqF, oNEqT, oNEqF, oBeqT, oBeqF, oBneT, oBneF, Int.natCast_add, List.take_length]
  · cases ip <;> simp -implicitDefEqProofs (maxSteps := 2000000) (disch := omega) only [nego_Nego_meant.s, nv, cv, go_sem, reduceIte, Nat.reduceAdd, Nat.reduceSub, Nat.reduceMul, Nat.reduceLeDiff, Nat.reduceLT, Nat.reduceEqDiff, Int.reduceToNat, Int.reduceLT, Int.reduceLE, Int.reduceEq, Int.reduceNe, Int.reduceAdd, Int.reduceSub, Int.reduceMul, Int.reduceNeg, Int.reduceBEq, Int.reduceBNe, reduceCtorEq, dreduceIte, oWS, oW8, oW16, oW32, oW64, oLtT, oLtF, oLeT, oLeF, oNLtT, oNLtF, oNLeT, oNLeF, oEqT, oEqF, oNEqT, oNEqF, oBeqT, oBeqF, oBneT, oBneF, Int.natCast_add, List.take_length]
def takN (n : Ng) (c : Ctl) : Ng × Ou := if c.1 = 1 then askdN n c else if c.1 = 2 ∨ c.1 = 3 ∨ c.1 = 4 then anwdN n c else evN n (meaN n c) c noC
theorem n_take (n : Ng) (c : Ctl) (ho : okN n) (hs : okS n) (hk : In (n.nk + 1)) (hc : okC c) (hd : c.2.2.length ≤ 10000) :
    run G 19 [.v (nv n), .v (cv c)] [] = some (.tup [.v (nv (takN n c).1), .v (ov (takN n c).2)], []) := by
  rw [xq_fn G rfl nego_Nego_Take.g _ _ rfl]
  unfold takN
  by_cases h1 : c.1 = 1
  · have a := n_asked n c ho hk hc hd
    rw [if_pos h1]
    generalize askdN n c = r at *
    obtain ⟨n2, o2⟩ := r
    simp only [cv, nv, ov] at *
    simp -implicitDefEqProofs (maxSteps := 2000000) (disch := omega) only [nego_Nego_Take.s, cv, nv, ov, a, go_sem, reduceIte, Nat.reduceAdd, Nat.reduceSub, Nat.reduceMul, Nat.reduceLeDiff, Nat.reduceLT, Nat.reduceEqDiff, Int.reduceToNat, Int.reduceLT, Int.reduceLE, Int.reduceEq, Int.reduceNe, Int.reduceAdd, Int.reduceSub, Int.reduceMul, Int.reduceNeg, Int.reduceBEq, Int.reduceBNe, reduceCtorEq, dreduceIte, oWS, oW8, oW16, oW32, oW64, oLtT, oLtF, oLeT, oLeF, oNLtT, oNLtF, oNLeT, oNLeF, oEqT, oEqF, oNEqT, oNEqF, oBeqT, oBeqF, oBneT, oBneF, Int.natCast_add, List.take_length]
  rw [if_neg h1]
  by_cases h2 : c.1 = 2 ∨ c.1 = 3 ∨ c.1 = 4
  · have a := n_answered n c ho hs hc hd
    rw [if_pos h2]
    generalize anwdN n c = r at *
    obtain ⟨n2, o2⟩ := r
    simp only [cv, nv, ov] at *
    rcases h2 with h2 | h2 | h2 <;> simp -implicitDefEqProofs (maxSteps := 2000000) (disch := omega) only [nego_Nego_Take.s, cv, nv, ov, a, go_sem, reduceIte, Nat.reduceAdd, Nat.reduceSub, Nat.reduceMul, Nat.reduceLeDiff, Nat.reduceLT, Nat.reduceEqDiff, Int.reduceToNat, Int.reduceLT, Int.reduceLE, Int.reduceEq, Int.reduceNe, Int.reduceAdd, Int.reduceSub, Int.reduceMul, Int.reduceNeg, Int.reduceBEq, Int.reduceBNe, reduceCtorEq, dreduceIte, oWS, oW8, oW16, oW32, oW64, oLtT, oLtF, oLeT, oLeF, oNLtT, oNLtF, oNLeT, oNLeF, oEqT, oEqF, oNEqT, oNEqF, oBeqT, oBeqF, oBneT, oBneF, Int.natCast_add, List.take_length]
  · have m := n_meant n c hd
    have a := n_event n (meaN n c) c noC ho hd
    rw [if_neg h2]
    rw [cv_noC] at a
    generalize meaN n c = e at *
    generalize evN n e c noC = r at *
    obtain ⟨n2, o2⟩ := r
    have h22 : ¬ c.1 = 2 := by omega
    have h23 : ¬ c.1 = 3 := by omega
    have h24 : ¬ c.1 = 4 := by omega
    simp only [cv, nv, ov] at *
    simp -implicitDefEqProofs (maxSteps := 2000000) (disch := omega) only [nego_Nego_Take.s, cv, nv, ov, a, m, go_sem, reduceIte, Nat.reduceAdd, Nat.reduceSub, Nat.reduceMul, Nat.reduceLeDiff, Nat.reduceLT, Nat.reduceEqDiff, Int.reduceToNat, Int.reduceLT, Int.reduceLE, Int.reduceEq, Int.reduceNe, Int.reduceAdd, Int.reduceSub, Int.reduceMul, Int.reduceNeg, Int.reduceBEq, Int.reduceBNe, reduceCtorEq, dreduceIte, oWS, oW8, oW16, oW32, oW64, oLtT, oLtF, oLeT, oLeF, oNLtT, oNLtF, oNLeT, oNLeF, oEqT, oEqF, oNEqT, oNEqF, oBeqT, oBeqF, oBneT, oBneF, Int.natCast_add, List.take_length]
def doN (n : Ng) (e : Int) : Ng × Ou := if e < 0 ∨ 3 < e then (n, noOu) else evN n e noC noC
theorem n_do (n : Ng) (e : Int) (ho : okN n) : run G 17 [.v (nv n), .v (.int .i64 e)] [] = some (.tup [.v (nv (doN n e).1), .v (ov (doN n e).2)], []) := by
  rw [xq_fn G rfl nego_Nego_Do.g _ _ rfl]
  unfold doN
  have a := n_event n e noC noC ho (by decide)
  rw [cv_noC] at a
  by_cases h0 : e < 0
  · rw [if_pos (.inl h0)]
    simp only [nv, ov] at *
    simp -implicitDefEqProofs (maxSteps := 2000000) (disch := omega) only [nego_Nego_Do.s, nv, ov, cvs_nil, go_sem, reduceIte, Nat.reduceAdd, Nat.reduceSub, Nat.reduceMul, Nat.reduceLeDiff, Nat.reduceLT, Nat.reduceEqDiff, Int.reduceToNat, Int.reduceLT, Int.reduceLE, Int.reduceEq, Int.reduceNe, Int.reduceAdd, Int.reduceSub, Int.reduceMul, Int.reduceNeg, Int.reduceBEq, Int.reduceBNe, reduceCtorEq, dreduceIte, oWS, oW8, oW16, oW32, oW64, oLtT, oLtF, oLeT, oLeF, oNLtT, oNLtF, oNLeT, oNLeF, oEqT, oEqF, oNEqT, oNEqF, oBeqT, oBeqF, oBneT, oBneF, Int.natCast_add, List.take_length]
  by_cases h3 : 3 < e
  · rw [if_pos (.inr h3)]
    simp only [nv, ov] at *
    simp -implicitDefEqProofs (maxSteps := 2000000) (disch := omega) only [nego_Nego_Do.s, nv, ov, cvs_nil, go_sem, reduceIte, Nat.reduceAdd, Nat.reduceSub, Nat.reduceMul, Nat.reduceLeDiff, Nat.reduceLT, Nat.reduceEqDiff, Int.reduceToNat, Int.reduceLT, Int.reduceLE, Int.reduceEq, Int.reduceNe, Int.reduceAdd, Int.reduceSub, Int.reduceMul, Int.reduceNeg, Int.reduceBEq, Int.reduceBNe, reduceCtorEq, dreduceIte, oWS, oW8, oW16, oW32, oW64, oLtT, oLtF, oLeT, oLeF, oNLtT, oNLtF, oNLeT, oNLeF, oEqT, oEqF, oNEqT, oNEqF, oBeqT, oBeqF, oBneT, oBneF, Int.natCast_add, List.take_length]
  · rw [if_neg (by omega)]
    generalize evN n e noC noC = r at *
    obtain ⟨n2, o2⟩ := r
    simp only [nv, ov] at *
    simp -implicitDefEqProofs (maxSteps := 2000000) (disch := omega) only [nego_Nego_Do.s, nv, ov, a, go_sem, reduceIte, Nat.reduceAdd, Nat.reduceSub, Nat.reduceMul, Nat.reduceLeDiff, Nat.reduceLT, Nat.reduceEqDiff, Int.reduceToNat, Int.reduceLT, Int.reduceLE, Int.reduceEq, Int.reduceNe, Int.reduceAdd, Int.reduceSub, Int.reduceMul, Int.reduceNeg, Int.reduceBEq, Int.reduceBNe, reduceCtorEq, dreduceIte, oWS, oW8, oW16, oW32, oW64, oLtT, oLtF, oLeT, oLeF, oNLtT, oNLtF, oNLeT, oNLeF, oEqT, oEqF, oNEqT, oNEqF, oBeqT, oBeqF, oBneT, oBneF, Int.natCast_add, List.take_length]
def ticN (n : Ng) : Ng × Ou :=
  let n1 : Ng := { n with left := if 0 < n.left then n.left - 1 else n.left }
  if n.left = 1 then evN n1 (if 0 < n.cnt then 4 else 5) noC noC else (n1, noOu)
end Go.Q
