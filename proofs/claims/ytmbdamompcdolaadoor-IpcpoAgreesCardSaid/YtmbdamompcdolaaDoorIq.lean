/- A client and a server agree: the law IpcpoAgrees. No condition. -/
import Derived.Test.YtmbdamompcdolaaDoorIa
set_option maxRecDepth 100000
set_option linter.unusedSimpArgs false
set_option linter.unusedVariables false
namespace Go.Q
open SOp SCode
attribute [local congr] bind_c map_c
def agStep (s c : Sd) : Sd := if (judI s (optsI c)).1 = 4 then rejI c (judI s (optsI c)).2 else if (judI s (optsI c)).1 = 3 then nakedI c (judI s (optsI c)).2 else c
def agC (s c : Sd) : Nat → Sd
  | 0 => c
  | i + 1 => agStep s (agC s c i)
theorem ag_ok {s c : Sd} (hc : okSd c) : okSd (agStep s c) := by
  obtain ⟨k1, k2⟩ := optsI_ok c
  obtain ⟨m1, m2⟩ := judI_ok s _ k1 k2
  unfold agStep
  split
  · unfold rejI; split <;> exact hc
  split
  · unfold nakedI
    split
    · exact hc
    · refine ⟨told_rng _ _ _ m1 hc.1, hc.2.1, ?_⟩
      simp only
      split
      · exact told_rng _ _ _ m1 hc.2.2
      · exact hc.2.2
  · exact hc
theorem agC_ok {s c : Sd} (hc : okSd c) : ∀ i, okSd (agC s c i)
  | 0 => hc
  | i + 1 => ag_ok (agC_ok hc i)
/-! ### The plain law -/
theorem ag_addr {k a : Int} (h : u32ok a) : addrI (k, big 4 a) = (a, true) := by
  unfold addrI
  rw [if_pos (big_len 4 a)]
  have e4 : (256 : Int) ^ 4 = 4294967296 := by decide
  rw [num_big 4 a h.1 (by rw [e4]; omega)]
theorem fd_nil (k : Int) : (fdR [] k).2 = false := rfl
theorem fd_one {o : Opt} {k : Int} (h : o.1 ≠ k) : (fdR [o] k).2 = false := by
  unfold fdR
  simp [h]
theorem jud1 (s : Sd) (o : Opt) : judI s [o] = if (oneI s o).1 = 4 then (4, [o]) else if (oneI s o).1 = 3 then (3, [(oneI s o).2]) else (2, [o]) := by
  unfold judI
  simp only [List.length_cons, List.length_nil, Nat.zero_add, jiR, List.getElem?_cons_zero, List.take_zero, jiStep, fd_nil, Bool.false_eq_true, false_or, List.nil_append]
  by_cases h4 : (oneI s o).1 = 4
  · simp [h4]
  · by_cases h3 : (oneI s o).1 = 3
    · simp [h3]
    · simp [h4, h3]
theorem jud2 (s : Sd) (o p : Opt) (h : o.1 ≠ p.1) : judI s [o, p] =
    if (oneI s o).1 = 4 then (4, if (oneI s p).1 = 4 then [o, p] else [o]) else if (oneI s p).1 = 4 then (4, [p]) else
    if (oneI s o).1 = 3 then (3, if (oneI s p).1 = 3 then [(oneI s o).2, (oneI s p).2] else [(oneI s o).2]) else if (oneI s p).1 = 3 then (3, [(oneI s p).2]) else (2, [o, p]) := by
  have hf := fd_one (o := o) h
  unfold judI
  simp only [List.length_cons, List.length_nil, Nat.zero_add, Nat.reduceAdd, jiR, List.getElem?_cons_zero, List.getElem?_cons_succ, List.take_zero, List.take_succ_cons, jiStep, fd_nil, hf, Bool.false_eq_true, false_or, List.nil_append]
  by_cases h4 : (oneI s o).1 = 4
  · by_cases p4 : (oneI s p).1 = 4
    · simp [h4, p4]
    · by_cases p3 : (oneI s p).1 = 3
      · simp [h4, p3]
      · simp [h4, p4, p3]
  · by_cases h3 : (oneI s o).1 = 3
    · by_cases p4 : (oneI s p).1 = 4
      · simp [h3, p4]
      · by_cases p3 : (oneI s p).1 = 3
        · simp [h3, p3]
        · simp [h3, p4, p3]
    · by_cases p4 : (oneI s p).1 = 4
      · simp [h4, h3, p4]
      · by_cases p3 : (oneI s p).1 = 3
        · simp [h4, h3, p3]
        · simp [h4, h3, p4, p3]
section
variable {so sg sd o g d : Int} {sa : Bool} (hso : u32ok so) (hsg : u32ok sg) (hsd : u32ok sd) (ho : u32ok o) (hd : u32ok d) (h0 : so ≠ 0) (h4 : sg ≠ 0)
abbrev SS (so sg sd : Int) (sa : Bool) : Sd := ⟨true, so, sg, sd, sa⟩
include ho in
theorem one3 : oneI (SS so sg sd sa) (3, big 4 o) = if o ≠ sg then (3, (3, big 4 sg)) else (2, (3, big 4 o)) := by
  unfold oneI givesI
  rw [ag_addr ho]
  simp
include hd in
theorem one9 : oneI (SS so sg sd sa) (129, big 4 d) = if sd = 0 then (4, (129, big 4 d)) else if d ≠ sd then (3, (129, big 4 sd)) else (2, (129, big 4 d)) := by
  unfold oneI givesI
  rw [ag_addr hd]
  by_cases e : sd = 0 <;> simp [e]
theorem opF : optsI ⟨false, o, g, d, false⟩ = [(3, big 4 o)] := rfl
theorem opT : optsI ⟨false, o, g, d, true⟩ = [(3, big 4 o), (129, big 4 d)] := rfl
include ho hsg h4 in
theorem stF : agStep (SS so sg sd sa) ⟨false, o, g, d, false⟩ = ⟨false, sg, g, d, false⟩ := by
  unfold agStep
  rw [opF, jud1, one3 ho]
  by_cases e : o = sg
  · subst e; simp
  · simp [e, nakedI, toldI, tkI, ag_addr hsg, h4]
include ho hd in
theorem stZ : agStep (SS so sg 0 sa) ⟨false, o, g, d, true⟩ = ⟨false, o, g, d, false⟩ := by
  unfold agStep
  rw [opT, jud2 _ _ _ (by simp), one3 ho, one9 hd]
  by_cases e : o = sg
  · simp [e, rejI, fdR]
  · simp [e, rejI, fdR]
include ho hd hsg hsd h4 in
theorem stT (h9 : sd ≠ 0) : agStep (SS so sg sd sa) ⟨false, o, g, d, true⟩ = ⟨false, sg, g, sd, true⟩ := by
  unfold agStep
  rw [opT, jud2 _ _ _ (by simp), one3 ho, one9 hd]
  by_cases e : o = sg
  · by_cases e9 : d = sd
    · simp [e, e9, h9]
    · simp [e, e9, h9, nakedI, toldI, tkI, ag_addr hsd]
  · by_cases e9 : d = sd
    · simp [e, e9, h9, nakedI, toldI, tkI, ag_addr hsg, h4]
    · simp [e, e9, h9, nakedI, toldI, tkI, ag_addr hsg, ag_addr hsd, h4]
include hsg in
theorem fiF : (judI (SS so sg sd sa) (optsI ⟨false, sg, g, d, false⟩)).1 = 2 := by
  rw [opF, jud1, one3 hsg]; simp
include hsg hsd in
theorem fiT (h9 : sd ≠ 0) : (judI (SS so sg sd sa) (optsI ⟨false, sg, g, sd, true⟩)).1 = 2 := by
  rw [opT, jud2 _ _ _ (by simp), one3 hsg, one9 hsd]; simp [h9]
include hso h0 in
theorem bak (a : Bool) : (judI ⟨false, o, g, d, a⟩ (optsI (SS so sg sd sa))).1 = 2 := by
  have e : optsI (SS so sg sd sa) = [(3, big 4 so)] := rfl
  rw [e, jud1]
  unfold oneI
  rw [ag_addr hso]
  simp [h0]
end
theorem agrees (S C : Sd) (hS : okSd S) (hC : okSd C) (h1 : S.srv = true) (h2 : C.srv = false) (h3 : S.own ≠ 0) (h4 : S.give ≠ 0) :
    (judI S (optsI (agC S C 3))).1 = 2 ∧ (judI (agC S C 3) (optsI S)).1 = 2 ∧ (agC S C 3).own = S.give ∧ ((agC S C 3).asks = false ∨ (agC S C 3).dns = S.dns) := by
  obtain ⟨ss, so, sg, sd, sa⟩ := S
  obtain ⟨cs, o, g, d, a⟩ := C
  simp only at h1 h2 h3 h4
  subst h1 h2
  obtain ⟨hso, hsg, hsd⟩ := hS
  obtain ⟨ho, hg, hd⟩ := hC
  simp only at hso hsg hsd ho hg hd
  have e3 : agC ⟨true, so, sg, sd, sa⟩ ⟨false, o, g, d, a⟩ 3 = agStep ⟨true, so, sg, sd, sa⟩ (agStep ⟨true, so, sg, sd, sa⟩ (agStep ⟨true, so, sg, sd, sa⟩ ⟨false, o, g, d, a⟩)) := rfl
  rw [e3]
  cases a with
  | false =>
    rw [stF hsg ho h4, stF hsg hsg h4, stF hsg hsg h4]
    exact ⟨fiF hsg, bak hso h3 _, rfl, .inl rfl⟩
  | true =>
    by_cases h9 : sd = 0
    · subst h9
      rw [stZ ho hd, stF hsg ho h4, stF hsg hsg h4]
      exact ⟨fiF hsg, bak hso h3 _, rfl, .inl rfl⟩
    · rw [stT hsg hsd ho hd h4 h9, stT hsg hsd hsg hsd h4 h9, stT hsg hsd hsg hsd h4 h9]
      exact ⟨fiT hsg hsd h9, bak hso h3 _, rfl, .inr rfl⟩
theorem ipcpoAgrees (c s : Sd) (hc : okSd c) (hs : okSd s) : ∃ st', run G 6 [.v (sv c), .v (sv s)] [[]] = some (.v (.bool true), st') := by
  rw [xq_fn G rfl euphroelaw26_IpcpoAgrees.g _ _ rfl]
  let C : Sd := { c with srv := false }
  let S : Sd := { s with srv := true }
  by_cases h3 : s.own = 0
  · refine ⟨[[]], ?_⟩
    obtain ⟨srv, own, give, dns, asks⟩ := s
    simp only at h3
    simp -implicitDefEqProofs (disch := omega) only [euphroelaw26_IpcpoAgrees.s, sv, i_alive, go_sem, reduceIte, Nat.reduceAdd, Nat.reduceSub, Nat.reduceMul, Nat.reduceLeDiff, Nat.reduceLT, Nat.reduceEqDiff, Int.reduceToNat, Int.reduceLT, Int.reduceLE, Int.reduceEq, Int.reduceNe, Int.reduceAdd, Int.reduceSub, Int.reduceMul, Int.reduceNeg, Int.reduceBEq, Int.reduceBNe, reduceCtorEq, dreduceIte, true_or, or_true, false_or, or_false, or_self, ac_x, ac_t, setW_s, setW_0, ac_cp, ac_cpw, ac_lenw, ac_ret, ac_pop, ac_popw, cl_cp, oWS, oW8, oW16, oW32, oW64, oLtT, oLtF, oLeT, oLeF, oNLtT, oNLtF, oNLeT, oNLeF, oEqT, oEqF, oNEqT, oNEqF, oBeqT, oBeqF, oBneT, oBneF, Int.natCast_add, Int.cast_ofNat_Int, Int.toNat_natCast, List.take_length, rndE_eq, rnd_n, rnd_r, rnd_e]
  by_cases h4 : s.give = 0
  · refine ⟨[[]], ?_⟩
    obtain ⟨srv, own, give, dns, asks⟩ := s
    simp only at h3 h4
    simp -implicitDefEqProofs (disch := omega) only [euphroelaw26_IpcpoAgrees.s, sv, i_alive, go_sem, reduceIte, Nat.reduceAdd, Nat.reduceSub, Nat.reduceMul, Nat.reduceLeDiff, Nat.reduceLT, Nat.reduceEqDiff, Int.reduceToNat, Int.reduceLT, Int.reduceLE, Int.reduceEq, Int.reduceNe, Int.reduceAdd, Int.reduceSub, Int.reduceMul, Int.reduceNeg, Int.reduceBEq, Int.reduceBNe, reduceCtorEq, dreduceIte, true_or, or_true, false_or, or_false, or_self, ac_x, ac_t, setW_s, setW_0, ac_cp, ac_cpw, ac_lenw, ac_ret, ac_pop, ac_popw, cl_cp, oWS, oW8, oW16, oW32, oW64, oLtT, oLtF, oLeT, oLeF, oNLtT, oNLtF, oNLeT, oNLeF, oEqT, oEqF, oNEqT, oNEqF, oBeqT, oBeqF, oBneT, oBneF, Int.natCast_add, Int.cast_ofNat_Int, Int.toNat_natCast, List.take_length, rndE_eq, rnd_n, rnd_r, rnd_e]
  have okC : okSd C := hc
  have okS : okSd S := hs
  obtain ⟨g1, g2, g3, g4⟩ := agrees S C okS okC rfl rfl h3 h4
  have sc := i_side C
  have ss := i_side S
  have L := lpFor (G := G) (kill := [8, 9, 10]) (body := euphroelaw26_IpcpoAgrees.l0) (fun i => [.v (sv c), .v (sv s), .ptr ⟨1, 0⟩ 0 0, .ptr ⟨1, 1⟩ 0 0, .v (.bool false), .ptr ⟨1, 2⟩ 0 0, .ptr ⟨0, 0⟩ 0 0, .v (.int .i64 i), .undef, .undef, .undef, .undef, .undef])
    (fun i => [[.row [.v (sv C)], .row [.v (sv S)], .row [.v (sv (agC S C i))]], [.row [.v (sv S)]]]) 3
    (fun i hi => by
      have hk := agC_ok (s := S) okC i
      obtain ⟨k1, k2⟩ := optsI_ok (agC S C i)
      obtain ⟨m1, m2⟩ := judI_ok S _ k1 k2
      have o := i_options (agC S C i) hk
      have j := i_judge S (optsI (agC S C i)) okS k1 k2
      have r := i_rejected (agC S C i) (judI S (optsI (agC S C i))).2 m2
      have n := i_naked (agC S C i) (judI S (optsI (agC S C i))).2 m1 m2
      have e : agC S C (i + 1) = agStep S (agC S C i) := rfl
      rw [e]
      unfold agStep
      generalize nakedI (agC S C i) (judI S (optsI (agC S C i))).2 = nk at *
      generalize rejI (agC S C i) (judI S (optsI (agC S C i))).2 = rj at *
      generalize judI S (optsI (agC S C i)) = jd at *
      generalize optsI (agC S C i) = ow at *
      generalize agC S C i = ci at *
      generalize S = T at *
      by_cases c4 : jd.1 = 4
      · simp -implicitDefEqProofs (disch := omega) only [euphroelaw26_IpcpoAgrees.l0, sv, o, j, r, n, go_sem, reduceIte, Nat.reduceAdd, Nat.reduceSub, Nat.reduceMul, Nat.reduceLeDiff, Nat.reduceLT, Nat.reduceEqDiff, Int.reduceToNat, Int.reduceLT, Int.reduceLE, Int.reduceEq, Int.reduceNe, Int.reduceAdd, Int.reduceSub, Int.reduceMul, Int.reduceNeg, Int.reduceBEq, Int.reduceBNe, reduceCtorEq, dreduceIte, true_or, or_true, false_or, or_false, or_self, ac_x, ac_t, setW_s, setW_0, ac_cp, ac_cpw, ac_lenw, ac_ret, ac_pop, ac_popw, cl_cp, oWS, oW8, oW16, oW32, oW64, oLtT, oLtF, oLeT, oLeF, oNLtT, oNLtF, oNLeT, oNLeF, oEqT, oEqF, oNEqT, oNEqF, oBeqT, oBeqF, oBneT, oBneF, Int.natCast_add, Int.cast_ofNat_Int, Int.toNat_natCast, List.take_length, rndE_eq, rnd_n, rnd_r, rnd_e]
      · by_cases c3 : jd.1 = 3
        · simp -implicitDefEqProofs (disch := omega) only [euphroelaw26_IpcpoAgrees.l0, sv, o, j, r, n, go_sem, reduceIte, Nat.reduceAdd, Nat.reduceSub, Nat.reduceMul, Nat.reduceLeDiff, Nat.reduceLT, Nat.reduceEqDiff, Int.reduceToNat, Int.reduceLT, Int.reduceLE, Int.reduceEq, Int.reduceNe, Int.reduceAdd, Int.reduceSub, Int.reduceMul, Int.reduceNeg, Int.reduceBEq, Int.reduceBNe, reduceCtorEq, dreduceIte, true_or, or_true, false_or, or_false, or_self, ac_x, ac_t, setW_s, setW_0, ac_cp, ac_cpw, ac_lenw, ac_ret, ac_pop, ac_popw, cl_cp, oWS, oW8, oW16, oW32, oW64, oLtT, oLtF, oLeT, oLeF, oNLtT, oNLtF, oNLeT, oNLeF, oEqT, oEqF, oNEqT, oNEqF, oBeqT, oBeqF, oBneT, oBneF, Int.natCast_add, Int.cast_ofNat_Int, Int.toNat_natCast, List.take_length, rndE_eq, rnd_n, rnd_r, rnd_e]
        · simp -implicitDefEqProofs (disch := omega) only [euphroelaw26_IpcpoAgrees.l0, sv, o, j, r, n, go_sem, reduceIte, Nat.reduceAdd, Nat.reduceSub, Nat.reduceMul, Nat.reduceLeDiff, Nat.reduceLT, Nat.reduceEqDiff, Int.reduceToNat, Int.reduceLT, Int.reduceLE, Int.reduceEq, Int.reduceNe, Int.reduceAdd, Int.reduceSub, Int.reduceMul, Int.reduceNeg, Int.reduceBEq, Int.reduceBNe, reduceCtorEq, dreduceIte, true_or, or_true, false_or, or_false, or_self, ac_x, ac_t, setW_s, setW_0, ac_cp, ac_cpw, ac_lenw, ac_ret, ac_pop, ac_popw, cl_cp, oWS, oW8, oW16, oW32, oW64, oLtT, oLtF, oLeT, oLeF, oNLtT, oNLtF, oNLeT, oNLeF, oEqT, oEqF, oNEqT, oNEqF, oBeqT, oBeqF, oBneT, oBneF, Int.natCast_add, Int.cast_ofNat_Int, Int.toNat_natCast, List.take_length, rndE_eq, rnd_n, rnd_r, rnd_e]) (by simp -implicitDefEqProofs (disch := omega) only [euphroelaw26_IpcpoAgrees.l0, go_sem, reduceIte, Nat.reduceAdd, Nat.reduceSub, Nat.reduceMul, Nat.reduceLeDiff, Nat.reduceLT, Nat.reduceEqDiff, Int.reduceToNat, Int.reduceLT, Int.reduceLE, Int.reduceEq, Int.reduceNe, Int.reduceAdd, Int.reduceSub, Int.reduceMul, Int.reduceNeg, Int.reduceBEq, Int.reduceBNe, reduceCtorEq, dreduceIte, true_or, or_true, false_or, or_false, or_self, ac_x, ac_t, setW_s, setW_0, ac_cp, ac_cpw, ac_lenw, ac_ret, ac_pop, ac_popw, cl_cp, oWS, oW8, oW16, oW32, oW64, oLtT, oLtF, oLeT, oLeF, oNLtT, oNLtF, oNLeT, oNLeF, oEqT, oEqF, oNEqT, oNEqF, oBeqT, oBeqF, oBneT, oBneF, Int.natCast_add, Int.cast_ofNat_Int, Int.toNat_natCast, List.take_length, rndE_eq, rnd_n, rnd_r, rnd_e]; rfl)
  have a0 : agC S C 0 = C := rfl
  have hk := agC_ok (s := S) okC 3
  obtain ⟨k1, k2⟩ := optsI_ok (agC S C 3)
  obtain ⟨k3, k4⟩ := optsI_ok S
  have o := i_options (agC S C 3) hk
  have o2 := i_options S okS
  have j := i_judge S (optsI (agC S C 3)) okS k1 k2
  have j2 := i_judge (agC S C 3) (optsI S) hk k3 k4
  rw [g1] at j
  rw [g2] at j2
  rw [a0] at L
  generalize (judI S (optsI (agC S C 3))).2 = l1 at *
  generalize (judI (agC S C 3) (optsI S)).2 = l2 at *
  generalize optsI (agC S C 3) = ow at *
  generalize optsI S = ow2 at *
  generalize agC S C 3 = ci at *
  obtain ⟨csrv, cown, cgive, cdns, casks⟩ := ci
  obtain ⟨ssrv, sown, sgive, sdns, sasks⟩ := s
  obtain ⟨c0srv, c0own, c0give, c0dns, c0asks⟩ := c
  simp only [C, S] at *
  subst g3
  simp only [sv, z0, Int.cast_ofNat_Int, List.take_zero, List.map_nil, List.drop_zero, accN, b8_nil, Int.sub_zero, Int.add_zero, Int.zero_add, Nat.zero_add, Nat.sub_zero, List.nil_append, List.append_nil] at L
  simp only [sv, z0, Int.cast_ofNat_Int, List.take_zero, List.map_nil, List.drop_zero, accN, b8_nil, Int.sub_zero, Int.add_zero, Int.zero_add, Nat.zero_add, Nat.sub_zero, List.nil_append, List.append_nil] at sc
  simp only [sv, z0, Int.cast_ofNat_Int, List.take_zero, List.map_nil, List.drop_zero, accN, b8_nil, Int.sub_zero, Int.add_zero, Int.zero_add, Nat.zero_add, Nat.sub_zero, List.nil_append, List.append_nil] at ss
  simp only [sv, z0, Int.cast_ofNat_Int, List.take_zero, List.map_nil, List.drop_zero, accN, b8_nil, Int.sub_zero, Int.add_zero, Int.zero_add, Nat.zero_add, Nat.sub_zero, List.nil_append, List.append_nil] at o
  simp only [sv, z0, Int.cast_ofNat_Int, List.take_zero, List.map_nil, List.drop_zero, accN, b8_nil, Int.sub_zero, Int.add_zero, Int.zero_add, Nat.zero_add, Nat.sub_zero, List.nil_append, List.append_nil] at o2
  simp only [sv, z0, Int.cast_ofNat_Int, List.take_zero, List.map_nil, List.drop_zero, accN, b8_nil, Int.sub_zero, Int.add_zero, Int.zero_add, Nat.zero_add, Nat.sub_zero, List.nil_append, List.append_nil] at j
  simp only [sv, z0, Int.cast_ofNat_Int, List.take_zero, List.map_nil, List.drop_zero, accN, b8_nil, Int.sub_zero, Int.add_zero, Int.zero_add, Nat.zero_add, Nat.sub_zero, List.nil_append, List.append_nil] at j2
  cases casks with
  | false =>
    refine ⟨?_, ?_⟩
    rotate_left 1
    · simp -implicitDefEqProofs (disch := omega) only [euphroelaw26_IpcpoAgrees.s, sv, i_alive, L, sc, ss, o, o2, j, j2, addBot, addB, beq_self_eq_true, go_sem, reduceIte, Nat.reduceAdd, Nat.reduceSub, Nat.reduceMul, Nat.reduceLeDiff, Nat.reduceLT, Nat.reduceEqDiff, Int.reduceToNat, Int.reduceLT, Int.reduceLE, Int.reduceEq, Int.reduceNe, Int.reduceAdd, Int.reduceSub, Int.reduceMul, Int.reduceNeg, Int.reduceBEq, Int.reduceBNe, reduceCtorEq, dreduceIte, true_or, or_true, false_or, or_false, or_self, ac_x, ac_t, setW_s, setW_0, ac_cp, ac_cpw, ac_lenw, ac_ret, ac_pop, ac_popw, cl_cp, oWS, oW8, oW16, oW32, oW64, oLtT, oLtF, oLeT, oLeF, oNLtT, oNLtF, oNLeT, oNLeF, oEqT, oEqF, oNEqT, oNEqF, oBeqT, oBeqF, oBneT, oBneF, Int.natCast_add, Int.cast_ofNat_Int, Int.toNat_natCast, List.take_length, rndE_eq, rnd_n, rnd_r, rnd_e]
      rfl
  | true =>
    have g5 : cdns = sdns := by
      rcases g4 with g4 | g4
      · cases g4
      · exact g4
    subst g5
    refine ⟨?_, ?_⟩
    rotate_left 1
    · simp -implicitDefEqProofs (disch := omega) only [euphroelaw26_IpcpoAgrees.s, sv, i_alive, L, sc, ss, o, o2, j, j2, addBot, addB, beq_self_eq_true, go_sem, reduceIte, Nat.reduceAdd, Nat.reduceSub, Nat.reduceMul, Nat.reduceLeDiff, Nat.reduceLT, Nat.reduceEqDiff, Int.reduceToNat, Int.reduceLT, Int.reduceLE, Int.reduceEq, Int.reduceNe, Int.reduceAdd, Int.reduceSub, Int.reduceMul, Int.reduceNeg, Int.reduceBEq, Int.reduceBNe, reduceCtorEq, dreduceIte, true_or, or_true, false_or, or_false, or_self, ac_x, ac_t, setW_s, setW_0, ac_cp, ac_cpw, ac_lenw, ac_ret, ac_pop, ac_popw, cl_cp, oWS, oW8, oW16, oW32, oW64, oLtT, oLtF, oLeT, oLeF, oNLtT, oNLtF, oNLeT, oNLeF, oEqT, oEqF, oNEqT, oNEqF, oBeqT, oBeqF, oBneT, oBneF, Int.natCast_add, Int.cast_ofNat_Int, Int.toNat_natCast, List.take_length, rndE_eq, rnd_n, rnd_r, rnd_e]
      rfl
end Go.Q
