/- What a negotiation sends may be laid: the law NegoSends. No condition. -/
import Derived.Test.YtmbdamompcdolaaGreatDoorNe
set_option maxRecDepth 100000
set_option linter.unusedSimpArgs false
set_option linter.unusedVariables false
namespace Go.Q
open SOp SCode
attribute [local congr] bind_c map_c
theorem n_alive : run G 7 [] [] = some (.v (.bool true), []) := run_of (n := 30) (by kernel_rfl)
theorem n_lrules (r : Rl) : run G 10 [.v (rlv r)] [] = some (.v (rlv r), []) := by
  rw [xq_fn G rfl euphroelaw27_rules.g _ _ rfl]
  simp -implicitDefEqProofs (maxSteps := 2000000) (disch := omega) only [euphroelaw27_rules.s, rlv, go_sem, reduceIte, Nat.reduceAdd, Nat.reduceSub, Nat.reduceMul, Nat.reduceLeDiff, Nat.reduceLT, Nat.reduceEqDiff, Int.reduceToNat, Int.reduceLT, Int.reduceLE, Int.reduceEq, Int.reduceNe, Int.reduceAdd, Int.reduceSub, Int.reduceMul, Int.reduceNeg, Int.reduceBEq, Int.reduceBNe, reduceCtorEq, dreduceIte, oWS, oW8, oW16, oW32, oW64, oLtT, oLtF, oLeT, oLeF, oNLtT, oNLtF, oNLeT, oNLeF, oEqT, oEqF, oNEqT, oNEqF, oBeqT, oBeqF, oBneT, oBneF, Int.natCast_add, Int.cast_ofNat_Int, Int.toNat_natCast, List.take_length]
theorem n_lpacket (c : Ctl) : run G 20 [.v (cv c)] [] = some (.v (cv c), []) := by
  rw [xq_fn G rfl euphroelaw27_packet.g _ _ rfl]
  simp -implicitDefEqProofs (maxSteps := 2000000) (disch := omega) only [euphroelaw27_packet.s, cv, go_sem, reduceIte, Nat.reduceAdd, Nat.reduceSub, Nat.reduceMul, Nat.reduceLeDiff, Nat.reduceLT, Nat.reduceEqDiff, Int.reduceToNat, Int.reduceLT, Int.reduceLE, Int.reduceEq, Int.reduceNe, Int.reduceAdd, Int.reduceSub, Int.reduceMul, Int.reduceNeg, Int.reduceBEq, Int.reduceBNe, reduceCtorEq, dreduceIte, oWS, oW8, oW16, oW32, oW64, oLtT, oLtF, oLeT, oLeF, oNLtT, oNLtF, oNLeT, oNLeF, oEqT, oEqF, oNEqT, oNEqF, oBeqT, oBeqF, oBneT, oBneF, Int.natCast_add, Int.cast_ofNat_Int, Int.toNat_natCast, List.take_length]
abbrev Stp := Int × Int × Bool × Bool × Ctl
abbrev spv (s : Stp) : V := .agg [.int .u8 s.1, .int .i64 s.2.1, .bool s.2.2.1, .bool s.2.2.2.1, .int .u8 s.2.2.2.2.1, .int .u8 s.2.2.2.2.2.1, .slc 1 (b8 s.2.2.2.2.2.2)]
abbrev okSp (s : Stp) : Prop := (0 ≤ s.1 ∧ s.1 ≤ 255) ∧ In s.2.1 ∧ okC s.2.2.2.2
def sps (l : List Stp) : List V := l.map spv
theorem sps_len (l : List Stp) : (sps l).length = l.length := by simp [sps]
theorem sps_at {l : List Stp} {i : Nat} {x : Stp} (h : l[i]? = some x) : (sps l)[i]? = some (spv x) := by simp [sps, h]
theorem sps_take (l : List Stp) (n : Nat) : (sps l).take n = sps (l.take n) := by simp [sps]
def stepN (n : Ng) (s : Stp) : Ng × Ou := if s.1 % 4 = 0 then doN n s.2.1 else if s.1 % 4 = 1 then ticN n else takN n s.2.2.2.2
def seqN (r : Rl) (l : List Stp) : Nat → Ng
  | 0 => newN r
  | i + 1 => match l[i]? with
    | some s => (stepN (seqN r l i) s).1
    | none => seqN r l i
theorem seqN_succ {r : Rl} {l : List Stp} {i : Nat} (h : i < l.length) : seqN r l (i + 1) = (stepN (seqN r l i) l[i]).1 := by rw [seqN, List.getElem?_eq_getElem h]
theorem stepN_ok (n : Ng) (s : Stp) {k : Nat} (h : InvN k n) (hs : okSp s) (hd : s.2.2.2.2.2.2.length ≤ 1000) : InvN (k + 1) (stepN n s).1 ∧ OutOk n (stepN n s).1 (stepN n s).2 := by
  unfold stepN
  split
  · obtain ⟨a, b⟩ := n_doOk n s.2.1 h; exact ⟨a.up (by omega), b⟩
  split
  · obtain ⟨a, b⟩ := n_tickOk n h; exact ⟨a.up (by omega), b⟩
  · exact n_takeOk n _ h hs.2.2 hd
theorem newN_inv {r : Rl} (h : okR r) : InvN 0 (newN r) := ⟨⟨by show In 0; constructor <;> decide, h⟩, ⟨fun o ho => (by cases ho), Nat.zero_le _⟩, ⟨by simp [newN], by simp [newN]⟩, ⟨by simp [newN], by simp [newN]⟩, ⟨fun o ho => (by cases ho), Nat.zero_le _⟩⟩
theorem seqN_inv {r : Rl} (hr : okR r) (l : List Stp) (hl : ∀ s ∈ l, okSp s) : ∀ i, i ≤ l.length → (∀ j, j < i → ∀ h : j < l.length, (l[j]).2.2.2.2.2.2.length ≤ 1000) → InvN i (seqN r l i)
  | 0, _, _ => newN_inv hr
  | i + 1, hi, hd => by
    rw [seqN_succ (by omega)]
    exact (stepN_ok _ _ (seqN_inv hr l hl i (by omega) (fun j hj => hd j (by omega))) (hl _ (List.getElem_mem _)) (hd i (by omega) (by omega))).1
theorem sends_inner (F1 F0 : List Blk) (a0 a1 a2 a4 a5 a6 a7 a8 a9 a10 a11 : D) (pk : List Ctl) (hp : ∀ c ∈ pk, okP c) (hn : pk.length ≤ 2) (h0 : ∀ d ∈ [a0, a1, a2, a4, a5, a6, a7, a8, a9, a10, a11], refsBelow 2 d = true ∧ cp d = d) :
    ex G (.loop [15, 16] euphroelaw27_NegoSends.l1) [a0, a1, a2, .v (.bool false), a4, a5, a6, a7, a8, a9, a10, a11, .v (.slc 3 (cvs pk)), .v (.int .i64 (pk.length : Nat)), .v (.int .i64 0), .undef, .undef] [F1, F0] =
      some (.exit 3, [a0, a1, a2, .v (.bool false), a4, a5, a6, a7, a8, a9, a10, a11, .v (.slc 3 (cvs pk)), .v (.int .i64 (pk.length : Nat)), .v (.int .i64 (pk.length : Nat)), .undef, .undef], [F1, F0]) := by
  have hpop : ∀ d ∈ [a0, a1, a2, a4, a5, a6, a7, a8, a9, a10, a11], ∀ st, popD st 2 d = d := fun d hd st => by
    have := (h0 d hd).1
    cases d <;> simp_all [popD]
  simp only [List.mem_cons, List.not_mem_nil, or_false, forall_eq_or_imp, forall_eq] at hpop
  obtain ⟨p0, p1, p2, p4, p5, p6, p7, p8, p9, p10, p11⟩ := hpop
  have L := lpFor (G := G) (kill := [15, 16]) (body := euphroelaw27_NegoSends.l1) (fun i => [a0, a1, a2, .v (.bool false), a4, a5, a6, a7, a8, a9, a10, a11, .v (.slc 3 (cvs pk)), .v (.int .i64 (pk.length : Nat)), .v (.int .i64 i), .undef, .undef]) (fun _ => [F1, F0]) pk.length
    (fun i hi => by
      have hx := cvs_at (List.getElem?_eq_getElem hi)
      have hc := hp _ (List.getElem_mem hi)
      have ly := c_lay pk[i] (by omega)
      have l2 : (layC pk[i]).2 = 0 := by unfold layC; rw [if_neg (by omega)]
      rw [l2] at ly
      generalize pk[i] = c at *
      simp only [cv] at *
      simp -implicitDefEqProofs (maxSteps := 2000000) (disch := omega) only [euphroelaw27_NegoSends.l1, cv, hx, ly, cvs_len, p0, p1, p2, p4, p5, p6, p7, p8, p9, p10, p11, go_sem, reduceIte, Nat.reduceAdd, Nat.reduceSub, Nat.reduceMul, Nat.reduceLeDiff, Nat.reduceLT, Nat.reduceEqDiff, Int.reduceToNat, Int.reduceLT, Int.reduceLE, Int.reduceEq, Int.reduceNe, Int.reduceAdd, Int.reduceSub, Int.reduceMul, Int.reduceNeg, Int.reduceBEq, Int.reduceBNe, reduceCtorEq, dreduceIte, oWS, oW8, oW16, oW32, oW64, oLtT, oLtF, oLeT, oLeF, oNLtT, oNLtF, oNLeT, oNLeF, oEqT, oEqF, oNEqT, oNEqF, oBeqT, oBeqF, oBneT, oBneF, Int.natCast_add, Int.cast_ofNat_Int, Int.toNat_natCast, List.take_length]) (by simp -implicitDefEqProofs (maxSteps := 2000000) (disch := omega) only [euphroelaw27_NegoSends.l1, p0, p1, p2, p4, p5, p6, p7, p8, p9, p10, p11, go_sem, reduceIte, Nat.reduceAdd, Nat.reduceSub, Nat.reduceMul, Nat.reduceLeDiff, Nat.reduceLT, Nat.reduceEqDiff, Int.reduceToNat, Int.reduceLT, Int.reduceLE, Int.reduceEq, Int.reduceNe, Int.reduceAdd, Int.reduceSub, Int.reduceMul, Int.reduceNeg, Int.reduceBEq, Int.reduceBNe, reduceCtorEq, dreduceIte, oWS, oW8, oW16, oW32, oW64, oLtT, oLtF, oLeT, oLeF, oNLtT, oNLtF, oNLeT, oNLeF, oEqT, oEqF, oNEqT, oNEqF, oBeqT, oBeqF, oBneT, oBneF, Int.natCast_add, Int.cast_ofNat_Int, Int.toNat_natCast, List.take_length]; rfl)
  simp only [z0, Int.cast_ofNat_Int, List.take_zero, List.map_nil, List.drop_zero, accN, b8_nil, Int.sub_zero, Int.add_zero, Int.zero_add, Nat.zero_add, Nat.sub_zero, List.nil_append, List.append_nil] at L
  exact L
theorem nqTT : (true == true) = true := rfl
theorem nqTF : (true == false) = false := rfl
theorem nqFT : (false == true) = false := rfl
theorem nqFF : (false == false) = true := rfl
theorem bq (a b : Bool) : (a == b) = true ↔ a = b := by cases a <;> cases b <;> simp
abbrev sdE (r : Rl) (l : List Stp) (m : Nat) (i : Nat) : List D := [.v (rlv r), .v (.slc 7 (sps l)), .ptr ⟨0, 0⟩ 0 0, .v (.bool false), .ptr ⟨0, 1⟩ 0 0, .v (.slc 7 (sps (l.take m))), .v (.int .i64 (m : Nat)), .v (.int .i64 (i : Nat)), .undef, .undef, .undef, .undef, .undef, .undef, .undef, .undef, .undef]
abbrev sdS (r : Rl) (n : Ng) : St := [[.row [.v (rlv r)], .row [.v (nv n)]]]
theorem sends_round0 (r : Rl) (l : List Stp) (m i : Nat) (hi : i < m) (hm : m ≤ l.length) (h40 : m ≤ 40) (s : Stp) (hs : l[i]? = some s) (hk : 0 ≤ s.1 ∧ s.1 ≤ 255) (hd : s.2.2.2.2.2.2.length ≤ 1000) (n n2 : Ng) (o : Ou) (ok : OutOk n n2 o) (k0 : s.1 % 4 = 0)
    (h0 : run G 17 [.v (nv n), .v (.int .i64 s.2.1)] [] = some (.tup [.v (nv n2), .v (ov o)], [])) :
    rndE G [8, 9, 10, 11, 12, 13, 14, 15, 16] euphroelaw27_NegoSends.l0 (sdE r l m i) (sdS r n) = some (.inl (sdE r l m (i + 1), sdS r n2)) := by
  have hx : (sps (l.take m))[i]? = some (spv s) := sps_at (by rw [List.getElem?_take_of_lt hi, hs])
  have hlen : (sps (l.take m)).length = m := by rw [sps_len, List.length_take]; omega
  have hmod : s.1.tmod 4 = s.1 % 4 := Int.tmod_eq_emod_of_nonneg hk.1
  have st := n_state n
  have st2 := n_state n2
  have pa := n_lpacket s.2.2.2.2
  have inner := fun F1 F0 a8 a9 a10 a11 => sends_inner F1 F0 (.v (rlv r)) (.v (.slc 7 (sps l))) (.ptr ⟨0, 0⟩ 0 0) (.ptr ⟨0, 1⟩ 0 0) (.v (.slc 7 (sps (l.take m)))) (.v (.int .i64 (m : Nat))) (.v (.int .i64 (i : Nat))) (.ptr ⟨1, a8⟩ 0 0) (.v (.int .i64 a9)) (.ptr ⟨1, a10⟩ 0 0) (.v (.int .u8 a11)) o.pk ok.pk ok.len (by simp [refsBelow, cp])
  obtain ⟨up, down, len, pk⟩ := ok
  obtain ⟨opk, oup, odown, ost, ofi⟩ := o
  obtain ⟨k, ev, b1, b2, c⟩ := s
  obtain ⟨ns, n1c, n1l, n1i, n1s, n1r, n1a, n1k⟩ := n
  obtain ⟨ms, n2c, n2l, n2i, n2s, n2r, n2a, n2k⟩ := n2
  simp only [nv, ov, cv, rlv] at *
  by_cases e1 : ns = 9
  · by_cases e2 : ms = 9
    · simp only [e1, e2, ne_eq, not_true_eq_false, not_false_eq_true, decide_false, decide_true, Bool.false_and, Bool.and_false, Bool.and_true, Bool.true_and] at up down
      subst up down
      subst e1 e2
      simp -implicitDefEqProofs (maxSteps := 2000000) (disch := omega) only [euphroelaw27_NegoSends.l0, sdE, sdS, nv, ov, cv, rlv, spv, hx, hlen, hmod, st, st2, h0, inner, cvs_len, b8_len, nqTT, nqTF, nqFT, nqFF, go_sem, reduceIte, Nat.reduceAdd, Nat.reduceSub, Nat.reduceMul, Nat.reduceLeDiff, Nat.reduceLT, Nat.reduceEqDiff, Int.reduceToNat, Int.reduceLT, Int.reduceLE, Int.reduceEq, Int.reduceNe, Int.reduceAdd, Int.reduceSub, Int.reduceMul, Int.reduceNeg, Int.reduceBEq, Int.reduceBNe, reduceCtorEq, dreduceIte, oWS, oW8, oW16, oW32, oW64, oLtT, oLtF, oLeT, oLeF, oNLtT, oNLtF, oNLeT, oNLeF, oEqT, oEqF, oNEqT, oNEqF, oBeqT, oBeqF, oBneT, oBneF, Int.natCast_add, Int.cast_ofNat_Int, Int.toNat_natCast, List.take_length]
    · simp only [e1, e2, ne_eq, not_true_eq_false, not_false_eq_true, decide_false, decide_true, Bool.false_and, Bool.and_false, Bool.and_true, Bool.true_and] at up down
      subst up down
      subst e1
      simp -implicitDefEqProofs (maxSteps := 2000000) (disch := omega) only [euphroelaw27_NegoSends.l0, sdE, sdS, nv, ov, cv, rlv, spv, hx, hlen, hmod, st, st2, h0, inner, cvs_len, b8_len, nqTT, nqTF, nqFT, nqFF, go_sem, reduceIte, Nat.reduceAdd, Nat.reduceSub, Nat.reduceMul, Nat.reduceLeDiff, Nat.reduceLT, Nat.reduceEqDiff, Int.reduceToNat, Int.reduceLT, Int.reduceLE, Int.reduceEq, Int.reduceNe, Int.reduceAdd, Int.reduceSub, Int.reduceMul, Int.reduceNeg, Int.reduceBEq, Int.reduceBNe, reduceCtorEq, dreduceIte, oWS, oW8, oW16, oW32, oW64, oLtT, oLtF, oLeT, oLeF, oNLtT, oNLtF, oNLeT, oNLeF, oEqT, oEqF, oNEqT, oNEqF, oBeqT, oBeqF, oBneT, oBneF, Int.natCast_add, Int.cast_ofNat_Int, Int.toNat_natCast, List.take_length]
  · by_cases e2 : ms = 9
    · simp only [e1, e2, ne_eq, not_true_eq_false, not_false_eq_true, decide_false, decide_true, Bool.false_and, Bool.and_false, Bool.and_true, Bool.true_and] at up down
      subst up down
      subst e2
      simp -implicitDefEqProofs (maxSteps := 2000000) (disch := omega) only [euphroelaw27_NegoSends.l0, sdE, sdS, nv, ov, cv, rlv, spv, hx, hlen, hmod, st, st2, h0, inner, cvs_len, b8_len, nqTT, nqTF, nqFT, nqFF, go_sem, reduceIte, Nat.reduceAdd, Nat.reduceSub, Nat.reduceMul, Nat.reduceLeDiff, Nat.reduceLT, Nat.reduceEqDiff, Int.reduceToNat, Int.reduceLT, Int.reduceLE, Int.reduceEq, Int.reduceNe, Int.reduceAdd, Int.reduceSub, Int.reduceMul, Int.reduceNeg, Int.reduceBEq, Int.reduceBNe, reduceCtorEq, dreduceIte, oWS, oW8, oW16, oW32, oW64, oLtT, oLtF, oLeT, oLeF, oNLtT, oNLtF, oNLeT, oNLeF, oEqT, oEqF, oNEqT, oNEqF, oBeqT, oBeqF, oBneT, oBneF, Int.natCast_add, Int.cast_ofNat_Int, Int.toNat_natCast, List.take_length]
    · simp only [e1, e2, ne_eq, not_true_eq_false, not_false_eq_true, decide_false, decide_true, Bool.false_and, Bool.and_false, Bool.and_true, Bool.true_and] at up down
      subst up down
      skip
      simp -implicitDefEqProofs (maxSteps := 2000000) (disch := omega) only [euphroelaw27_NegoSends.l0, sdE, sdS, nv, ov, cv, rlv, spv, hx, hlen, hmod, st, st2, h0, inner, cvs_len, b8_len, nqTT, nqTF, nqFT, nqFF, go_sem, reduceIte, Nat.reduceAdd, Nat.reduceSub, Nat.reduceMul, Nat.reduceLeDiff, Nat.reduceLT, Nat.reduceEqDiff, Int.reduceToNat, Int.reduceLT, Int.reduceLE, Int.reduceEq, Int.reduceNe, Int.reduceAdd, Int.reduceSub, Int.reduceMul, Int.reduceNeg, Int.reduceBEq, Int.reduceBNe, reduceCtorEq, dreduceIte, oWS, oW8, oW16, oW32, oW64, oLtT, oLtF, oLeT, oLeF, oNLtT, oNLtF, oNLeT, oNLeF, oEqT, oEqF, oNEqT, oNEqF, oBeqT, oBeqF, oBneT, oBneF, Int.natCast_add, Int.cast_ofNat_Int, Int.toNat_natCast, List.take_length]
theorem sends_round1 (r : Rl) (l : List Stp) (m i : Nat) (hi : i < m) (hm : m ≤ l.length) (h40 : m ≤ 40) (s : Stp) (hs : l[i]? = some s) (hk : 0 ≤ s.1 ∧ s.1 ≤ 255) (hd : s.2.2.2.2.2.2.length ≤ 1000) (n n2 : Ng) (o : Ou) (ok : OutOk n n2 o) (k1 : s.1 % 4 = 1)
    (h0 : run G 18 [.v (nv n)] [] = some (.tup [.v (nv n2), .v (ov o)], [])) :
    rndE G [8, 9, 10, 11, 12, 13, 14, 15, 16] euphroelaw27_NegoSends.l0 (sdE r l m i) (sdS r n) = some (.inl (sdE r l m (i + 1), sdS r n2)) := by
  have hx : (sps (l.take m))[i]? = some (spv s) := sps_at (by rw [List.getElem?_take_of_lt hi, hs])
  have hlen : (sps (l.take m)).length = m := by rw [sps_len, List.length_take]; omega
  have hmod : s.1.tmod 4 = s.1 % 4 := Int.tmod_eq_emod_of_nonneg hk.1
  have st := n_state n
  have st2 := n_state n2
  have pa := n_lpacket s.2.2.2.2
  have inner := fun F1 F0 a8 a9 a10 a11 => sends_inner F1 F0 (.v (rlv r)) (.v (.slc 7 (sps l))) (.ptr ⟨0, 0⟩ 0 0) (.ptr ⟨0, 1⟩ 0 0) (.v (.slc 7 (sps (l.take m)))) (.v (.int .i64 (m : Nat))) (.v (.int .i64 (i : Nat))) (.ptr ⟨1, a8⟩ 0 0) (.v (.int .i64 a9)) (.ptr ⟨1, a10⟩ 0 0) (.v (.int .u8 a11)) o.pk ok.pk ok.len (by simp [refsBelow, cp])
  obtain ⟨up, down, len, pk⟩ := ok
  obtain ⟨opk, oup, odown, ost, ofi⟩ := o
  obtain ⟨k, ev, b1, b2, c⟩ := s
  obtain ⟨ns, n1c, n1l, n1i, n1s, n1r, n1a, n1k⟩ := n
  obtain ⟨ms, n2c, n2l, n2i, n2s, n2r, n2a, n2k⟩ := n2
  simp only [nv, ov, cv, rlv] at *
  by_cases e1 : ns = 9
  · by_cases e2 : ms = 9
    · simp only [e1, e2, ne_eq, not_true_eq_false, not_false_eq_true, decide_false, decide_true, Bool.false_and, Bool.and_false, Bool.and_true, Bool.true_and] at up down
      subst up down
      subst e1 e2
      simp -implicitDefEqProofs (maxSteps := 2000000) (disch := omega) only [euphroelaw27_NegoSends.l0, sdE, sdS, nv, ov, cv, rlv, spv, hx, hlen, hmod, st, st2, h0, inner, cvs_len, b8_len, nqTT, nqTF, nqFT, nqFF, go_sem, reduceIte, Nat.reduceAdd, Nat.reduceSub, Nat.reduceMul, Nat.reduceLeDiff, Nat.reduceLT, Nat.reduceEqDiff, Int.reduceToNat, Int.reduceLT, Int.reduceLE, Int.reduceEq, Int.reduceNe, Int.reduceAdd, Int.reduceSub, Int.reduceMul, Int.reduceNeg, Int.reduceBEq, Int.reduceBNe, reduceCtorEq, dreduceIte, oWS, oW8, oW16, oW32, oW64, oLtT, oLtF, oLeT, oLeF, oNLtT, oNLtF, oNLeT, oNLeF, oEqT, oEqF, oNEqT, oNEqF, oBeqT, oBeqF, oBneT, oBneF, Int.natCast_add, Int.cast_ofNat_Int, Int.toNat_natCast, List.take_length]
    · simp only [e1, e2, ne_eq, not_true_eq_false, not_false_eq_true, decide_false, decide_true, Bool.false_and, Bool.and_false, Bool.and_true, Bool.true_and] at up down
      subst up down
      subst e1
      simp -implicitDefEqProofs (maxSteps := 2000000) (disch := omega) only [euphroelaw27_NegoSends.l0, sdE, sdS, nv, ov, cv, rlv, spv, hx, hlen, hmod, st, st2, h0, inner, cvs_len, b8_len, nqTT, nqTF, nqFT, nqFF, go_sem, reduceIte, Nat.reduceAdd, Nat.reduceSub, Nat.reduceMul, Nat.reduceLeDiff, Nat.reduceLT, Nat.reduceEqDiff, Int.reduceToNat, Int.reduceLT, Int.reduceLE, Int.reduceEq, Int.reduceNe, Int.reduceAdd, Int.reduceSub, Int.reduceMul, Int.reduceNeg, Int.reduceBEq, Int.reduceBNe, reduceCtorEq, dreduceIte, oWS, oW8, oW16, oW32, oW64, oLtT, oLtF, oLeT, oLeF, oNLtT, oNLtF, oNLeT, oNLeF, oEqT, oEqF, oNEqT, oNEqF, oBeqT, oBeqF, oBneT, oBneF, Int.natCast_add, Int.cast_ofNat_Int, Int.toNat_natCast, List.take_length]
  · by_cases e2 : ms = 9
    · simp only [e1, e2, ne_eq, not_true_eq_false, not_false_eq_true, decide_false, decide_true, Bool.false_and, Bool.and_false, Bool.and_true, Bool.true_and] at up down
      subst up down
      subst e2
      simp -implicitDefEqProofs (maxSteps := 2000000) (disch := omega) only [euphroelaw27_NegoSends.l0, sdE, sdS, nv, ov, cv, rlv, spv, hx, hlen, hmod, st, st2, h0, inner, cvs_len, b8_len, nqTT, nqTF, nqFT, nqFF, go_sem, reduceIte, Nat.reduceAdd, Nat.reduceSub, Nat.reduceMul, Nat.reduceLeDiff, Nat.reduceLT, Nat.reduceEqDiff, Int.reduceToNat, Int.reduceLT, Int.reduceLE, Int.reduceEq, Int.reduceNe, Int.reduceAdd, Int.reduceSub, Int.reduceMul, Int.reduceNeg, Int.reduceBEq, Int.reduceBNe, reduceCtorEq, dreduceIte, oWS, oW8, oW16, oW32, oW64, oLtT, oLtF, oLeT, oLeF, oNLtT, oNLtF, oNLeT, oNLeF, oEqT, oEqF, oNEqT, oNEqF, oBeqT, oBeqF, oBneT, oBneF, Int.natCast_add, Int.cast_ofNat_Int, Int.toNat_natCast, List.take_length]
    · simp only [e1, e2, ne_eq, not_true_eq_false, not_false_eq_true, decide_false, decide_true, Bool.false_and, Bool.and_false, Bool.and_true, Bool.true_and] at up down
      subst up down
      skip
      simp -implicitDefEqProofs (maxSteps := 2000000) (disch := omega) only [euphroelaw27_NegoSends.l0, sdE, sdS, nv, ov, cv, rlv, spv, hx, hlen, hmod, st, st2, h0, inner, cvs_len, b8_len, nqTT, nqTF, nqFT, nqFF, go_sem, reduceIte, Nat.reduceAdd, Nat.reduceSub, Nat.reduceMul, Nat.reduceLeDiff, Nat.reduceLT, Nat.reduceEqDiff, Int.reduceToNat, Int.reduceLT, Int.reduceLE, Int.reduceEq, Int.reduceNe, Int.reduceAdd, Int.reduceSub, Int.reduceMul, Int.reduceNeg, Int.reduceBEq, Int.reduceBNe, reduceCtorEq, dreduceIte, oWS, oW8, oW16, oW32, oW64, oLtT, oLtF, oLeT, oLeF, oNLtT, oNLtF, oNLeT, oNLeF, oEqT, oEqF, oNEqT, oNEqF, oBeqT, oBeqF, oBneT, oBneF, Int.natCast_add, Int.cast_ofNat_Int, Int.toNat_natCast, List.take_length]
theorem sends_round2 (r : Rl) (l : List Stp) (m i : Nat) (hi : i < m) (hm : m ≤ l.length) (h40 : m ≤ 40) (s : Stp) (hs : l[i]? = some s) (hk : 0 ≤ s.1 ∧ s.1 ≤ 255) (hd : s.2.2.2.2.2.2.length ≤ 1000) (n n2 : Ng) (o : Ou) (ok : OutOk n n2 o) (k0 : s.1 % 4 ≠ 0) (k1 : s.1 % 4 ≠ 1)
    (h0 : run G 19 [.v (nv n), .v (cv s.2.2.2.2)] [] = some (.tup [.v (nv n2), .v (ov o)], [])) :
    rndE G [8, 9, 10, 11, 12, 13, 14, 15, 16] euphroelaw27_NegoSends.l0 (sdE r l m i) (sdS r n) = some (.inl (sdE r l m (i + 1), sdS r n2)) := by
  have hx : (sps (l.take m))[i]? = some (spv s) := sps_at (by rw [List.getElem?_take_of_lt hi, hs])
  have hlen : (sps (l.take m)).length = m := by rw [sps_len, List.length_take]; omega
  have hmod : s.1.tmod 4 = s.1 % 4 := Int.tmod_eq_emod_of_nonneg hk.1
  have st := n_state n
  have st2 := n_state n2
  have pa := n_lpacket s.2.2.2.2
  have inner := fun F1 F0 a8 a9 a10 a11 => sends_inner F1 F0 (.v (rlv r)) (.v (.slc 7 (sps l))) (.ptr ⟨0, 0⟩ 0 0) (.ptr ⟨0, 1⟩ 0 0) (.v (.slc 7 (sps (l.take m)))) (.v (.int .i64 (m : Nat))) (.v (.int .i64 (i : Nat))) (.ptr ⟨1, a8⟩ 0 0) (.v (.int .i64 a9)) (.ptr ⟨1, a10⟩ 0 0) (.v (.int .u8 a11)) o.pk ok.pk ok.len (by simp [refsBelow, cp])
  obtain ⟨up, down, len, pk⟩ := ok
  obtain ⟨opk, oup, odown, ost, ofi⟩ := o
  obtain ⟨k, ev, b1, b2, c⟩ := s
  obtain ⟨ns, n1c, n1l, n1i, n1s, n1r, n1a, n1k⟩ := n
  obtain ⟨ms, n2c, n2l, n2i, n2s, n2r, n2a, n2k⟩ := n2
  simp only [nv, ov, cv, rlv] at *
  by_cases e1 : ns = 9
  · by_cases e2 : ms = 9
    · simp only [e1, e2, ne_eq, not_true_eq_false, not_false_eq_true, decide_false, decide_true, Bool.false_and, Bool.and_false, Bool.and_true, Bool.true_and] at up down
      subst up down
      subst e1 e2
      simp -implicitDefEqProofs (maxSteps := 2000000) (disch := omega) only [euphroelaw27_NegoSends.l0, sdE, sdS, nv, ov, cv, rlv, spv, hx, hlen, hmod, st, st2, h0, pa, inner, cvs_len, b8_len, nqTT, nqTF, nqFT, nqFF, go_sem, reduceIte, Nat.reduceAdd, Nat.reduceSub, Nat.reduceMul, Nat.reduceLeDiff, Nat.reduceLT, Nat.reduceEqDiff, Int.reduceToNat, Int.reduceLT, Int.reduceLE, Int.reduceEq, Int.reduceNe, Int.reduceAdd, Int.reduceSub, Int.reduceMul, Int.reduceNeg, Int.reduceBEq, Int.reduceBNe, reduceCtorEq, dreduceIte, oWS, oW8, oW16, oW32, oW64, oLtT, oLtF, oLeT, oLeF, oNLtT, oNLtF, oNLeT, oNLeF, oEqT, oEqF, oNEqT, oNEqF, oBeqT, oBeqF, oBneT, oBneF, Int.natCast_add, Int.cast_ofNat_Int, Int.toNat_natCast, List.take_length]
    · simp only [e1, e2, ne_eq, not_true_eq_false, not_false_eq_true, decide_false, decide_true, Bool.false_and, Bool.and_false, Bool.and_true, Bool.true_and] at up down
      subst up down
      subst e1
      simp -implicitDefEqProofs (maxSteps := 2000000) (disch := omega) only [euphroelaw27_NegoSends.l0, sdE, sdS, nv, ov, cv, rlv, spv, hx, hlen, hmod, st, st2, h0, pa, inner, cvs_len, b8_len, nqTT, nqTF, nqFT, nqFF, go_sem, reduceIte, Nat.reduceAdd, Nat.reduceSub, Nat.reduceMul, Nat.reduceLeDiff, Nat.reduceLT, Nat.reduceEqDiff, Int.reduceToNat, Int.reduceLT, Int.reduceLE, Int.reduceEq, Int.reduceNe, Int.reduceAdd, Int.reduceSub, Int.reduceMul, Int.reduceNeg, Int.reduceBEq, Int.reduceBNe, reduceCtorEq, dreduceIte, oWS, oW8, oW16, oW32, oW64, oLtT, oLtF, oLeT, oLeF, oNLtT, oNLtF, oNLeT, oNLeF, oEqT, oEqF, oNEqT, oNEqF, oBeqT, oBeqF, oBneT, oBneF, Int.natCast_add, Int.cast_ofNat_Int, Int.toNat_natCast, List.take_length]
  · by_cases e2 : ms = 9
    · simp only [e1, e2, ne_eq, not_true_eq_false, not_false_eq_true, decide_false, decide_true, Bool.false_and, Bool.and_false, Bool.and_true, Bool.true_and] at up down
      subst up down
      subst e2
      simp -implicitDefEqProofs (maxSteps := 2000000) (disch := omega) only [euphroelaw27_NegoSends.l0, sdE, sdS, nv, ov, cv, rlv, spv, hx, hlen, hmod, st, st2, h0, pa, inner, cvs_len, b8_len, nqTT, nqTF, nqFT, nqFF, go_sem, reduceIte, Nat.reduceAdd, Nat.reduceSub, Nat.reduceMul, Nat.reduceLeDiff, Nat.reduceLT, Nat.reduceEqDiff, Int.reduceToNat, Int.reduceLT, Int.reduceLE, Int.reduceEq, Int.reduceNe, Int.reduceAdd, Int.reduceSub, Int.reduceMul, Int.reduceNeg, Int.reduceBEq, Int.reduceBNe, reduceCtorEq, dreduceIte, oWS, oW8, oW16, oW32, oW64, oLtT, oLtF, oLeT, oLeF, oNLtT, oNLtF, oNLeT, oNLeF, oEqT, oEqF, oNEqT, oNEqF, oBeqT, oBeqF, oBneT, oBneF, Int.natCast_add, Int.cast_ofNat_Int, Int.toNat_natCast, List.take_length]
    · simp only [e1, e2, ne_eq, not_true_eq_false, not_false_eq_true, decide_false, decide_true, Bool.false_and, Bool.and_false, Bool.and_true, Bool.true_and] at up down
      subst up down
      skip
      simp -implicitDefEqProofs (maxSteps := 2000000) (disch := omega) only [euphroelaw27_NegoSends.l0, sdE, sdS, nv, ov, cv, rlv, spv, hx, hlen, hmod, st, st2, h0, pa, inner, cvs_len, b8_len, nqTT, nqTF, nqFT, nqFF, go_sem, reduceIte, Nat.reduceAdd, Nat.reduceSub, Nat.reduceMul, Nat.reduceLeDiff, Nat.reduceLT, Nat.reduceEqDiff, Int.reduceToNat, Int.reduceLT, Int.reduceLE, Int.reduceEq, Int.reduceNe, Int.reduceAdd, Int.reduceSub, Int.reduceMul, Int.reduceNeg, Int.reduceBEq, Int.reduceBNe, reduceCtorEq, dreduceIte, oWS, oW8, oW16, oW32, oW64, oLtT, oLtF, oLeT, oLeF, oNLtT, oNLtF, oNLeT, oNLeF, oEqT, oEqF, oNEqT, oNEqF, oBeqT, oBeqF, oBneT, oBneF, Int.natCast_add, Int.cast_ofNat_Int, Int.toNat_natCast, List.take_length]
theorem negoSends (r : Rl) (l : List Stp) (hr : okR r) (hl : ∀ s ∈ l, okSp s) (hn : l.length ≤ 4611686018427387904) : run G 4 [.v (rlv r), .v (.slc 7 (sps l))] [] = some (.v (.bool true), []) := by
  obtain ⟨m, hmm⟩ : ∃ m, m = min l.length 40 := ⟨_, rfl⟩
  have hm : m ≤ l.length := by omega
  have h40 : m ≤ 40 := by omega
  have step : ∀ i, i < m → (∀ j, j < i + 1 → ∀ h : j < l.length, (l[j]).2.2.2.2.2.2.length ≤ 1000) → rndE G [8, 9, 10, 11, 12, 13, 14, 15, 16] euphroelaw27_NegoSends.l0 (sdE r l m i) (sdS r (seqN r l i)) = some (.inl (sdE r l m (i + 1), sdS r (seqN r l (i + 1)))) := fun i hi hd => by
    have hil : i < l.length := by omega
    have inv := seqN_inv hr l hl i (by omega) (fun j hj => hd j (by omega))
    have hs := hl _ (List.getElem_mem hil)
    have hdi := hd i (by omega) hil
    have ok := (stepN_ok _ l[i] inv hs hdi).2
    rw [seqN_succ hil]
    have hx := List.getElem?_eq_getElem hil
    generalize l[i] = s at *
    have il := inv.left
    have ik := inv.nk
    have e1 : (stepN (seqN r l i) s) = ((stepN (seqN r l i) s).1, (stepN (seqN r l i) s).2) := rfl
    by_cases k0 : s.1 % 4 = 0
    · refine sends_round0 r l m i hi hm h40 s hx hs.1 hdi _ _ (stepN (seqN r l i) s).2 ok k0 ?_
      rw [stepN, if_pos k0]
      exact n_do _ _ inv.n
    by_cases k1 : s.1 % 4 = 1
    · refine sends_round1 r l m i hi hm h40 s hx hs.1 hdi _ _ (stepN (seqN r l i) s).2 ok k1 ?_
      rw [stepN, if_neg k0, if_pos k1]
      exact n_tick _ inv.n (by constructor <;> omega)
    · refine sends_round2 r l m i hi hm h40 s hx hs.1 hdi _ _ (stepN (seqN r l i) s).2 ok k0 k1 ?_
      rw [stepN, if_neg k0, if_neg k1]
      exact n_take _ _ inv.n inv.s (by constructor <;> omega) hs.2.2 (by omega)
  have rl := n_lrules r
  have nw := n_new r
  have hlen : (sps (l.take m)).length = m := by rw [sps_len, List.length_take]; omega
  have hmin : min ((l.length : Nat) : Int) 40 = (m : Nat) := by omega
  have htl : (l.take m).length = m := by rw [List.length_take]; omega
  rcases first_or (fun i => ∃ h : i < l.length, 1000 < (l[i]).2.2.2.2.2.2.length) m with h | ⟨j, h1, ⟨h2, h3⟩, h4⟩
  · have h' : ∀ j, j < m → ∀ h : j < l.length, (l[j]).2.2.2.2.2.2.length ≤ 1000 := fun j hj hh => Nat.le_of_not_lt fun c => h j hj ⟨hh, c⟩
    have L := lpFor (G := G) (kill := [8, 9, 10, 11, 12, 13, 14, 15, 16]) (body := euphroelaw27_NegoSends.l0) (sdE r l m) (fun i => sdS r (seqN r l i)) m (fun i hi => step i hi fun j hj => h' j (by omega)) (by simp -implicitDefEqProofs (maxSteps := 2000000) (disch := omega) only [euphroelaw27_NegoSends.l0, go_sem, reduceIte, Nat.reduceAdd, Nat.reduceSub, Nat.reduceMul, Nat.reduceLeDiff, Nat.reduceLT, Nat.reduceEqDiff, Int.reduceToNat, Int.reduceLT, Int.reduceLE, Int.reduceEq, Int.reduceNe, Int.reduceAdd, Int.reduceSub, Int.reduceMul, Int.reduceNeg, Int.reduceBEq, Int.reduceBNe, reduceCtorEq, dreduceIte, oWS, oW8, oW16, oW32, oW64, oLtT, oLtF, oLeT, oLeF, oNLtT, oNLtF, oNLeT, oNLeF, oEqT, oEqF, oNEqT, oNEqF, oBeqT, oBeqF, oBneT, oBneF, Int.natCast_add, Int.cast_ofNat_Int, Int.toNat_natCast, List.take_length]; rfl)
    have q0 : seqN r l 0 = newN r := rfl
    rw [q0] at L
    generalize seqN r l m = nn at *
    generalize newN r = n0 at *
    rw [xq_fn G rfl euphroelaw27_NegoSends.g _ _ rfl]
    simp only [sdE, sdS, rlv, nv, z0, Int.cast_ofNat_Int, List.take_zero, List.map_nil, List.drop_zero, accN, b8_nil, Int.sub_zero, Int.add_zero, Int.zero_add, Nat.zero_add, Nat.sub_zero, List.nil_append, List.append_nil] at L
    simp only [rlv, nv, z0, Int.cast_ofNat_Int, List.take_zero, List.map_nil, List.drop_zero, accN, b8_nil, Int.sub_zero, Int.add_zero, Int.zero_add, Nat.zero_add, Nat.sub_zero, List.nil_append, List.append_nil] at rl
    simp only [rlv, nv, z0, Int.cast_ofNat_Int, List.take_zero, List.map_nil, List.drop_zero, accN, b8_nil, Int.sub_zero, Int.add_zero, Int.zero_add, Nat.zero_add, Nat.sub_zero, List.nil_append, List.append_nil] at nw
    simp -implicitDefEqProofs (maxSteps := 2000000) (disch := omega) only [euphroelaw27_NegoSends.s, rlv, nv, sps_len, sps_take, hmin, hlen, htl, rl, nw, n_alive, L, go_sem, reduceIte, Nat.reduceAdd, Nat.reduceSub, Nat.reduceMul, Nat.reduceLeDiff, Nat.reduceLT, Nat.reduceEqDiff, Int.reduceToNat, Int.reduceLT, Int.reduceLE, Int.reduceEq, Int.reduceNe, Int.reduceAdd, Int.reduceSub, Int.reduceMul, Int.reduceNeg, Int.reduceBEq, Int.reduceBNe, reduceCtorEq, dreduceIte, oWS, oW8, oW16, oW32, oW64, oLtT, oLtF, oLeT, oLeF, oNLtT, oNLtF, oNLeT, oNLeF, oEqT, oEqF, oNEqT, oNEqF, oBeqT, oBeqF, oBneT, oBneF, Int.natCast_add, Int.cast_ofNat_Int, Int.toNat_natCast, List.take_length]
  · have h' : ∀ i, i < j → ∀ h : i < l.length, (l[i]).2.2.2.2.2.2.length ≤ 1000 := fun i hi hh => Nat.le_of_not_lt fun c => h4 i hi ⟨hh, c⟩
    have hx : (sps (l.take m))[j]? = some (spv l[j]) := sps_at (by rw [List.getElem?_take_of_lt h1, List.getElem?_eq_getElem h2])
    generalize l[j] = s at *
    have L := lpFor (G := G) (kill := [8, 9, 10, 11, 12, 13, 14, 15, 16]) (body := euphroelaw27_NegoSends.l0) (sdE r l m) (fun i => sdS r (seqN r l i)) j (fun i hi => step i (by omega) fun k hk => h' k (by omega)) (by simp -implicitDefEqProofs (maxSteps := 2000000) (disch := omega) only [euphroelaw27_NegoSends.l0, hx, hlen, spv, b8_len, n_alive, go_sem, reduceIte, Nat.reduceAdd, Nat.reduceSub, Nat.reduceMul, Nat.reduceLeDiff, Nat.reduceLT, Nat.reduceEqDiff, Int.reduceToNat, Int.reduceLT, Int.reduceLE, Int.reduceEq, Int.reduceNe, Int.reduceAdd, Int.reduceSub, Int.reduceMul, Int.reduceNeg, Int.reduceBEq, Int.reduceBNe, reduceCtorEq, dreduceIte, oWS, oW8, oW16, oW32, oW64, oLtT, oLtF, oLeT, oLeF, oNLtT, oNLtF, oNLeT, oNLeF, oEqT, oEqF, oNEqT, oNEqF, oBeqT, oBeqF, oBneT, oBneF, Int.natCast_add, Int.cast_ofNat_Int, Int.toNat_natCast, List.take_length]; rfl)
    have q0 : seqN r l 0 = newN r := rfl
    rw [q0] at L
    generalize seqN r l j = nn at *
    generalize newN r = n0 at *
    rw [xq_fn G rfl euphroelaw27_NegoSends.g _ _ rfl]
    simp only [sdE, sdS, rlv, nv, z0, Int.cast_ofNat_Int, List.take_zero, List.map_nil, List.drop_zero, accN, b8_nil, Int.sub_zero, Int.add_zero, Int.zero_add, Nat.zero_add, Nat.sub_zero, List.nil_append, List.append_nil] at L
    simp only [rlv, nv, z0, Int.cast_ofNat_Int, List.take_zero, List.map_nil, List.drop_zero, accN, b8_nil, Int.sub_zero, Int.add_zero, Int.zero_add, Nat.zero_add, Nat.sub_zero, List.nil_append, List.append_nil] at rl
    simp only [rlv, nv, z0, Int.cast_ofNat_Int, List.take_zero, List.map_nil, List.drop_zero, accN, b8_nil, Int.sub_zero, Int.add_zero, Int.zero_add, Nat.zero_add, Nat.sub_zero, List.nil_append, List.append_nil] at nw
    simp -implicitDefEqProofs (maxSteps := 2000000) (disch := omega) only [euphroelaw27_NegoSends.s, rlv, nv, sps_len, sps_take, hmin, hlen, htl, rl, nw, n_alive, L, go_sem, reduceIte, Nat.reduceAdd, Nat.reduceSub, Nat.reduceMul, Nat.reduceLeDiff, Nat.reduceLT, Nat.reduceEqDiff, Int.reduceToNat, Int.reduceLT, Int.reduceLE, Int.reduceEq, Int.reduceNe, Int.reduceAdd, Int.reduceSub, Int.reduceMul, Int.reduceNeg, Int.reduceBEq, Int.reduceBNe, reduceCtorEq, dreduceIte, oWS, oW8, oW16, oW32, oW64, oLtT, oLtF, oLeT, oLeF, oNLtT, oNLtF, oNLeT, oNLeF, oEqT, oEqF, oNEqT, oNEqF, oBeqT, oBeqF, oBneT, oBneF, Int.natCast_add, Int.cast_ofNat_Int, Int.toNat_natCast, List.take_length]
end Go.Q
