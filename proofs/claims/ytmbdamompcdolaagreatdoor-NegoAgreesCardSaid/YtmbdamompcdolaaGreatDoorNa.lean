/- Negotiations: the rules, and what they ask, judge, and become. No condition. -/
import Derived.Test.YtmbdamompcdolaaGreatDoorIa
import Derived.Test.YtmbdamompcdolaaGreatDoorLw
import Derived.Test.YtmbdamompcdolaaGreatDoorLq
import Derived.Test.YtmbdamompcdolaaGreatDoorLg
set_option linter.all false
set_option maxRecDepth 100000
namespace Go.Q
open SOp SCode
attribute [local congr] bind_c map_c
structure Rl where
  ip : Bool
  want : Want
  pv : Bool
  side : Sd
deriving DecidableEq
abbrev okR (r : Rl) : Prop := okW r.want ∧ okSd r.side
abbrev rlv (r : Rl) : V := .agg [.bool r.ip, .int .u16 r.want.1, .int .u32 r.want.2.1, .bool r.want.2.2, .bool r.pv, .bool r.side.srv, .int .u32 r.side.own, .int .u32 r.side.give, .int .u32 r.side.dns, .bool r.side.asks]
structure Ng where
  st : Int
  cnt : Int
  left : Int
  id : Int
  sent : List Opt
  rl : Rl
  acked : List Opt
  nk : Int
deriving DecidableEq
abbrev nv (n : Ng) : V := .agg [.int .i64 n.st, .int .i64 n.cnt, .int .i64 n.left, .int .u8 n.id, .slc 2 (oes n.sent), .bool n.rl.ip, .int .u16 n.rl.want.1, .int .u32 n.rl.want.2.1, .bool n.rl.want.2.2, .bool n.rl.pv, .bool n.rl.side.srv, .int .u32 n.rl.side.own, .int .u32 n.rl.side.give, .int .u32 n.rl.side.dns, .bool n.rl.side.asks, .slc 2 (oes n.acked), .int .i64 n.nk]
def cvs (l : List Ctl) : List V := l.map cv
theorem cvs_len (l : List Ctl) : (cvs l).length = l.length := by simp [cvs]
theorem cvs_app (a b : List Ctl) : cvs a ++ cvs b = cvs (a ++ b) := by simp [cvs]
theorem cvs_nil : cvs [] = [] := rfl
theorem cvs_cons (c : Ctl) (l : List Ctl) : cvs (c :: l) = cv c :: cvs l := rfl
theorem cvs_at {l : List Ctl} {i : Nat} {x : Ctl} (h : l[i]? = some x) : (cvs l)[i]? = some (cv x) := by simp [cvs, h]
structure Ou where
  pk : List Ctl
  up : Bool
  down : Bool
  started : Bool
  fin : Bool
deriving DecidableEq
abbrev ov (o : Ou) : V := .agg [.slc 3 (cvs o.pk), .bool o.up, .bool o.down, .bool o.started, .bool o.fin]
abbrev noOu : Ou := ⟨[], false, false, false, false⟩
def newN (r : Rl) : Ng := ⟨0, 0, 0, 0, [], r, [], 0⟩

theorem n_new (r : Rl) : run G 9 [.v (rlv r)] [] = some (.v (nv (newN r)), []) := by
  rw [xq_fn G rfl nego_New.g _ _ rfl]
  simp -implicitDefEqProofs (maxSteps := 2000000) (disch := omega) only [nego_New.s, rlv, nv, newN, oes_nil, go_sem, reduceIte, Nat.reduceAdd, Nat.reduceSub, Nat.reduceMul, Nat.reduceLeDiff, Nat.reduceLT, Nat.reduceEqDiff, Int.reduceToNat, Int.reduceLT, Int.reduceLE, Int.reduceEq, Int.reduceNe, Int.reduceAdd, Int.reduceSub, Int.reduceMul, Int.reduceNeg, Int.reduceBEq, Int.reduceBNe, reduceCtorEq, dreduceIte, oWS, oW8, oW16, oW32, oW64, oLtT, oLtF, oLeT, oLeF, oNLtT, oNLtF, oNLeT, oNLeF, oEqT, oEqF, oNEqT, oNEqF, oBeqT, oBeqF, oBneT, oBneF, Int.natCast_add, List.take_length]
theorem n_state (n : Ng) : run G 11 [.v (nv n)] [] = some (.v (.int .i64 n.st), []) := by
  rw [xq_fn G rfl nego_Nego_State.g _ _ rfl]
  simp -implicitDefEqProofs (maxSteps := 2000000) (disch := omega) only [nego_Nego_State.s, nv, go_sem, reduceIte, Nat.reduceAdd, Nat.reduceSub, Nat.reduceMul, Nat.reduceLeDiff, Nat.reduceLT, Nat.reduceEqDiff, Int.reduceToNat, Int.reduceLT, Int.reduceLE, Int.reduceEq, Int.reduceNe, Int.reduceAdd, Int.reduceSub, Int.reduceMul, Int.reduceNeg, Int.reduceBEq, Int.reduceBNe, reduceCtorEq, dreduceIte, oWS, oW8, oW16, oW32, oW64, oLtT, oLtF, oLeT, oLeF, oNLtT, oNLtF, oNLeT, oNLeF, oEqT, oEqF, oNEqT, oNEqF, oBeqT, oBeqF, oBneT, oBneF, Int.natCast_add, List.take_length]
theorem n_rules (n : Ng) : run G 12 [.v (nv n)] [] = some (.v (rlv n.rl), []) := by
  rw [xq_fn G rfl nego_Nego_Rules.g _ _ rfl]
  simp -implicitDefEqProofs (maxSteps := 2000000) (disch := omega) only [nego_Nego_Rules.s, nv, go_sem, reduceIte, Nat.reduceAdd, Nat.reduceSub, Nat.reduceMul, Nat.reduceLeDiff, Nat.reduceLT, Nat.reduceEqDiff, Int.reduceToNat, Int.reduceLT, Int.reduceLE, Int.reduceEq, Int.reduceNe, Int.reduceAdd, Int.reduceSub, Int.reduceMul, Int.reduceNeg, Int.reduceBEq, Int.reduceBNe, reduceCtorEq, dreduceIte, oWS, oW8, oW16, oW32, oW64, oLtT, oLtF, oLeT, oLeF, oNLtT, oNLtF, oNLeT, oNLeF, oEqT, oEqF, oNEqT, oNEqF, oBeqT, oBeqF, oBneT, oBneF, Int.natCast_add, List.take_length]
theorem n_waits (n : Ng) : run G 43 [.v (nv n)] [] = some (.tup [.v (.int .i64 n.cnt), .v (.int .i64 n.left)], []) := by
  rw [xq_fn G rfl nego_Nego_Waits.g _ _ rfl]
  simp -implicitDefEqProofs (maxSteps := 2000000) (disch := omega) only [nego_Nego_Waits.s, nv, go_sem, reduceIte, Nat.reduceAdd, Nat.reduceSub, Nat.reduceMul, Nat.reduceLeDiff, Nat.reduceLT, Nat.reduceEqDiff, Int.reduceToNat, Int.reduceLT, Int.reduceLE, Int.reduceEq, Int.reduceNe, Int.reduceAdd, Int.reduceSub, Int.reduceMul, Int.reduceNeg, Int.reduceBEq, Int.reduceBNe, reduceCtorEq, dreduceIte, oWS, oW8, oW16, oW32, oW64, oLtT, oLtF, oLeT, oLeF, oNLtT, oNLtF, oNLeT, oNLeF, oEqT, oEqF, oNEqT, oNEqF, oBeqT, oBeqF, oBneT, oBneF, Int.natCast_add, List.take_length]
abbrev re (c l : Int) : V := .agg [.int .i64 c, .int .i64 l]
theorem r_stop (c l : Int) : run G 86 [.v (re c l)] [] = some (.v (re c 0), []) := by
  rw [xq_fn G rfl retry_Retry_Stop.g _ _ rfl]
  simp -implicitDefEqProofs only [retry_Retry_Stop.s, go_sem, reduceIte, Nat.reduceAdd, Nat.reduceSub, Nat.reduceMul, Nat.reduceLeDiff, Nat.reduceLT, Nat.reduceEqDiff, Int.reduceToNat, Int.reduceLT, Int.reduceLE, Int.reduceEq, Int.reduceNe, Int.reduceAdd, Int.reduceSub, Int.reduceMul, Int.reduceNeg, Int.reduceBEq, Int.reduceBNe, reduceCtorEq, dreduceIte]
theorem r_zero (c l : Int) : run G 121 [.v (re c l)] [] = some (.v (re 0 3), []) := by
  rw [xq_fn G rfl retry_Retry_Zero.g _ _ rfl]
  simp -implicitDefEqProofs only [retry_Retry_Zero.s, go_sem, reduceIte, Nat.reduceAdd, Nat.reduceSub, Nat.reduceMul, Nat.reduceLeDiff, Nat.reduceLT, Nat.reduceEqDiff, Int.reduceToNat, Int.reduceLT, Int.reduceLE, Int.reduceEq, Int.reduceNe, Int.reduceAdd, Int.reduceSub, Int.reduceMul, Int.reduceNeg, Int.reduceBEq, Int.reduceBNe, reduceCtorEq, dreduceIte]
theorem r_sent (c l : Int) (h : In c) : run G 125 [.v (re c l)] [] = some (.v (re (max c 1 - 1) 3), []) := by
  rw [xq_fn G rfl retry_Retry_Sent.g _ _ rfl]
  have e : (if 1 > c then (1 : Int) else c) = max c 1 := by split <;> omega
  have w : IntKind.i64.wrap (max c 1 - 1) = max c 1 - 1 := wrapS (by omega)
  simp -implicitDefEqProofs only [retry_Retry_Sent.s, go_sem, reduceIte, Nat.reduceAdd, Nat.reduceSub, Nat.reduceMul, Nat.reduceLeDiff, Nat.reduceLT, Nat.reduceEqDiff, Int.reduceToNat, Int.reduceLT, Int.reduceLE, Int.reduceEq, Int.reduceNe, Int.reduceAdd, Int.reduceSub, Int.reduceMul, Int.reduceNeg, Int.reduceBEq, Int.reduceBNe, reduceCtorEq, dreduceIte, w, e]
theorem r_init (c l : Int) (t : Bool) : run G 120 [.v (re c l), .v (.bool t)] [] = some (.v (re (if t then 2 else 10) l), []) := by
  rw [xq_fn G rfl retry_Retry_Init.g _ _ rfl]
  cases t <;> simp -implicitDefEqProofs only [retry_Retry_Init.s, go_sem, reduceIte, Nat.reduceAdd, Nat.reduceSub, Nat.reduceMul, Nat.reduceLeDiff, Nat.reduceLT, Nat.reduceEqDiff, Int.reduceToNat, Int.reduceLT, Int.reduceLE, Int.reduceEq, Int.reduceNe, Int.reduceAdd, Int.reduceSub, Int.reduceMul, Int.reduceNeg, Int.reduceBEq, Int.reduceBNe, reduceCtorEq, dreduceIte]
def freN (m : Int) : Int := max ((m * 2654435761 + 1) % 4294967296) 1
theorem wr32 (x : Int) : IntKind.u32.wrap x = x % 4294967296 := by simp [IntKind.wrap, IntKind.signed, IntKind.bits]
theorem fre_rng (m : Int) : u32ok (freN m) := by
  unfold freN
  have h1 := Int.emod_nonneg (m * 2654435761 + 1) (b := 4294967296) (by decide)
  have h2 := Int.emod_lt_of_pos (m * 2654435761 + 1) (b := 4294967296) (by decide)
  generalize (m * 2654435761 + 1) % 4294967296 = y at *
  constructor <;> omega
theorem n_fresh (m : Int) : run G 44 [.v (.int .u32 m)] [] = some (.v (.int .u32 (freN m)), []) := by
  rw [xq_fn G rfl nego_Fresh.g _ _ rfl]
  have e0 : IntKind.u32.wrap (IntKind.u32.wrap (m * 2654435761) + 1) = (m * 2654435761 + 1) % 4294967296 := by
    simp only [wr32]
    generalize m * 2654435761 = y
    omega
  have e : max (IntKind.u32.wrap (IntKind.u32.wrap (m * 2654435761) + 1)) 1 = freN m := by rw [e0]; rfl
  simp -implicitDefEqProofs only [nego_Fresh.s, go_sem, reduceIte, Nat.reduceAdd, Nat.reduceSub, Nat.reduceMul, Nat.reduceLeDiff, Nat.reduceLT, Nat.reduceEqDiff, Int.reduceToNat, Int.reduceLT, Int.reduceLE, Int.reduceEq, Int.reduceNe, Int.reduceAdd, Int.reduceSub, Int.reduceMul, Int.reduceNeg, Int.reduceBEq, Int.reduceBNe, reduceCtorEq, dreduceIte, e]
def askN (r : Rl) : List Opt := if r.ip = true then optsI r.side else optW r.want
theorem askN_ok {r : Rl} : okL (askN r) ∧ (askN r).length ≤ 40 := by
  unfold askN
  split
  · exact optsI_ok r.side
  · have := optW_ok r.want; exact ⟨this.1, by omega⟩
theorem n_asks (r : Rl) (h : okR r) : run G 160 [.v (rlv r)] [] = some (.lin 2 (oes (askN r)), []) := by
  rw [xq_fn G rfl nego_Rules_asks.g _ _ rfl]
  have a := i_options r.side h.2
  have b := j_options r.want h.1
  obtain ⟨ip, w, pv, s⟩ := r
  unfold askN
  simp only [sv, z0, Int.cast_ofNat_Int, List.take_zero, List.map_nil, List.drop_zero, accN, b8_nil, Int.sub_zero, Int.add_zero, Int.zero_add, Nat.zero_add, Nat.sub_zero, List.nil_append, List.append_nil] at a
  simp only [wv, z0, Int.cast_ofNat_Int, List.take_zero, List.map_nil, List.drop_zero, accN, b8_nil, Int.sub_zero, Int.add_zero, Int.zero_add, Nat.zero_add, Nat.sub_zero, List.nil_append, List.append_nil] at b
  cases ip with
  | true => simp -implicitDefEqProofs (maxSteps := 2000000) (disch := omega) only [nego_Rules_asks.s, rlv, a, go_sem, reduceIte, Nat.reduceAdd, Nat.reduceSub, Nat.reduceMul, Nat.reduceLeDiff, Nat.reduceLT, Nat.reduceEqDiff, Int.reduceToNat, Int.reduceLT, Int.reduceLE, Int.reduceEq, Int.reduceNe, Int.reduceAdd, Int.reduceSub, Int.reduceMul, Int.reduceNeg, Int.reduceBEq, Int.reduceBNe, reduceCtorEq, dreduceIte, oWS, oW8, oW16, oW32, oW64, oLtT, oLtF, oLeT, oLeF, oNLtT, oNLtF, oNLeT, oNLeF, oEqT, oEqF, oNEqT, oNEqF, oBeqT, oBeqF, oBneT, oBneF, Int.natCast_add, List.take_length]
  | false => simp -implicitDefEqProofs (maxSteps := 2000000) (disch := omega) only [nego_Rules_asks.s, rlv, b, go_sem, reduceIte, Nat.reduceAdd, Nat.reduceSub, Nat.reduceMul, Nat.reduceLeDiff, Nat.reduceLT, Nat.reduceEqDiff, Int.reduceToNat, Int.reduceLT, Int.reduceLE, Int.reduceEq, Int.reduceNe, Int.reduceAdd, Int.reduceSub, Int.reduceMul, Int.reduceNeg, Int.reduceBEq, Int.reduceBNe, reduceCtorEq, dreduceIte, oWS, oW8, oW16, oW32, oW64, oLtT, oLtF, oLeT, oLeF, oNLtT, oNLtF, oNLeT, oNLeF, oEqT, oEqF, oNEqT, oNEqF, oBeqT, oBeqF, oBneT, oBneF, Int.natCast_add, List.take_length]
def judN (r : Rl) (l : List Opt) : Int × List Opt := if r.ip = true then judI r.side l else judR l r.pv r.want.2.1 (freN (IntKind.u32.wrap (r.want.2.1 + (ofR l).2.1)))
def judND (r : Rl) (l : List Opt) : D := if r.ip = true then .v (.slc 2 (oes (judI r.side l).2)) else judD l r.pv r.want.2.1 (freN (IntKind.u32.wrap (r.want.2.1 + (ofR l).2.1)))
theorem judND_or (r : Rl) (l : List Opt) : judND r l = .v (.slc 2 (oes (judN r l).2)) ∨ judND r l = .lin 2 (oes (judN r l).2) := by
  unfold judND judN
  split
  · exact .inl rfl
  · exact judD_or _ _ _ _
theorem judN_ok (r : Rl) (l : List Opt) (hl : okL l) (hn : l.length ≤ 40) : okL (judN r l).2 ∧ (judN r l).2.length ≤ 40 := by
  unfold judN
  split
  · exact judI_ok _ _ hl hn
  · exact jud_ok _ _ _ _ hl hn
theorem n_judge (r : Rl) (l : List Opt) (h : okR r) (hl : okL l) (hn : l.length ≤ 40) : run G 89 [.v (rlv r), .v (.slc 2 (oes l))] [] = some (.tup [.v (.int .u8 (judN r l).1), judND r l], []) := by
  rw [xq_fn G rfl nego_Rules_judge.g _ _ rfl]
  have a := i_judge r.side l h.2 hl hn
  have b := j_judge l r.pv r.want.2.1 (freN (IntKind.u32.wrap (r.want.2.1 + (ofR l).2.1))) hl hn h.1.2 (fre_rng _)
  have o := j_of l hl hn
  have f := n_fresh (IntKind.u32.wrap (r.want.2.1 + (ofR l).2.1))
  unfold judN judND
  obtain ⟨ip, w, pv, s⟩ := r
  simp only [sv, z0, Int.cast_ofNat_Int, List.take_zero, List.map_nil, List.drop_zero, accN, b8_nil, Int.sub_zero, Int.add_zero, Int.zero_add, Nat.zero_add, Nat.sub_zero, List.nil_append, List.append_nil] at a
  cases ip with
  | true =>
    simp only [if_true]
    generalize judI s l = j at *
    simp -implicitDefEqProofs (maxSteps := 2000000) (disch := omega) only [nego_Rules_judge.s, rlv, a, go_sem, reduceIte, Nat.reduceAdd, Nat.reduceSub, Nat.reduceMul, Nat.reduceLeDiff, Nat.reduceLT, Nat.reduceEqDiff, Int.reduceToNat, Int.reduceLT, Int.reduceLE, Int.reduceEq, Int.reduceNe, Int.reduceAdd, Int.reduceSub, Int.reduceMul, Int.reduceNeg, Int.reduceBEq, Int.reduceBNe, reduceCtorEq, dreduceIte, oWS, oW8, oW16, oW32, oW64, oLtT, oLtF, oLeT, oLeF, oNLtT, oNLtF, oNLeT, oNLeF, oEqT, oEqF, oNEqT, oNEqF, oBeqT, oBeqF, oBneT, oBneF, Int.natCast_add, List.take_length]
  | false =>
    simp only [Bool.false_eq_true, if_false] at *
    rcases judD_or l pv w.2.1 (freN (IntKind.u32.wrap (w.2.1 + (ofR l).2.1))) with e | e
    · rw [e] at b ⊢
      generalize judR l pv w.2.1 (freN (IntKind.u32.wrap (w.2.1 + (ofR l).2.1))) = j at *
      generalize freN (IntKind.u32.wrap (w.2.1 + (ofR l).2.1)) = fr at *
      simp -implicitDefEqProofs (maxSteps := 2000000) (disch := omega) only [nego_Rules_judge.s, rlv, b, o, f, gv, go_sem, reduceIte, Nat.reduceAdd, Nat.reduceSub, Nat.reduceMul, Nat.reduceLeDiff, Nat.reduceLT, Nat.reduceEqDiff, Int.reduceToNat, Int.reduceLT, Int.reduceLE, Int.reduceEq, Int.reduceNe, Int.reduceAdd, Int.reduceSub, Int.reduceMul, Int.reduceNeg, Int.reduceBEq, Int.reduceBNe, reduceCtorEq, dreduceIte, oWS, oW8, oW16, oW32, oW64, oLtT, oLtF, oLeT, oLeF, oNLtT, oNLtF, oNLeT, oNLeF, oEqT, oEqF, oNEqT, oNEqF, oBeqT, oBeqF, oBneT, oBneF, Int.natCast_add, List.take_length]
    · rw [e] at b ⊢
      generalize judR l pv w.2.1 (freN (IntKind.u32.wrap (w.2.1 + (ofR l).2.1))) = j at *
      generalize freN (IntKind.u32.wrap (w.2.1 + (ofR l).2.1)) = fr at *
      simp -implicitDefEqProofs (maxSteps := 2000000) (disch := omega) only [nego_Rules_judge.s, rlv, b, o, f, gv, go_sem, reduceIte, Nat.reduceAdd, Nat.reduceSub, Nat.reduceMul, Nat.reduceLeDiff, Nat.reduceLT, Nat.reduceEqDiff, Int.reduceToNat, Int.reduceLT, Int.reduceLE, Int.reduceEq, Int.reduceNe, Int.reduceAdd, Int.reduceSub, Int.reduceMul, Int.reduceNeg, Int.reduceBEq, Int.reduceBNe, reduceCtorEq, dreduceIte, oWS, oW8, oW16, oW32, oW64, oLtT, oLtF, oLeT, oLeF, oNLtT, oNLtF, oNLeT, oNLeF, oEqT, oEqF, oNEqT, oNEqF, oBeqT, oBeqF, oBneT, oBneF, Int.natCast_add, List.take_length]
def nakN (r : Rl) (l : List Opt) : Rl := if r.ip = true then { r with side := nakedI r.side l } else { r with want := nkR r.want l (freN r.want.2.1) }
theorem n_naked (r : Rl) (l : List Opt) (hl : okL l) (hn : l.length ≤ 40) : run G 95 [.v (rlv r), .v (.slc 2 (oes l))] [] = some (.v (rlv (nakN r l)), []) := by
  rw [xq_fn G rfl nego_Rules_naked.g _ _ rfl]
  have a := i_naked r.side l hl hn
  have b := j_naked r.want l (freN r.want.2.1) hl hn
  have f := n_fresh r.want.2.1
  unfold nakN
  obtain ⟨ip, w, pv, s⟩ := r
  simp only [sv, z0, Int.cast_ofNat_Int, List.take_zero, List.map_nil, List.drop_zero, accN, b8_nil, Int.sub_zero, Int.add_zero, Int.zero_add, Nat.zero_add, Nat.sub_zero, List.nil_append, List.append_nil] at a
  simp only [wv, z0, Int.cast_ofNat_Int, List.take_zero, List.map_nil, List.drop_zero, accN, b8_nil, Int.sub_zero, Int.add_zero, Int.zero_add, Nat.zero_add, Nat.sub_zero, List.nil_append, List.append_nil] at b
  cases ip with
  | true =>
    simp only [if_true]
    generalize nakedI s l = j at *
    simp -implicitDefEqProofs (maxSteps := 2000000) (disch := omega) only [nego_Rules_naked.s, rlv, a, go_sem, reduceIte, Nat.reduceAdd, Nat.reduceSub, Nat.reduceMul, Nat.reduceLeDiff, Nat.reduceLT, Nat.reduceEqDiff, Int.reduceToNat, Int.reduceLT, Int.reduceLE, Int.reduceEq, Int.reduceNe, Int.reduceAdd, Int.reduceSub, Int.reduceMul, Int.reduceNeg, Int.reduceBEq, Int.reduceBNe, reduceCtorEq, dreduceIte, oWS, oW8, oW16, oW32, oW64, oLtT, oLtF, oLeT, oLeF, oNLtT, oNLtF, oNLeT, oNLeF, oEqT, oEqF, oNEqT, oNEqF, oBeqT, oBeqF, oBneT, oBneF, Int.natCast_add, List.take_length]
  | false =>
    simp only [Bool.false_eq_true, if_false]
    generalize nkR w l (freN w.2.1) = j at *
    generalize freN w.2.1 = fr at *
    simp -implicitDefEqProofs (maxSteps := 2000000) (disch := omega) only [nego_Rules_naked.s, rlv, b, f, go_sem, reduceIte, Nat.reduceAdd, Nat.reduceSub, Nat.reduceMul, Nat.reduceLeDiff, Nat.reduceLT, Nat.reduceEqDiff, Int.reduceToNat, Int.reduceLT, Int.reduceLE, Int.reduceEq, Int.reduceNe, Int.reduceAdd, Int.reduceSub, Int.reduceMul, Int.reduceNeg, Int.reduceBEq, Int.reduceBNe, reduceCtorEq, dreduceIte, oWS, oW8, oW16, oW32, oW64, oLtT, oLtF, oLeT, oLeF, oNLtT, oNLtF, oNLeT, oNLeF, oEqT, oEqF, oNEqT, oNEqF, oBeqT, oBeqF, oBneT, oBneF, Int.natCast_add, List.take_length]
def rejN (r : Rl) (l : List Opt) : Rl := if r.ip = true then { r with side := rejI r.side l } else { r with want := rjR r.want l }
def rejB (r : Rl) (l : List Opt) : Bool := !(fdR l 3).2
theorem n_rejected (r : Rl) (l : List Opt) (hl : okL l) (hn : l.length ≤ 40) : run G 97 [.v (rlv r), .v (.slc 2 (oes l))] [] = some (.tup [.v (rlv (rejN r l)), .v (.bool (rejB r l))], []) := by
  rw [xq_fn G rfl nego_Rules_rejected.g _ _ rfl]
  have a := i_rejected r.side l hn
  have b := j_rejected r.want l hn
  unfold rejN rejB
  obtain ⟨ip, w, pv, s⟩ := r
  generalize (fdR l 3).2 = q at *
  simp only [sv, z0, Int.cast_ofNat_Int, List.take_zero, List.map_nil, List.drop_zero, accN, b8_nil, Int.sub_zero, Int.add_zero, Int.zero_add, Nat.zero_add, Nat.sub_zero, List.nil_append, List.append_nil] at a
  simp only [wv, z0, Int.cast_ofNat_Int, List.take_zero, List.map_nil, List.drop_zero, accN, b8_nil, Int.sub_zero, Int.add_zero, Int.zero_add, Nat.zero_add, Nat.sub_zero, List.nil_append, List.append_nil] at b
  cases ip with
  | true =>
    simp only [if_true]
    generalize rejI s l = j at *
    simp -implicitDefEqProofs (maxSteps := 2000000) (disch := omega) only [nego_Rules_rejected.s, rlv, a, go_sem, reduceIte, Nat.reduceAdd, Nat.reduceSub, Nat.reduceMul, Nat.reduceLeDiff, Nat.reduceLT, Nat.reduceEqDiff, Int.reduceToNat, Int.reduceLT, Int.reduceLE, Int.reduceEq, Int.reduceNe, Int.reduceAdd, Int.reduceSub, Int.reduceMul, Int.reduceNeg, Int.reduceBEq, Int.reduceBNe, reduceCtorEq, dreduceIte, oWS, oW8, oW16, oW32, oW64, oLtT, oLtF, oLeT, oLeF, oNLtT, oNLtF, oNLeT, oNLeF, oEqT, oEqF, oNEqT, oNEqF, oBeqT, oBeqF, oBneT, oBneF, Int.natCast_add, List.take_length]
  | false =>
    simp only [Bool.false_eq_true, if_false]
    generalize rjR w l = j at *
    simp -implicitDefEqProofs (maxSteps := 2000000) (disch := omega) only [nego_Rules_rejected.s, rlv, b, go_sem, reduceIte, Nat.reduceAdd, Nat.reduceSub, Nat.reduceMul, Nat.reduceLeDiff, Nat.reduceLT, Nat.reduceEqDiff, Int.reduceToNat, Int.reduceLT, Int.reduceLE, Int.reduceEq, Int.reduceNe, Int.reduceAdd, Int.reduceSub, Int.reduceMul, Int.reduceNeg, Int.reduceBEq, Int.reduceBNe, reduceCtorEq, dreduceIte, oWS, oW8, oW16, oW32, oW64, oLtT, oLtF, oLeT, oLeF, oNLtT, oNLtF, oNLeT, oNLeF, oEqT, oEqF, oNEqT, oNEqF, oBeqT, oBeqF, oBneT, oBneF, Int.natCast_add, List.take_length]
theorem n_acked (n : Ng) (hn : n.acked.length ≤ 40) : run G 14 [.v (nv n)] [] = some (.v (.slc 2 (oes n.acked)), []) := by
  by_cases h0 : n.acked = []
  · have c := clone101n [[.row [.v (nv n)]]]
    rw [xq_fn G rfl nego_Nego_Acked.g _ _ rfl]
    obtain ⟨a1, a2, a3, a4, a5, a6, a7, a8⟩ := n
    simp only at h0
    subst h0
    simp only [oes_nil, nv] at c
    simp -implicitDefEqProofs (maxSteps := 2000000) (disch := omega) only [nego_Nego_Acked.s, nv, c, oes_nil, go_sem, reduceIte, Nat.reduceAdd, Nat.reduceSub, Nat.reduceMul, Nat.reduceLeDiff, Nat.reduceLT, Nat.reduceEqDiff, Int.reduceToNat, Int.reduceLT, Int.reduceLE, Int.reduceEq, Int.reduceNe, Int.reduceAdd, Int.reduceSub, Int.reduceMul, Int.reduceNeg, Int.reduceBEq, Int.reduceBNe, reduceCtorEq, dreduceIte, oWS, oW8, oW16, oW32, oW64, oLtT, oLtF, oLeT, oLeF, oNLtT, oNLtF, oNLeT, oNLeF, oEqT, oEqF, oNEqT, oNEqF, oBeqT, oBeqF, oBneT, oBneF, Int.natCast_add, List.take_length]
  · have c := clone101 n.acked h0 hn [.row [.v (nv n)]] []
    have r := i_row n.acked
    rw [xq_fn G rfl nego_Nego_Acked.g _ _ rfl]
    obtain ⟨a1, a2, a3, a4, a5, a6, a7, a8⟩ := n
    simp -implicitDefEqProofs (maxSteps := 2000000) (disch := omega) only [nego_Nego_Acked.s, nv, c, r, go_sem, reduceIte, Nat.reduceAdd, Nat.reduceSub, Nat.reduceMul, Nat.reduceLeDiff, Nat.reduceLT, Nat.reduceEqDiff, Int.reduceToNat, Int.reduceLT, Int.reduceLE, Int.reduceEq, Int.reduceNe, Int.reduceAdd, Int.reduceSub, Int.reduceMul, Int.reduceNeg, Int.reduceBEq, Int.reduceBNe, reduceCtorEq, dreduceIte, oWS, oW8, oW16, oW32, oW64, oLtT, oLtF, oLeT, oLeF, oNLtT, oNLtF, oNLeT, oNLeF, oEqT, oEqF, oNEqT, oNEqF, oBeqT, oBeqF, oBneT, oBneF, Int.natCast_add, List.take_length]
theorem n_index (l : List Int) (k : Int) (hn : l.length ≤ M) : run G 127 [.v (.slc 1 (i64s l)), .v (.int .i64 k)] [] = some (.v (.int .i64 (if l.contains k = true then ((l.findIdx (· == k) : Nat) : Int) else -1)), []) := by
  rw [xq_fn G rfl slices_Index_fsm_Action.g _ _ rfl]
  have hM : M = 100000 := rfl
  rcases first_or (fun i => l[i]? = some k) l.length with h | ⟨j, h1, h2, h3⟩
  · have hc : l.contains k = false := by
      rw [Bool.eq_false_iff]
      intro hh
      obtain ⟨i, hi, e⟩ := List.mem_iff_getElem.1 (List.contains_iff_mem.1 hh)
      exact h i hi (by rw [List.getElem?_eq_getElem hi, e])
    have L := lpFor (G := G) (kill := [5]) (body := slices_Index_fsm_Action.l0) (fun i => [.v (.slc 1 (i64s l)), .v (.int .i64 k), .v (.int .i64 0), .v (.int .i64 (l.length : Nat)), .v (.int .i64 i), .undef]) (fun _ => [[]]) l.length
      (fun i hi => by
        have hx := i64s_at (List.getElem?_eq_getElem hi)
        have hk : l[i] ≠ k := fun e => h i hi (by rw [List.getElem?_eq_getElem hi, e])
        have hb : (k == l[i]) = false := by rw [beq_eq_false_iff_ne]; exact fun e => hk e.symm
        simp -implicitDefEqProofs (maxSteps := 2000000) (disch := omega) only [slices_Index_fsm_Action.l0, hx, hb, i64s_len, go_sem, reduceIte, Nat.reduceAdd, Nat.reduceSub, Nat.reduceMul, Nat.reduceLeDiff, Nat.reduceLT, Nat.reduceEqDiff, Int.reduceToNat, Int.reduceLT, Int.reduceLE, Int.reduceEq, Int.reduceNe, Int.reduceAdd, Int.reduceSub, Int.reduceMul, Int.reduceNeg, Int.reduceBEq, Int.reduceBNe, reduceCtorEq, dreduceIte, oWS, oW8, oW16, oW32, oW64, oLtT, oLtF, oLeT, oLeF, oNLtT, oNLtF, oNLeT, oNLeF, oEqT, oEqF, oNEqT, oNEqF, oBeqT, oBeqF, oBneT, oBneF, Int.natCast_add, List.take_length]) (by simp -implicitDefEqProofs (maxSteps := 2000000) (disch := omega) only [slices_Index_fsm_Action.l0, go_sem, reduceIte, Nat.reduceAdd, Nat.reduceSub, Nat.reduceMul, Nat.reduceLeDiff, Nat.reduceLT, Nat.reduceEqDiff, Int.reduceToNat, Int.reduceLT, Int.reduceLE, Int.reduceEq, Int.reduceNe, Int.reduceAdd, Int.reduceSub, Int.reduceMul, Int.reduceNeg, Int.reduceBEq, Int.reduceBNe, reduceCtorEq, dreduceIte, oWS, oW8, oW16, oW32, oW64, oLtT, oLtF, oLeT, oLeF, oNLtT, oNLtF, oNLeT, oNLeF, oEqT, oEqF, oNEqT, oNEqF, oBeqT, oBeqF, oBneT, oBneF, Int.natCast_add, List.take_length]; rfl)
    simp only [z0, Int.cast_ofNat_Int, List.take_zero, List.map_nil, List.drop_zero, accN, b8_nil, Int.sub_zero, Int.add_zero, Int.zero_add, Nat.zero_add, Nat.sub_zero, List.nil_append, List.append_nil] at L
    simp -implicitDefEqProofs (maxSteps := 2000000) (disch := omega) only [slices_Index_fsm_Action.s, L, i64s_len, hc, go_sem, reduceIte, Nat.reduceAdd, Nat.reduceSub, Nat.reduceMul, Nat.reduceLeDiff, Nat.reduceLT, Nat.reduceEqDiff, Int.reduceToNat, Int.reduceLT, Int.reduceLE, Int.reduceEq, Int.reduceNe, Int.reduceAdd, Int.reduceSub, Int.reduceMul, Int.reduceNeg, Int.reduceBEq, Int.reduceBNe, reduceCtorEq, dreduceIte, oWS, oW8, oW16, oW32, oW64, oLtT, oLtF, oLeT, oLeF, oNLtT, oNLtF, oNLeT, oNLeF, oEqT, oEqF, oNEqT, oNEqF, oBeqT, oBeqF, oBneT, oBneF, Int.natCast_add, List.take_length]
  · have hj := List.getElem?_eq_getElem h1
    have e0 : l[j] = k := by rw [hj] at h2; exact Option.some.inj h2
    have hc : l.contains k = true := List.contains_iff_mem.2 (e0 ▸ List.getElem_mem h1)
    have hf : l.findIdx (· == k) = j := by
      rw [List.findIdx_eq h1]
      refine ⟨by simp [e0], fun i hi => ?_⟩
      have := h3 i hi
      rw [List.getElem?_eq_getElem (by omega)] at this
      simp only [Option.some.injEq] at this
      simpa using this
    have L := lpFor (G := G) (kill := [5]) (body := slices_Index_fsm_Action.l0) (fun i => [.v (.slc 1 (i64s l)), .v (.int .i64 k), .v (.int .i64 0), .v (.int .i64 (l.length : Nat)), .v (.int .i64 i), .undef]) (fun _ => [[]]) j
      (fun i hi => by
        have hx := i64s_at (List.getElem?_eq_getElem (show i < l.length by omega))
        have hk : l[i] ≠ k := fun e => h3 i hi (by rw [List.getElem?_eq_getElem (by omega), e])
        have hb : (k == l[i]) = false := by rw [beq_eq_false_iff_ne]; exact fun e => hk e.symm
        simp -implicitDefEqProofs (maxSteps := 2000000) (disch := omega) only [slices_Index_fsm_Action.l0, hx, hb, i64s_len, go_sem, reduceIte, Nat.reduceAdd, Nat.reduceSub, Nat.reduceMul, Nat.reduceLeDiff, Nat.reduceLT, Nat.reduceEqDiff, Int.reduceToNat, Int.reduceLT, Int.reduceLE, Int.reduceEq, Int.reduceNe, Int.reduceAdd, Int.reduceSub, Int.reduceMul, Int.reduceNeg, Int.reduceBEq, Int.reduceBNe, reduceCtorEq, dreduceIte, oWS, oW8, oW16, oW32, oW64, oLtT, oLtF, oLeT, oLeF, oNLtT, oNLtF, oNLeT, oNLeF, oEqT, oEqF, oNEqT, oNEqF, oBeqT, oBeqF, oBneT, oBneF, Int.natCast_add, List.take_length]) (by
        have hx := i64s_at hj
        have hb : (k == l[j]) = true := by rw [e0]; exact beq_self_eq_true k
        simp -implicitDefEqProofs (maxSteps := 2000000) (disch := omega) only [slices_Index_fsm_Action.l0, hx, hb, i64s_len, go_sem, reduceIte, Nat.reduceAdd, Nat.reduceSub, Nat.reduceMul, Nat.reduceLeDiff, Nat.reduceLT, Nat.reduceEqDiff, Int.reduceToNat, Int.reduceLT, Int.reduceLE, Int.reduceEq, Int.reduceNe, Int.reduceAdd, Int.reduceSub, Int.reduceMul, Int.reduceNeg, Int.reduceBEq, Int.reduceBNe, reduceCtorEq, dreduceIte, oWS, oW8, oW16, oW32, oW64, oLtT, oLtF, oLeT, oLeF, oNLtT, oNLtF, oNLeT, oNLeF, oEqT, oEqF, oNEqT, oNEqF, oBeqT, oBeqF, oBneT, oBneF, Int.natCast_add, List.take_length]; rfl)
    simp only [z0, Int.cast_ofNat_Int, List.take_zero, List.map_nil, List.drop_zero, accN, b8_nil, Int.sub_zero, Int.add_zero, Int.zero_add, Nat.zero_add, Nat.sub_zero, List.nil_append, List.append_nil] at L
    simp -implicitDefEqProofs (maxSteps := 2000000) (disch := omega) only [slices_Index_fsm_Action.s, L, i64s_len, hc, hf, go_sem, reduceIte, Nat.reduceAdd, Nat.reduceSub, Nat.reduceMul, Nat.reduceLeDiff, Nat.reduceLT, Nat.reduceEqDiff, Int.reduceToNat, Int.reduceLT, Int.reduceLE, Int.reduceEq, Int.reduceNe, Int.reduceAdd, Int.reduceSub, Int.reduceMul, Int.reduceNeg, Int.reduceBEq, Int.reduceBNe, reduceCtorEq, dreduceIte, oWS, oW8, oW16, oW32, oW64, oLtT, oLtF, oLeT, oLeF, oNLtT, oNLtF, oNLeT, oNLeF, oEqT, oEqF, oNEqT, oNEqF, oBeqT, oBeqF, oBneT, oBneF, Int.natCast_add, List.take_length]
theorem n_contains (l : List Int) (k : Int) (hn : l.length ≤ M) : run G 84 [.v (.slc 1 (i64s l)), .v (.int .i64 k)] [] = some (.v (.bool (l.contains k)), []) := by
  rw [xq_fn G rfl slices_Contains_fsm_Action.g _ _ rfl]
  have i := n_index l k hn
  generalize l.findIdx (· == k) = j at *
  cases h : l.contains k with
  | true =>
    rw [h, if_pos rfl] at i
    simp -implicitDefEqProofs (maxSteps := 2000000) (disch := omega) only [slices_Contains_fsm_Action.s, i, go_sem, reduceIte, Nat.reduceAdd, Nat.reduceSub, Nat.reduceMul, Nat.reduceLeDiff, Nat.reduceLT, Nat.reduceEqDiff, Int.reduceToNat, Int.reduceLT, Int.reduceLE, Int.reduceEq, Int.reduceNe, Int.reduceAdd, Int.reduceSub, Int.reduceMul, Int.reduceNeg, Int.reduceBEq, Int.reduceBNe, reduceCtorEq, dreduceIte, oWS, oW8, oW16, oW32, oW64, oLtT, oLtF, oLeT, oLeF, oNLtT, oNLtF, oNLeT, oNLeF, oEqT, oEqF, oNEqT, oNEqF, oBeqT, oBeqF, oBneT, oBneF, Int.natCast_add, List.take_length]
  | false =>
    rw [h] at i
    simp only [Bool.false_eq_true, if_false] at i
    simp -implicitDefEqProofs (maxSteps := 2000000) (disch := omega) only [slices_Contains_fsm_Action.s, i, go_sem, reduceIte, Nat.reduceAdd, Nat.reduceSub, Nat.reduceMul, Nat.reduceLeDiff, Nat.reduceLT, Nat.reduceEqDiff, Int.reduceToNat, Int.reduceLT, Int.reduceLE, Int.reduceEq, Int.reduceNe, Int.reduceAdd, Int.reduceSub, Int.reduceMul, Int.reduceNeg, Int.reduceBEq, Int.reduceBNe, reduceCtorEq, dreduceIte, oWS, oW8, oW16, oW32, oW64, oLtT, oLtF, oLeT, oLeF, oNLtT, oNLtF, oNLeT, oNLeF, oEqT, oEqF, oNEqT, oNEqF, oBeqT, oBeqF, oBneT, oBneF, Int.natCast_add, List.take_length]
end Go.Q
