/- Negotiations: what does an event's actions. No condition. -/
import Derived.Test.YtmbdamompcdolaaGreatDoorNa
set_option linter.all false
set_option maxRecDepth 100000
namespace Go.Q
open SOp SCode
attribute [local congr] bind_c map_c
theorem gs_len : ∀ (st : St) (r : Ref) (b : Blk), (setB st r b).length = st.length
  | [], _, _ => rfl
  | fr :: st, r, b => by
    rw [show setB (fr :: st) r b = if r.lvl = st.length then fr.set r.k b :: st else fr :: setB st r b from rfl]
    split
    · rfl
    · rw [List.length_cons, gs_len, List.length_cons]
theorem gs_cons (fr : List Blk) (st : St) (r : Ref) : getB (fr :: st) r = if r.lvl = st.length then fr[r.k]? else getB st r := rfl
theorem gs_consS (fr : List Blk) (st : St) (r : Ref) (b : Blk) : setB (fr :: st) r b = if r.lvl = st.length then fr.set r.k b :: st else fr :: setB st r b := rfl
theorem gs_getr : ∀ {st : St} {r : Ref} {b0 : Blk} (h : getB st r = some b0) (b : Blk), getB (setB st r b) r = some b
  | [], _, _, h, _ => by cases h
  | fr :: st, r, b0, h, b => by
    rw [gs_cons] at h
    rw [gs_consS]
    by_cases e : r.lvl = st.length
    · rw [if_pos e] at h
      rw [if_pos e, gs_cons, if_pos e, List.getElem?_set_self (List.getElem?_eq_some_iff.1 h).1]
    · rw [if_neg e] at h
      rw [if_neg e, gs_cons, gs_len, if_neg e, gs_getr h b]
theorem gs_get {st : St} {k : Nat} {b0 : Blk} (h : getB st ⟨0, k⟩ = some b0) (b : Blk) : getB (setB st ⟨0, k⟩ b) ⟨0, k⟩ = some b := gs_getr h b
theorem gs_set : ∀ (st : St) (r : Ref) (b b' : Blk), setB (setB st r b) r b' = setB st r b'
  | [], _, _, _ => rfl
  | fr :: st, r, b, b' => by
    rw [gs_consS, gs_consS]
    by_cases h : r.lvl = st.length
    · rw [if_pos h, if_pos h, gs_consS, if_pos h, List.set_set]
    · rw [if_neg h, if_neg h, gs_consS, gs_len, if_neg h, gs_set st r b b']
theorem gs_self : ∀ {st : St} {r : Ref} {b : Blk}, getB st r = some b → setB st r b = st
  | [], _, _, h => rfl
  | fr :: st, r, b, h => by
    unfold getB at h
    unfold setB
    by_cases e : r.lvl = st.length
    · rw [if_pos e] at h
      rw [if_pos e]
      congr 1
      apply List.ext_getElem?
      intro i
      by_cases hi : r.k = i
      · subst hi
        have hl : r.k < fr.length := (List.getElem?_eq_some_iff.1 h).1
        rw [List.getElem?_set_self hl, h]
      · rw [List.getElem?_set_ne hi]
    · rw [if_neg e] at h
      rw [if_neg e, gs_self h]
def sentD (b : Bool) (l : List Opt) : D := if b = true then .lin 2 (oes l) else .v (.slc 2 (oes l))
theorem sentT (l : List Opt) : sentD true l = .lin 2 (oes l) := rfl
theorem sentF (l : List Opt) : sentD false l = .v (.slc 2 (oes l)) := rfl
theorem al_acc (z : Nat) (l : List V) (r : List D) : allV (accG z l :: r) = none := by cases l <;> rfl
theorem al_sd (b : Bool) (l : List Opt) (r : List D) : allV (sentD b l :: r) = if b = true then none else (allV r).map (V.slc 2 (oes l) :: ·) := by cases b <;> rfl
theorem sd_cells (b : Bool) (l : List Opt) : cellsOf (sentD b l) = [sentD b l] := by cases b <;> rfl
theorem sd_cp (b : Bool) (l : List Opt) : cp (sentD b l) = .v (.slc 2 (oes l)) := by cases b <;> rfl
theorem sd_cp1 (b : Bool) (l : List Opt) : cp1 (sentD b l) = .v (.slc 2 (oes l)) := by cases b <;> rfl
theorem sd_good (b : Bool) (l : List Opt) : goodD (sentD b l) = true := by cases b <;> rfl
theorem sd_refs (n : Nat) (b : Bool) (l : List Opt) : refsBelow n (sentD b l) = true := by cases b <;> rfl
theorem sd_agg (b : Bool) (l : List Opt) : isAggD (sentD b l) = false := by cases b <;> rfl
abbrev dRow (b : Bool) (n : Ng) (o : Ou) (ca an : Ctl) : List D := [.v (.int .i64 n.st), .v (.int .i64 n.cnt), .v (.int .i64 n.left), .v (.int .u8 n.id), sentD b n.sent, .v (.bool n.rl.ip), .v (.int .u16 n.rl.want.1), .v (.int .u32 n.rl.want.2.1), .v (.bool n.rl.want.2.2), .v (.bool n.rl.pv), .v (.bool n.rl.side.srv), .v (.int .u32 n.rl.side.own), .v (.int .u32 n.rl.side.give), .v (.int .u32 n.rl.side.dns), .v (.bool n.rl.side.asks), .v (.slc 2 (oes n.acked)), .v (.int .i64 n.nk),
  accG 3 (cvs o.pk), .v (.bool o.up), .v (.bool o.down), .v (.bool o.started), .v (.bool o.fin), .v (.int .u8 ca.1), .v (.int .u8 ca.2.1), .v (.slc 1 (b8 ca.2.2)), .v (.int .u8 an.1), .v (.int .u8 an.2.1), .v (.slc 1 (b8 an.2.2))]
abbrev dBlk (b : Bool) (q : Ng × Ou) (ca an : Ctl) : Blk := .row [.agg (dRow b q.1 q.2 ca an)]
def sndN (c : Ctl) (q : Ng × Ou) : Ng × Ou := (q.1, { q.2 with pk := q.2.pk ++ [c] })
def idN (n : Ng) : Int := (n.id + 1) % 256
def senN (n : Ng) : Ng := { n with cnt := max n.cnt 1 - 1, left := 3 }
def actN (term : Bool) (ca an : Ctl) (a : Int) (q : Ng × Ou) : Ng × Ou :=
  if a = 1 then (q.1, { q.2 with up := true }) else if a = 2 then (q.1, { q.2 with down := true }) else if a = 3 then (q.1, { q.2 with started := true }) else if a = 4 then (q.1, { q.2 with fin := true })
  else if a = 5 then ({ q.1 with cnt := if term = true then 2 else 10 }, q.2) else if a = 6 then ({ q.1 with cnt := 0, left := 3 }, q.2)
  else if a = 7 then sndN (confR 1 (idN q.1) (askN q.1.rl)).1 (senN { q.1 with sent := askN q.1.rl, id := idN q.1 }, q.2)
  else if a = 8 ∨ a = 9 then sndN an q
  else if a = 10 then sndN (5, idN q.1, []) (senN { q.1 with id := idN q.1 }, q.2)
  else if a = 11 then sndN (6, ca.2.1, []) q
  else if a = 12 then sndN (7, idN q.1, cutR (layC ca).1 1400) ({ q.1 with id := idN q.1 }, q.2)
  else q
theorem d_send (b : Bool) (q : Ng × Ou) (ca an c : Ctl) (k : Nat) (st : St) (h0 : 0 < st.length) (h : getB st ⟨0, k⟩ = some (dBlk b q ca an)) (hp : q.2.pk.length ≤ 10) :
    run G 123 [.ptr ⟨0, k⟩ 0 0, .v (cv c)] st = some (.tup [], setB st ⟨0, k⟩ (dBlk b (sndN c q) ca an)) := by
  rw [xq_fn G rfl nego_doer_send.g _ _ rfl]
  have hM := hmax
  have g := gs_get h
  have s := gs_set st ⟨0, k⟩
  have sl := fun b => gs_len st ⟨0, k⟩ b
  have nr : ((⟨st.length, 0⟩ : Ref) = ⟨0, k⟩) = False := eq_false (fun e => by injection e; omega)
  obtain ⟨n, pk, u1, u2, u3, u4⟩ := q
  simp only at hp
  cases b with
  | false =>
    cases pk with
    | nil => simp -implicitDefEqProofs (maxSteps := 2000000) (disch := omega) only [nego_doer_send.s, dBlk, dRow, sentF, cv, h, g, s, sl, nr, sndN, cvs_nil, accN, cvs_cons, accC, go_sem, reduceIte, Nat.reduceAdd, Nat.reduceSub, Nat.reduceMul, Nat.reduceLeDiff, Nat.reduceLT, Nat.reduceEqDiff, Int.reduceToNat, Int.reduceLT, Int.reduceLE, Int.reduceEq, Int.reduceNe, Int.reduceAdd, Int.reduceSub, Int.reduceMul, Int.reduceNeg, Int.reduceBEq, Int.reduceBNe, reduceCtorEq, dreduceIte, oWS, oW8, oW16, oW32, oW64, oLtT, oLtF, oLeT, oLeF, oNLtT, oNLtF, oNLeT, oNLeF, oEqT, oEqF, oNEqT, oNEqF, oBeqT, oBeqF, oBneT, oBneF, Int.natCast_add, List.take_length]
    | cons p ps => simp only [List.length_cons] at hp; simp -implicitDefEqProofs (maxSteps := 2000000) (disch := omega) only [nego_doer_send.s, dBlk, dRow, sentF, cv, h, g, s, sl, nr, sndN, cvs_cons, accC, cvs_len, cvs_app, go_sem, reduceIte, Nat.reduceAdd, Nat.reduceSub, Nat.reduceMul, Nat.reduceLeDiff, Nat.reduceLT, Nat.reduceEqDiff, Int.reduceToNat, Int.reduceLT, Int.reduceLE, Int.reduceEq, Int.reduceNe, Int.reduceAdd, Int.reduceSub, Int.reduceMul, Int.reduceNeg, Int.reduceBEq, Int.reduceBNe, reduceCtorEq, dreduceIte, oWS, oW8, oW16, oW32, oW64, oLtT, oLtF, oLeT, oLeF, oNLtT, oNLtF, oNLeT, oNLeF, oEqT, oEqF, oNEqT, oNEqF, oBeqT, oBeqF, oBneT, oBneF, Int.natCast_add, List.take_length]; simp [cvs]
  | true =>
    cases pk with
    | nil => simp -implicitDefEqProofs (maxSteps := 2000000) (disch := omega) only [nego_doer_send.s, dBlk, dRow, sentT, cv, h, g, s, sl, nr, sndN, cvs_nil, accN, cvs_cons, accC, go_sem, reduceIte, Nat.reduceAdd, Nat.reduceSub, Nat.reduceMul, Nat.reduceLeDiff, Nat.reduceLT, Nat.reduceEqDiff, Int.reduceToNat, Int.reduceLT, Int.reduceLE, Int.reduceEq, Int.reduceNe, Int.reduceAdd, Int.reduceSub, Int.reduceMul, Int.reduceNeg, Int.reduceBEq, Int.reduceBNe, reduceCtorEq, dreduceIte, oWS, oW8, oW16, oW32, oW64, oLtT, oLtF, oLeT, oLeF, oNLtT, oNLtF, oNLeT, oNLeF, oEqT, oEqF, oNEqT, oNEqF, oBeqT, oBeqF, oBneT, oBneF, Int.natCast_add, List.take_length]
    | cons p ps => simp only [List.length_cons] at hp; simp -implicitDefEqProofs (maxSteps := 2000000) (disch := omega) only [nego_doer_send.s, dBlk, dRow, sentT, cv, h, g, s, sl, nr, sndN, cvs_cons, accC, cvs_len, cvs_app, go_sem, reduceIte, Nat.reduceAdd, Nat.reduceSub, Nat.reduceMul, Nat.reduceLeDiff, Nat.reduceLT, Nat.reduceEqDiff, Int.reduceToNat, Int.reduceLT, Int.reduceLE, Int.reduceEq, Int.reduceNe, Int.reduceAdd, Int.reduceSub, Int.reduceMul, Int.reduceNeg, Int.reduceBEq, Int.reduceBNe, reduceCtorEq, dreduceIte, oWS, oW8, oW16, oW32, oW64, oLtT, oLtF, oLeT, oLeF, oNLtT, oNLtF, oNLeT, oNLeF, oEqT, oEqF, oNEqT, oNEqF, oBeqT, oBeqF, oBneT, oBneF, Int.natCast_add, List.take_length]; simp [cvs]
theorem d_sendn (b : Bool) (q : Ng × Ou) (ca an : Ctl) (x y : Int) (k : Nat) (st : St) (h0 : 0 < st.length) (h : getB st ⟨0, k⟩ = some (dBlk b q ca an)) (hp : q.2.pk.length ≤ 10) :
    run G 123 [.ptr ⟨0, k⟩ 0 0, .agg [.v (.int .u8 x), .v (.int .u8 y), .nils 1]] st = some (.tup [], setB st ⟨0, k⟩ (dBlk b (sndN (x, y, []) q) ca an)) := by
  rw [xq_fn G rfl nego_doer_send.g _ _ rfl]
  have hM := hmax
  have g := gs_get h
  have s := gs_set st ⟨0, k⟩
  have sl := fun b => gs_len st ⟨0, k⟩ b
  have nr : ((⟨st.length, 0⟩ : Ref) = ⟨0, k⟩) = False := eq_false (fun e => by injection e; omega)
  obtain ⟨n, pk, u1, u2, u3, u4⟩ := q
  simp only at hp
  cases b with
  | false =>
    cases pk with
    | nil => simp -implicitDefEqProofs (maxSteps := 2000000) (disch := omega) only [nego_doer_send.s, dBlk, dRow, sentF, cv, h, g, s, sl, nr, sndN, b8_nil, cvs_nil, accN, cvs_cons, accC, go_sem, reduceIte, Nat.reduceAdd, Nat.reduceSub, Nat.reduceMul, Nat.reduceLeDiff, Nat.reduceLT, Nat.reduceEqDiff, Int.reduceToNat, Int.reduceLT, Int.reduceLE, Int.reduceEq, Int.reduceNe, Int.reduceAdd, Int.reduceSub, Int.reduceMul, Int.reduceNeg, Int.reduceBEq, Int.reduceBNe, reduceCtorEq, dreduceIte, oWS, oW8, oW16, oW32, oW64, oLtT, oLtF, oLeT, oLeF, oNLtT, oNLtF, oNLeT, oNLeF, oEqT, oEqF, oNEqT, oNEqF, oBeqT, oBeqF, oBneT, oBneF, Int.natCast_add, List.take_length]
    | cons p ps => simp only [List.length_cons] at hp; simp -implicitDefEqProofs (maxSteps := 2000000) (disch := omega) only [nego_doer_send.s, dBlk, dRow, sentF, cv, h, g, s, sl, nr, sndN, b8_nil, cvs_cons, accC, cvs_len, cvs_app, go_sem, reduceIte, Nat.reduceAdd, Nat.reduceSub, Nat.reduceMul, Nat.reduceLeDiff, Nat.reduceLT, Nat.reduceEqDiff, Int.reduceToNat, Int.reduceLT, Int.reduceLE, Int.reduceEq, Int.reduceNe, Int.reduceAdd, Int.reduceSub, Int.reduceMul, Int.reduceNeg, Int.reduceBEq, Int.reduceBNe, reduceCtorEq, dreduceIte, oWS, oW8, oW16, oW32, oW64, oLtT, oLtF, oLeT, oLeF, oNLtT, oNLtF, oNLeT, oNLeF, oEqT, oEqF, oNEqT, oNEqF, oBeqT, oBeqF, oBneT, oBneF, Int.natCast_add, List.take_length]; simp [cvs]; rfl
  | true =>
    cases pk with
    | nil => simp -implicitDefEqProofs (maxSteps := 2000000) (disch := omega) only [nego_doer_send.s, dBlk, dRow, sentT, cv, h, g, s, sl, nr, sndN, b8_nil, cvs_nil, accN, cvs_cons, accC, go_sem, reduceIte, Nat.reduceAdd, Nat.reduceSub, Nat.reduceMul, Nat.reduceLeDiff, Nat.reduceLT, Nat.reduceEqDiff, Int.reduceToNat, Int.reduceLT, Int.reduceLE, Int.reduceEq, Int.reduceNe, Int.reduceAdd, Int.reduceSub, Int.reduceMul, Int.reduceNeg, Int.reduceBEq, Int.reduceBNe, reduceCtorEq, dreduceIte, oWS, oW8, oW16, oW32, oW64, oLtT, oLtF, oLeT, oLeF, oNLtT, oNLtF, oNLeT, oNLeF, oEqT, oEqF, oNEqT, oNEqF, oBeqT, oBeqF, oBneT, oBneF, Int.natCast_add, List.take_length]
    | cons p ps => simp only [List.length_cons] at hp; simp -implicitDefEqProofs (maxSteps := 2000000) (disch := omega) only [nego_doer_send.s, dBlk, dRow, sentT, cv, h, g, s, sl, nr, sndN, b8_nil, cvs_cons, accC, cvs_len, cvs_app, go_sem, reduceIte, Nat.reduceAdd, Nat.reduceSub, Nat.reduceMul, Nat.reduceLeDiff, Nat.reduceLT, Nat.reduceEqDiff, Int.reduceToNat, Int.reduceLT, Int.reduceLE, Int.reduceEq, Int.reduceNe, Int.reduceAdd, Int.reduceSub, Int.reduceMul, Int.reduceNeg, Int.reduceBEq, Int.reduceBNe, reduceCtorEq, dreduceIte, oWS, oW8, oW16, oW32, oW64, oLtT, oLtF, oLeT, oLeF, oNLtT, oNLtF, oNLeT, oNLeF, oEqT, oEqF, oNEqT, oNEqF, oBeqT, oBeqF, oBneT, oBneF, Int.natCast_add, List.take_length]; simp [cvs]; rfl
theorem d_next (b : Bool) (q : Ng × Ou) (ca an : Ctl) (k : Nat) (st : St) (h0 : 0 < st.length) (h : getB st ⟨0, k⟩ = some (dBlk b q ca an)) :
    run G 124 [.ptr ⟨0, k⟩ 0 0] st = some (.v (.int .u8 (idN q.1)), setB st ⟨0, k⟩ (dBlk b ({ q.1 with id := idN q.1 }, q.2) ca an)) := by
  rw [xq_fn G rfl nego_doer_next.g _ _ rfl]
  have g := gs_get h
  have s := gs_set st ⟨0, k⟩
  have sl := fun b => gs_len st ⟨0, k⟩ b
  have w : IntKind.u8.wrap (q.1.id + 1) = idN q.1 := by rw [wrapU8]; rfl
  simp -implicitDefEqProofs (maxSteps := 2000000) (disch := omega) only [nego_doer_next.s, dBlk, dRow, h, g, s, sl, w, al_acc, al_sd, ite_self, sd_cells, sd_cp, sd_cp1, sd_good, sd_refs, sd_agg, ac_cells, ac_cp1, ac_good, ac_refs, ac_agg, go_sem, reduceIte, Nat.reduceAdd, Nat.reduceSub, Nat.reduceMul, Nat.reduceLeDiff, Nat.reduceLT, Nat.reduceEqDiff, Int.reduceToNat, Int.reduceLT, Int.reduceLE, Int.reduceEq, Int.reduceNe, Int.reduceAdd, Int.reduceSub, Int.reduceMul, Int.reduceNeg, Int.reduceBEq, Int.reduceBNe, reduceCtorEq, dreduceIte, oWS, oW8, oW16, oW32, oW64, oLtT, oLtF, oLeT, oLeF, oNLtT, oNLtF, oNLeT, oNLeF, oEqT, oEqF, oNEqT, oNEqF, oBeqT, oBeqF, oBneT, oBneF, Int.natCast_add, List.take_length]
abbrev okN (n : Ng) : Prop := In n.cnt ∧ okR n.rl
def reqN (q : Ng × Ou) : Ng × Ou := sndN (confR 1 (idN q.1) (askN q.1.rl)).1 (senN { q.1 with sent := askN q.1.rl, id := idN q.1 }, q.2)
theorem gl_get {st : St} {k : Nat} (h0 : 0 < st.length) {b0 : Blk} (h : getB st ⟨0, k⟩ = some b0) (fr : List Blk) (b : Blk) : getB (fr :: setB st ⟨0, k⟩ b) ⟨0, k⟩ = some b := by
  rw [gs_cons, gs_len, if_neg (by simp only; omega)]; exact gs_get h b
theorem gl_set {st : St} {k : Nat} (h0 : 0 < st.length) (fr : List Blk) (b b' : Blk) : setB (fr :: setB st ⟨0, k⟩ b) ⟨0, k⟩ b' = fr :: setB st ⟨0, k⟩ b' := by
  rw [show setB (fr :: setB st ⟨0, k⟩ b) ⟨0, k⟩ b' = if 0 = (setB st ⟨0, k⟩ b).length then fr.set k b' :: setB st ⟨0, k⟩ b else fr :: setB (setB st ⟨0, k⟩ b) ⟨0, k⟩ b' from rfl, gs_len, if_neg (by omega), gs_set]
theorem d_request (b : Bool) (q : Ng × Ou) (ca an : Ctl) (k : Nat) (st : St) (h0 : 0 < st.length) (h : getB st ⟨0, k⟩ = some (dBlk b q ca an)) (hp : q.2.pk.length ≤ 10) (ho : okN q.1) :
    run G 122 [.ptr ⟨0, k⟩ 0 0] st = some (.tup [], setB st ⟨0, k⟩ (dBlk true (reqN q) ca an)) := by
  have g := gs_get h
  have s := gs_set st ⟨0, k⟩
  have sl := fun b => gs_len st ⟨0, k⟩ b
  have a := n_asks q.1.rl ho.2
  have e := c_conf 1 (idN q.1) (askN q.1.rl) askN_ok.2
  have r := r_sent q.1.cnt q.1.left ho.1
  have nx := d_next true ({ q.1 with sent := askN q.1.rl }, q.2) ca an 0 [[dBlk true ({ q.1 with sent := askN q.1.rl }, q.2) ca an]] (by simp) rfl
  have nx' : run G 124 [.ptr ⟨0, 0⟩ 0 0] [[dBlk true ({ q.1 with sent := askN q.1.rl }, q.2) ca an]] = some (.v (.int .u8 (idN q.1)), [[dBlk true ({ q.1 with sent := askN q.1.rl, id := idN q.1 }, q.2) ca an]]) := nx
  have sd := fun fr => d_send true ({ q.1 with sent := askN q.1.rl, id := idN q.1 }, q.2) ca an (confR 1 (idN q.1) (askN q.1.rl)).1 k (fr :: setB st ⟨0, k⟩ (dBlk true ({ q.1 with sent := askN q.1.rl, id := idN q.1 }, q.2) ca an)) (by simp) (gl_get h0 h fr _) hp
  simp only [gl_set h0] at sd
  clear nx
  unfold reqN
  rw [xq_fn G rfl nego_doer_request.g _ _ rfl]
  generalize (confR 1 (idN q.1) (askN q.1.rl)) = cf at *
  generalize askN q.1.rl = ak at *
  generalize idN q.1 = m at *
  obtain ⟨n, pk, u1, u2, u3, u4⟩ := q
  simp only [rlv, re, dBlk, dRow, sentT, cv, sndN] at *
  simp -implicitDefEqProofs (maxSteps := 2000000) (disch := omega) only [nego_doer_request.s, cv, h, g, s, sl, a, e, r, nx', sd, sameD_refl, senN, al_acc, al_sd, ite_self, sd_cells, sd_cp, sd_cp1, sd_good, sd_refs, sd_agg, ac_cells, ac_cp1, ac_good, ac_refs, ac_agg, go_sem, reduceIte, Nat.reduceAdd, Nat.reduceSub, Nat.reduceMul, Nat.reduceLeDiff, Nat.reduceLT, Nat.reduceEqDiff, Int.reduceToNat, Int.reduceLT, Int.reduceLE, Int.reduceEq, Int.reduceNe, Int.reduceAdd, Int.reduceSub, Int.reduceMul, Int.reduceNeg, Int.reduceBEq, Int.reduceBNe, reduceCtorEq, dreduceIte, oWS, oW8, oW16, oW32, oW64, oLtT, oLtF, oLeT, oLeF, oNLtT, oNLtF, oNLeT, oNLeF, oEqT, oEqF, oNEqT, oNEqF, oBeqT, oBeqF, oBneT, oBneF, Int.natCast_add, List.take_length]
theorem d_do (term : Bool) (a : Int) (b : Bool) (q : Ng × Ou) (ca an : Ctl) (k : Nat) (st : St) (h0 : 0 < st.length) (h : getB st ⟨0, k⟩ = some (dBlk b q ca an)) (hp : q.2.pk.length ≤ 10) (ho : okN q.1) (hc : ca.2.2.length ≤ 10000) :
    run G 83 [.ptr ⟨0, k⟩ 0 0, .v (.int .i64 a), .v (.bool term)] st = some (.tup [], setB st ⟨0, k⟩ (dBlk (b || a == 7) (actN term ca an a q) ca an)) := by
  have g := gs_get h
  have s := gs_set st ⟨0, k⟩
  have sl := fun b => gs_len st ⟨0, k⟩ b
  have e0 : setB st ⟨0, k⟩ (dBlk b q ca an) = st := gs_self h
  have sd := fun (c : Ctl) fr => d_send b q ca an c k (fr :: st) (by simp) (by rw [gs_cons, if_neg (by simp only; omega)]; exact h) hp
  have sc : ∀ (fr : List Blk) (B : Blk), setB (fr :: st) ⟨0, k⟩ B = fr :: setB st ⟨0, k⟩ B := fun fr B => by
    rw [show setB (fr :: st) ⟨0, k⟩ B = if 0 = st.length then fr.set k B :: st else fr :: setB st ⟨0, k⟩ B from rfl, if_neg (by omega)]
  simp only [sc] at sd
  have sn := fun (x y : Int) fr => d_sendn b q ca an x y k (fr :: st) (by simp) (by rw [gs_cons, if_neg (by simp only; omega)]; exact h) hp
  simp only [sc] at sn
  have nx := fun fr => d_next b q ca an k (fr :: st) (by simp) (by rw [gs_cons, if_neg (by simp only; omega)]; exact h)
  simp only [sc] at nx
  have snn := fun (x y : Int) fr => d_sendn b ({ q.1 with id := idN q.1 }, q.2) ca an x y k (fr :: setB st ⟨0, k⟩ (dBlk b ({ q.1 with id := idN q.1 }, q.2) ca an)) (by simp) (gl_get h0 h fr _) hp
  simp only [gl_set h0] at snn
  have sdn := fun (c : Ctl) fr => d_send b ({ q.1 with id := idN q.1 }, q.2) ca an c k (fr :: setB st ⟨0, k⟩ (dBlk b ({ q.1 with id := idN q.1 }, q.2) ca an)) (by simp) (gl_get h0 h fr _) hp
  simp only [gl_set h0] at sdn
  have rq := fun fr => d_request b q ca an k (fr :: st) (by simp) (by rw [gs_cons, if_neg (by simp only; omega)]; exact h) hp ho
  simp only [sc] at rq
  have hcnt := ho.1
  rw [xq_fn G rfl nego_doer_do.g _ _ rfl]
  by_cases a1 : a = 1
  · subst a1; simp only [actN, if_true, Int.reduceBEq, Bool.or_false]
    simp only [dBlk, dRow] at *
    simp -implicitDefEqProofs (maxSteps := 2000000) (disch := omega) only [nego_doer_do.s, h, g, s, sl, al_acc, al_sd, ite_self, sd_cells, sd_cp, sd_cp1, sd_good, sd_refs, sd_agg, ac_cells, ac_cp1, ac_good, ac_refs, ac_agg, go_sem, reduceIte, Nat.reduceAdd, Nat.reduceSub, Nat.reduceMul, Nat.reduceLeDiff, Nat.reduceLT, Nat.reduceEqDiff, Int.reduceToNat, Int.reduceLT, Int.reduceLE, Int.reduceEq, Int.reduceNe, Int.reduceAdd, Int.reduceSub, Int.reduceMul, Int.reduceNeg, Int.reduceBEq, Int.reduceBNe, reduceCtorEq, dreduceIte, oWS, oW8, oW16, oW32, oW64, oLtT, oLtF, oLeT, oLeF, oNLtT, oNLtF, oNLeT, oNLeF, oEqT, oEqF, oNEqT, oNEqF, oBeqT, oBeqF, oBneT, oBneF, Int.natCast_add, List.take_length]
  by_cases a2 : a = 2
  · subst a2; simp only [actN, Int.reduceEq, if_false, if_true, Int.reduceBEq, Bool.or_false]
    simp only [dBlk, dRow] at *
    simp -implicitDefEqProofs (maxSteps := 2000000) (disch := omega) only [nego_doer_do.s, h, g, s, sl, al_acc, al_sd, ite_self, sd_cells, sd_cp, sd_cp1, sd_good, sd_refs, sd_agg, ac_cells, ac_cp1, ac_good, ac_refs, ac_agg, go_sem, reduceIte, Nat.reduceAdd, Nat.reduceSub, Nat.reduceMul, Nat.reduceLeDiff, Nat.reduceLT, Nat.reduceEqDiff, Int.reduceToNat, Int.reduceLT, Int.reduceLE, Int.reduceEq, Int.reduceNe, Int.reduceAdd, Int.reduceSub, Int.reduceMul, Int.reduceNeg, Int.reduceBEq, Int.reduceBNe, reduceCtorEq, dreduceIte, oWS, oW8, oW16, oW32, oW64, oLtT, oLtF, oLeT, oLeF, oNLtT, oNLtF, oNLeT, oNLeF, oEqT, oEqF, oNEqT, oNEqF, oBeqT, oBeqF, oBneT, oBneF, Int.natCast_add, List.take_length]
  by_cases a3 : a = 3
  · subst a3; simp only [actN, Int.reduceEq, if_false, if_true, Int.reduceBEq, Bool.or_false]
    simp only [dBlk, dRow] at *
    simp -implicitDefEqProofs (maxSteps := 2000000) (disch := omega) only [nego_doer_do.s, h, g, s, sl, al_acc, al_sd, ite_self, sd_cells, sd_cp, sd_cp1, sd_good, sd_refs, sd_agg, ac_cells, ac_cp1, ac_good, ac_refs, ac_agg, go_sem, reduceIte, Nat.reduceAdd, Nat.reduceSub, Nat.reduceMul, Nat.reduceLeDiff, Nat.reduceLT, Nat.reduceEqDiff, Int.reduceToNat, Int.reduceLT, Int.reduceLE, Int.reduceEq, Int.reduceNe, Int.reduceAdd, Int.reduceSub, Int.reduceMul, Int.reduceNeg, Int.reduceBEq, Int.reduceBNe, reduceCtorEq, dreduceIte, oWS, oW8, oW16, oW32, oW64, oLtT, oLtF, oLeT, oLeF, oNLtT, oNLtF, oNLeT, oNLeF, oEqT, oEqF, oNEqT, oNEqF, oBeqT, oBeqF, oBneT, oBneF, Int.natCast_add, List.take_length]
  by_cases a4 : a = 4
  · subst a4; simp only [actN, Int.reduceEq, if_false, if_true, Int.reduceBEq, Bool.or_false]
    simp only [dBlk, dRow] at *
    simp -implicitDefEqProofs (maxSteps := 2000000) (disch := omega) only [nego_doer_do.s, h, g, s, sl, al_acc, al_sd, ite_self, sd_cells, sd_cp, sd_cp1, sd_good, sd_refs, sd_agg, ac_cells, ac_cp1, ac_good, ac_refs, ac_agg, go_sem, reduceIte, Nat.reduceAdd, Nat.reduceSub, Nat.reduceMul, Nat.reduceLeDiff, Nat.reduceLT, Nat.reduceEqDiff, Int.reduceToNat, Int.reduceLT, Int.reduceLE, Int.reduceEq, Int.reduceNe, Int.reduceAdd, Int.reduceSub, Int.reduceMul, Int.reduceNeg, Int.reduceBEq, Int.reduceBNe, reduceCtorEq, dreduceIte, oWS, oW8, oW16, oW32, oW64, oLtT, oLtF, oLeT, oLeF, oNLtT, oNLtF, oNLeT, oNLeF, oEqT, oEqF, oNEqT, oNEqF, oBeqT, oBeqF, oBneT, oBneF, Int.natCast_add, List.take_length]
  by_cases a5 : a = 5
  · subst a5; simp only [actN, Int.reduceEq, if_false, if_true, Int.reduceBEq, Bool.or_false]
    have r := r_init q.1.cnt q.1.left term
    simp only [dBlk, dRow, re] at *
    simp -implicitDefEqProofs (maxSteps := 2000000) (disch := omega) only [nego_doer_do.s, h, g, s, sl, r, al_acc, al_sd, ite_self, sd_cells, sd_cp, sd_cp1, sd_good, sd_refs, sd_agg, ac_cells, ac_cp1, ac_good, ac_refs, ac_agg, go_sem, reduceIte, Nat.reduceAdd, Nat.reduceSub, Nat.reduceMul, Nat.reduceLeDiff, Nat.reduceLT, Nat.reduceEqDiff, Int.reduceToNat, Int.reduceLT, Int.reduceLE, Int.reduceEq, Int.reduceNe, Int.reduceAdd, Int.reduceSub, Int.reduceMul, Int.reduceNeg, Int.reduceBEq, Int.reduceBNe, reduceCtorEq, dreduceIte, oWS, oW8, oW16, oW32, oW64, oLtT, oLtF, oLeT, oLeF, oNLtT, oNLtF, oNLeT, oNLeF, oEqT, oEqF, oNEqT, oNEqF, oBeqT, oBeqF, oBneT, oBneF, Int.natCast_add, List.take_length]
  by_cases a6 : a = 6
  · subst a6; simp only [actN, Int.reduceEq, if_false, if_true, Int.reduceBEq, Bool.or_false]
    have r := r_zero q.1.cnt q.1.left
    simp only [dBlk, dRow, re] at *
    simp -implicitDefEqProofs (maxSteps := 2000000) (disch := omega) only [nego_doer_do.s, h, g, s, sl, r, al_acc, al_sd, ite_self, sd_cells, sd_cp, sd_cp1, sd_good, sd_refs, sd_agg, ac_cells, ac_cp1, ac_good, ac_refs, ac_agg, go_sem, reduceIte, Nat.reduceAdd, Nat.reduceSub, Nat.reduceMul, Nat.reduceLeDiff, Nat.reduceLT, Nat.reduceEqDiff, Int.reduceToNat, Int.reduceLT, Int.reduceLE, Int.reduceEq, Int.reduceNe, Int.reduceAdd, Int.reduceSub, Int.reduceMul, Int.reduceNeg, Int.reduceBEq, Int.reduceBNe, reduceCtorEq, dreduceIte, oWS, oW8, oW16, oW32, oW64, oLtT, oLtF, oLeT, oLeF, oNLtT, oNLtF, oNLeT, oNLeF, oEqT, oEqF, oNEqT, oNEqF, oBeqT, oBeqF, oBneT, oBneF, Int.natCast_add, List.take_length]
  by_cases a7 : a = 7
  · subst a7; simp only [actN, Int.reduceEq, if_false, if_true, Int.reduceBEq, Bool.or_true]
    have e : sndN (confR 1 (idN q.1) (askN q.1.rl)).1 (senN { q.1 with sent := askN q.1.rl, id := idN q.1 }, q.2) = reqN q := rfl
    rw [e]
    generalize reqN q = q2 at *
    simp only [dBlk, dRow] at *
    simp -implicitDefEqProofs (maxSteps := 2000000) (disch := omega) only [nego_doer_do.s, h, g, s, sl, rq, go_sem, reduceIte, Nat.reduceAdd, Nat.reduceSub, Nat.reduceMul, Nat.reduceLeDiff, Nat.reduceLT, Nat.reduceEqDiff, Int.reduceToNat, Int.reduceLT, Int.reduceLE, Int.reduceEq, Int.reduceNe, Int.reduceAdd, Int.reduceSub, Int.reduceMul, Int.reduceNeg, Int.reduceBEq, Int.reduceBNe, reduceCtorEq, dreduceIte, oWS, oW8, oW16, oW32, oW64, oLtT, oLtF, oLeT, oLeF, oNLtT, oNLtF, oNLeT, oNLeF, oEqT, oEqF, oNEqT, oNEqF, oBeqT, oBeqF, oBneT, oBneF, Int.natCast_add, List.take_length]
  by_cases a8 : a = 8
  · subst a8; simp only [actN, Int.reduceEq, if_false, if_true, Int.reduceBEq, Bool.or_false, true_or]
    have sd' := sd an
    generalize sndN an q = q2 at *
    simp only [dBlk, dRow, cv] at *
    simp -implicitDefEqProofs (maxSteps := 2000000) (disch := omega) only [nego_doer_do.s, h, g, s, sl, sd', al_acc, al_sd, ite_self, sd_cells, sd_cp, sd_cp1, sd_good, sd_refs, sd_agg, ac_cells, ac_cp1, ac_good, ac_refs, ac_agg, go_sem, reduceIte, Nat.reduceAdd, Nat.reduceSub, Nat.reduceMul, Nat.reduceLeDiff, Nat.reduceLT, Nat.reduceEqDiff, Int.reduceToNat, Int.reduceLT, Int.reduceLE, Int.reduceEq, Int.reduceNe, Int.reduceAdd, Int.reduceSub, Int.reduceMul, Int.reduceNeg, Int.reduceBEq, Int.reduceBNe, reduceCtorEq, dreduceIte, oWS, oW8, oW16, oW32, oW64, oLtT, oLtF, oLeT, oLeF, oNLtT, oNLtF, oNLeT, oNLeF, oEqT, oEqF, oNEqT, oNEqF, oBeqT, oBeqF, oBneT, oBneF, Int.natCast_add, List.take_length]
  by_cases a9 : a = 9
  · subst a9; simp only [actN, Int.reduceEq, if_false, if_true, Int.reduceBEq, Bool.or_false, or_true]
    have sd' := sd an
    generalize sndN an q = q2 at *
    simp only [dBlk, dRow, cv] at *
    simp -implicitDefEqProofs (maxSteps := 2000000) (disch := omega) only [nego_doer_do.s, h, g, s, sl, sd', al_acc, al_sd, ite_self, sd_cells, sd_cp, sd_cp1, sd_good, sd_refs, sd_agg, ac_cells, ac_cp1, ac_good, ac_refs, ac_agg, go_sem, reduceIte, Nat.reduceAdd, Nat.reduceSub, Nat.reduceMul, Nat.reduceLeDiff, Nat.reduceLT, Nat.reduceEqDiff, Int.reduceToNat, Int.reduceLT, Int.reduceLE, Int.reduceEq, Int.reduceNe, Int.reduceAdd, Int.reduceSub, Int.reduceMul, Int.reduceNeg, Int.reduceBEq, Int.reduceBNe, reduceCtorEq, dreduceIte, oWS, oW8, oW16, oW32, oW64, oLtT, oLtF, oLeT, oLeF, oNLtT, oNLtF, oNLeT, oNLeF, oEqT, oEqF, oNEqT, oNEqF, oBeqT, oBeqF, oBneT, oBneF, Int.natCast_add, List.take_length]
  by_cases a10 : a = 10
  · subst a10; simp only [actN, Int.reduceEq, if_false, if_true, Int.reduceBEq, Bool.or_false, or_self]
    have sd' := snn 5 (idN q.1)
    have r := r_sent q.1.cnt q.1.left hcnt
    generalize idN q.1 = m at *
    simp only [dBlk, dRow, cv, re, sndN, senN, b8_nil] at *
    simp -implicitDefEqProofs (maxSteps := 2000000) (disch := omega) only [nego_doer_do.s, h, g, s, sl, nx, sd', r, al_acc, al_sd, ite_self, sd_cells, sd_cp, sd_cp1, sd_good, sd_refs, sd_agg, ac_cells, ac_cp1, ac_good, ac_refs, ac_agg, go_sem, reduceIte, Nat.reduceAdd, Nat.reduceSub, Nat.reduceMul, Nat.reduceLeDiff, Nat.reduceLT, Nat.reduceEqDiff, Int.reduceToNat, Int.reduceLT, Int.reduceLE, Int.reduceEq, Int.reduceNe, Int.reduceAdd, Int.reduceSub, Int.reduceMul, Int.reduceNeg, Int.reduceBEq, Int.reduceBNe, reduceCtorEq, dreduceIte, oWS, oW8, oW16, oW32, oW64, oLtT, oLtF, oLeT, oLeF, oNLtT, oNLtF, oNLeT, oNLeF, oEqT, oEqF, oNEqT, oNEqF, oBeqT, oBeqF, oBneT, oBneF, Int.natCast_add, List.take_length]
  by_cases a11 : a = 11
  · subst a11; simp only [actN, Int.reduceEq, if_false, if_true, Int.reduceBEq, Bool.or_false, or_self]
    have sd' := sn 6 ca.2.1
    generalize sndN (6, ca.2.1, []) q = q2 at *
    simp only [dBlk, dRow, cv, b8_nil] at *
    simp -implicitDefEqProofs (maxSteps := 2000000) (disch := omega) only [nego_doer_do.s, h, g, s, sl, sd', al_acc, al_sd, ite_self, sd_cells, sd_cp, sd_cp1, sd_good, sd_refs, sd_agg, ac_cells, ac_cp1, ac_good, ac_refs, ac_agg, go_sem, reduceIte, Nat.reduceAdd, Nat.reduceSub, Nat.reduceMul, Nat.reduceLeDiff, Nat.reduceLT, Nat.reduceEqDiff, Int.reduceToNat, Int.reduceLT, Int.reduceLE, Int.reduceEq, Int.reduceNe, Int.reduceAdd, Int.reduceSub, Int.reduceMul, Int.reduceNeg, Int.reduceBEq, Int.reduceBNe, reduceCtorEq, dreduceIte, oWS, oW8, oW16, oW32, oW64, oLtT, oLtF, oLeT, oLeF, oNLtT, oNLtF, oNLeT, oNLeF, oEqT, oEqF, oNEqT, oNEqF, oBeqT, oBeqF, oBneT, oBneF, Int.natCast_add, List.take_length]
  by_cases a12 : a = 12
  · subst a12; simp only [actN, Int.reduceEq, if_false, if_true, Int.reduceBEq, Bool.or_false, or_self]
    have sd' := sdn (7, idN q.1, cutR (layC ca).1 1400)
    have rj := c_reject (idN q.1) ca 1400 hc (by constructor <;> decide)
    have nx0 := d_next b q ca an 0 [[dBlk b q ca an]] (by simp) rfl
    have nx' : run G 124 [.ptr ⟨0, 0⟩ 0 0] [[dBlk b q ca an]] = some (.v (.int .u8 (idN q.1)), [[dBlk b ({ q.1 with id := idN q.1 }, q.2) ca an]]) := nx0
    clear nx0
    generalize cutR (layC ca).1 1400 = cu at *
    generalize idN q.1 = m at *
    simp only [dBlk, dRow, cv, sndN] at *
    simp -implicitDefEqProofs (maxSteps := 2000000) (disch := omega) only [nego_doer_do.s, h, g, s, sl, nx', sd', rj, sameD_refl, al_acc, al_sd, ite_self, sd_cells, sd_cp, sd_cp1, sd_good, sd_refs, sd_agg, ac_cells, ac_cp1, ac_good, ac_refs, ac_agg, go_sem, reduceIte, Nat.reduceAdd, Nat.reduceSub, Nat.reduceMul, Nat.reduceLeDiff, Nat.reduceLT, Nat.reduceEqDiff, Int.reduceToNat, Int.reduceLT, Int.reduceLE, Int.reduceEq, Int.reduceNe, Int.reduceAdd, Int.reduceSub, Int.reduceMul, Int.reduceNeg, Int.reduceBEq, Int.reduceBNe, reduceCtorEq, dreduceIte, oWS, oW8, oW16, oW32, oW64, oLtT, oLtF, oLeT, oLeF, oNLtT, oNLtF, oNLeT, oNLeF, oEqT, oEqF, oNEqT, oNEqF, oBeqT, oBeqF, oBneT, oBneF, Int.natCast_add, List.take_length]
  · have e : actN term ca an a q = q := by simp only [actN, a1, a2, a3, a4, a5, a6, a7, a8, a9, a10, a11, a12, if_false, or_self]
    have e7 : (a == 7) = false := beq_ne a7
    rw [e, e7, Bool.or_false, e0]
    simp -implicitDefEqProofs (maxSteps := 2000000) (disch := omega) only [nego_doer_do.s, go_sem, reduceIte, Nat.reduceAdd, Nat.reduceSub, Nat.reduceMul, Nat.reduceLeDiff, Nat.reduceLT, Nat.reduceEqDiff, Int.reduceToNat, Int.reduceLT, Int.reduceLE, Int.reduceEq, Int.reduceNe, Int.reduceAdd, Int.reduceSub, Int.reduceMul, Int.reduceNeg, Int.reduceBEq, Int.reduceBNe, reduceCtorEq, dreduceIte, oWS, oW8, oW16, oW32, oW64, oLtT, oLtF, oLeT, oLeF, oNLtT, oNLtF, oNLeT, oNLeF, oEqT, oEqF, oNEqT, oNEqF, oBeqT, oBeqF, oBneT, oBneF, Int.natCast_add, List.take_length]
def acsN (term : Bool) (ca an : Ctl) (l : List Int) (q : Ng × Ou) : Ng × Ou := l.foldl (fun q a => actN term ca an a q) q
theorem acsN_succ {term : Bool} {ca an : Ctl} {l : List Int} {q : Ng × Ou} {i : Nat} (h : i < l.length) : acsN term ca an (l.take (i + 1)) q = actN term ca an l[i] (acsN term ca an (l.take i) q) := by
  rw [take_succ h, acsN, List.foldl_append]; rfl
theorem ite_P {α : Type} {P : α → Prop} {c : Prop} [Decidable c] {x y : α} (hx : P x) (hy : P y) : P (if c then x else y) := by
  split
  · exact hx
  · exact hy
theorem act_pk (term : Bool) (ca an : Ctl) (a : Int) (q : Ng × Ou) : (actN term ca an a q).2.pk.length ≤ q.2.pk.length + 1 := by
  let P : Ng × Ou → Prop := fun z => z.2.pk.length ≤ q.2.pk.length + 1
  show P _
  unfold actN
  repeat' apply ite_P (P := P)
  all_goals simp [P, sndN, senN]
theorem acs_pk (term : Bool) (ca an : Ctl) : ∀ (l : List Int) (q : Ng × Ou), (acsN term ca an l q).2.pk.length ≤ q.2.pk.length + l.length
  | [], q => by simp [acsN]
  | a :: l, q => by
    have h1 := act_pk term ca an a q
    have h2 := acs_pk term ca an l (actN term ca an a q)
    have e : acsN term ca an (a :: l) q = acsN term ca an l (actN term ca an a q) := rfl
    rw [e, List.length_cons]; omega
theorem act_ok (term : Bool) (ca an : Ctl) (a : Int) (q : Ng × Ou) (h : okN q.1) : okN (actN term ca an a q).1 := by
  obtain ⟨⟨h1, h2⟩, h3⟩ := h
  let P : Ng × Ou → Prop := fun z => okN z.1
  show P _
  unfold actN
  repeat' apply ite_P (P := P)
  all_goals refine ⟨⟨?_, ?_⟩, h3⟩
  all_goals first | omega | (simp only [sndN, senN]; first | omega | (split <;> omega))
theorem acs_ok (term : Bool) (ca an : Ctl) : ∀ (l : List Int) (q : Ng × Ou), okN q.1 → okN (acsN term ca an l q).1
  | [], q, h => h
  | a :: l, q, h => acs_ok term ca an l (actN term ca an a q) (act_ok term ca an a q h)
def evN (n : Ng) (e : Int) (ca an : Ctl) : Ng × Ou :=
  if (nxR n.st e).2.2 = 0 then
    let q := acsN ((nxR n.st e).2.1.contains 10) ca an (nxR n.st e).2.1 ({ n with st := (nxR n.st e).1 }, noOu)
    if (nxR (nxR n.st e).1 4).2.2 = 0 then q else ({ q.1 with left := 0 }, q.2)
  else (n, noOu)
def rqB : List Int → Bool
  | [] => false
  | a :: l => a == 7 || rqB l
def rqN (l : List Int) (i : Nat) : Bool := (l.take i).foldl (fun b a => b || a == 7) false
theorem rqN_succ {l : List Int} {i : Nat} (h : i < l.length) : rqN l (i + 1) = (rqN l i || l[i] == 7) := by
  rw [rqN, take_succ h, List.foldl_append]; rfl
theorem n_event (n : Ng) (e : Int) (ca an : Ctl) (ho : okN n) (hc : ca.2.2.length ≤ 10000) :
    run G 51 [.v (nv n), .v (.int .i64 e), .v (cv ca), .v (cv an)] [] = some (.tup [.v (nv (evN n e ca an).1), .v (ov (evN n e ca an).2)], []) := by
  have hn := f_next n.st e
  have ht := f_timed (nxR n.st e).1
  have hl := nx_len n.st e
  rw [xq_fn G rfl nego_Nego_event.g _ _ rfl]
  unfold nxD at hn
  unfold evN
  generalize nxR n.st e = x at *
  obtain ⟨s, l, bad⟩ := x
  simp only at *
  by_cases hb : bad = 0
  · subst hb
    rw [if_pos rfl]
    let n0 : Ng := { n with st := s }
    let Q : Nat → Ng × Ou := fun i => acsN (l.contains 10) ca an (l.take i) (n0, noOu)
    have okQ : ∀ i, okN (Q i).1 := fun i => acs_ok _ _ _ _ _ ho
    have pkQ : ∀ i, i ≤ l.length → (Q i).2.pk.length ≤ 4 := fun i hi => by
      have := acs_pk (l.contains 10) ca an (l.take i) (n0, noOu)
      simp only [List.length_take, List.length_nil] at this
      show (acsN (l.contains 10) ca an (l.take i) (n0, noOu)).2.pk.length ≤ 4
      omega
    have ct := n_contains l 10 (by have : M = 100000 := rfl; omega)
    have L := lpFor (G := G) (kill := [16]) (body := nego_Nego_event.l0) (fun i => [.v (nv n), .v (.int .i64 e), .v (cv ca), .v (cv an), .ptr ⟨0, 0⟩ 0 0, .ptr ⟨0, 1⟩ 0 0, .ptr ⟨0, 2⟩ 0 0, .ptr ⟨0, 3⟩ 0 0, .ptr ⟨0, 4⟩ 0 0, .v (.int .i64 s), .lin 1 (i64s l), .v (.int .i64 0), .ptr ⟨0, 5⟩ 0 0, .v (.slc 1 (i64s l)), .v (.int .i64 (l.length : Nat)), .v (.int .i64 i), .undef])
      (fun i => [[.row [.v (nv n0)], .row [.v (cv ca)], .row [.v (cv an)], .row [.agg [.v (.int .i64 0), .v (.int .i64 0), .v (.int .i64 0), .v (.int .u8 0), .nils 2, .v (.bool false), .v (.int .u16 0), .v (.int .u32 0), .v (.bool false), .v (.bool false), .v (.bool false), .v (.int .u32 0), .v (.int .u32 0), .v (.int .u32 0), .v (.bool false), .nils 2, .v (.int .i64 0)]], .row [.agg [.nils 3, .v (.bool false), .v (.bool false), .v (.bool false), .v (.bool false)]], dBlk (rqN l i) (Q i) ca an]]) l.length
      (fun i hi => by
        have hx := i64s_at (List.getElem?_eq_getElem hi)
        have d := d_do (l.contains 10) l[i] (rqN l i) (Q i) ca an 5 ([] :: [[.row [.v (nv n0)], .row [.v (cv ca)], .row [.v (cv an)], .row [.agg [.v (.int .i64 0), .v (.int .i64 0), .v (.int .i64 0), .v (.int .u8 0), .nils 2, .v (.bool false), .v (.int .u16 0), .v (.int .u32 0), .v (.bool false), .v (.bool false), .v (.bool false), .v (.int .u32 0), .v (.int .u32 0), .v (.int .u32 0), .v (.bool false), .nils 2, .v (.int .i64 0)]], .row [.agg [.nils 3, .v (.bool false), .v (.bool false), .v (.bool false), .v (.bool false)]], dBlk (rqN l i) (Q i) ca an]]) (by simp) rfl (by have := pkQ i (by omega); omega) (okQ i) hc
        have d' : run G 83 [.ptr ⟨0, 5⟩ 0 0, .v (.int .i64 l[i]), .v (.bool (l.contains 10))] ([] :: [[.row [.v (nv n0)], .row [.v (cv ca)], .row [.v (cv an)], .row [.agg [.v (.int .i64 0), .v (.int .i64 0), .v (.int .i64 0), .v (.int .u8 0), .nils 2, .v (.bool false), .v (.int .u16 0), .v (.int .u32 0), .v (.bool false), .v (.bool false), .v (.bool false), .v (.int .u32 0), .v (.int .u32 0), .v (.int .u32 0), .v (.bool false), .nils 2, .v (.int .i64 0)]], .row [.agg [.nils 3, .v (.bool false), .v (.bool false), .v (.bool false), .v (.bool false)]], dBlk (rqN l i) (Q i) ca an]]) =
          some (.tup [], [] :: [[.row [.v (nv n0)], .row [.v (cv ca)], .row [.v (cv an)], .row [.agg [.v (.int .i64 0), .v (.int .i64 0), .v (.int .i64 0), .v (.int .u8 0), .nils 2, .v (.bool false), .v (.int .u16 0), .v (.int .u32 0), .v (.bool false), .v (.bool false), .v (.bool false), .v (.int .u32 0), .v (.int .u32 0), .v (.int .u32 0), .v (.bool false), .nils 2, .v (.int .i64 0)]], .row [.agg [.nils 3, .v (.bool false), .v (.bool false), .v (.bool false), .v (.bool false)]], dBlk (rqN l i || l[i] == 7) (actN (l.contains 10) ca an l[i] (Q i)) ca an]]) := d
        have e1 : Q (i + 1) = actN (l.contains 10) ca an l[i] (Q i) := acsN_succ hi
        rw [e1, rqN_succ hi]
        clear d
        generalize actN (l.contains 10) ca an l[i] (Q i) = q2 at *
        generalize Q i = q1 at *
        generalize (rqN l i || l[i] == 7) = b2 at *
        generalize rqN l i = b1 at *
        generalize n0 = nn at *
        simp -implicitDefEqProofs (maxSteps := 2000000) (disch := omega) only [nego_Nego_event.l0, hx, ct, d', i64s_len, go_sem, reduceIte, Nat.reduceAdd, Nat.reduceSub, Nat.reduceMul, Nat.reduceLeDiff, Nat.reduceLT, Nat.reduceEqDiff, Int.reduceToNat, Int.reduceLT, Int.reduceLE, Int.reduceEq, Int.reduceNe, Int.reduceAdd, Int.reduceSub, Int.reduceMul, Int.reduceNeg, Int.reduceBEq, Int.reduceBNe, reduceCtorEq, dreduceIte, oWS, oW8, oW16, oW32, oW64, oLtT, oLtF, oLeT, oLeF, oNLtT, oNLtF, oNLeT, oNLeF, oEqT, oEqF, oNEqT, oNEqF, oBeqT, oBeqF, oBneT, oBneF, Int.natCast_add, List.take_length]) (by simp -implicitDefEqProofs (maxSteps := 2000000) (disch := omega) only [nego_Nego_event.l0, go_sem, reduceIte, Nat.reduceAdd, Nat.reduceSub, Nat.reduceMul, Nat.reduceLeDiff, Nat.reduceLT, Nat.reduceEqDiff, Int.reduceToNat, Int.reduceLT, Int.reduceLE, Int.reduceEq, Int.reduceNe, Int.reduceAdd, Int.reduceSub, Int.reduceMul, Int.reduceNeg, Int.reduceBEq, Int.reduceBNe, reduceCtorEq, dreduceIte, oWS, oW8, oW16, oW32, oW64, oLtT, oLtF, oLeT, oLeF, oNLtT, oNLtF, oNLeT, oNLeF, oEqT, oEqF, oNEqT, oNEqF, oBeqT, oBeqF, oBneT, oBneF, Int.natCast_add, List.take_length]; rfl)
    have q0 : Q 0 = (n0, noOu) := rfl
    have ql : Q l.length = acsN (l.contains 10) ca an l (n0, noOu) := by show acsN _ _ _ (l.take l.length) _ = _; rw [List.take_length]
    have r0 : rqN l 0 = false := rfl
    rw [← ql]
    simp only [q0, r0] at L
    have rs := r_stop (Q l.length).1.cnt (Q l.length).1.left
    generalize rqN l l.length = bb at *
    generalize Q l.length = qq at *
    obtain ⟨n2, o2p, o2a, o2b, o2c, o2d⟩ := qq
    simp only [n0, noOu, dBlk, dRow, cvs_nil, accN, sentF, nv, cv, re] at *
    by_cases h4 : (nxR s 4).2.2 = 0
    · rw [if_pos h4]
      rw [decide_eq_true h4] at ht
      simp only [z0, Int.cast_ofNat_Int, List.take_zero, List.map_nil, List.drop_zero, accN, b8_nil, Int.sub_zero, Int.add_zero, Int.zero_add, Nat.zero_add, Nat.sub_zero, List.nil_append, List.append_nil] at L
      cases o2p with
      | nil => simp -implicitDefEqProofs (maxSteps := 2000000) (disch := omega) only [nego_Nego_event.s, nv, cv, ov, iv, hn, ht, L, i64s_len, Ref.mk.injEq, cvs_nil, accN, cvs_cons, accC, al_acc, al_sd, ite_self, sd_cells, sd_cp, sd_cp1, sd_good, sd_refs, sd_agg, ac_cells, ac_cp1, ac_good, ac_refs, ac_agg, go_sem, reduceIte, Nat.reduceAdd, Nat.reduceSub, Nat.reduceMul, Nat.reduceLeDiff, Nat.reduceLT, Nat.reduceEqDiff, Int.reduceToNat, Int.reduceLT, Int.reduceLE, Int.reduceEq, Int.reduceNe, Int.reduceAdd, Int.reduceSub, Int.reduceMul, Int.reduceNeg, Int.reduceBEq, Int.reduceBNe, reduceCtorEq, dreduceIte, oWS, oW8, oW16, oW32, oW64, oLtT, oLtF, oLeT, oLeF, oNLtT, oNLtF, oNLeT, oNLeF, oEqT, oEqF, oNEqT, oNEqF, oBeqT, oBeqF, oBneT, oBneF, Int.natCast_add, List.take_length]
      | cons p ps => simp only [cvs_cons, accC] at L; simp -implicitDefEqProofs (maxSteps := 2000000) (disch := omega) only [nego_Nego_event.s, nv, cv, ov, iv, hn, ht, L, i64s_len, Ref.mk.injEq, cvs_nil, accN, cvs_cons, accC, al_acc, al_sd, ite_self, sd_cells, sd_cp, sd_cp1, sd_good, sd_refs, sd_agg, ac_cells, ac_cp1, ac_good, ac_refs, ac_agg, go_sem, reduceIte, Nat.reduceAdd, Nat.reduceSub, Nat.reduceMul, Nat.reduceLeDiff, Nat.reduceLT, Nat.reduceEqDiff, Int.reduceToNat, Int.reduceLT, Int.reduceLE, Int.reduceEq, Int.reduceNe, Int.reduceAdd, Int.reduceSub, Int.reduceMul, Int.reduceNeg, Int.reduceBEq, Int.reduceBNe, reduceCtorEq, dreduceIte, oWS, oW8, oW16, oW32, oW64, oLtT, oLtF, oLeT, oLeF, oNLtT, oNLtF, oNLeT, oNLeF, oEqT, oEqF, oNEqT, oNEqF, oBeqT, oBeqF, oBneT, oBneF, Int.natCast_add, List.take_length]
    · rw [if_neg h4]
      rw [decide_eq_false h4] at ht
      simp only [z0, Int.cast_ofNat_Int, List.take_zero, List.map_nil, List.drop_zero, accN, b8_nil, Int.sub_zero, Int.add_zero, Int.zero_add, Nat.zero_add, Nat.sub_zero, List.nil_append, List.append_nil] at L
      cases o2p with
      | nil => simp -implicitDefEqProofs (maxSteps := 2000000) (disch := omega) only [nego_Nego_event.s, nv, cv, ov, iv, hn, ht, L, rs, i64s_len, Ref.mk.injEq, cvs_nil, accN, cvs_cons, accC, al_acc, al_sd, ite_self, sd_cells, sd_cp, sd_cp1, sd_good, sd_refs, sd_agg, ac_cells, ac_cp1, ac_good, ac_refs, ac_agg, go_sem, reduceIte, Nat.reduceAdd, Nat.reduceSub, Nat.reduceMul, Nat.reduceLeDiff, Nat.reduceLT, Nat.reduceEqDiff, Int.reduceToNat, Int.reduceLT, Int.reduceLE, Int.reduceEq, Int.reduceNe, Int.reduceAdd, Int.reduceSub, Int.reduceMul, Int.reduceNeg, Int.reduceBEq, Int.reduceBNe, reduceCtorEq, dreduceIte, oWS, oW8, oW16, oW32, oW64, oLtT, oLtF, oLeT, oLeF, oNLtT, oNLtF, oNLeT, oNLeF, oEqT, oEqF, oNEqT, oNEqF, oBeqT, oBeqF, oBneT, oBneF, Int.natCast_add, List.take_length]
      | cons p ps => simp only [cvs_cons, accC] at L; simp -implicitDefEqProofs (maxSteps := 2000000) (disch := omega) only [nego_Nego_event.s, nv, cv, ov, iv, hn, ht, L, rs, i64s_len, Ref.mk.injEq, cvs_nil, accN, cvs_cons, accC, al_acc, al_sd, ite_self, sd_cells, sd_cp, sd_cp1, sd_good, sd_refs, sd_agg, ac_cells, ac_cp1, ac_good, ac_refs, ac_agg, go_sem, reduceIte, Nat.reduceAdd, Nat.reduceSub, Nat.reduceMul, Nat.reduceLeDiff, Nat.reduceLT, Nat.reduceEqDiff, Int.reduceToNat, Int.reduceLT, Int.reduceLE, Int.reduceEq, Int.reduceNe, Int.reduceAdd, Int.reduceSub, Int.reduceMul, Int.reduceNeg, Int.reduceBEq, Int.reduceBNe, reduceCtorEq, dreduceIte, oWS, oW8, oW16, oW32, oW64, oLtT, oLtF, oLeT, oLeF, oNLtT, oNLtF, oNLeT, oNLeF, oEqT, oEqF, oNEqT, oNEqF, oBeqT, oBeqF, oBneT, oBneF, Int.natCast_add, List.take_length]
  · rw [if_neg hb]
    simp -implicitDefEqProofs (maxSteps := 2000000) (disch := omega) only [nego_Nego_event.s, nv, cv, ov, iv, hn, cvs_nil, go_sem, reduceIte, Nat.reduceAdd, Nat.reduceSub, Nat.reduceMul, Nat.reduceLeDiff, Nat.reduceLT, Nat.reduceEqDiff, Int.reduceToNat, Int.reduceLT, Int.reduceLE, Int.reduceEq, Int.reduceNe, Int.reduceAdd, Int.reduceSub, Int.reduceMul, Int.reduceNeg, Int.reduceBEq, Int.reduceBNe, reduceCtorEq, dreduceIte, oWS, oW8, oW16, oW32, oW64, oLtT, oLtF, oLeT, oLeF, oNLtT, oNLtF, oNLeT, oNLeF, oEqT, oEqF, oNEqT, oNEqF, oBeqT, oBeqF, oBneT, oBneF, Int.natCast_add, List.take_length]
end Go.Q
