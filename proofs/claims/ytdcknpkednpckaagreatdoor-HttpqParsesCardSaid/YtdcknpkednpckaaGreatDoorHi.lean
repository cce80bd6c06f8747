/- Words: what Fields and Find compute. No condition. -/
import Derived.Test.YtdcknpkednpckaaGreatDoorHf
set_option linter.all false
set_option maxRecDepth 100000
namespace Go.Q
open SOp SCode
attribute [local congr] bind_c map_c
def cut1 (c : UInt8) : List UInt8 → Option (List UInt8 × List UInt8)
  | [] => none
  | x :: s => if x = c then some ([], s) else (cut1 c s).map fun p => (x :: p.1, p.2)
theorem cut1_some {c : UInt8} : ∀ {s a b : List UInt8}, cut1 c s = some (a, b) → s = a ++ c :: b ∧ ∀ x ∈ a, ¬ x = c
  | [], a, b, h => by simp [cut1] at h
  | x :: s, a, b, h => by
    simp only [cut1] at h
    by_cases hx : x = c
    · rw [if_pos hx] at h
      cases h
      exact ⟨by rw [hx]; rfl, by simp⟩
    · rw [if_neg hx] at h
      cases h2 : cut1 c s with
      | none => rw [h2] at h; simp at h
      | some p =>
        rw [h2] at h
        obtain ⟨p1, p2⟩ := p
        simp only [Option.map_some, Option.some.injEq, Prod.mk.injEq] at h
        obtain ⟨rfl, rfl⟩ := h
        obtain ⟨e, k⟩ := cut1_some h2
        exact ⟨by rw [e]; rfl, fun y hy => by
          rcases List.mem_cons.1 hy with rfl | hy
          · exact hx
          · exact k y hy⟩
theorem cut1_none {c : UInt8} : ∀ {s : List UInt8}, cut1 c s = none → ∀ x ∈ s, ¬ x = c
  | [], h => by simp
  | x :: s, h => by
    simp only [cut1] at h
    by_cases hx : x = c
    · rw [if_pos hx] at h; cases h
    · rw [if_neg hx] at h
      cases h2 : cut1 c s with
      | none => intro y hy
                rcases List.mem_cons.1 hy with rfl | hy
                · exact hx
                · exact cut1_none h2 y hy
      | some p => rw [h2] at h; cases h
theorem ixS1 (c : UInt8) : ∀ s : List UInt8, ixS [c] s = (cut1 c s).map fun p => p.1.length
  | [] => rfl
  | x :: s => by
    have ih := ixS1 c s
    simp only [ixS, cut1]
    by_cases hx : x = c
    · subst hx; simp
    · rw [if_neg hx, if_neg (by simpa using fun e => hx e.symm), ih]
      cases cut1 c s <;> rfl
def cutO (c : UInt8) (s : List UInt8) : D := match cut1 c s with
  | none => .tup [.v (.str s), .v (.str []), .v (.bool false)]
  | some (a, b) => .tup [.v (.str a), .v (.str b), .v (.bool true)]
theorem p_cut (c : UInt8) (s : List UInt8) (h : s.length ≤ 100000) : run G 35 [.v (.str s), .v (.str [c])] [] = some (cutO c s, []) := by
  rw [xq_prim G (f := 35) (F := primPure cutF) (by rfl)]
  have e : cutF [.str s, .str [c]] = some (cutO c s) := by
    simp only [cutF]
    rw [if_pos (by omega)]
    simp only [cutV, cutO, ixS1]
    cases hc : cut1 c s with
    | none => rfl
    | some p =>
      obtain ⟨a, b⟩ := p
      obtain ⟨e, _⟩ := cut1_some hc
      simp only [Option.map_some]
      have e1 : s.take a.length = a := by rw [e]; simp
      have e2 : s.drop (a.length + [c].length) = b := by rw [e]; simp [List.drop_append]
      rw [e1, e2]
  simp only [primPure, allV, Option.map_some, Option.bind_some, e]
abbrev Fld := List UInt8 × List UInt8
abbrev fE (p : Fld) : V := .agg [.str p.1, .str p.2]
def fL (l : List Fld) : List V := l.map fE
theorem fL_len (l : List Fld) : (fL l).length = l.length := by simp [fL]
theorem fL_at {l : List Fld} {i : Nat} (h : i < l.length) : (fL l)[i]? = some (.agg [.str l[i].1, .str l[i].2]) := by simp [fL, h]
def tokS (s : List UInt8) : Bool := decide (1 ≤ s.length ∧ s.length ≤ 64) && s.all tokB
def fldR : List (List UInt8) → Option (List Fld)
  | [] => some []
  | s :: r => match cut1 58 s with
    | none => none
    | some (n, v) => if tokS n = true then (fldR r).map ((n, trimP v) :: ·) else none
def fieldsR (ls : List (List UInt8)) : List Fld × Int := if 32 < ls.length then ([], 5) else match fldR ls with
  | none => ([], 3)
  | some l => (l, 0)
abbrev flO (q : List Fld × Int) : D := .tup [.lin 2 (fL q.1), .v (.int .i64 q.2)]
abbrev wfE (ls : List (List UInt8)) (acc : List Fld) (i : Nat) : List D := [.v (.slc 1 (sL ls)), .nils 2, .v (.int .i64 0), accG 2 (fL acc), .v (.slc 1 (sL ls)), .v (.int .i64 ls.length), .v (.int .i64 i), .undef, .undef, .undef, .undef]
theorem wf_step (ls : List (List UInt8)) (hls : ls.length ≤ 32) (i : Nat) (s n v : List UInt8) (hx : (sL ls)[i]? = some (.str s)) (hi : i < ls.length) (hs : s.length ≤ 100000) (acc : List Fld) (ha : acc.length ≤ i) (hc : cut1 58 s = some (n, v)) (ht : tokS n = true) :
    rndE G [7, 8, 9, 10] words_Fields.l0 (wfE ls acc i) [[]] = some (.inl (wfE ls (acc ++ [(n, trimP v)]) (i + 1), [[]])) := by
  have I1 := p_cut 58 s hs
  have I2 := w_Token n
  obtain ⟨e, _⟩ := cut1_some hc
  have hsl : s.length = n.length + (v.length + 1) := by rw [e]; simp
  have I3 := w_Trim v (by omega)
  change run G 36 [.v (.str n)] [] = some (.v (.bool (tokS n)), []) at I2
  rw [ht] at I2
  simp only [cutO, hc] at I1
  generalize trimP v = tv at *
  have hM := hmax
  have hl := sL_len ls
  cases acc with
  | nil =>
    have eA : accG 2 (fL []) = .nils 2 := rfl
    have eB : accG 2 (fL ([] ++ [(n, tv)])) = .lin 2 [.agg [.str n, .str tv]] := rfl
    simp only [wfE]
    rw [eA, eB]
    simp -implicitDefEqProofs (maxSteps := 2000000) (disch := omega) only [words_Fields.l0, hl, hx, I1, I2, I3, hM, List.length_cons, List.length_nil, go_sem, reduceIte, Nat.reduceAdd, Nat.reduceSub, Nat.reduceMul, Nat.reduceLeDiff, Nat.reduceLT, Nat.reduceEqDiff, Int.reduceToNat, Int.reduceLT, Int.reduceLE, Int.reduceEq, Int.reduceNe, Int.reduceAdd, Int.reduceSub, Int.reduceMul, Int.reduceNeg, Int.reduceBEq, Int.reduceBNe, reduceCtorEq, dreduceIte, oWS, oW8, oW16, oW32, oW64, oLtT, oLtF, oLeT, oLeF, oNLtT, oNLtF, oNLeT, oNLeF, oEqT, oEqF, oNEqT, oNEqF, oBeqT, oBeqF, oBneT, oBneF, Int.natCast_add, List.take_length]
  | cons a as =>
    have eA : accG 2 (fL (a :: as)) = .lin 2 (.agg [.str a.1, .str a.2] :: fL as) := rfl
    have eB : accG 2 (fL ((a :: as) ++ [(n, tv)])) = .lin 2 (.agg [.str a.1, .str a.2] :: (fL as ++ [.agg [.str n, .str tv]])) := by simp [fL, accG]
    have hll : (fL as).length ≤ 100 := by rw [fL_len]; simp at ha; omega
    simp only [wfE]
    rw [eA, eB]
    simp -implicitDefEqProofs (maxSteps := 2000000) (disch := omega) only [words_Fields.l0, hl, hx, I1, I2, I3, hM, List.length_cons, List.length_nil, go_sem, reduceIte, Nat.reduceAdd, Nat.reduceSub, Nat.reduceMul, Nat.reduceLeDiff, Nat.reduceLT, Nat.reduceEqDiff, Int.reduceToNat, Int.reduceLT, Int.reduceLE, Int.reduceEq, Int.reduceNe, Int.reduceAdd, Int.reduceSub, Int.reduceMul, Int.reduceNeg, Int.reduceBEq, Int.reduceBNe, reduceCtorEq, dreduceIte, oWS, oW8, oW16, oW32, oW64, oLtT, oLtF, oLeT, oLeF, oNLtT, oNLtF, oNLeT, oNLeF, oEqT, oEqF, oNEqT, oNEqF, oBeqT, oBeqF, oBneT, oBneF, Int.natCast_add, List.take_length]
theorem wf_bad (ls : List (List UInt8)) (hls : ls.length ≤ 32) (i : Nat) (s : List UInt8) (hx : (sL ls)[i]? = some (.str s)) (hi : i < ls.length) (hs : s.length ≤ 100000) (acc : List Fld) (hc : cut1 58 s = none ∨ ∃ n v, cut1 58 s = some (n, v) ∧ tokS n = false) :
    ∃ x3 x4 x5 x6 x7 x8 x9 x10 : D, ex G (.loop [7, 8, 9, 10] words_Fields.l0) (wfE ls acc i) [[]] = some (.ret, [.v (.slc 1 (sL ls)), .nils 2, .v (.int .i64 3), x3, x4, x5, x6, x7, x8, x9, x10], [[]]) := by
  have I1 := p_cut 58 s hs
  have hl := sL_len ls
  rcases hc with hc | ⟨n, v, hc, ht⟩
  · simp only [cutO, hc] at I1
    refine ⟨accG 2 (fL acc), .v (.slc 1 (sL ls)), .v (.int .i64 ls.length), .v (.int .i64 i), .undef, .undef, .undef, .undef, rnd_end ?_⟩
    simp -implicitDefEqProofs (maxSteps := 2000000) (disch := omega) only [words_Fields.l0, hl, wfE, hx, I1, go_sem, reduceIte, Nat.reduceAdd, Nat.reduceSub, Nat.reduceMul, Nat.reduceLeDiff, Nat.reduceLT, Nat.reduceEqDiff, Int.reduceToNat, Int.reduceLT, Int.reduceLE, Int.reduceEq, Int.reduceNe, Int.reduceAdd, Int.reduceSub, Int.reduceMul, Int.reduceNeg, Int.reduceBEq, Int.reduceBNe, reduceCtorEq, dreduceIte, oWS, oW8, oW16, oW32, oW64, oLtT, oLtF, oLeT, oLeF, oNLtT, oNLtF, oNLeT, oNLeF, oEqT, oEqF, oNEqT, oNEqF, oBeqT, oBeqF, oBneT, oBneF, Int.natCast_add, List.take_length]
  · have I2 := w_Token n
    change run G 36 [.v (.str n)] [] = some (.v (.bool (tokS n)), []) at I2
    rw [ht] at I2
    simp only [cutO, hc] at I1
    refine ⟨accG 2 (fL acc), .v (.slc 1 (sL ls)), .v (.int .i64 ls.length), .v (.int .i64 i), .undef, .undef, .undef, .undef, rnd_end ?_⟩
    simp -implicitDefEqProofs (maxSteps := 2000000) (disch := omega) only [words_Fields.l0, hl, wfE, hx, I1, I2, go_sem, reduceIte, Nat.reduceAdd, Nat.reduceSub, Nat.reduceMul, Nat.reduceLeDiff, Nat.reduceLT, Nat.reduceEqDiff, Int.reduceToNat, Int.reduceLT, Int.reduceLE, Int.reduceEq, Int.reduceNe, Int.reduceAdd, Int.reduceSub, Int.reduceMul, Int.reduceNeg, Int.reduceBEq, Int.reduceBNe, reduceCtorEq, dreduceIte, oWS, oW8, oW16, oW32, oW64, oLtT, oLtF, oLeT, oLeF, oNLtT, oNLtF, oNLeT, oNLeF, oEqT, oEqF, oNEqT, oNEqF, oBeqT, oBeqF, oBneT, oBneF, Int.natCast_add, List.take_length]
theorem wf_loop (ls : List (List UInt8)) (hls : ls.length ≤ 32) (hs : ∀ x ∈ ls, x.length ≤ 100000) : ∀ (rest pre : List (List UInt8)) (acc : List Fld), ls = pre ++ rest → acc.length ≤ pre.length →
    (∀ l, fldR rest = some l → ex G (.loop [7, 8, 9, 10] words_Fields.l0) (wfE ls acc pre.length) [[]] = some (.exit 0, wfE ls (acc ++ l) ls.length, [[]])) ∧
    (fldR rest = none → ∃ x3 x4 x5 x6 x7 x8 x9 x10 : D, ex G (.loop [7, 8, 9, 10] words_Fields.l0) (wfE ls acc pre.length) [[]] = some (.ret, [.v (.slc 1 (sL ls)), .nils 2, .v (.int .i64 3), x3, x4, x5, x6, x7, x8, x9, x10], [[]]))
  | [], pre, acc, e, ha => by
    refine ⟨fun l h => ?_, fun h => by cases h⟩
    cases h
    have e1 : pre.length = ls.length := by rw [e]; simp
    rw [e1, List.append_nil]
    refine rnd_end ?_
    simp -implicitDefEqProofs (maxSteps := 2000000) (disch := omega) only [words_Fields.l0, wfE, go_sem, reduceIte, Nat.reduceAdd, Nat.reduceSub, Nat.reduceMul, Nat.reduceLeDiff, Nat.reduceLT, Nat.reduceEqDiff, Int.reduceToNat, Int.reduceLT, Int.reduceLE, Int.reduceEq, Int.reduceNe, Int.reduceAdd, Int.reduceSub, Int.reduceMul, Int.reduceNeg, Int.reduceBEq, Int.reduceBNe, reduceCtorEq, dreduceIte, oWS, oW8, oW16, oW32, oW64, oLtT, oLtF, oLeT, oLeF, oNLtT, oNLtF, oNLeT, oNLeF, oEqT, oEqF, oNEqT, oNEqF, oBeqT, oBeqF, oBneT, oBneF, Int.natCast_add, List.take_length]
  | s :: r, pre, acc, e, ha => by
    have hi : pre.length < ls.length := by rw [e]; simp
    have hxs : ls[pre.length] = s := by simp only [e]; simp
    have hx := sL_at hi
    rw [hxs] at hx
    have hsl := hs s (by rw [e]; simp)
    have hl' : (pre ++ [s]).length = pre.length + 1 := by simp
    cases hc : cut1 58 s with
    | none =>
      refine ⟨fun l h => by simp [fldR, hc] at h, fun _ => ?_⟩
      exact wf_bad ls hls _ s hx hi hsl acc (.inl hc)
    | some p =>
      obtain ⟨n, v⟩ := p
      cases ht : tokS n with
      | false =>
        refine ⟨fun l h => by simp [fldR, hc, ht] at h, fun _ => ?_⟩
        exact wf_bad ls hls _ s hx hi hsl acc (.inr ⟨n, v, hc, ht⟩)
      | true =>
        have ih := wf_loop ls hls hs r (pre ++ [s]) (acc ++ [(n, trimP v)]) (by rw [e]; simp) (by simp; omega)
        rw [hl'] at ih
        rw [rnd_step (wf_step ls hls _ s n v hx hi hsl acc ha hc ht)]
        refine ⟨fun l h => ?_, fun h => ih.2 ?_⟩
        · simp only [fldR, hc, ht, if_true] at h
          cases h2 : fldR r with
          | none => rw [h2] at h; cases h
          | some l2 =>
            rw [h2] at h
            cases h
            rw [ih.1 l2 h2]
            simp
        · simp only [fldR, hc, ht, if_true] at h
          cases h2 : fldR r with
          | none => rfl
          | some l2 => rw [h2] at h; cases h
theorem w_Fields (ls : List (List UInt8)) (h : ls.length ≤ 100000) (hs : ∀ x ∈ ls, x.length ≤ 100000) : run G 14 [.v (.slc 1 (sL ls))] [] = some (flO (fieldsR ls), []) := by
  have hl := sL_len ls
  unfold fieldsR
  by_cases h1 : 32 < ls.length
  · rw [xq_fn G rfl words_Fields.g _ _ rfl]
    rw [if_pos h1]
    show _ = some (D.tup [.lin 2 [], .v (.int .i64 5)], [])
    simp -implicitDefEqProofs (maxSteps := 2000000) (disch := omega) only [words_Fields.s, hl, go_sem, reduceIte, Nat.reduceAdd, Nat.reduceSub, Nat.reduceMul, Nat.reduceLeDiff, Nat.reduceLT, Nat.reduceEqDiff, Int.reduceToNat, Int.reduceLT, Int.reduceLE, Int.reduceEq, Int.reduceNe, Int.reduceAdd, Int.reduceSub, Int.reduceMul, Int.reduceNeg, Int.reduceBEq, Int.reduceBNe, reduceCtorEq, dreduceIte, oWS, oW8, oW16, oW32, oW64, oLtT, oLtF, oLeT, oLeF, oNLtT, oNLtF, oNLeT, oNLeF, oEqT, oEqF, oNEqT, oNEqF, oBeqT, oBeqF, oBneT, oBneF, Int.natCast_add, List.take_length]
  rw [if_neg h1]
  have L := wf_loop ls (by omega) hs ls [] [] rfl (Nat.le_refl _)
  have eA : accG 2 (fL []) = .nils 2 := rfl
  rw [xq_fn G rfl words_Fields.g _ _ rfl]
  cases hf : fldR ls with
  | none =>
    obtain ⟨x3, x4, x5, x6, x7, x8, x9, x10, L⟩ := L.2 hf
    simp only [wfE, eA, List.length_nil, z0, Int.cast_ofNat_Int, List.take_zero, List.map_nil, List.drop_zero, accN, b8_nil, Int.sub_zero, Int.add_zero, Int.zero_add, Nat.zero_add, Nat.sub_zero, List.nil_append, List.append_nil] at L
    show _ = some (D.tup [.lin 2 [], .v (.int .i64 3)], [])
    simp -implicitDefEqProofs (maxSteps := 2000000) (disch := omega) only [words_Fields.s, hl, L, go_sem, reduceIte, Nat.reduceAdd, Nat.reduceSub, Nat.reduceMul, Nat.reduceLeDiff, Nat.reduceLT, Nat.reduceEqDiff, Int.reduceToNat, Int.reduceLT, Int.reduceLE, Int.reduceEq, Int.reduceNe, Int.reduceAdd, Int.reduceSub, Int.reduceMul, Int.reduceNeg, Int.reduceBEq, Int.reduceBNe, reduceCtorEq, dreduceIte, oWS, oW8, oW16, oW32, oW64, oLtT, oLtF, oLeT, oLeF, oNLtT, oNLtF, oNLeT, oNLeF, oEqT, oEqF, oNEqT, oNEqF, oBeqT, oBeqF, oBneT, oBneF, Int.natCast_add, List.take_length]
  | some l =>
    have L := L.1 l hf
    simp only [wfE, eA, List.length_nil, List.nil_append, z0, Int.cast_ofNat_Int, List.take_zero, List.map_nil, List.drop_zero, accN, b8_nil, Int.sub_zero, Int.add_zero, Int.zero_add, Nat.zero_add, Nat.sub_zero, List.nil_append, List.append_nil] at L
    show _ = some (D.tup [.lin 2 (fL l), .v (.int .i64 0)], [])
    simp -implicitDefEqProofs (maxSteps := 2000000) (disch := omega) only [words_Fields.s, hl, L, go_sem, reduceIte, Nat.reduceAdd, Nat.reduceSub, Nat.reduceMul, Nat.reduceLeDiff, Nat.reduceLT, Nat.reduceEqDiff, Int.reduceToNat, Int.reduceLT, Int.reduceLE, Int.reduceEq, Int.reduceNe, Int.reduceAdd, Int.reduceSub, Int.reduceMul, Int.reduceNeg, Int.reduceBEq, Int.reduceBNe, reduceCtorEq, dreduceIte, oWS, oW8, oW16, oW32, oW64, oLtT, oLtF, oLeT, oLeF, oNLtT, oNLtF, oNLeT, oNLeF, oEqT, oEqF, oNEqT, oNEqF, oBeqT, oBeqF, oBneT, oBneF, Int.natCast_add, List.take_length]
abbrev rfE (ls : List (List UInt8)) (acc : List Fld) (i : Nat) (x5 : D) : List D := [.v (.slc 1 (sL ls)), .nils 2, .v (.int .i64 0), accG 2 (fL acc), .v (.int .i64 i), x5]
theorem rf_at (ls : List (List UInt8)) (hls : ls.length ≤ 32) (i : Nat) (s : List UInt8) (hx : (sL ls)[i]? = some (.str s)) (hi : i < ls.length) (hs : s.length ≤ 100000) (acc : List Fld) (m : Nat) (hm : m ≤ s.length) (hb : ∀ j, j < m → ∃ x, s[j]? = some x ∧ ¬ x = 58) (he : m = s.length ∨ s[m]? = some 58) :
    ex G (.loop [] euphroeref14_Fields.l1) (rfE ls acc i (.v (.int .i64 0))) [[], []] = some (.exit 2, rfE ls acc i (.v (.int .i64 m)), [[], []]) := by
  have hl := sL_len ls
  refine lpFor (G := G) (kill := []) (body := euphroeref14_Fields.l1) (fun j => rfE ls acc i (.v (.int .i64 j))) (fun _ => [[], []]) m (fun j hj => ?_) ?_
  · obtain ⟨x, h1, h2⟩ := hb j hj
    have h3 : ¬ (x.toNat : Int) = 58 := fun h => h2 (UInt8.toNat_inj.1 (by show x.toNat = 58; omega))
    simp -implicitDefEqProofs (maxSteps := 2000000) (disch := omega) only [euphroeref14_Fields.l1, rfE, hl, hx, h1, h3, go_sem, reduceIte, Nat.reduceAdd, Nat.reduceSub, Nat.reduceMul, Nat.reduceLeDiff, Nat.reduceLT, Nat.reduceEqDiff, Int.reduceToNat, Int.reduceLT, Int.reduceLE, Int.reduceEq, Int.reduceNe, Int.reduceAdd, Int.reduceSub, Int.reduceMul, Int.reduceNeg, Int.reduceBEq, Int.reduceBNe, reduceCtorEq, dreduceIte, oWS, oW8, oW16, oW32, oW64, oLtT, oLtF, oLeT, oLeF, oNLtT, oNLtF, oNLeT, oNLeF, oEqT, oEqF, oNEqT, oNEqF, oBeqT, oBeqF, oBneT, oBneF, Int.natCast_add, List.take_length]
  · rcases he with he | he
    · simp -implicitDefEqProofs (maxSteps := 2000000) (disch := omega) only [euphroeref14_Fields.l1, rfE, hl, hx, he, go_sem, reduceIte, Nat.reduceAdd, Nat.reduceSub, Nat.reduceMul, Nat.reduceLeDiff, Nat.reduceLT, Nat.reduceEqDiff, Int.reduceToNat, Int.reduceLT, Int.reduceLE, Int.reduceEq, Int.reduceNe, Int.reduceAdd, Int.reduceSub, Int.reduceMul, Int.reduceNeg, Int.reduceBEq, Int.reduceBNe, reduceCtorEq, dreduceIte, oWS, oW8, oW16, oW32, oW64, oLtT, oLtF, oLeT, oLeF, oNLtT, oNLtF, oNLeT, oNLeF, oEqT, oEqF, oNEqT, oNEqF, oBeqT, oBeqF, oBneT, oBneF, Int.natCast_add, List.take_length]
    · have h1 : m < s.length := (List.getElem?_eq_some_iff.1 he).1
      have h3 : ((58 : UInt8).toNat : Int) = 58 := rfl
      simp -implicitDefEqProofs (maxSteps := 2000000) (disch := omega) only [euphroeref14_Fields.l1, rfE, hl, hx, he, h3, go_sem, reduceIte, Nat.reduceAdd, Nat.reduceSub, Nat.reduceMul, Nat.reduceLeDiff, Nat.reduceLT, Nat.reduceEqDiff, Int.reduceToNat, Int.reduceLT, Int.reduceLE, Int.reduceEq, Int.reduceNe, Int.reduceAdd, Int.reduceSub, Int.reduceMul, Int.reduceNeg, Int.reduceBEq, Int.reduceBNe, reduceCtorEq, dreduceIte, oWS, oW8, oW16, oW32, oW64, oLtT, oLtF, oLeT, oLeF, oNLtT, oNLtF, oNLeT, oNLeF, oEqT, oEqF, oNEqT, oNEqF, oBeqT, oBeqF, oBneT, oBneF, Int.natCast_add, List.take_length]
theorem cut1_at {c : UInt8} {s a b : List UInt8} (h : cut1 c s = some (a, b)) : a.length < s.length ∧ (∀ j, j < a.length → ∃ x, s[j]? = some x ∧ ¬ x = c) ∧ s[a.length]? = some c ∧ s.take a.length = a ∧ s.drop (a.length + 1) = b := by
  obtain ⟨e, k⟩ := cut1_some h
  subst e
  refine ⟨by simp, fun j hj => ⟨a[j], by rw [List.getElem?_append_left hj, List.getElem?_eq_getElem hj], k _ (List.getElem_mem hj)⟩, by simp, by simp, by simp [List.drop_append]⟩
theorem cut1_atN {c : UInt8} {s : List UInt8} (h : cut1 c s = none) : ∀ j, j < s.length → ∃ x, s[j]? = some x ∧ ¬ x = c :=
  fun j hj => ⟨s[j], List.getElem?_eq_getElem hj, cut1_none h _ (List.getElem_mem hj)⟩
theorem rf_step (ls : List (List UInt8)) (hls : ls.length ≤ 32) (i : Nat) (s n v : List UInt8) (hx : (sL ls)[i]? = some (.str s)) (hi : i < ls.length) (hs : s.length ≤ 100000) (acc : List Fld) (ha : acc.length ≤ i) (hc : cut1 58 s = some (n, v)) (ht : tokS n = true) :
    rndE G [5] euphroeref14_Fields.l0 (rfE ls acc i .undef) [[]] = some (.inl (rfE ls (acc ++ [(n, trimP v)]) (i + 1) .undef, [[]])) := by
  obtain ⟨k1, k2, k3, k4, k5⟩ := cut1_at hc
  have L := rf_at ls hls i s hx hi hs acc n.length (by omega) k2 (.inr k3)
  have I2 := r_Token n (by omega)
  obtain ⟨e, _⟩ := cut1_some hc
  have hsl : s.length = n.length + (v.length + 1) := by rw [e]; simp
  have I3 := r_Trim v (by omega)
  change run G 41 [.v (.str n)] [] = some (.v (.bool (tokS n)), []) at I2
  rw [ht] at I2
  generalize trimP v = tv at *
  have hM := hmax
  have hl := sL_len ls
  have k6 : List.drop ((n.length : Int) + 1).toNat s = v := by rw [show ((n.length : Int) + 1).toNat = n.length + 1 by omega, k5]
  cases acc with
  | nil =>
    have eA : accG 2 (fL []) = .nils 2 := rfl
    have eB : accG 2 (fL ([] ++ [(n, tv)])) = .lin 2 [.agg [.str n, .str tv]] := rfl
    simp only [rfE] at L ⊢
    rw [eA] at L ⊢
    rw [eB]
    simp -implicitDefEqProofs (maxSteps := 2000000) (disch := omega) only [euphroeref14_Fields.l0, hl, hx, L, I2, I3, hM, k4, k5, k6, List.length_cons, List.length_nil, go_sem, reduceIte, Nat.reduceAdd, Nat.reduceSub, Nat.reduceMul, Nat.reduceLeDiff, Nat.reduceLT, Nat.reduceEqDiff, Int.reduceToNat, Int.reduceLT, Int.reduceLE, Int.reduceEq, Int.reduceNe, Int.reduceAdd, Int.reduceSub, Int.reduceMul, Int.reduceNeg, Int.reduceBEq, Int.reduceBNe, reduceCtorEq, dreduceIte, oWS, oW8, oW16, oW32, oW64, oLtT, oLtF, oLeT, oLeF, oNLtT, oNLtF, oNLeT, oNLeF, oEqT, oEqF, oNEqT, oNEqF, oBeqT, oBeqF, oBneT, oBneF, Int.natCast_add, List.take_length]
  | cons a as =>
    have eA : accG 2 (fL (a :: as)) = .lin 2 (.agg [.str a.1, .str a.2] :: fL as) := rfl
    have eB : accG 2 (fL ((a :: as) ++ [(n, tv)])) = .lin 2 (.agg [.str a.1, .str a.2] :: (fL as ++ [.agg [.str n, .str tv]])) := by simp [fL, accG]
    have hll : (fL as).length ≤ 100 := by rw [fL_len]; simp at ha; omega
    simp only [rfE] at L ⊢
    rw [eA] at L ⊢
    rw [eB]
    simp -implicitDefEqProofs (maxSteps := 2000000) (disch := omega) only [euphroeref14_Fields.l0, hl, hx, L, I2, I3, hM, k4, k5, k6, List.length_cons, List.length_nil, go_sem, reduceIte, Nat.reduceAdd, Nat.reduceSub, Nat.reduceMul, Nat.reduceLeDiff, Nat.reduceLT, Nat.reduceEqDiff, Int.reduceToNat, Int.reduceLT, Int.reduceLE, Int.reduceEq, Int.reduceNe, Int.reduceAdd, Int.reduceSub, Int.reduceMul, Int.reduceNeg, Int.reduceBEq, Int.reduceBNe, reduceCtorEq, dreduceIte, oWS, oW8, oW16, oW32, oW64, oLtT, oLtF, oLeT, oLeF, oNLtT, oNLtF, oNLeT, oNLeF, oEqT, oEqF, oNEqT, oNEqF, oBeqT, oBeqF, oBneT, oBneF, Int.natCast_add, List.take_length]
theorem rf_bad (ls : List (List UInt8)) (hls : ls.length ≤ 32) (i : Nat) (s : List UInt8) (hx : (sL ls)[i]? = some (.str s)) (hi : i < ls.length) (hs : s.length ≤ 100000) (acc : List Fld) (hc : cut1 58 s = none ∨ ∃ n v, cut1 58 s = some (n, v) ∧ tokS n = false) :
    ∃ x3 x4 x5 : D, ex G (.loop [5] euphroeref14_Fields.l0) (rfE ls acc i .undef) [[]] = some (.ret, [.v (.slc 1 (sL ls)), .nils 2, .v (.int .i64 3), x3, x4, x5], [[]]) := by
  have hl := sL_len ls
  refine ⟨accG 2 (fL acc), .v (.int .i64 i), .undef, rnd_end ?_⟩
  rcases hc with hc | ⟨n, v, hc, ht⟩
  · have L := rf_at ls hls i s hx hi hs acc s.length (Nat.le_refl _) (cut1_atN hc) (.inl rfl)
    simp only [rfE] at L
    simp -implicitDefEqProofs (maxSteps := 2000000) (disch := omega) only [euphroeref14_Fields.l0, hl, rfE, hx, L, go_sem, reduceIte, Nat.reduceAdd, Nat.reduceSub, Nat.reduceMul, Nat.reduceLeDiff, Nat.reduceLT, Nat.reduceEqDiff, Int.reduceToNat, Int.reduceLT, Int.reduceLE, Int.reduceEq, Int.reduceNe, Int.reduceAdd, Int.reduceSub, Int.reduceMul, Int.reduceNeg, Int.reduceBEq, Int.reduceBNe, reduceCtorEq, dreduceIte, oWS, oW8, oW16, oW32, oW64, oLtT, oLtF, oLeT, oLeF, oNLtT, oNLtF, oNLeT, oNLeF, oEqT, oEqF, oNEqT, oNEqF, oBeqT, oBeqF, oBneT, oBneF, Int.natCast_add, List.take_length]
  · obtain ⟨k1, k2, k3, k4, k5⟩ := cut1_at hc
    have L := rf_at ls hls i s hx hi hs acc n.length (by omega) k2 (.inr k3)
    have I2 := r_Token n (by omega)
    change run G 41 [.v (.str n)] [] = some (.v (.bool (tokS n)), []) at I2
    rw [ht] at I2
    simp only [rfE] at L
    simp -implicitDefEqProofs (maxSteps := 2000000) (disch := omega) only [euphroeref14_Fields.l0, hl, rfE, hx, L, I2, k4, go_sem, reduceIte, Nat.reduceAdd, Nat.reduceSub, Nat.reduceMul, Nat.reduceLeDiff, Nat.reduceLT, Nat.reduceEqDiff, Int.reduceToNat, Int.reduceLT, Int.reduceLE, Int.reduceEq, Int.reduceNe, Int.reduceAdd, Int.reduceSub, Int.reduceMul, Int.reduceNeg, Int.reduceBEq, Int.reduceBNe, reduceCtorEq, dreduceIte, oWS, oW8, oW16, oW32, oW64, oLtT, oLtF, oLeT, oLeF, oNLtT, oNLtF, oNLeT, oNLeF, oEqT, oEqF, oNEqT, oNEqF, oBeqT, oBeqF, oBneT, oBneF, Int.natCast_add, List.take_length]
theorem rf_loop (ls : List (List UInt8)) (hls : ls.length ≤ 32) (hs : ∀ x ∈ ls, x.length ≤ 100000) : ∀ (rest pre : List (List UInt8)) (acc : List Fld), ls = pre ++ rest → acc.length ≤ pre.length →
    (∀ l, fldR rest = some l → ex G (.loop [5] euphroeref14_Fields.l0) (rfE ls acc pre.length .undef) [[]] = some (.exit 0, rfE ls (acc ++ l) ls.length .undef, [[]])) ∧
    (fldR rest = none → ∃ x3 x4 x5 : D, ex G (.loop [5] euphroeref14_Fields.l0) (rfE ls acc pre.length .undef) [[]] = some (.ret, [.v (.slc 1 (sL ls)), .nils 2, .v (.int .i64 3), x3, x4, x5], [[]]))
  | [], pre, acc, e, ha => by
    refine ⟨fun l h => ?_, fun h => by cases h⟩
    cases h
    have e1 : pre.length = ls.length := by rw [e]; simp
    have hl := sL_len ls
    rw [e1, List.append_nil]
    refine rnd_end ?_
    simp -implicitDefEqProofs (maxSteps := 2000000) (disch := omega) only [euphroeref14_Fields.l0, hl, rfE, go_sem, reduceIte, Nat.reduceAdd, Nat.reduceSub, Nat.reduceMul, Nat.reduceLeDiff, Nat.reduceLT, Nat.reduceEqDiff, Int.reduceToNat, Int.reduceLT, Int.reduceLE, Int.reduceEq, Int.reduceNe, Int.reduceAdd, Int.reduceSub, Int.reduceMul, Int.reduceNeg, Int.reduceBEq, Int.reduceBNe, reduceCtorEq, dreduceIte, oWS, oW8, oW16, oW32, oW64, oLtT, oLtF, oLeT, oLeF, oNLtT, oNLtF, oNLeT, oNLeF, oEqT, oEqF, oNEqT, oNEqF, oBeqT, oBeqF, oBneT, oBneF, Int.natCast_add, List.take_length]
  | s :: r, pre, acc, e, ha => by
    have hi : pre.length < ls.length := by rw [e]; simp
    have hxs : ls[pre.length] = s := by simp only [e]; simp
    have hx := sL_at hi
    rw [hxs] at hx
    have hsl := hs s (by rw [e]; simp)
    have hl' : (pre ++ [s]).length = pre.length + 1 := by simp
    cases hc : cut1 58 s with
    | none =>
      refine ⟨fun l h => by simp [fldR, hc] at h, fun _ => ?_⟩
      exact rf_bad ls hls _ s hx hi hsl acc (.inl hc)
    | some p =>
      obtain ⟨n, v⟩ := p
      cases ht : tokS n with
      | false =>
        refine ⟨fun l h => by simp [fldR, hc, ht] at h, fun _ => ?_⟩
        exact rf_bad ls hls _ s hx hi hsl acc (.inr ⟨n, v, hc, ht⟩)
      | true =>
        have ih := rf_loop ls hls hs r (pre ++ [s]) (acc ++ [(n, trimP v)]) (by rw [e]; simp) (by simp; omega)
        rw [hl'] at ih
        rw [rnd_step (rf_step ls hls _ s n v hx hi hsl acc ha hc ht)]
        refine ⟨fun l h => ?_, fun h => ih.2 ?_⟩
        · simp only [fldR, hc, ht, if_true] at h
          cases h2 : fldR r with
          | none => rw [h2] at h; cases h
          | some l2 =>
            rw [h2] at h
            cases h
            rw [ih.1 l2 h2]
            simp
        · simp only [fldR, hc, ht, if_true] at h
          cases h2 : fldR r with
          | none => rfl
          | some l2 => rw [h2] at h; cases h
theorem r_Fields (ls : List (List UInt8)) (h : ls.length ≤ 100000) (hs : ∀ x ∈ ls, x.length ≤ 100000) : run G 18 [.v (.slc 1 (sL ls))] [] = some (flO (fieldsR ls), []) := by
  have hl := sL_len ls
  unfold fieldsR
  by_cases h1 : 32 < ls.length
  · rw [xq_fn G rfl euphroeref14_Fields.g _ _ rfl]
    rw [if_pos h1]
    show _ = some (D.tup [.lin 2 [], .v (.int .i64 5)], [])
    simp -implicitDefEqProofs (maxSteps := 2000000) (disch := omega) only [euphroeref14_Fields.s, hl, go_sem, reduceIte, Nat.reduceAdd, Nat.reduceSub, Nat.reduceMul, Nat.reduceLeDiff, Nat.reduceLT, Nat.reduceEqDiff, Int.reduceToNat, Int.reduceLT, Int.reduceLE, Int.reduceEq, Int.reduceNe, Int.reduceAdd, Int.reduceSub, Int.reduceMul, Int.reduceNeg, Int.reduceBEq, Int.reduceBNe, reduceCtorEq, dreduceIte, oWS, oW8, oW16, oW32, oW64, oLtT, oLtF, oLeT, oLeF, oNLtT, oNLtF, oNLeT, oNLeF, oEqT, oEqF, oNEqT, oNEqF, oBeqT, oBeqF, oBneT, oBneF, Int.natCast_add, List.take_length]
  rw [if_neg h1]
  have L := rf_loop ls (by omega) hs ls [] [] rfl (Nat.le_refl _)
  have eA : accG 2 (fL []) = .nils 2 := rfl
  rw [xq_fn G rfl euphroeref14_Fields.g _ _ rfl]
  cases hf : fldR ls with
  | none =>
    obtain ⟨x3, x4, x5, L⟩ := L.2 hf
    simp only [rfE, eA, List.length_nil, z0, Int.cast_ofNat_Int, List.take_zero, List.map_nil, List.drop_zero, accN, b8_nil, Int.sub_zero, Int.add_zero, Int.zero_add, Nat.zero_add, Nat.sub_zero, List.nil_append, List.append_nil] at L
    show _ = some (D.tup [.lin 2 [], .v (.int .i64 3)], [])
    simp -implicitDefEqProofs (maxSteps := 2000000) (disch := omega) only [euphroeref14_Fields.s, hl, L, go_sem, reduceIte, Nat.reduceAdd, Nat.reduceSub, Nat.reduceMul, Nat.reduceLeDiff, Nat.reduceLT, Nat.reduceEqDiff, Int.reduceToNat, Int.reduceLT, Int.reduceLE, Int.reduceEq, Int.reduceNe, Int.reduceAdd, Int.reduceSub, Int.reduceMul, Int.reduceNeg, Int.reduceBEq, Int.reduceBNe, reduceCtorEq, dreduceIte, oWS, oW8, oW16, oW32, oW64, oLtT, oLtF, oLeT, oLeF, oNLtT, oNLtF, oNLeT, oNLeF, oEqT, oEqF, oNEqT, oNEqF, oBeqT, oBeqF, oBneT, oBneF, Int.natCast_add, List.take_length]
  | some l =>
    have L := L.1 l hf
    simp only [rfE, eA, List.length_nil, List.nil_append, z0, Int.cast_ofNat_Int, List.take_zero, List.map_nil, List.drop_zero, accN, b8_nil, Int.sub_zero, Int.add_zero, Int.zero_add, Nat.zero_add, Nat.sub_zero, List.nil_append, List.append_nil] at L
    show _ = some (D.tup [.lin 2 (fL l), .v (.int .i64 0)], [])
    simp -implicitDefEqProofs (maxSteps := 2000000) (disch := omega) only [euphroeref14_Fields.s, hl, L, go_sem, reduceIte, Nat.reduceAdd, Nat.reduceSub, Nat.reduceMul, Nat.reduceLeDiff, Nat.reduceLT, Nat.reduceEqDiff, Int.reduceToNat, Int.reduceLT, Int.reduceLE, Int.reduceEq, Int.reduceNe, Int.reduceAdd, Int.reduceSub, Int.reduceMul, Int.reduceNeg, Int.reduceBEq, Int.reduceBNe, reduceCtorEq, dreduceIte, oWS, oW8, oW16, oW32, oW64, oLtT, oLtF, oLeT, oLeF, oNLtT, oNLtF, oNLeT, oNLeF, oEqT, oEqF, oNEqT, oNEqF, oBeqT, oBeqF, oBneT, oBneF, Int.natCast_add, List.take_length]
def likeB (nm : List UInt8) (p : Fld) : Bool := p.1.map lowB == nm.map lowB
def fdS (nm : List UInt8) : List Fld → Option (List UInt8) → Option (Option (List UInt8))
  | [], q => some q
  | p :: r, q => if likeB nm p = true then (match q with
    | none => fdS nm r (some p.2)
    | some _ => none) else fdS nm r q
def findR (nm : List UInt8) (l : List Fld) : List UInt8 × Int := match fdS nm l none with
  | none => ([], 7)
  | some none => ([], 6)
  | some (some v) => (v, 0)
abbrev fdO (q : List UInt8 × Int) : D := .tup [.v (.str q.1), .v (.int .i64 q.2)]
def fdV (q : Option (List UInt8)) : D := .v (.str (q.getD []))
def fdN (q : Option (List UInt8)) : D := .v (.int .i64 (match q with | none => 6 | some _ => 0))
abbrev wdE (l : List Fld) (nm : List UInt8) (q : Option (List UInt8)) (i : Nat) : List D := [.v (.slc 2 (fL l)), .v (.str nm), .v (.str []), .v (.int .i64 0), fdV q, fdN q, .v (.slc 2 (fL l)), .v (.int .i64 l.length), .v (.int .i64 i), .undef]
theorem wd_loop (nm : List UInt8) (hn : nm.length ≤ 100000) (l : List Fld) (hl : l.length ≤ 100000) (hs : ∀ p ∈ l, p.1.length ≤ 100000) : ∀ (rest pre : List Fld) (q : Option (List UInt8)), l = pre ++ rest →
    (∀ q2, fdS nm rest q = some q2 → ex G (.loop [9] words_Find.l0) (wdE l nm q pre.length) [[]] = some (.exit 0, wdE l nm q2 l.length, [[]])) ∧
    (fdS nm rest q = none → ∃ x4 x5 x6 x7 x8 x9 : D, ex G (.loop [9] words_Find.l0) (wdE l nm q pre.length) [[]] = some (.ret, [.v (.slc 2 (fL l)), .v (.str nm), .v (.str []), .v (.int .i64 7), x4, x5, x6, x7, x8, x9], [[]]))
  | [], pre, q, e => by
    refine ⟨fun l h => ?_, fun h => by cases h⟩
    cases h
    have e1 : pre.length = l.length := by rw [e]; simp
    have hl := fL_len l
    rw [e1]
    refine rnd_end ?_
    simp -implicitDefEqProofs (maxSteps := 2000000) (disch := omega) only [words_Find.l0, hl, wdE, fdV, fdN, go_sem, reduceIte, Nat.reduceAdd, Nat.reduceSub, Nat.reduceMul, Nat.reduceLeDiff, Nat.reduceLT, Nat.reduceEqDiff, Int.reduceToNat, Int.reduceLT, Int.reduceLE, Int.reduceEq, Int.reduceNe, Int.reduceAdd, Int.reduceSub, Int.reduceMul, Int.reduceNeg, Int.reduceBEq, Int.reduceBNe, reduceCtorEq, dreduceIte, oWS, oW8, oW16, oW32, oW64, oLtT, oLtF, oLeT, oLeF, oNLtT, oNLtF, oNLeT, oNLeF, oEqT, oEqF, oNEqT, oNEqF, oBeqT, oBeqF, oBneT, oBneF, Int.natCast_add, List.take_length]
  | p :: r, pre, q, e => by
    have hi : pre.length < l.length := by rw [e]; simp
    have hxs : l[pre.length] = p := by simp only [e]; simp
    have hx := fL_at hi
    rw [hxs] at hx
    have hsl := hs p (by rw [e]; simp)
    have hl' : (pre ++ [p]).length = pre.length + 1 := by simp
    have hll := fL_len l
    have I := w_Alike p.1 nm hsl hn
    change run G 88 [.v (.str p.1), .v (.str nm)] [] = some (.v (.bool (likeB nm p)), []) at I
    cases hk : likeB nm p with
    | false =>
      rw [hk] at I
      have ih := wd_loop nm hn l hl hs r (pre ++ [p]) q (by rw [e]; simp)
      rw [hl'] at ih
      have e2 : fdS nm (p :: r) q = fdS nm r q := by simp [fdS, hk]
      rw [e2, rnd_step (env' := wdE l nm q (pre.length + 1)) (st' := [[]]) (by generalize pre.length = i at *; simp -implicitDefEqProofs (maxSteps := 2000000) (disch := omega) only [words_Find.l0, wdE, hll, hx, I, fdV, fdN, go_sem, reduceIte, Nat.reduceAdd, Nat.reduceSub, Nat.reduceMul, Nat.reduceLeDiff, Nat.reduceLT, Nat.reduceEqDiff, Int.reduceToNat, Int.reduceLT, Int.reduceLE, Int.reduceEq, Int.reduceNe, Int.reduceAdd, Int.reduceSub, Int.reduceMul, Int.reduceNeg, Int.reduceBEq, Int.reduceBNe, reduceCtorEq, dreduceIte, oWS, oW8, oW16, oW32, oW64, oLtT, oLtF, oLeT, oLeF, oNLtT, oNLtF, oNLeT, oNLeF, oEqT, oEqF, oNEqT, oNEqF, oBeqT, oBeqF, oBneT, oBneF, Int.natCast_add, List.take_length])]
      exact ih
    | true =>
      rw [hk] at I
      cases q with
      | none =>
        have ih := wd_loop nm hn l hl hs r (pre ++ [p]) (some p.2) (by rw [e]; simp)
        rw [hl'] at ih
        have e2 : fdS nm (p :: r) none = fdS nm r (some p.2) := by simp [fdS, hk]
        rw [e2, rnd_step (env' := wdE l nm (some p.2) (pre.length + 1)) (st' := [[]]) (by generalize pre.length = i at *; simp -implicitDefEqProofs (maxSteps := 2000000) (disch := omega) only [words_Find.l0, wdE, hll, hx, I, fdV, fdN, Option.getD_some, Option.getD_none, go_sem, reduceIte, Nat.reduceAdd, Nat.reduceSub, Nat.reduceMul, Nat.reduceLeDiff, Nat.reduceLT, Nat.reduceEqDiff, Int.reduceToNat, Int.reduceLT, Int.reduceLE, Int.reduceEq, Int.reduceNe, Int.reduceAdd, Int.reduceSub, Int.reduceMul, Int.reduceNeg, Int.reduceBEq, Int.reduceBNe, reduceCtorEq, dreduceIte, oWS, oW8, oW16, oW32, oW64, oLtT, oLtF, oLeT, oLeF, oNLtT, oNLtF, oNLeT, oNLeF, oEqT, oEqF, oNEqT, oNEqF, oBeqT, oBeqF, oBneT, oBneF, Int.natCast_add, List.take_length])]
        exact ih
      | some v =>
        have e2 : fdS nm (p :: r) (some v) = none := by simp [fdS, hk]
        refine ⟨fun q2 h => (by rw [e2] at h; cases h), fun _ => ?_⟩
        refine ⟨fdV (some v), fdN (some v), .v (.slc 2 (fL l)), .v (.int .i64 l.length), .v (.int .i64 pre.length), .undef, rnd_end ?_⟩
        generalize pre.length = i at *
        simp -implicitDefEqProofs (maxSteps := 2000000) (disch := omega) only [words_Find.l0, wdE, hll, hx, I, fdV, fdN, Option.getD_some, Option.getD_none, go_sem, reduceIte, Nat.reduceAdd, Nat.reduceSub, Nat.reduceMul, Nat.reduceLeDiff, Nat.reduceLT, Nat.reduceEqDiff, Int.reduceToNat, Int.reduceLT, Int.reduceLE, Int.reduceEq, Int.reduceNe, Int.reduceAdd, Int.reduceSub, Int.reduceMul, Int.reduceNeg, Int.reduceBEq, Int.reduceBNe, reduceCtorEq, dreduceIte, oWS, oW8, oW16, oW32, oW64, oLtT, oLtF, oLeT, oLeF, oNLtT, oNLtF, oNLeT, oNLeF, oEqT, oEqF, oNEqT, oNEqF, oBeqT, oBeqF, oBneT, oBneF, Int.natCast_add, List.take_length]
theorem w_Find (nm : List UInt8) (hn : nm.length ≤ 100000) (l : List Fld) (hl : l.length ≤ 100000) (hs : ∀ p ∈ l, p.1.length ≤ 100000) : run G 62 [.v (.slc 2 (fL l)), .v (.str nm)] [] = some (fdO (findR nm l), []) := by
  have hll := fL_len l
  have L := wd_loop nm hn l hl hs l [] none rfl
  unfold findR
  rw [xq_fn G rfl words_Find.g _ _ rfl]
  cases hf : fdS nm l none with
  | none =>
    obtain ⟨x4, x5, x6, x7, x8, x9, L⟩ := L.2 hf
    simp only [wdE, fdV, fdN, Option.getD_none, List.length_nil, z0, Int.cast_ofNat_Int, List.take_zero, List.map_nil, List.drop_zero, accN, b8_nil, Int.sub_zero, Int.add_zero, Int.zero_add, Nat.zero_add, Nat.sub_zero, List.nil_append, List.append_nil] at L
    simp -implicitDefEqProofs (maxSteps := 2000000) (disch := omega) only [words_Find.s, hll, L, go_sem, reduceIte, Nat.reduceAdd, Nat.reduceSub, Nat.reduceMul, Nat.reduceLeDiff, Nat.reduceLT, Nat.reduceEqDiff, Int.reduceToNat, Int.reduceLT, Int.reduceLE, Int.reduceEq, Int.reduceNe, Int.reduceAdd, Int.reduceSub, Int.reduceMul, Int.reduceNeg, Int.reduceBEq, Int.reduceBNe, reduceCtorEq, dreduceIte, oWS, oW8, oW16, oW32, oW64, oLtT, oLtF, oLeT, oLeF, oNLtT, oNLtF, oNLeT, oNLeF, oEqT, oEqF, oNEqT, oNEqF, oBeqT, oBeqF, oBneT, oBneF, Int.natCast_add, List.take_length]
  | some q =>
    have L := L.1 q hf
    cases q with
    | none =>
      simp only [wdE, fdV, fdN, Option.getD_none, List.length_nil, z0, Int.cast_ofNat_Int, List.take_zero, List.map_nil, List.drop_zero, accN, b8_nil, Int.sub_zero, Int.add_zero, Int.zero_add, Nat.zero_add, Nat.sub_zero, List.nil_append, List.append_nil] at L
      simp -implicitDefEqProofs (maxSteps := 2000000) (disch := omega) only [words_Find.s, hll, L, go_sem, reduceIte, Nat.reduceAdd, Nat.reduceSub, Nat.reduceMul, Nat.reduceLeDiff, Nat.reduceLT, Nat.reduceEqDiff, Int.reduceToNat, Int.reduceLT, Int.reduceLE, Int.reduceEq, Int.reduceNe, Int.reduceAdd, Int.reduceSub, Int.reduceMul, Int.reduceNeg, Int.reduceBEq, Int.reduceBNe, reduceCtorEq, dreduceIte, oWS, oW8, oW16, oW32, oW64, oLtT, oLtF, oLeT, oLeF, oNLtT, oNLtF, oNLeT, oNLeF, oEqT, oEqF, oNEqT, oNEqF, oBeqT, oBeqF, oBneT, oBneF, Int.natCast_add, List.take_length]
    | some v =>
      simp only [wdE, fdV, fdN, Option.getD_none, Option.getD_some, List.length_nil, z0, Int.cast_ofNat_Int, List.take_zero, List.map_nil, List.drop_zero, accN, b8_nil, Int.sub_zero, Int.add_zero, Int.zero_add, Nat.zero_add, Nat.sub_zero, List.nil_append, List.append_nil] at L
      simp -implicitDefEqProofs (maxSteps := 2000000) (disch := omega) only [words_Find.s, hll, L, go_sem, reduceIte, Nat.reduceAdd, Nat.reduceSub, Nat.reduceMul, Nat.reduceLeDiff, Nat.reduceLT, Nat.reduceEqDiff, Int.reduceToNat, Int.reduceLT, Int.reduceLE, Int.reduceEq, Int.reduceNe, Int.reduceAdd, Int.reduceSub, Int.reduceMul, Int.reduceNeg, Int.reduceBEq, Int.reduceBNe, reduceCtorEq, dreduceIte, oWS, oW8, oW16, oW32, oW64, oLtT, oLtF, oLeT, oLeF, oNLtT, oNLtF, oNLeT, oNLeF, oEqT, oEqF, oNEqT, oNEqF, oBeqT, oBeqF, oBneT, oBneF, Int.natCast_add, List.take_length]
def cntF (nm : List UInt8) : List Fld → Nat × List UInt8 → Nat × List UInt8
  | [], s => s
  | p :: r, s => cntF nm r (if likeB nm p = true then (s.1 + 1, p.2) else s)
theorem cntF_t {nm : List UInt8} {p : Fld} (h : likeB nm p = true) (r : List Fld) (n : Nat) (u : List UInt8) : cntF nm (p :: r) (n, u) = cntF nm r (n + 1, p.2) := by simp [cntF, h]
theorem cntF_f {nm : List UInt8} {p : Fld} (h : likeB nm p = false) (r : List Fld) (s : Nat × List UInt8) : cntF nm (p :: r) s = cntF nm r s := by simp [cntF, h]
theorem cntF_ge (nm : List UInt8) : ∀ (l : List Fld) (n : Nat) (u : List UInt8), n ≤ (cntF nm l (n, u)).1 ∧ (cntF nm l (n, u)).1 ≤ n + l.length
  | [], n, u => ⟨Nat.le_refl _, Nat.le_refl _⟩
  | p :: r, n, u => by
    rw [List.length_cons]
    cases hk : likeB nm p with
    | true =>
      have := cntF_ge nm r (n + 1) p.2
      rw [cntF_t hk]
      omega
    | false =>
      have := cntF_ge nm r n u
      rw [cntF_f hk]
      omega
theorem fdS_some (nm : List UInt8) : ∀ (l : List Fld) (u : List UInt8), fdS nm l (some u) = if (cntF nm l (1, u)).1 = 1 then some (some (cntF nm l (1, u)).2) else none
  | [], u => rfl
  | p :: r, u => by
    cases hk : likeB nm p with
    | true =>
      have := (cntF_ge nm r (1 + 1) p.2).1
      rw [cntF_t hk, if_neg (by omega)]
      simp only [fdS, hk, if_true]
    | false =>
      rw [cntF_f hk, ← fdS_some nm r u]
      simp only [fdS, hk, Bool.false_eq_true, if_false]
theorem fdS_none (nm : List UInt8) : ∀ (l : List Fld) (u : List UInt8), fdS nm l none = if (cntF nm l (0, u)).1 = 0 then some none else if (cntF nm l (0, u)).1 = 1 then some (some (cntF nm l (0, u)).2) else none
  | [], u => rfl
  | p :: r, u => by
    cases hk : likeB nm p with
    | true =>
      have := (cntF_ge nm r (0 + 1) p.2).1
      have e := fdS_some nm r p.2
      rw [cntF_t hk, if_neg (by omega)]
      simp only [fdS, hk, if_true]
      exact e
    | false =>
      rw [cntF_f hk, ← fdS_none nm r u]
      simp only [fdS, hk, Bool.false_eq_true, if_false]
abbrev rdE (l : List Fld) (nm : List UInt8) (s : Nat × List UInt8) (i : Nat) : List D := [.v (.slc 2 (fL l)), .v (.str nm), .v (.str []), .v (.int .i64 0), .v (.int .i64 s.1), .v (.str s.2), .v (.int .i64 i)]
theorem rd_loop (nm : List UInt8) (hn : nm.length ≤ 100000) (l : List Fld) (hl : l.length ≤ 100000) (hs : ∀ p ∈ l, p.1.length ≤ 100000) : ∀ (rest pre : List Fld) (s : Nat × List UInt8), l = pre ++ rest → s.1 ≤ pre.length →
    ex G (.loop [] euphroeref14_Find.l0) (rdE l nm s pre.length) [[]] = some (.exit 0, rdE l nm (cntF nm rest s) l.length, [[]])
  | [], pre, s, e, _ => by
    have e1 : pre.length = l.length := by rw [e]; simp
    have hl := fL_len l
    rw [e1]
    refine rnd_end ?_
    simp -implicitDefEqProofs (maxSteps := 2000000) (disch := omega) only [euphroeref14_Find.l0, hl, rdE, cntF, go_sem, reduceIte, Nat.reduceAdd, Nat.reduceSub, Nat.reduceMul, Nat.reduceLeDiff, Nat.reduceLT, Nat.reduceEqDiff, Int.reduceToNat, Int.reduceLT, Int.reduceLE, Int.reduceEq, Int.reduceNe, Int.reduceAdd, Int.reduceSub, Int.reduceMul, Int.reduceNeg, Int.reduceBEq, Int.reduceBNe, reduceCtorEq, dreduceIte, oWS, oW8, oW16, oW32, oW64, oLtT, oLtF, oLeT, oLeF, oNLtT, oNLtF, oNLeT, oNLeF, oEqT, oEqF, oNEqT, oNEqF, oBeqT, oBeqF, oBneT, oBneF, Int.natCast_add, List.take_length]
  | p :: r, pre, s, e, h1 => by
    have hi : pre.length < l.length := by rw [e]; simp
    have hxs : l[pre.length] = p := by simp only [e]; simp
    have hx := fL_at hi
    rw [hxs] at hx
    have hsl := hs p (by rw [e]; simp)
    have hl' : (pre ++ [p]).length = pre.length + 1 := by simp
    have hll := fL_len l
    have I := r_Alike p.1 nm hsl hn
    change run G 43 [.v (.str p.1), .v (.str nm)] [] = some (.v (.bool (likeB nm p)), []) at I
    have ih := rd_loop nm hn l hl hs r (pre ++ [p]) (if likeB nm p = true then (s.1 + 1, p.2) else s) (by rw [e]; simp) (by split <;> simp <;> omega)
    rw [hl'] at ih
    simp only [cntF]
    rw [← ih]
    refine rnd_step ?_
    generalize pre.length = i at *
    cases hk : likeB nm p with
    | false =>
      rw [hk] at I
      simp -implicitDefEqProofs (maxSteps := 2000000) (disch := omega) only [euphroeref14_Find.l0, rdE, hll, hx, I, go_sem, reduceIte, Nat.reduceAdd, Nat.reduceSub, Nat.reduceMul, Nat.reduceLeDiff, Nat.reduceLT, Nat.reduceEqDiff, Int.reduceToNat, Int.reduceLT, Int.reduceLE, Int.reduceEq, Int.reduceNe, Int.reduceAdd, Int.reduceSub, Int.reduceMul, Int.reduceNeg, Int.reduceBEq, Int.reduceBNe, reduceCtorEq, dreduceIte, oWS, oW8, oW16, oW32, oW64, oLtT, oLtF, oLeT, oLeF, oNLtT, oNLtF, oNLeT, oNLeF, oEqT, oEqF, oNEqT, oNEqF, oBeqT, oBeqF, oBneT, oBneF, Int.natCast_add, List.take_length]
    | true =>
      rw [hk] at I
      simp -implicitDefEqProofs (maxSteps := 2000000) (disch := omega) only [euphroeref14_Find.l0, rdE, hll, hx, I, go_sem, reduceIte, Nat.reduceAdd, Nat.reduceSub, Nat.reduceMul, Nat.reduceLeDiff, Nat.reduceLT, Nat.reduceEqDiff, Int.reduceToNat, Int.reduceLT, Int.reduceLE, Int.reduceEq, Int.reduceNe, Int.reduceAdd, Int.reduceSub, Int.reduceMul, Int.reduceNeg, Int.reduceBEq, Int.reduceBNe, reduceCtorEq, dreduceIte, oWS, oW8, oW16, oW32, oW64, oLtT, oLtF, oLeT, oLeF, oNLtT, oNLtF, oNLeT, oNLeF, oEqT, oEqF, oNEqT, oNEqF, oBeqT, oBeqF, oBneT, oBneF, Int.natCast_add, List.take_length]
theorem r_Find (nm : List UInt8) (hn : nm.length ≤ 100000) (l : List Fld) (hl : l.length ≤ 100000) (hs : ∀ p ∈ l, p.1.length ≤ 100000) : run G 19 [.v (.slc 2 (fL l)), .v (.str nm)] [] = some (fdO (findR nm l), []) := by
  have hll := fL_len l
  have L := rd_loop nm hn l hl hs l [] (0, []) rfl (Nat.le_refl _)
  have hg := cntF_ge nm l 0 []
  unfold findR
  rw [fdS_none nm l []]
  generalize cntF nm l (0, []) = c at *
  obtain ⟨k, v⟩ := c
  simp only [Nat.zero_add] at hg
  simp only [rdE, List.length_nil, z0, Int.cast_ofNat_Int, List.take_zero, List.map_nil, List.drop_zero, accN, b8_nil, Int.sub_zero, Int.add_zero, Int.zero_add, Nat.zero_add, Nat.sub_zero, List.nil_append, List.append_nil] at L
  rw [xq_fn G rfl euphroeref14_Find.g _ _ rfl]
  by_cases h0 : k = 0
  · subst h0
    rw [if_pos rfl]
    simp -implicitDefEqProofs (maxSteps := 2000000) (disch := omega) only [euphroeref14_Find.s, hll, L, go_sem, reduceIte, Nat.reduceAdd, Nat.reduceSub, Nat.reduceMul, Nat.reduceLeDiff, Nat.reduceLT, Nat.reduceEqDiff, Int.reduceToNat, Int.reduceLT, Int.reduceLE, Int.reduceEq, Int.reduceNe, Int.reduceAdd, Int.reduceSub, Int.reduceMul, Int.reduceNeg, Int.reduceBEq, Int.reduceBNe, reduceCtorEq, dreduceIte, oWS, oW8, oW16, oW32, oW64, oLtT, oLtF, oLeT, oLeF, oNLtT, oNLtF, oNLeT, oNLeF, oEqT, oEqF, oNEqT, oNEqF, oBeqT, oBeqF, oBneT, oBneF, Int.natCast_add, List.take_length]
  rw [if_neg h0]
  by_cases h1 : k = 1
  · subst h1
    rw [if_pos rfl]
    simp -implicitDefEqProofs (maxSteps := 2000000) (disch := omega) only [euphroeref14_Find.s, hll, L, go_sem, reduceIte, Nat.reduceAdd, Nat.reduceSub, Nat.reduceMul, Nat.reduceLeDiff, Nat.reduceLT, Nat.reduceEqDiff, Int.reduceToNat, Int.reduceLT, Int.reduceLE, Int.reduceEq, Int.reduceNe, Int.reduceAdd, Int.reduceSub, Int.reduceMul, Int.reduceNeg, Int.reduceBEq, Int.reduceBNe, reduceCtorEq, dreduceIte, oWS, oW8, oW16, oW32, oW64, oLtT, oLtF, oLeT, oLeF, oNLtT, oNLtF, oNLeT, oNLeF, oEqT, oEqF, oNEqT, oNEqF, oBeqT, oBeqF, oBneT, oBneF, Int.natCast_add, List.take_length]
  rw [if_neg h1]
  simp -implicitDefEqProofs (maxSteps := 2000000) (disch := omega) only [euphroeref14_Find.s, hll, L, go_sem, reduceIte, Nat.reduceAdd, Nat.reduceSub, Nat.reduceMul, Nat.reduceLeDiff, Nat.reduceLT, Nat.reduceEqDiff, Int.reduceToNat, Int.reduceLT, Int.reduceLE, Int.reduceEq, Int.reduceNe, Int.reduceAdd, Int.reduceSub, Int.reduceMul, Int.reduceNeg, Int.reduceBEq, Int.reduceBNe, reduceCtorEq, dreduceIte, oWS, oW8, oW16, oW32, oW64, oLtT, oLtF, oLeT, oLeF, oNLtT, oNLtF, oNLeT, oNLeF, oEqT, oEqF, oNEqT, oNEqF, oBeqT, oBeqF, oBneT, oBneF, Int.natCast_add, List.take_length]
end Go.Q
