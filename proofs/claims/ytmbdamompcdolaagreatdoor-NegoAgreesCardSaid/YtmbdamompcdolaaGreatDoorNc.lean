/- Negotiations: what comes is judged, answered, and taken. No condition. -/
import Derived.Test.YtmbdamompcdolaaGreatDoorNb
set_option linter.all false
set_option maxRecDepth 100000
namespace Go.Q
open SOp SCode
attribute [local congr] bind_c map_c
theorem n_indexB (l : List Int) (k : Int) (hn : l.length ≤ M) : run G 133 [.v (.slc 1 (b8 l)), .v (.int .u8 k)] [] = some (.v (.int .i64 (if l.contains k = true then ((l.findIdx (· == k) : Nat) : Int) else -1)), []) := by
  rw [xq_fn G rfl slices_Index_byte.g _ _ rfl]
  have hM : M = 100000 := rfl
  rcases first_or (fun i => l[i]? = some k) l.length with h | ⟨j, h1, h2, h3⟩
  · have hc : l.contains k = false := by
      rw [Bool.eq_false_iff]
      intro hh
      obtain ⟨i, hi, e⟩ := List.mem_iff_getElem.1 (List.contains_iff_mem.1 hh)
      exact h i hi (by rw [List.getElem?_eq_getElem hi, e])
    have L := lpFor (G := G) (kill := [5]) (body := slices_Index_byte.l0) (fun i => [.v (.slc 1 (b8 l)), .v (.int .u8 k), .v (.int .i64 0), .v (.int .i64 (l.length : Nat)), .v (.int .i64 i), .undef]) (fun _ => [[]]) l.length
      (fun i hi => by
        have hx := b8_at (List.getElem?_eq_getElem hi)
        have hk : l[i] ≠ k := fun e => h i hi (by rw [List.getElem?_eq_getElem hi, e])
        have hb : (k == l[i]) = false := by rw [beq_eq_false_iff_ne]; exact fun e => hk e.symm
        simp -implicitDefEqProofs (maxSteps := 2000000) (disch := omega) only [slices_Index_byte.l0, hx, hb, b8_len, go_sem, reduceIte, Nat.reduceAdd, Nat.reduceSub, Nat.reduceMul, Nat.reduceLeDiff, Nat.reduceLT, Nat.reduceEqDiff, Int.reduceToNat, Int.reduceLT, Int.reduceLE, Int.reduceEq, Int.reduceNe, Int.reduceAdd, Int.reduceSub, Int.reduceMul, Int.reduceNeg, Int.reduceBEq, Int.reduceBNe, reduceCtorEq, dreduceIte, oWS, oW8, oW16, oW32, oW64, oLtT, oLtF, oLeT, oLeF, oNLtT, oNLtF, oNLeT, oNLeF, oEqT, oEqF, oNEqT, oNEqF, oBeqT, oBeqF, oBneT, oBneF, Int.natCast_add, List.take_length]) (by simp -implicitDefEqProofs (maxSteps := 2000000) (disch := omega) only [slices_Index_byte.l0, go_sem, reduceIte, Nat.reduceAdd, Nat.reduceSub, Nat.reduceMul, Nat.reduceLeDiff, Nat.reduceLT, Nat.reduceEqDiff, Int.reduceToNat, Int.reduceLT, Int.reduceLE, Int.reduceEq, Int.reduceNe, Int.reduceAdd, Int.reduceSub, Int.reduceMul, Int.reduceNeg, Int.reduceBEq, Int.reduceBNe, reduceCtorEq, dreduceIte, oWS, oW8, oW16, oW32, oW64, oLtT, oLtF, oLeT, oLeF, oNLtT, oNLtF, oNLeT, oNLeF, oEqT, oEqF, oNEqT, oNEqF, oBeqT, oBeqF, oBneT, oBneF, Int.natCast_add, List.take_length]; rfl)
    simp only [z0, Int.cast_ofNat_Int, List.take_zero, List.map_nil, List.drop_zero, accN, b8_nil, Int.sub_zero, Int.add_zero, Int.zero_add, Nat.zero_add, Nat.sub_zero, List.nil_append, List.append_nil] at L
    simp -implicitDefEqProofs (maxSteps := 2000000) (disch := omega) only [slices_Index_byte.s, L, b8_len, hc, go_sem, reduceIte, Nat.reduceAdd, Nat.reduceSub, Nat.reduceMul, Nat.reduceLeDiff, Nat.reduceLT, Nat.reduceEqDiff, Int.reduceToNat, Int.reduceLT, Int.reduceLE, Int.reduceEq, Int.reduceNe, Int.reduceAdd, Int.reduceSub, Int.reduceMul, Int.reduceNeg, Int.reduceBEq, Int.reduceBNe, reduceCtorEq, dreduceIte, oWS, oW8, oW16, oW32, oW64, oLtT, oLtF, oLeT, oLeF, oNLtT, oNLtF, oNLeT, oNLeF, oEqT, oEqF, oNEqT, oNEqF, oBeqT, oBeqF, oBneT, oBneF, Int.natCast_add, List.take_length]
  · have hj := List.getElem?_eq_getElem h1
    have e0 : l[j] = k := by rw [hj] at h2; exact Option.some.inj h2
    have hc : l.contains k = true := List.contains_iff_mem.2 (e0 ▸ List.getElem_mem h1)
    have hf : l.findIdx (· == k) = j := by
      rw [List.findIdx_eq h1]
      refine ⟨by simp [e0], fun i hi => ?_⟩
      have := h3 i hi
      rw [List.getElem?_eq_getElem (by omega)] at this
      simp only [Option.some.injEq] at this
      simpa using this
    have L := lpFor (G := G) (kill := [5]) (body := slices_Index_byte.l0) (fun i => [.v (.slc 1 (b8 l)), .v (.int .u8 k), .v (.int .i64 0), .v (.int .i64 (l.length : Nat)), .v (.int .i64 i), .undef]) (fun _ => [[]]) j
      (fun i hi => by
        have hx := b8_at (List.getElem?_eq_getElem (show i < l.length by omega))
        have hk : l[i] ≠ k := fun e => h3 i hi (by rw [List.getElem?_eq_getElem (by omega), e])
        have hb : (k == l[i]) = false := by rw [beq_eq_false_iff_ne]; exact fun e => hk e.symm
        simp -implicitDefEqProofs (maxSteps := 2000000) (disch := omega) only [slices_Index_byte.l0, hx, hb, b8_len, go_sem, reduceIte, Nat.reduceAdd, Nat.reduceSub, Nat.reduceMul, Nat.reduceLeDiff, Nat.reduceLT, Nat.reduceEqDiff, Int.reduceToNat, Int.reduceLT, Int.reduceLE, Int.reduceEq, Int.reduceNe, Int.reduceAdd, Int.reduceSub, Int.reduceMul, Int.reduceNeg, Int.reduceBEq, Int.reduceBNe, reduceCtorEq, dreduceIte, oWS, oW8, oW16, oW32, oW64, oLtT, oLtF, oLeT, oLeF, oNLtT, oNLtF, oNLeT, oNLeF, oEqT, oEqF, oNEqT, oNEqF, oBeqT, oBeqF, oBneT, oBneF, Int.natCast_add, List.take_length]) (by
        have hx := b8_at hj
        have hb : (k == l[j]) = true := by rw [e0]; exact beq_self_eq_true k
        simp -implicitDefEqProofs (maxSteps := 2000000) (disch := omega) only [slices_Index_byte.l0, hx, hb, b8_len, go_sem, reduceIte, Nat.reduceAdd, Nat.reduceSub, Nat.reduceMul, Nat.reduceLeDiff, Nat.reduceLT, Nat.reduceEqDiff, Int.reduceToNat, Int.reduceLT, Int.reduceLE, Int.reduceEq, Int.reduceNe, Int.reduceAdd, Int.reduceSub, Int.reduceMul, Int.reduceNeg, Int.reduceBEq, Int.reduceBNe, reduceCtorEq, dreduceIte, oWS, oW8, oW16, oW32, oW64, oLtT, oLtF, oLeT, oLeF, oNLtT, oNLtF, oNLeT, oNLeF, oEqT, oEqF, oNEqT, oNEqF, oBeqT, oBeqF, oBneT, oBneF, Int.natCast_add, List.take_length]; rfl)
    simp only [z0, Int.cast_ofNat_Int, List.take_zero, List.map_nil, List.drop_zero, accN, b8_nil, Int.sub_zero, Int.add_zero, Int.zero_add, Nat.zero_add, Nat.sub_zero, List.nil_append, List.append_nil] at L
    simp -implicitDefEqProofs (maxSteps := 2000000) (disch := omega) only [slices_Index_byte.s, L, b8_len, hc, hf, go_sem, reduceIte, Nat.reduceAdd, Nat.reduceSub, Nat.reduceMul, Nat.reduceLeDiff, Nat.reduceLT, Nat.reduceEqDiff, Int.reduceToNat, Int.reduceLT, Int.reduceLE, Int.reduceEq, Int.reduceNe, Int.reduceAdd, Int.reduceSub, Int.reduceMul, Int.reduceNeg, Int.reduceBEq, Int.reduceBNe, reduceCtorEq, dreduceIte, oWS, oW8, oW16, oW32, oW64, oLtT, oLtF, oLeT, oLeF, oNLtT, oNLtF, oNLeT, oNLeF, oEqT, oEqF, oNEqT, oNEqF, oBeqT, oBeqF, oBneT, oBneF, Int.natCast_add, List.take_length]
theorem n_containsB (l : List Int) (k : Int) (hn : l.length ≤ M) : run G 93 [.v (.slc 1 (b8 l)), .v (.int .u8 k)] [] = some (.v (.bool (l.contains k)), []) := by
  rw [xq_fn G rfl slices_Contains_byte.g _ _ rfl]
  have i := n_indexB l k hn
  generalize l.findIdx (· == k) = j at *
  cases h : l.contains k with
  | true =>
    rw [h, if_pos rfl] at i
    simp -implicitDefEqProofs (maxSteps := 2000000) (disch := omega) only [slices_Contains_byte.s, i, go_sem, reduceIte, Nat.reduceAdd, Nat.reduceSub, Nat.reduceMul, Nat.reduceLeDiff, Nat.reduceLT, Nat.reduceEqDiff, Int.reduceToNat, Int.reduceLT, Int.reduceLE, Int.reduceEq, Int.reduceNe, Int.reduceAdd, Int.reduceSub, Int.reduceMul, Int.reduceNeg, Int.reduceBEq, Int.reduceBNe, reduceCtorEq, dreduceIte, oWS, oW8, oW16, oW32, oW64, oLtT, oLtF, oLeT, oLeF, oNLtT, oNLtF, oNLeT, oNLeF, oEqT, oEqF, oNEqT, oNEqF, oBeqT, oBeqF, oBneT, oBneF, Int.natCast_add, List.take_length]
  | false =>
    rw [h] at i
    simp only [Bool.false_eq_true, if_false] at i
    simp -implicitDefEqProofs (maxSteps := 2000000) (disch := omega) only [slices_Contains_byte.s, i, go_sem, reduceIte, Nat.reduceAdd, Nat.reduceSub, Nat.reduceMul, Nat.reduceLeDiff, Nat.reduceLT, Nat.reduceEqDiff, Int.reduceToNat, Int.reduceLT, Int.reduceLE, Int.reduceEq, Int.reduceNe, Int.reduceAdd, Int.reduceSub, Int.reduceMul, Int.reduceNeg, Int.reduceBEq, Int.reduceBNe, reduceCtorEq, dreduceIte, oWS, oW8, oW16, oW32, oW64, oLtT, oLtF, oLeT, oLeF, oNLtT, oNLtF, oNLeT, oNLeF, oEqT, oEqF, oNEqT, oNEqF, oBeqT, oBeqF, oBneT, oBneF, Int.natCast_add, List.take_length]
abbrev kP : D := .ptr ⟨1, 0⟩ 0 0
abbrev kB (ks : List Int) : Blk := .row [.lin 1 (b8 ks)]
def dlB (ks : List Int) (o : Opt) : Bool := !(ks.contains o.1)
theorem n_del (o : Opt) (ks : List Int) (hk : ks.length ≤ 40) (st : St) (h1 : getB st ⟨1, 0⟩ = some (kB ks)) (h0 : 1 < st.length) : run G 92 [od o, kP] st = some (.v (.bool (dlB ks o)), st) := by
  rw [xq_fn G rfl nego_Nego_asked_1.g _ _ rfl]
  have c := n_containsB ks o.1 (by have : M = 100000 := rfl; omega)
  unfold dlB
  generalize ks.contains o.1 = q at *
  simp -implicitDefEqProofs (maxSteps := 2000000) (disch := omega) only [nego_Nego_asked_1.s, h1, c, go_sem, reduceIte, Nat.reduceAdd, Nat.reduceSub, Nat.reduceMul, Nat.reduceLeDiff, Nat.reduceLT, Nat.reduceEqDiff, Int.reduceToNat, Int.reduceLT, Int.reduceLE, Int.reduceEq, Int.reduceNe, Int.reduceAdd, Int.reduceSub, Int.reduceMul, Int.reduceNeg, Int.reduceBEq, Int.reduceBNe, reduceCtorEq, dreduceIte, oWS, oW8, oW16, oW32, oW64, oLtT, oLtF, oLeT, oLeF, oNLtT, oNLtF, oNLeT, oNLeF, oEqT, oEqF, oNEqT, oNEqF, oBeqT, oBeqF, oBneT, oBneF, Int.natCast_add, List.take_length]
abbrev kS (F0 : List Blk) (ks : List Int) (c : List Opt) : St := [[kB ks, .row ((oes c).map .v)], F0]
abbrev kO (n : Nat) : D := .own ⟨1, 1⟩ 2 0 n false
abbrev kC : D := .clo 92 [] [kP]
abbrev kxE (n i : Nat) : List D := [kO n, kC, .v (.int .i64 0), .v (.int .i64 n), .v (.int .i64 i), .undef]
theorem kx_step (F0 : List Blk) (l : List Opt) (ks : List Int) (hk : ks.length ≤ 40) (hn : l.length ≤ 40) (i : Nat) (hi : i < l.length) (h : dlB ks l[i] = false) :
    rndE G [5] slices_IndexFunc_api_Option.l0 (kxE l.length i) ([] :: [] :: kS F0 ks l) = some (.inl (kxE l.length (i + 1), [] :: [] :: kS F0 ks l)) := by
  have hx := row_at (List.getElem?_eq_getElem hi)
  have hd := n_del l[i] ks hk ([] :: [] :: [] :: kS F0 ks l) rfl (by simp)
  rw [h] at hd
  simp -implicitDefEqProofs (maxSteps := 2000000) (disch := omega) only [slices_IndexFunc_api_Option.l0, kxE, oes_len, hx, hd, go_sem, reduceIte, Nat.reduceAdd, Nat.reduceSub, Nat.reduceMul, Nat.reduceLeDiff, Nat.reduceLT, Nat.reduceEqDiff, Int.reduceToNat, Int.reduceLT, Int.reduceLE, Int.reduceEq, Int.reduceNe, Int.reduceAdd, Int.reduceSub, Int.reduceMul, Int.reduceNeg, Int.reduceBEq, Int.reduceBNe, reduceCtorEq, dreduceIte, oWS, oW8, oW16, oW32, oW64, oLtT, oLtF, oLeT, oLeF, oNLtT, oNLtF, oNLeT, oNLeF, oEqT, oEqF, oNEqT, oNEqF, oBeqT, oBeqF, oBneT, oBneF, Int.natCast_add, List.take_length]
theorem kx_none (F0 : List Blk) (l : List Opt) (ks : List Int) (hk : ks.length ≤ 40) (hn : l.length ≤ 40) (h : ∀ i, ∀ h : i < l.length, dlB ks l[i] = false) :
    run G 132 [kO l.length, kC] ([] :: kS F0 ks l) = some (.v (.int .i64 (-1)), [] :: kS F0 ks l) := by
  rw [xq_fn G rfl slices_IndexFunc_api_Option.g _ _ rfl]
  have L := lpFor (G := G) (kill := [5]) (body := slices_IndexFunc_api_Option.l0) (kxE l.length) (fun _ => [] :: [] :: kS F0 ks l) l.length (fun i hi => kx_step F0 l ks hk hn i hi (h i hi)) (by simp -implicitDefEqProofs (maxSteps := 2000000) (disch := omega) only [slices_IndexFunc_api_Option.l0, go_sem, reduceIte, Nat.reduceAdd, Nat.reduceSub, Nat.reduceMul, Nat.reduceLeDiff, Nat.reduceLT, Nat.reduceEqDiff, Int.reduceToNat, Int.reduceLT, Int.reduceLE, Int.reduceEq, Int.reduceNe, Int.reduceAdd, Int.reduceSub, Int.reduceMul, Int.reduceNeg, Int.reduceBEq, Int.reduceBNe, reduceCtorEq, dreduceIte, oWS, oW8, oW16, oW32, oW64, oLtT, oLtF, oLeT, oLeF, oNLtT, oNLtF, oNLeT, oNLeF, oEqT, oEqF, oNEqT, oNEqF, oBeqT, oBeqF, oBneT, oBneF, Int.natCast_add, List.take_length]; rfl)
  simp only [kxE, z0, Int.cast_ofNat_Int, List.take_zero, List.map_nil, List.drop_zero, accN, b8_nil, Int.sub_zero, Int.add_zero, Int.zero_add, Nat.zero_add, Nat.sub_zero, List.nil_append, List.append_nil] at L
  simp -implicitDefEqProofs (maxSteps := 2000000) (disch := omega) only [slices_IndexFunc_api_Option.s, oes_len, L, go_sem, reduceIte, Nat.reduceAdd, Nat.reduceSub, Nat.reduceMul, Nat.reduceLeDiff, Nat.reduceLT, Nat.reduceEqDiff, Int.reduceToNat, Int.reduceLT, Int.reduceLE, Int.reduceEq, Int.reduceNe, Int.reduceAdd, Int.reduceSub, Int.reduceMul, Int.reduceNeg, Int.reduceBEq, Int.reduceBNe, reduceCtorEq, dreduceIte, oWS, oW8, oW16, oW32, oW64, oLtT, oLtF, oLeT, oLeF, oNLtT, oNLtF, oNLeT, oNLeF, oEqT, oEqF, oNEqT, oNEqF, oBeqT, oBeqF, oBneT, oBneF, Int.natCast_add, List.take_length]
theorem kx_some (F0 : List Blk) (l : List Opt) (ks : List Int) (hk : ks.length ≤ 40) (hn : l.length ≤ 40) (j : Nat) (hj : j < l.length) (h3 : dlB ks l[j] = true) (h : ∀ i, i < j → ∀ h : i < l.length, dlB ks l[i] = false) :
    run G 132 [kO l.length, kC] ([] :: kS F0 ks l) = some (.v (.int .i64 j), [] :: kS F0 ks l) := by
  rw [xq_fn G rfl slices_IndexFunc_api_Option.g _ _ rfl]
  have L := lpFor (G := G) (kill := [5]) (body := slices_IndexFunc_api_Option.l0) (kxE l.length) (fun _ => [] :: [] :: kS F0 ks l) j (fun i hi => kx_step F0 l ks hk hn i (by omega) (h i hi (by omega))) (by
    have hx := row_at (List.getElem?_eq_getElem hj)
    have hd := n_del l[j] ks hk ([] :: [] :: [] :: kS F0 ks l) rfl (by simp)
    rw [h3] at hd
    simp -implicitDefEqProofs (maxSteps := 2000000) (disch := omega) only [slices_IndexFunc_api_Option.l0, oes_len, hx, hd, go_sem, reduceIte, Nat.reduceAdd, Nat.reduceSub, Nat.reduceMul, Nat.reduceLeDiff, Nat.reduceLT, Nat.reduceEqDiff, Int.reduceToNat, Int.reduceLT, Int.reduceLE, Int.reduceEq, Int.reduceNe, Int.reduceAdd, Int.reduceSub, Int.reduceMul, Int.reduceNeg, Int.reduceBEq, Int.reduceBNe, reduceCtorEq, dreduceIte, oWS, oW8, oW16, oW32, oW64, oLtT, oLtF, oLeT, oLeF, oNLtT, oNLtF, oNLeT, oNLeF, oEqT, oEqF, oNEqT, oNEqF, oBeqT, oBeqF, oBneT, oBneF, Int.natCast_add, List.take_length]; rfl)
  simp only [kxE, z0, Int.cast_ofNat_Int, List.take_zero, List.map_nil, List.drop_zero, accN, b8_nil, Int.sub_zero, Int.add_zero, Int.zero_add, Nat.zero_add, Nat.sub_zero, List.nil_append, List.append_nil] at L
  simp -implicitDefEqProofs (maxSteps := 2000000) (disch := omega) only [slices_IndexFunc_api_Option.s, oes_len, L, go_sem, reduceIte, Nat.reduceAdd, Nat.reduceSub, Nat.reduceMul, Nat.reduceLeDiff, Nat.reduceLT, Nat.reduceEqDiff, Int.reduceToNat, Int.reduceLT, Int.reduceLE, Int.reduceEq, Int.reduceNe, Int.reduceAdd, Int.reduceSub, Int.reduceMul, Int.reduceNeg, Int.reduceBEq, Int.reduceBNe, reduceCtorEq, dreduceIte, oWS, oW8, oW16, oW32, oW64, oLtT, oLtF, oLeT, oLeF, oNLtT, oNLtF, oNLeT, oNLeF, oEqT, oEqF, oNEqT, oNEqF, oBeqT, oBeqF, oBneT, oBneF, Int.natCast_add, List.take_length]
def keN (ks : List Int) (l : List Opt) : List Opt := l.filter fun o => !(dlB ks o)
theorem keN_succ {l : List Opt} {ks : List Int} {j : Nat} (h : j < l.length) : keN ks (l.take (j + 1)) = keN ks (l.take j) ++ if dlB ks l[j] = true then [] else [l[j]] := by
  rw [take_succ h, keN, List.filter_append]
  cases hd : dlB ks l[j] <;> simp [keN, hd]
abbrev klE (n i j : Nat) : List D := [kO n, kC, .nils 2, .v (.int .i64 i), .v (.int .i64 j), .undef]
theorem kl_skip (F0 : List Blk) (c : List Opt) (ks : List Int) (hk : ks.length ≤ 40) (hn : c.length ≤ 40) (i j : Nat) (hj : j < c.length) (h : dlB ks c[j] = true) :
    rndE G [5] slices_DeleteFunc_api_Option.l0 (klE c.length i j) ([] :: kS F0 ks c) = some (.inl (klE c.length i (j + 1), [] :: kS F0 ks c)) := by
  have hx := row_at (List.getElem?_eq_getElem hj)
  have hd := n_del c[j] ks hk ([.row [od c[j]]] :: [] :: kS F0 ks c) rfl (by simp)
  rw [h] at hd
  simp -implicitDefEqProofs (maxSteps := 2000000) (disch := omega) only [slices_DeleteFunc_api_Option.l0, klE, oes_len, hx, hd, go_sem, reduceIte, Nat.reduceAdd, Nat.reduceSub, Nat.reduceMul, Nat.reduceLeDiff, Nat.reduceLT, Nat.reduceEqDiff, Int.reduceToNat, Int.reduceLT, Int.reduceLE, Int.reduceEq, Int.reduceNe, Int.reduceAdd, Int.reduceSub, Int.reduceMul, Int.reduceNeg, Int.reduceBEq, Int.reduceBNe, reduceCtorEq, dreduceIte, oWS, oW8, oW16, oW32, oW64, oLtT, oLtF, oLeT, oLeF, oNLtT, oNLtF, oNLeT, oNLeF, oEqT, oEqF, oNEqT, oNEqF, oBeqT, oBeqF, oBneT, oBneF, Int.natCast_add, List.take_length]
theorem kl_move (F0 : List Blk) (c : List Opt) (ks : List Int) (hk : ks.length ≤ 40) (hn : c.length ≤ 40) (i j : Nat) (hij : i ≤ j) (hj : j < c.length) (h : dlB ks c[j] = false) :
    rndE G [5] slices_DeleteFunc_api_Option.l0 (klE c.length i j) ([] :: kS F0 ks c) = some (.inl (klE c.length (i + 1) (j + 1), [] :: kS F0 ks (c.set i c[j]))) := by
  have hx := row_at (List.getElem?_eq_getElem hj)
  have hy := row_at (List.getElem?_eq_getElem (l := c) (i := i) (by omega))
  have hd := n_del c[j] ks hk ([.row [od c[j]]] :: [] :: kS F0 ks c) rfl (by simp)
  rw [h] at hd
  have hs := row_set c i c[j]
  simp -implicitDefEqProofs (maxSteps := 2000000) (disch := omega) only [slices_DeleteFunc_api_Option.l0, klE, oes_len, hx, hy, hd, hs, go_sem, reduceIte, Nat.reduceAdd, Nat.reduceSub, Nat.reduceMul, Nat.reduceLeDiff, Nat.reduceLT, Nat.reduceEqDiff, Int.reduceToNat, Int.reduceLT, Int.reduceLE, Int.reduceEq, Int.reduceNe, Int.reduceAdd, Int.reduceSub, Int.reduceMul, Int.reduceNeg, Int.reduceBEq, Int.reduceBNe, reduceCtorEq, dreduceIte, oWS, oW8, oW16, oW32, oW64, oLtT, oLtF, oLeT, oLeF, oNLtT, oNLtF, oNLeT, oNLeF, oEqT, oEqF, oNEqT, oNEqF, oBeqT, oBeqF, oBneT, oBneF, Int.natCast_add, List.take_length]
theorem kl_run (F0 : List Blk) (l : List Opt) (ks : List Int) (hk : ks.length ≤ 40) (hn : l.length ≤ 40) : ∀ (m : Nat) (c : List Opt) (i j : Nat), j + m = l.length → c.length = l.length → i ≤ j → c.take i = keN ks (l.take j) → c.drop j = l.drop j →
    ∃ c' i', ex G (.loop [5] slices_DeleteFunc_api_Option.l0) (klE l.length i j) ([] :: kS F0 ks c) = some (.exit 0, klE l.length i' l.length, [] :: kS F0 ks c') ∧ c'.length = l.length ∧ i' ≤ l.length ∧ c'.take i' = keN ks l := by
  intro m
  induction m with
  | zero =>
    intro c i j hm hc hij h1 h2
    have : j = l.length := by omega
    subst this
    refine ⟨c, i, rnd_end ?_, hc, hij, by rw [h1, List.take_length]⟩
    simp -implicitDefEqProofs (maxSteps := 2000000) (disch := omega) only [slices_DeleteFunc_api_Option.l0, go_sem, reduceIte, Nat.reduceAdd, Nat.reduceSub, Nat.reduceMul, Nat.reduceLeDiff, Nat.reduceLT, Nat.reduceEqDiff, Int.reduceToNat, Int.reduceLT, Int.reduceLE, Int.reduceEq, Int.reduceNe, Int.reduceAdd, Int.reduceSub, Int.reduceMul, Int.reduceNeg, Int.reduceBEq, Int.reduceBNe, reduceCtorEq, dreduceIte, oWS, oW8, oW16, oW32, oW64, oLtT, oLtF, oLeT, oLeF, oNLtT, oNLtF, oNLeT, oNLeF, oEqT, oEqF, oNEqT, oNEqF, oBeqT, oBeqF, oBneT, oBneF, Int.natCast_add, List.take_length]
  | succ m ih =>
    intro c i j hm hc hij h1 h2
    have hj : j < c.length := by omega
    have hx : c[j] = l[j] := by
      have := congrArg (·[0]?) h2
      simp only [List.getElem?_drop, Nat.add_zero] at this
      rw [List.getElem?_eq_getElem hj, List.getElem?_eq_getElem (by omega)] at this
      exact Option.some.inj this
    have h2' : c.drop (j + 1) = l.drop (j + 1) := by rw [← List.drop_drop, ← List.drop_drop, h2]
    have hs := keN_succ (l := l) (j := j) (ks := ks) (by omega)
    by_cases q : dlB ks c[j] = true
    · obtain ⟨c', i', k1, k2⟩ := ih c i (j + 1) (by omega) hc (by omega) (by rw [hs, if_pos (by rw [← hx]; exact q), List.append_nil, h1]) h2'
      refine ⟨c', i', ?_, k2⟩
      have := rnd_step (kl_skip F0 c ks hk (by omega) i j hj q)
      rw [hc] at this
      rw [this, k1]
    · have q' : dlB ks c[j] = false := by simpa using q
      obtain ⟨c', i', k1, k2⟩ := ih (c.set i c[j]) (i + 1) (j + 1) (by omega) (by rw [List.length_set, hc]) (by omega)
        (by
          rw [hs, if_neg (by rw [← hx]; exact q), ← hx, ← h1, take_succ (by rw [List.length_set]; omega), List.getElem_set_self]
          rw [List.take_set, List.set_eq_of_length_le (by rw [List.length_take]; omega)])
        (by rw [List.drop_set_of_lt (by omega)]; exact h2')
      refine ⟨c', i', ?_, k2⟩
      have := rnd_step (kl_move F0 c ks hk (by omega) i j hij hj q')
      rw [hc] at this
      rw [this, k1]
abbrev noDD : D := .agg [.v (.int .u8 0), .nils 1]
theorem k_delete (F0 : List Blk) (l : List Opt) (ks : List Int) (hk : ks.length ≤ 40) (h0 : l ≠ []) (hn : l.length ≤ 40) : ∃ (rw_ : List D) (i : Nat), run G 91 [kO l.length, kC] (kS F0 ks l) = some (.own ⟨1, 1⟩ 2 0 i false, [[kB ks, .row rw_], F0]) ∧ rowV 2 0 i (some (.row rw_)) = some (.slc 2 (oes (keN ks l))) := by
  rcases first_or (fun i => ∃ h : i < l.length, dlB ks l[i] = true) l.length with h | ⟨j, h1, ⟨h2, h3⟩, h4⟩
  · have h' : ∀ i, ∀ h : i < l.length, dlB ks l[i] = false := fun i hi => by
      cases e : dlB ks l[i] with
      | false => rfl
      | true => exact (h i hi ⟨hi, e⟩).elim
    have hi := kx_none F0 l ks hk hn h'
    have hR : keN ks l = l := by
      rw [keN, List.filter_eq_self]
      intro o ho
      obtain ⟨i, hi, rfl⟩ := List.mem_iff_getElem.1 ho
      rw [h' i hi]; rfl
    refine ⟨(oes l).map .v, l.length, ?_, by rw [hR]; have := row_rd ((oes l).map .v) l l.length (Nat.le_refl _) (by rw [List.length_map, oes_len]; exact Nat.le_refl _) rfl; rwa [List.take_length] at this⟩
    rw [xq_fn G rfl slices_DeleteFunc_api_Option.g _ _ rfl]
    simp -implicitDefEqProofs (maxSteps := 2000000) (disch := omega) only [slices_DeleteFunc_api_Option.s, hi, go_sem, reduceIte, Nat.reduceAdd, Nat.reduceSub, Nat.reduceMul, Nat.reduceLeDiff, Nat.reduceLT, Nat.reduceEqDiff, Int.reduceToNat, Int.reduceLT, Int.reduceLE, Int.reduceEq, Int.reduceNe, Int.reduceAdd, Int.reduceSub, Int.reduceMul, Int.reduceNeg, Int.reduceBEq, Int.reduceBNe, reduceCtorEq, dreduceIte, oWS, oW8, oW16, oW32, oW64, oLtT, oLtF, oLeT, oLeF, oNLtT, oNLtF, oNLeT, oNLeF, oEqT, oEqF, oNEqT, oNEqF, oBeqT, oBeqF, oBneT, oBneF, Int.natCast_add, List.take_length]
  · have h' : ∀ i, i < j → ∀ h : i < l.length, dlB ks l[i] = false := fun i hi h2 => by
      cases e : dlB ks l[i] with
      | false => rfl
      | true => exact (h4 i hi ⟨h2, e⟩).elim
    have hi := kx_some F0 l ks hk hn j h1 h3 h'
    have hp : keN ks (l.take j) = l.take j := by
      rw [keN, List.filter_eq_self]
      intro o ho
      obtain ⟨i, hi, rfl⟩ := List.mem_iff_getElem.1 ho
      rw [List.length_take] at hi
      rw [List.getElem_take, h' i (by omega) (by omega)]; rfl
    obtain ⟨c, i, L, k2, k3, k4⟩ := kl_run F0 l ks hk hn (l.length - (j + 1)) l j (j + 1) (by omega) rfl (by omega) (by rw [keN_succ h1, if_pos h3, List.append_nil, hp]) rfl
    simp only [klE, Int.natCast_add, z0, Int.cast_ofNat_Int, List.take_zero, List.map_nil, List.drop_zero, accN, b8_nil, Int.sub_zero, Int.add_zero, Int.zero_add, Nat.zero_add, Nat.sub_zero, List.nil_append, List.append_nil] at L
    have ecl : ((oes c).map D.v).length = l.length := by rw [List.length_map, oes_len, k2]
    by_cases hz : l.length - i = 0
    · refine ⟨(oes c).map .v, i, ?_, by rw [row_rd ((oes c).map .v) c i (by omega) (by omega) rfl, k4]⟩
      rw [xq_fn G rfl slices_DeleteFunc_api_Option.g _ _ rfl]
      simp -implicitDefEqProofs (maxSteps := 2000000) (disch := omega) only [slices_DeleteFunc_api_Option.s, hi, L, hz, Nat.sub_zero, go_sem, reduceIte, Nat.reduceAdd, Nat.reduceSub, Nat.reduceMul, Nat.reduceLeDiff, Nat.reduceLT, Nat.reduceEqDiff, Int.reduceToNat, Int.reduceLT, Int.reduceLE, Int.reduceEq, Int.reduceNe, Int.reduceAdd, Int.reduceSub, Int.reduceMul, Int.reduceNeg, Int.reduceBEq, Int.reduceBNe, reduceCtorEq, dreduceIte, oWS, oW8, oW16, oW32, oW64, oLtT, oLtF, oLeT, oLeF, oNLtT, oNLtF, oNLeT, oNLeF, oEqT, oEqF, oNEqT, oNEqF, oBeqT, oBeqF, oBneT, oBneF, Int.natCast_add, List.take_length]
    · have e1 : i + (l.length - i) = l.length := by omega
      refine ⟨((oes c).map D.v).take i ++ (List.replicate (l.length - i) noDD ++ ((oes c).map D.v).drop (i + (l.length - i))), i, ?_, ?_⟩
      · rw [xq_fn G rfl slices_DeleteFunc_api_Option.g _ _ rfl]
        simp -implicitDefEqProofs (maxSteps := 2000000) (disch := omega) only [slices_DeleteFunc_api_Option.s, hi, L, hz, e1, ecl, Nat.sub_zero, go_sem, reduceIte, Nat.reduceAdd, Nat.reduceSub, Nat.reduceMul, Nat.reduceLeDiff, Nat.reduceLT, Nat.reduceEqDiff, Int.reduceToNat, Int.reduceLT, Int.reduceLE, Int.reduceEq, Int.reduceNe, Int.reduceAdd, Int.reduceSub, Int.reduceMul, Int.reduceNeg, Int.reduceBEq, Int.reduceBNe, reduceCtorEq, dreduceIte, oWS, oW8, oW16, oW32, oW64, oLtT, oLtF, oLeT, oLeF, oNLtT, oNLtF, oNLeT, oNLeF, oEqT, oEqF, oNEqT, oNEqF, oBeqT, oBeqF, oBneT, oBneF, Int.natCast_add, List.take_length]
      · rw [row_rd _ c i (by omega) (by simp only [List.length_append, List.length_take, List.length_map, oes_len]; omega) (by rw [List.take_append_of_le_length (by rw [List.length_take, ecl]; omega), List.take_take, Nat.min_self]), k4]
theorem jud_nil (r : Rl) : (judN r []).1 = 2 := by
  unfold judN judI judR
  split <;> rfl
def ansN (n : Ng) (l : List Opt) : Int × List Opt :=
  let a := judN n.rl l
  if a.1 = 3 ∧ n.nk + 1 > 5 then (4, keN (kds a.2) l) else a
def askdN (n : Ng) (c : Ctl) : Ng × Ou :=
  if (optsR c).2 ≠ 0 then (n, noOu) else
    let a := judN n.rl (optsR c).1
    let b := ansN n (optsR c).1
    let n1 : Ng := if a.1 = 2 then { n with acked := a.2 } else if a.1 = 3 then { n with nk := n.nk + 1 } else n
    evN n1 (if a.1 = 2 then 6 else 7) c (confR b.1 c.2.1 b.2).1
theorem keN_ok {ks : List Int} {l : List Opt} (hl : okL l) : okL (keN ks l) := fun o ho => hl o (List.mem_filter.1 ho).1
theorem keN_len (ks : List Int) (l : List Opt) : (keN ks l).length ≤ l.length := List.length_filter_le ..
theorem jud_code (r : Rl) (l : List Opt) : (judN r l).1 = 2 ∨ (judN r l).1 = 3 ∨ (judN r l).1 = 4 := by
  unfold judN judI judR
  split
  · split
    · exact .inr (.inr rfl)
    · split
      · exact .inr (.inl rfl)
      · exact .inl rfl
  · split
    · exact .inr (.inr rfl)
    · split
      · exact .inr (.inl rfl)
      · exact .inl rfl
theorem orU (x : V) : orUndef (some x) = .v x := rfl
theorem asked2 (n : Ng) (c : Ctl) (l ao : List Opt) (dd : D) (ho : okN n) (hk : In (n.nk + 1)) (hd : c.2.2.length ≤ 10000) (hl : okL l ∧ l.length ≤ 40) (jo : okL ao ∧ ao.length ≤ 40)
    (op : run G 88 [.v (cv c)] [] = some (.tup [.lin 2 (oes l), .v (.int .i64 0)], []))
    (j : run G 89 [.v (rlv n.rl), .v (.slc 2 (oes l))] [] = some (.tup [.v (.int .u8 2), dd], [])) (jd : dd = .v (.slc 2 (oes ao)) ∨ dd = .lin 2 (oes ao)) :
    run G 54 [.v (nv n), .v (cv c)] [] = some (.tup [.v (nv (evN { n with acked := ao } 6 c (confR 2 c.2.1 ao).1).1), .v (ov (evN { n with acked := ao } 6 c (confR 2 c.2.1 ao).1).2)], []) := by
  have cf := c_conf 2 c.2.1 ao jo.2
  have ev := n_event { n with acked := ao } 6 c (confR 2 c.2.1 ao).1 ho hd
  generalize (confR 2 c.2.1 ao) = q at *
  generalize evN { n with acked := ao } 6 c q.1 = r at *
  obtain ⟨n2, o2⟩ := r
  simp only [rlv, cv, nv, ov] at *
  rw [xq_fn G rfl nego_Nego_asked.g _ _ rfl]
  rcases jd with e | e <;> subst e <;> simp -implicitDefEqProofs (maxSteps := 2000000) (disch := omega) only [nego_Nego_asked.s, cv, nv, ov, op, j, cf, ev, go_sem, reduceIte, Nat.reduceAdd, Nat.reduceSub, Nat.reduceMul, Nat.reduceLeDiff, Nat.reduceLT, Nat.reduceEqDiff, Int.reduceToNat, Int.reduceLT, Int.reduceLE, Int.reduceEq, Int.reduceNe, Int.reduceAdd, Int.reduceSub, Int.reduceMul, Int.reduceNeg, Int.reduceBEq, Int.reduceBNe, reduceCtorEq, dreduceIte, oWS, oW8, oW16, oW32, oW64, oLtT, oLtF, oLeT, oLeF, oNLtT, oNLtF, oNLeT, oNLeF, oEqT, oEqF, oNEqT, oNEqF, oBeqT, oBeqF, oBneT, oBneF, Int.natCast_add, List.take_length]
theorem asked4 (n : Ng) (c : Ctl) (l ao : List Opt) (dd : D) (ho : okN n) (hk : In (n.nk + 1)) (hd : c.2.2.length ≤ 10000) (hl : okL l ∧ l.length ≤ 40) (jo : okL ao ∧ ao.length ≤ 40)
    (op : run G 88 [.v (cv c)] [] = some (.tup [.lin 2 (oes l), .v (.int .i64 0)], []))
    (j : run G 89 [.v (rlv n.rl), .v (.slc 2 (oes l))] [] = some (.tup [.v (.int .u8 4), dd], [])) (jd : dd = .v (.slc 2 (oes ao)) ∨ dd = .lin 2 (oes ao)) :
    run G 54 [.v (nv n), .v (cv c)] [] = some (.tup [.v (nv (evN n 7 c (confR 4 c.2.1 ao).1).1), .v (ov (evN n 7 c (confR 4 c.2.1 ao).1).2)], []) := by
  have cf := c_conf 4 c.2.1 ao jo.2
  have ev := n_event n 7 c (confR 4 c.2.1 ao).1 ho hd
  generalize (confR 4 c.2.1 ao) = q at *
  generalize evN n 7 c q.1 = r at *
  obtain ⟨n2, o2⟩ := r
  simp only [rlv, cv, nv, ov] at *
  rw [xq_fn G rfl nego_Nego_asked.g _ _ rfl]
  rcases jd with e | e <;> subst e <;> simp -implicitDefEqProofs (maxSteps := 2000000) (disch := omega) only [nego_Nego_asked.s, cv, nv, ov, op, j, cf, ev, go_sem, reduceIte, Nat.reduceAdd, Nat.reduceSub, Nat.reduceMul, Nat.reduceLeDiff, Nat.reduceLT, Nat.reduceEqDiff, Int.reduceToNat, Int.reduceLT, Int.reduceLE, Int.reduceEq, Int.reduceNe, Int.reduceAdd, Int.reduceSub, Int.reduceMul, Int.reduceNeg, Int.reduceBEq, Int.reduceBNe, reduceCtorEq, dreduceIte, oWS, oW8, oW16, oW32, oW64, oLtT, oLtF, oLeT, oLeF, oNLtT, oNLtF, oNLeT, oNLeF, oEqT, oEqF, oNEqT, oNEqF, oBeqT, oBeqF, oBneT, oBneF, Int.natCast_add, List.take_length]
theorem asked3 (n : Ng) (c : Ctl) (l ao : List Opt) (dd : D) (ho : okN n) (hk : In (n.nk + 1)) (hd : c.2.2.length ≤ 10000) (hl : okL l ∧ l.length ≤ 40) (jo : okL ao ∧ ao.length ≤ 40)
    (op : run G 88 [.v (cv c)] [] = some (.tup [.lin 2 (oes l), .v (.int .i64 0)], []))
    (j : run G 89 [.v (rlv n.rl), .v (.slc 2 (oes l))] [] = some (.tup [.v (.int .u8 3), dd], [])) (jd : dd = .v (.slc 2 (oes ao)) ∨ dd = .lin 2 (oes ao)) (h5 : ¬ n.nk + 1 > 5) :
    run G 54 [.v (nv n), .v (cv c)] [] = some (.tup [.v (nv (evN { n with nk := n.nk + 1 } 7 c (confR 3 c.2.1 ao).1).1), .v (ov (evN { n with nk := n.nk + 1 } 7 c (confR 3 c.2.1 ao).1).2)], []) := by
  have cf := c_conf 3 c.2.1 ao jo.2
  have ev := n_event { n with nk := n.nk + 1 } 7 c (confR 3 c.2.1 ao).1 ho hd
  generalize (confR 3 c.2.1 ao) = q at *
  generalize evN { n with nk := n.nk + 1 } 7 c q.1 = r at *
  obtain ⟨n2, o2⟩ := r
  simp only [rlv, cv, nv, ov] at *
  rw [xq_fn G rfl nego_Nego_asked.g _ _ rfl]
  rcases jd with e | e <;> subst e <;> simp -implicitDefEqProofs (maxSteps := 2000000) (disch := omega) only [nego_Nego_asked.s, cv, nv, ov, op, j, cf, ev, go_sem, reduceIte, Nat.reduceAdd, Nat.reduceSub, Nat.reduceMul, Nat.reduceLeDiff, Nat.reduceLT, Nat.reduceEqDiff, Int.reduceToNat, Int.reduceLT, Int.reduceLE, Int.reduceEq, Int.reduceNe, Int.reduceAdd, Int.reduceSub, Int.reduceMul, Int.reduceNeg, Int.reduceBEq, Int.reduceBNe, reduceCtorEq, dreduceIte, oWS, oW8, oW16, oW32, oW64, oLtT, oLtF, oLeT, oLeF, oNLtT, oNLtF, oNLeT, oNLeF, oEqT, oEqF, oNEqT, oNEqF, oBeqT, oBeqF, oBneT, oBneF, Int.natCast_add, List.take_length]
theorem asked3b (n : Ng) (c : Ctl) (l ao : List Opt) (dd : D) (ho : okN n) (hk : In (n.nk + 1)) (hd : c.2.2.length ≤ 10000) (hl : okL l ∧ l.length ≤ 40) (jo : okL ao ∧ ao.length ≤ 40)
    (op : run G 88 [.v (cv c)] [] = some (.tup [.lin 2 (oes l), .v (.int .i64 0)], []))
    (j : run G 89 [.v (rlv n.rl), .v (.slc 2 (oes l))] [] = some (.tup [.v (.int .u8 3), dd], [])) (jd : dd = .v (.slc 2 (oes ao)) ∨ dd = .lin 2 (oes ao)) (h5 : n.nk + 1 > 5) (l0 : l ≠ []) :
    run G 54 [.v (nv n), .v (cv c)] [] = some (.tup [.v (nv (evN { n with nk := n.nk + 1 } 7 c (confR 4 c.2.1 (keN (kds ao) l)).1).1), .v (ov (evN { n with nk := n.nk + 1 } 7 c (confR 4 c.2.1 (keN (kds ao) l)).1).2)], []) := by
  have kd := kinds61 ao jo.2
  have hks : (kds ao).length ≤ 40 := by rw [kds, List.length_map]; exact jo.2
  let F0 : List Blk := [.row [.v (nv { n with nk := n.nk + 1 })], .row [.v (cv c)], .row [.agg [.v (.int .i64 0), .v (.int .i64 0), .v (.int .i64 0), .v (.int .u8 0), .nils 2, .v (.bool false), .v (.int .u16 0), .v (.int .u32 0), .v (.bool false), .v (.bool false), .v (.bool false), .v (.int .u32 0), .v (.int .u32 0), .v (.int .u32 0), .v (.bool false), .nils 2, .v (.int .i64 0)]], .row [.agg [.nils 3, .v (.bool false), .v (.bool false), .v (.bool false), .v (.bool false)]]]
  have cl := clone101 l l0 hl.2 [kB (kds ao)] [F0]
  obtain ⟨rw_, i, de, hr⟩ := k_delete F0 l (kds ao) hks l0 hl.2
  have cf := c_conf 4 c.2.1 (keN (kds ao) l) (by have := keN_len (kds ao) l; omega)
  have ev := n_event { n with nk := n.nk + 1 } 7 c (confR 4 c.2.1 (keN (kds ao) l)).1 ho hd
  generalize (confR 4 c.2.1 (keN (kds ao) l)) = q at *
  generalize evN { n with nk := n.nk + 1 } 7 c q.1 = r at *
  obtain ⟨n2, o2⟩ := r
  simp only [rlv, cv, nv, ov, F0, kS, kO, kC, kP, kB] at *
  rw [xq_fn G rfl nego_Nego_asked.g _ _ rfl]
  rcases jd with e | e <;> subst e <;> simp -implicitDefEqProofs (maxSteps := 2000000) (disch := omega) only [nego_Nego_asked.s, cv, nv, ov, op, j, kd, cl, de, hr, cf, ev, mkfD, orU, go_sem, reduceIte, Nat.reduceAdd, Nat.reduceSub, Nat.reduceMul, Nat.reduceLeDiff, Nat.reduceLT, Nat.reduceEqDiff, Int.reduceToNat, Int.reduceLT, Int.reduceLE, Int.reduceEq, Int.reduceNe, Int.reduceAdd, Int.reduceSub, Int.reduceMul, Int.reduceNeg, Int.reduceBEq, Int.reduceBNe, reduceCtorEq, dreduceIte, oWS, oW8, oW16, oW32, oW64, oLtT, oLtF, oLeT, oLeF, oNLtT, oNLtF, oNLeT, oNLeF, oEqT, oEqF, oNEqT, oNEqF, oBeqT, oBeqF, oBneT, oBneF, Int.natCast_add, List.take_length]
theorem askedX (n : Ng) (c : Ctl) (bad : Int) (l : List Opt) (hb : bad ≠ 0) (op : run G 88 [.v (cv c)] [] = some (.tup [.lin 2 (oes l), .v (.int .i64 bad)], [])) :
    run G 54 [.v (nv n), .v (cv c)] [] = some (.tup [.v (nv n), .v (ov noOu)], []) := by
  rw [xq_fn G rfl nego_Nego_asked.g _ _ rfl]
  simp only [cv, nv, ov] at *
  simp -implicitDefEqProofs (maxSteps := 2000000) (disch := omega) only [nego_Nego_asked.s, cv, nv, ov, op, cvs_nil, go_sem, reduceIte, Nat.reduceAdd, Nat.reduceSub, Nat.reduceMul, Nat.reduceLeDiff, Nat.reduceLT, Nat.reduceEqDiff, Int.reduceToNat, Int.reduceLT, Int.reduceLE, Int.reduceEq, Int.reduceNe, Int.reduceAdd, Int.reduceSub, Int.reduceMul, Int.reduceNeg, Int.reduceBEq, Int.reduceBNe, reduceCtorEq, dreduceIte, oWS, oW8, oW16, oW32, oW64, oLtT, oLtF, oLeT, oLeF, oNLtT, oNLtF, oNLeT, oNLeF, oEqT, oEqF, oNEqT, oNEqF, oBeqT, oBeqF, oBneT, oBneF, Int.natCast_add, List.take_length]
theorem n_asked (n : Ng) (c : Ctl) (ho : okN n) (hk : In (n.nk + 1)) (hc : okC c) (hd : c.2.2.length ≤ 10000) :
    run G 54 [.v (nv n), .v (cv c)] [] = some (.tup [.v (nv (askdN n c).1), .v (ov (askdN n c).2)], []) := by
  have op := c_opts c hc.2.2 hd
  have hl := optsR_ok c hc.2.2
  unfold askdN
  by_cases hb : (optsR c).2 = 0
  · rw [if_neg (by simp [hb])]
    rw [hb] at op
    generalize (optsR c).1 = l at *
    have j := n_judge n.rl l ho.2 hl.1 hl.2
    have jo := judN_ok n.rl l hl.1 hl.2
    have jc := jud_code n.rl l
    have jd := judND_or n.rl l
    have l0 : (judN n.rl l).1 = 3 → l ≠ [] := fun h3 e => by rw [e, jud_nil] at h3; omega
    unfold ansN
    generalize judND n.rl l = dd at *
    generalize judN n.rl l = a at *
    obtain ⟨ac, ao⟩ := a
    simp only at jc jo j jd l0 ⊢
    rcases jc with e | e | e <;> subst e
    · exact asked2 n c l ao dd ho hk hd hl jo op j jd
    · by_cases h5 : n.nk + 1 > 5
      · simp only [Int.reduceEq, h5, and_self, if_false, if_true]
        exact asked3b n c l ao dd ho hk hd hl jo op j jd h5 (l0 rfl)
      · simp only [Int.reduceEq, h5, and_false, if_false, if_true]
        exact asked3 n c l ao dd ho hk hd hl jo op j jd h5
    · exact asked4 n c l ao dd ho hk hd hl jo op j jd
  · rw [if_pos hb]
    exact askedX n c _ _ hb op
end Go.Q
