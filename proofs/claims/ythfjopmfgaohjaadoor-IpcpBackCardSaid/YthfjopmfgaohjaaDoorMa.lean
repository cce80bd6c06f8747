/- The sum of bytes: what ipcp.Sum and the document's compute. No condition. -/
import Derived.Test.YthfjopmfgaohjaaDoorLt
set_option linter.all false
set_option maxRecDepth 100000
namespace Go.Q
open SOp SCode
attribute [local congr] bind_c map_c

def rs : List Int → Int
  | [] => 0
  | [a] => 256 * a
  | a :: b :: r => 256 * a + b + rs r
theorem rs_app : ∀ (l : List Int) (c : Int), rs (l ++ [c]) = rs l + (if l.length % 2 = 0 then 256 * c else c)
  | [], c => by simp [rs]
  | [a], c => by simp [rs]
  | a :: b :: r, c => by
    have ih := rs_app r c
    simp only [List.cons_append, rs, ih, List.length_cons]
    have : ((r.length + 1 + 1) % 2 = 0) = (r.length % 2 = 0) := propext (by omega)
    simp only [this]; split <;> omega
theorem rs_rng : ∀ (l : List Int), okB l → 0 ≤ rs l ∧ rs l ≤ 65280 * l.length
  | [], _ => by simp [rs]
  | [a], h => by have := h a (by simp); simp [rs]; omega
  | a :: b :: r, h => by
    have h1 := h a (by simp)
    have h2 := h b (by simp)
    have h3 := rs_rng r fun x hx => h x (by simp [hx])
    simp only [rs, List.length_cons]
    omega
theorem rs_take {l : List Int} {i : Nat} (h : i < l.length) : rs (l.take (i + 1)) = rs (l.take i) + (if i % 2 = 0 then 256 * l[i] else l[i]) := by
  rw [take_succ h, rs_app, List.length_take, Nat.min_eq_left (by omega)]
def fo (n : Int) : Int := if n = 0 then 0 else (n - 1) % 65535 + 1
def sumR (l : List Int) : Int := 65535 - fo (rs l)
theorem fo_rng {n : Int} (h : 0 ≤ n) : 0 ≤ fo n ∧ fo n ≤ 65535 := by unfold fo; split <;> omega
theorem fo_add {x s : Int} (h : 0 ≤ x) (hs : 0 ≤ s) : fo (fo x + s) = fo (x + s) := by unfold fo; split <;> split <;> (try split) <;> omega
theorem fo_one {n : Int} (h0 : 0 ≤ n) (h : n ≤ 131070) : n % 65536 + n / 65536 = fo n := by unfold fo; split <;> omega
theorem fo_id {n : Int} (h0 : 0 ≤ n) (h : n ≤ 65535) : fo n = n := by unfold fo; split <;> omega
theorem fo_fold {n : Int} (h0 : 65535 < n) : fo (n % 65536 + n / 65536) = fo n ∧ 0 ≤ n % 65536 + n / 65536 ∧ n % 65536 + n / 65536 < n := by unfold fo; split <;> split <;> omega
theorem ofN64 (i : Nat) (h : i < 18446744073709551616) : (BitVec.ofInt 64 (i : Int)).toNat = i := by
  rw [BitVec.toNat_ofInt]
  show ((i : Int) % ((2 ^ 64 : Nat) : Int)).toNat = _
  omega
theorem an_1 (i : Nat) (h : i ≤ 1000000) : opBin .and (.v (.int .i64 i)) (.v (.int .i64 1)) = some (.v (.int .i64 ((i : Int) % 2))) := by
  show some (D.v (.int .i64 (IntKind.i64.wrap ((BitVec.ofInt 64 (i : Int) &&& BitVec.ofInt 64 1).toNat : Nat)))) = _
  rw [BitVec.toNat_and, ofN64 i (by omega), show (BitVec.ofInt 64 1).toNat = 1 from rfl, Nat.and_one_is_mod, wrapS (by omega)]
  rfl
theorem an_16 (n : Int) (h0 : 0 ≤ n) (h : n ≤ 1000000000000) : opBin .and (.v (.int .u64 n)) (.v (.int .u64 65535)) = some (.v (.int .u64 (n % 65536))) := by
  obtain ⟨a, rfl⟩ := Int.eq_ofNat_of_zero_le h0
  show some (D.v (.int .u64 (IntKind.u64.wrap ((BitVec.ofInt 64 (a : Int) &&& BitVec.ofInt 64 65535).toNat : Nat)))) = _
  rw [BitVec.toNat_and, ofN64 a (by omega), show (BitVec.ofInt 64 65535).toNat = 2 ^ 16 - 1 from rfl, Nat.and_two_pow_sub_one_eq_mod, wrap64 (by omega)]
  rfl
theorem sr_16 (n : Int) : opBin .shr (.v (.int .u64 n)) (.v (.int .u64 16)) = some (.v (.int .u64 (n / 65536))) := by
  show some (D.v (.int .u64 (n.fdiv (2 ^ min (Int.toNat 16) IntKind.u64.bits)))) = _
  rw [show (2 : Int) ^ min (Int.toNat 16) IntKind.u64.bits = 65536 from rfl, Int.fdiv_eq_ediv_of_nonneg _ (by omega)]
theorem no_16 (n : Int) (h0 : 0 ≤ n) (h : n ≤ 65535) : opUn .xor (.v (.int .u16 n)) = some (.v (.int .u16 (65535 - n))) := by
  obtain ⟨a, rfl⟩ := Int.eq_ofNat_of_zero_le h0
  show some (D.v (.int .u16 (IntKind.u16.wrap ((BitVec.ofInt 16 65535 ^^^ BitVec.ofInt 16 (a : Int)).toNat : Nat)))) = _
  have e : (BitVec.ofInt 16 (a : Int)).toNat = a := by
    rw [BitVec.toNat_ofInt]
    show ((a : Int) % ((2 ^ 16 : Nat) : Int)).toNat = _
    omega
  rw [show BitVec.ofInt 16 65535 = BitVec.allOnes 16 from rfl, BitVec.allOnes_xor, BitVec.toNat_not, e, oW16 (by omega)]
  congr 3
  omega
theorem shl_8 {a : Int} (h : 0 ≤ a ∧ a ≤ 255) : opBin .shl (.v (.int .u64 a)) (.v (.int .u64 8)) = some (.v (.int .u64 (256 * a))) := by rw [shl8_op (by omega), Int.mul_comm]
attribute [local go_sem high] an_1 an_16 sr_16 no_16 shl_8
abbrev suE (l : List Int) (n : Int) (i : Nat) : List D := [.v (.slc 1 (b8 l)), .v (.int .u16 0), .v (.int .u64 n), .v (.slc 1 (b8 l)), .v (.int .i64 l.length), .v (.int .i64 i), .undef, .undef]
theorem su_step (l : List Int) (hb : okB l) (hl : l.length ≤ 2000) (i : Nat) (hi : i < l.length) : rndE G [6, 7] ipcp_Sum.l0 (suE l (rs (l.take i)) i) [[]] = some (.inl (suE l (rs (l.take (i + 1))) (i + 1), [[]])) := by
  have hx := b8_at (List.getElem?_eq_getElem hi)
  have hc := hb l[i] (List.getElem_mem _)
  have hr := rs_rng (l.take i) (okB_take hb _)
  rw [List.length_take] at hr
  by_cases he : i % 2 = 0
  · have e2 : ((i : Int) % 2 == 0) = true := beq_iff_eq.2 (by omega)
    simp -implicitDefEqProofs (maxSteps := 2000000) (disch := omega) only [ipcp_Sum.l0, suE, b8_len, hx, rs_take hi, he, e2, go_sem, reduceIte, Nat.reduceAdd, Nat.reduceSub, Nat.reduceMul, Nat.reduceLeDiff, Nat.reduceLT, Nat.reduceEqDiff, Int.reduceToNat, Int.reduceLT, Int.reduceLE, Int.reduceEq, Int.reduceNe, Int.reduceAdd, Int.reduceSub, Int.reduceMul, Int.reduceNeg, Int.reduceBEq, Int.reduceBNe, reduceCtorEq, dreduceIte, oWS, oW8, oW16, oW32, oW64, oLtT, oLtF, oLeT, oLeF, oNLtT, oNLtF, oNLeT, oNLeF, oEqT, oEqF, oNEqT, oNEqF, oBeqT, oBeqF, oBneT, oBneF, Int.natCast_add, List.take_length]
  · have e2 : ((i : Int) % 2 == 0) = false := beq_eq_false_iff_ne.2 (by omega)
    simp -implicitDefEqProofs (maxSteps := 2000000) (disch := omega) only [ipcp_Sum.l0, suE, b8_len, hx, rs_take hi, he, e2, go_sem, reduceIte, Nat.reduceAdd, Nat.reduceSub, Nat.reduceMul, Nat.reduceLeDiff, Nat.reduceLT, Nat.reduceEqDiff, Int.reduceToNat, Int.reduceLT, Int.reduceLE, Int.reduceEq, Int.reduceNe, Int.reduceAdd, Int.reduceSub, Int.reduceMul, Int.reduceNeg, Int.reduceBEq, Int.reduceBNe, reduceCtorEq, dreduceIte, oWS, oW8, oW16, oW32, oW64, oLtT, oLtF, oLeT, oLeF, oNLtT, oNLtF, oNLeT, oNLeF, oEqT, oEqF, oNEqT, oNEqF, oBeqT, oBeqF, oBneT, oBneF, Int.natCast_add, List.take_length]
theorem su_fold (l : List Int) (i : Nat) : ∀ (k : Nat) (n : Int), 0 ≤ n → n ≤ 1000000000 → n ≤ 65535 + k → ex G (.loop [] ipcp_Sum.l1) (suE l n i) [[]] = some (.exit 2, suE l (fo n) i, [[]])
  | 0, n, h0, hm, hk => by
    rw [fo_id h0 (by omega)]
    refine rnd_end ?_
    simp -implicitDefEqProofs (maxSteps := 2000000) (disch := omega) only [ipcp_Sum.l1, suE, go_sem, reduceIte, Nat.reduceAdd, Nat.reduceSub, Nat.reduceMul, Nat.reduceLeDiff, Nat.reduceLT, Nat.reduceEqDiff, Int.reduceToNat, Int.reduceLT, Int.reduceLE, Int.reduceEq, Int.reduceNe, Int.reduceAdd, Int.reduceSub, Int.reduceMul, Int.reduceNeg, Int.reduceBEq, Int.reduceBNe, reduceCtorEq, dreduceIte, oWS, oW8, oW16, oW32, oW64, oLtT, oLtF, oLeT, oLeF, oNLtT, oNLtF, oNLeT, oNLeF, oEqT, oEqF, oNEqT, oNEqF, oBeqT, oBeqF, oBneT, oBneF, Int.natCast_add, List.take_length]
  | k + 1, n, h0, hm, hk => by
    by_cases h : 65535 < n
    · obtain ⟨f1, f2, f3⟩ := fo_fold h
      have ih := su_fold l i k (n % 65536 + n / 65536) f2 (by omega) (by omega)
      rw [f1] at ih
      rw [← ih]
      refine rnd_step ?_
      simp -implicitDefEqProofs (maxSteps := 2000000) (disch := omega) only [ipcp_Sum.l1, suE, go_sem, reduceIte, Nat.reduceAdd, Nat.reduceSub, Nat.reduceMul, Nat.reduceLeDiff, Nat.reduceLT, Nat.reduceEqDiff, Int.reduceToNat, Int.reduceLT, Int.reduceLE, Int.reduceEq, Int.reduceNe, Int.reduceAdd, Int.reduceSub, Int.reduceMul, Int.reduceNeg, Int.reduceBEq, Int.reduceBNe, reduceCtorEq, dreduceIte, oWS, oW8, oW16, oW32, oW64, oLtT, oLtF, oLeT, oLeF, oNLtT, oNLtF, oNLeT, oNLeF, oEqT, oEqF, oNEqT, oNEqF, oBeqT, oBeqF, oBneT, oBneF, Int.natCast_add, List.take_length]
    · rw [fo_id h0 (by omega)]
      refine rnd_end ?_
      simp -implicitDefEqProofs (maxSteps := 2000000) (disch := omega) only [ipcp_Sum.l1, suE, go_sem, reduceIte, Nat.reduceAdd, Nat.reduceSub, Nat.reduceMul, Nat.reduceLeDiff, Nat.reduceLT, Nat.reduceEqDiff, Int.reduceToNat, Int.reduceLT, Int.reduceLE, Int.reduceEq, Int.reduceNe, Int.reduceAdd, Int.reduceSub, Int.reduceMul, Int.reduceNeg, Int.reduceBEq, Int.reduceBNe, reduceCtorEq, dreduceIte, oWS, oW8, oW16, oW32, oW64, oLtT, oLtF, oLeT, oLeF, oNLtT, oNLtF, oNLeT, oNLeF, oEqT, oEqF, oNEqT, oNEqF, oBeqT, oBeqF, oBneT, oBneF, Int.natCast_add, List.take_length]
theorem p_Sum (l : List Int) (hb : okB l) (hl : l.length ≤ 2000) : run G 13 [.v (.slc 1 (b8 l))] [] = some (.v (.int .u16 (sumR l)), []) := by
  rw [xq_fn G rfl ipcp_Sum.g _ _ rfl]
  have L := lpFor (G := G) (kill := [6, 7]) (body := ipcp_Sum.l0) (fun i => suE l (rs (l.take i)) i) (fun _ => [[]]) l.length (fun i hi => su_step l hb hl i hi) (by simp -implicitDefEqProofs (maxSteps := 2000000) (disch := omega) only [ipcp_Sum.l0, suE, go_sem, reduceIte, Nat.reduceAdd, Nat.reduceSub, Nat.reduceMul, Nat.reduceLeDiff, Nat.reduceLT, Nat.reduceEqDiff, Int.reduceToNat, Int.reduceLT, Int.reduceLE, Int.reduceEq, Int.reduceNe, Int.reduceAdd, Int.reduceSub, Int.reduceMul, Int.reduceNeg, Int.reduceBEq, Int.reduceBNe, reduceCtorEq, dreduceIte, oWS, oW8, oW16, oW32, oW64, oLtT, oLtF, oLeT, oLeF, oNLtT, oNLtF, oNLeT, oNLeF, oEqT, oEqF, oNEqT, oNEqF, oBeqT, oBeqF, oBneT, oBneF, Int.natCast_add, List.take_length]; rfl)
  have hr := rs_rng l hb
  have L2 := su_fold l l.length 1000000000 (rs l) hr.1 (by omega) (by omega)
  have hf := fo_rng hr.1
  unfold suE at L L2
  simp only [rs, z0, Int.cast_ofNat_Int, List.take_zero, List.map_nil, List.drop_zero, accN, b8_nil, Int.sub_zero, Int.add_zero, Int.zero_add, Nat.zero_add, Nat.sub_zero, List.nil_append, List.append_nil] at L
  simp -implicitDefEqProofs (maxSteps := 2000000) (disch := omega) only [ipcp_Sum.s, b8_len, L, L2, sumR, go_sem, reduceIte, Nat.reduceAdd, Nat.reduceSub, Nat.reduceMul, Nat.reduceLeDiff, Nat.reduceLT, Nat.reduceEqDiff, Int.reduceToNat, Int.reduceLT, Int.reduceLE, Int.reduceEq, Int.reduceNe, Int.reduceAdd, Int.reduceSub, Int.reduceMul, Int.reduceNeg, Int.reduceBEq, Int.reduceBNe, reduceCtorEq, dreduceIte, oWS, oW8, oW16, oW32, oW64, oLtT, oLtF, oLeT, oLeF, oNLtT, oNLtF, oNLeT, oNLeF, oEqT, oEqF, oNEqT, oNEqF, oBeqT, oBeqF, oBneT, oBneF, Int.natCast_add, List.take_length]
abbrev srE (l : List Int) (k : Nat) : List D := [.v (.slc 1 (b8 l)), .v (.int .u16 0), .v (.int .i64 (fo (rs (l.take (2 * k))))), .v (.int .i64 (2 * k : Nat))]
theorem sr_step (l : List Int) (hb : okB l) (hl : l.length ≤ 2000) (k : Nat) (hk : 2 * k < l.length) : rndE G [] euphroeref32_Sum.l0 (srE l k) [[]] = some (.inl (srE l (k + 1), [[]])) := by
  have hx := b8_at (List.getElem?_eq_getElem hk)
  have hc := hb l[2 * k] (List.getElem_mem _)
  have hr := rs_rng (l.take (2 * k)) (okB_take hb _)
  rw [List.length_take] at hr
  have hf := fo_rng hr.1
  have t1 := rs_take hk
  rw [if_pos (by omega)] at t1
  have tm : ∀ {x : Int}, 0 ≤ x → x.tmod 65536 = x % 65536 := fun h => Int.tmod_eq_emod_of_nonneg h
  have td : ∀ {x : Int}, 0 ≤ x → x.tdiv 65536 = x / 65536 := fun h => Int.tdiv_eq_ediv_of_nonneg h
  have e3 : ((2 * (k + 1) : Nat) : Int) = ((2 * k : Nat) : Int) + 2 := by omega
  by_cases h1 : 2 * k + 1 < l.length
  · have hy := b8_at (List.getElem?_eq_getElem h1)
    have hd := hb l[2 * k + 1] (List.getElem_mem _)
    have t2 := rs_take h1
    rw [if_neg (by omega), t1] at t2
    have hfo := fo_add (x := rs (l.take (2 * k))) (s := 256 * l[2 * k] + l[2 * k + 1]) hr.1 (by omega)
    have h6 := fo_one (n := fo (rs (l.take (2 * k))) + (256 * l[2 * k] + l[2 * k + 1])) (by omega) (by omega)
    rw [hfo, ← Int.add_assoc, ← Int.add_assoc, ← t2] at h6
    have e4 : (((2 * k : Nat) : Int) + 1).toNat = 2 * k + 1 := by omega
    unfold srE
    generalize fo (rs (l.take (2 * k))) = u at *
    rw [show 2 * (k + 1) = 2 * k + 2 by omega, show 2 * k + 2 = 2 * k + 1 + 1 from rfl, ← h6, show 2 * k + 1 + 1 = 2 * k + 2 from rfl]
    generalize hm : 2 * k = m at *
    simp -implicitDefEqProofs (maxSteps := 2000000) (disch := omega) only [euphroeref32_Sum.l0, srE, b8_len, hx, hy, e4, tm, td, go_sem, reduceIte, Nat.reduceAdd, Nat.reduceSub, Nat.reduceMul, Nat.reduceLeDiff, Nat.reduceLT, Nat.reduceEqDiff, Int.reduceToNat, Int.reduceLT, Int.reduceLE, Int.reduceEq, Int.reduceNe, Int.reduceAdd, Int.reduceSub, Int.reduceMul, Int.reduceNeg, Int.reduceBEq, Int.reduceBNe, reduceCtorEq, dreduceIte, oWS, oW8, oW16, oW32, oW64, oLtT, oLtF, oLeT, oLeF, oNLtT, oNLtF, oNLeT, oNLeF, oEqT, oEqF, oNEqT, oNEqF, oBeqT, oBeqF, oBneT, oBneF, Int.natCast_add, List.take_length]
  · have hfo := fo_add (x := rs (l.take (2 * k))) (s := 256 * l[2 * k]) hr.1 (by omega)
    have h6 := fo_one (n := fo (rs (l.take (2 * k))) + (256 * l[2 * k])) (by omega) (by omega)
    rw [hfo, ← t1] at h6
    unfold srE
    rw [show l.take (2 * (k + 1)) = l.take (2 * k + 1) by rw [List.take_of_length_le (by omega), List.take_of_length_le (by omega)], ← h6]
    generalize fo (rs (l.take (2 * k))) = u at *
    have q1 : ¬ ((2 * k : Nat) : Int) + 1 < ((l.length : Nat) : Int) := by omega
    rw [show 2 * (k + 1) = 2 * k + 2 by omega]
    generalize hm : 2 * k = m at *
    simp -implicitDefEqProofs (maxSteps := 2000000) (disch := omega) only [euphroeref32_Sum.l0, srE, b8_len, hx, q1, tm, td, go_sem, reduceIte, Nat.reduceAdd, Nat.reduceSub, Nat.reduceMul, Nat.reduceLeDiff, Nat.reduceLT, Nat.reduceEqDiff, Int.reduceToNat, Int.reduceLT, Int.reduceLE, Int.reduceEq, Int.reduceNe, Int.reduceAdd, Int.reduceSub, Int.reduceMul, Int.reduceNeg, Int.reduceBEq, Int.reduceBNe, reduceCtorEq, dreduceIte, oWS, oW8, oW16, oW32, oW64, oLtT, oLtF, oLeT, oLeF, oNLtT, oNLtF, oNLeT, oNLeF, oEqT, oEqF, oNEqT, oNEqF, oBeqT, oBeqF, oBneT, oBneF, Int.natCast_add, List.take_length]
theorem r_Sum (l : List Int) (hb : okB l) (hl : l.length ≤ 2000) : run G 14 [.v (.slc 1 (b8 l))] [] = some (.v (.int .u16 (sumR l)), []) := by
  rw [xq_fn G rfl euphroeref32_Sum.g _ _ rfl]
  have hr := rs_rng l hb
  have hf := fo_rng hr.1
  have L := lpFor (G := G) (kill := []) (body := euphroeref32_Sum.l0) (fun i => srE l i) (fun _ => [[]]) ((l.length + 1) / 2) (fun i hi => sr_step l hb hl i (by omega)) (by
    have q : ¬ ((2 * ((l.length + 1) / 2) : Nat) : Int) < (l.length : Nat) := by omega
    simp -implicitDefEqProofs (maxSteps := 2000000) (disch := omega) only [euphroeref32_Sum.l0, srE, b8_len, q, go_sem, reduceIte, Nat.reduceAdd, Nat.reduceSub, Nat.reduceMul, Nat.reduceLeDiff, Nat.reduceLT, Nat.reduceEqDiff, Int.reduceToNat, Int.reduceLT, Int.reduceLE, Int.reduceEq, Int.reduceNe, Int.reduceAdd, Int.reduceSub, Int.reduceMul, Int.reduceNeg, Int.reduceBEq, Int.reduceBNe, reduceCtorEq, dreduceIte, oWS, oW8, oW16, oW32, oW64, oLtT, oLtF, oLeT, oLeF, oNLtT, oNLtF, oNLeT, oNLeF, oEqT, oEqF, oNEqT, oNEqF, oBeqT, oBeqF, oBneT, oBneF, Int.natCast_add, List.take_length]; rfl)
  unfold srE at L
  rw [List.take_of_length_le (show l.length ≤ 2 * ((l.length + 1) / 2) by omega)] at L
  have f0 : fo 0 = 0 := rfl
  simp only [rs, Nat.mul_zero, f0, z0, Int.cast_ofNat_Int, List.take_zero, List.map_nil, List.drop_zero, accN, b8_nil, Int.sub_zero, Int.add_zero, Int.zero_add, Nat.zero_add, Nat.sub_zero, List.nil_append, List.append_nil] at L
  simp -implicitDefEqProofs (maxSteps := 2000000) (disch := omega) only [euphroeref32_Sum.s, b8_len, L, sumR, go_sem, reduceIte, Nat.reduceAdd, Nat.reduceSub, Nat.reduceMul, Nat.reduceLeDiff, Nat.reduceLT, Nat.reduceEqDiff, Int.reduceToNat, Int.reduceLT, Int.reduceLE, Int.reduceEq, Int.reduceNe, Int.reduceAdd, Int.reduceSub, Int.reduceMul, Int.reduceNeg, Int.reduceBEq, Int.reduceBNe, reduceCtorEq, dreduceIte, oWS, oW8, oW16, oW32, oW64, oLtT, oLtF, oLeT, oLeF, oNLtT, oNLtF, oNLeT, oNLeF, oEqT, oEqF, oNEqT, oNEqF, oBeqT, oBeqF, oBneT, oBneF, Int.natCast_add, List.take_length]
end Go.Q
