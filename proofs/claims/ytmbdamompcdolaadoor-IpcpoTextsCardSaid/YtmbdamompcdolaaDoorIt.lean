/- Addresses as texts: what ipcpo and its reference compute; the law IpcpoTexts. No condition. -/
import Derived.Test.YtmbdamompcdolaaDoorIa
set_option maxRecDepth 100000
set_option linter.unusedSimpArgs false
set_option linter.unusedVariables false
namespace Go.Q
open SOp SCode
attribute [local congr] bind_c map_c
/-! ### Digits -/
theorem dg_lt {u : Nat} (h : u < 10) : Lib.decDigits u = [UInt8.ofNat (48 + u)] := by rw [Lib.decDigits, dif_pos h]
theorem dg_ge {u : Nat} (h : ¬ u < 10) : Lib.decDigits u = Lib.decDigits (u / 10) ++ Lib.decDigits (u % 10) := by
  have e := dg_lt (u := u % 10) (by omega)
  rw [Lib.decDigits, dif_neg h, e]
theorem dg_len (u : Nat) : (Lib.decDigits u).length ≤ u + 1 := by
  induction u using Nat.strongRecOn with
  | _ u ih =>
  by_cases h : u < 10
  · rw [dg_lt h]; simp
  · have h1 := ih (u / 10) (by omega)
    rw [Lib.decDigits, dif_neg h]
    simp
    omega
theorem t_digits (n : Nat) (hn : n ≤ 4294967295) : run G 51 [.v (.int .u32 n)] [] = some (.v (.str (Lib.decDigits n)), []) := by
  induction n using Nat.strongRecOn with
  | _ n ih =>
  rw [xq_fn G rfl euphroeref26_digits.g _ _ rfl]
  by_cases h : n < 10
  · rw [dg_lt h]
    have w1 : IntKind.u8.wrap (48 + (n : Int)) = 48 + (n : Int) := wrap8 (by omega)
    have e : bytesOf [V.int .u8 (48 + (n : Int))] = some [UInt8.ofNat (48 + n)] := by
      have : (48 + (n : Int)).toNat = 48 + n := by omega
      simp only [bytesOf, this]
      rw [if_pos (by omega)]; rfl
    simp -implicitDefEqProofs (disch := omega) only [euphroeref26_digits.s, w1, e, slcOf, go_sem, reduceIte, Nat.reduceAdd, Nat.reduceSub, Nat.reduceMul, Nat.reduceLeDiff, Nat.reduceLT, Nat.reduceEqDiff, Int.reduceToNat, Int.reduceLT, Int.reduceLE, Int.reduceEq, Int.reduceNe, Int.reduceAdd, Int.reduceSub, Int.reduceMul, Int.reduceNeg, Int.reduceBEq, Int.reduceBNe, reduceCtorEq, dreduceIte, true_or, or_true, false_or, or_false, or_self, ac_x, ac_t, setW_s, setW_0, ac_cp, ac_cpw, ac_lenw, ac_ret, ac_pop, ac_popw, cl_cp, oWS, oW8, oW16, oW32, oW64, oLtT, oLtF, oLeT, oLeF, oNLtT, oNLtF, oNLeT, oNLeF, oEqT, oEqF, oNEqT, oNEqF, oBeqT, oBeqF, oBneT, oBneF, Int.natCast_add, Int.cast_ofNat_Int, Int.toNat_natCast, List.take_length, rndE_eq, rnd_n, rnd_r, rnd_e]
  · have h1 := ih (n / 10) (by omega) (by omega)
    have h2 := ih (n % 10) (by omega) (by omega)
    have q1 : ((n : Nat) : Int).tdiv 10 = ((n / 10 : Nat) : Int) := by rw [Int.tdiv_eq_ediv_of_nonneg (by omega)]; omega
    have q2 : ((n : Nat) : Int).tmod 10 = ((n % 10 : Nat) : Int) := by rw [Int.tmod_eq_emod_of_nonneg (by omega)]; omega
    have l1 := dg_len (n / 10)
    have l2 := dg_len (n % 10)
    rw [dg_ge h]
    generalize hd : n / 10 = d at *
    generalize hm : n % 10 = m at *
    simp -implicitDefEqProofs (disch := omega) only [euphroeref26_digits.s, q1, q2, h1, h2, go_sem, reduceIte, Nat.reduceAdd, Nat.reduceSub, Nat.reduceMul, Nat.reduceLeDiff, Nat.reduceLT, Nat.reduceEqDiff, Int.reduceToNat, Int.reduceLT, Int.reduceLE, Int.reduceEq, Int.reduceNe, Int.reduceAdd, Int.reduceSub, Int.reduceMul, Int.reduceNeg, Int.reduceBEq, Int.reduceBNe, reduceCtorEq, dreduceIte, true_or, or_true, false_or, or_false, or_self, ac_x, ac_t, setW_s, setW_0, ac_cp, ac_cpw, ac_lenw, ac_ret, ac_pop, ac_popw, cl_cp, oWS, oW8, oW16, oW32, oW64, oLtT, oLtF, oLeT, oLeF, oNLtT, oNLtF, oNLeT, oNLeF, oEqT, oEqF, oNEqT, oNEqF, oBeqT, oBeqF, oBneT, oBneF, Int.natCast_add, Int.cast_ofNat_Int, Int.toNat_natCast, List.take_length, rndE_eq, rnd_n, rnd_r, rnd_e]
/-! ### Text -/
def by4 (a : Int) : List Nat := [(a / 16777216 % 256).toNat, (a / 65536 % 256).toNat, (a / 256 % 256).toNat, (a % 256).toNat]
theorem by4_big (a : Int) : big 4 a = (by4 a).map fun (n : Nat) => (n : Int) := by
  have h1 := Int.emod_nonneg (a / 16777216) (b := 256) (by decide)
  have h2 := Int.emod_nonneg (a / 65536) (b := 256) (by decide)
  have h3 := Int.emod_nonneg (a / 256) (b := 256) (by decide)
  have h4 := Int.emod_nonneg a (b := 256) (by decide)
  rw [big_cons, big_cons, big_cons, big_cons]
  simp only [by4, List.map_cons, List.map_nil, big, Int.toNat_of_nonneg h1, Int.toNat_of_nonneg h2, Int.toNat_of_nonneg h3, Int.toNat_of_nonneg h4]
  have p3 : (256 : Int) ^ 3 = 16777216 := by decide
  have p2 : (256 : Int) ^ 2 = 65536 := by decide
  have p1 : (256 : Int) ^ 1 = 256 := by decide
  have p0 : (256 : Int) ^ 0 = 1 := by decide
  rw [p3, p2, p1, p0, Int.ediv_one]
def tx (a : Int) : List UInt8 := Lib.join ((by4 a).map Lib.decDigits) [46]
theorem tx_eq (a : Int) : tx a = Lib.decDigits (a / 16777216 % 256).toNat ++ [46] ++ Lib.decDigits (a / 65536 % 256).toNat ++ [46] ++ Lib.decDigits (a / 256 % 256).toNat ++ [46] ++ Lib.decDigits (a % 256).toNat := by
  simp [tx, by4, Lib.join]
theorem t_rtext (a : Int) (h : u32ok a) : run G 23 [.v (.int .u32 a)] [] = some (.v (.str (tx a)), []) := by
  obtain ⟨n, rfl⟩ : ∃ n : Nat, a = n := ⟨a.toNat, by omega⟩
  have hn : n ≤ 4294967295 := by omega
  rw [xq_fn G rfl euphroeref26_Text.g _ _ rfl]
  have q1 : ((n : Nat) : Int).tdiv 16777216 = ((n / 16777216 : Nat) : Int) := by rw [Int.tdiv_eq_ediv_of_nonneg (by omega)]; omega
  have q2 : ((n : Nat) : Int).tdiv 65536 = ((n / 65536 : Nat) : Int) := by rw [Int.tdiv_eq_ediv_of_nonneg (by omega)]; omega
  have q3 : ((n : Nat) : Int).tdiv 256 = ((n / 256 : Nat) : Int) := by rw [Int.tdiv_eq_ediv_of_nonneg (by omega)]; omega
  have q4 : ((n / 65536 : Nat) : Int).tmod 256 = ((n / 65536 % 256 : Nat) : Int) := by rw [Int.tmod_eq_emod_of_nonneg (by omega)]; omega
  have q5 : ((n / 256 : Nat) : Int).tmod 256 = ((n / 256 % 256 : Nat) : Int) := by rw [Int.tmod_eq_emod_of_nonneg (by omega)]; omega
  have q6 : ((n : Nat) : Int).tmod 256 = ((n % 256 : Nat) : Int) := by rw [Int.tmod_eq_emod_of_nonneg (by omega)]; omega
  have e1 : ((n : Int) / 16777216 % 256).toNat = n / 16777216 := by omega
  have e2 : ((n : Int) / 65536 % 256).toNat = n / 65536 % 256 := by omega
  have e3 : ((n : Int) / 256 % 256).toNat = n / 256 % 256 := by omega
  have e4 : ((n : Int) % 256).toNat = n % 256 := by omega
  rw [tx_eq, e1, e2, e3, e4]
  have d1 := t_digits (n / 16777216) (by omega)
  have d2 := t_digits (n / 65536 % 256) (by omega)
  have d3 := t_digits (n / 256 % 256) (by omega)
  have d4 := t_digits (n % 256) (by omega)
  have l1 := dg_len (n / 16777216)
  have l2 := dg_len (n / 65536 % 256)
  have l3 := dg_len (n / 256 % 256)
  have l4 := dg_len (n % 256)
  generalize g1 : n / 16777216 = a1 at *
  generalize g2 : n / 65536 % 256 = a2 at *
  generalize g3 : n / 256 % 256 = a3 at *
  generalize g4 : n % 256 = a4 at *
  generalize g5 : n / 65536 = a5 at *
  generalize g6 : n / 256 = a6 at *
  simp -implicitDefEqProofs (disch := omega) only [euphroeref26_Text.s, q1, q2, q3, q4, q5, q6, d1, d2, d3, d4, List.length_append, List.length_cons, List.length_nil, go_sem, reduceIte, Nat.reduceAdd, Nat.reduceSub, Nat.reduceMul, Nat.reduceLeDiff, Nat.reduceLT, Nat.reduceEqDiff, Int.reduceToNat, Int.reduceLT, Int.reduceLE, Int.reduceEq, Int.reduceNe, Int.reduceAdd, Int.reduceSub, Int.reduceMul, Int.reduceNeg, Int.reduceBEq, Int.reduceBNe, reduceCtorEq, dreduceIte, true_or, or_true, false_or, or_false, or_self, ac_x, ac_t, setW_s, setW_0, ac_cp, ac_cpw, ac_lenw, ac_ret, ac_pop, ac_popw, cl_cp, oWS, oW8, oW16, oW32, oW64, oLtT, oLtF, oLeT, oLeF, oNLtT, oNLtF, oNLeT, oNLeF, oEqT, oEqF, oNEqT, oNEqF, oBeqT, oBeqF, oBneT, oBneF, Int.natCast_add, Int.cast_ofNat_Int, Int.toNat_natCast, List.take_length, rndE_eq, rnd_n, rnd_r, rnd_e]
theorem p_itoa (n : Nat) (h : n ≤ 255) : run G 49 [.v (.int .i64 n)] [] = some (.v (.str (Lib.decDigits n)), []) := by
  rw [xq_prim G rfl]
  have e : Lib.itoa (n : Int) = Lib.decDigits n := by
    unfold Lib.itoa
    rw [if_neg (by omega)]
    rfl
  simp only [primPure, allV, Option.map_some, Option.bind_some, itoaF]
  rw [if_pos (by omega), e]
  rfl
def strs (l : List Nat) : List V := l.map fun n => V.str (Lib.decDigits n)
theorem strs_len (l : List Nat) : (strs l).length = l.length := by simp [strs]
def b8n (l : List Nat) : List V := b8 (l.map fun (n : Nat) => (n : Int))
theorem b8n_len (l : List Nat) : (b8n l).length = l.length := by simp [b8n, b8]
theorem b8n_at {l : List Nat} {i : Nat} (h : i < l.length) : (b8n l)[i]? = some (.int .u8 (l[i] : Nat)) := by simp [b8n, b8, h]
theorem strsOf_strs : ∀ (l : List Nat), strsOf (strs l) = some (l.map Lib.decDigits)
  | [] => rfl
  | x :: l => by
    have := strsOf_strs l
    simp only [strs] at this
    simp only [strs, List.map_cons, strsOf, this, Option.map_some]
theorem by4_le (a : Int) : ∀ x ∈ by4 a, x ≤ 255 := by
  intro x hx
  simp only [by4, List.mem_cons, List.not_mem_nil, or_false] at hx
  rcases hx with rfl | rfl | rfl | rfl <;> omega
theorem join_len : ∀ (l : List (List UInt8)), (∀ x ∈ l, x.length ≤ 256) → (Lib.join l [46]).length ≤ l.length * 257
  | [], _ => by simp [Lib.join]
  | [x], h => by have := h x (by simp); simp [Lib.join]; omega
  | x :: y :: l, h => by
    have ih := join_len (y :: l) (fun z hz => h z (List.mem_cons_of_mem _ hz))
    have := h x (by simp)
    simp [Lib.join] at ih ⊢
    omega
theorem t_text (a : Int) (h : u32ok a) : run G 22 [.v (.int .u32 a)] [] = some (.v (.str (tx a)), []) := by
  rw [xq_fn G rfl ipcpo_Text.g _ _ rfl]
  have hM := hmax
  have P := put85 a (by omega) (by omega) 4 (by omega) (by omega)
  rw [by4_big] at P
  have hP : b8 ((by4 a).map fun (n : Nat) => (n : Int)) = b8n (by4 a) := rfl
  rw [hP] at P
  simp only [z0, Int.cast_ofNat_Int, List.take_zero, List.map_nil, List.drop_zero, accN, b8_nil, Int.sub_zero, Int.add_zero, Int.zero_add, Nat.zero_add, Nat.sub_zero, List.nil_append, List.append_nil] at P
  have h4 : (by4 a).length = 4 := rfl
  have hle := by4_le a
  have L := lpFor (G := G) (kill := [7]) (body := ipcpo_Text.l0) (fun i => [.v (.int .u32 a), .v (.str []), .lin 1 (b8n (by4 a)), accG 1 (strs ((by4 a).take i)), .v (.slc 1 (b8n (by4 a))), .v (.int .i64 4), .v (.int .i64 i), .undef]) (fun i => [[]]) 4
    (fun i hi => by
      have hi' : i < (by4 a).length := by omega
      have hx := b8n_at hi'
      have he := hle _ (List.getElem_mem hi')
      have I := p_itoa (by4 a)[i] he
      have ha := ac_app 1 (strs ((by4 a).take i)) 16 [.str (Lib.decDigits (by4 a)[i])] (by simp) (by rw [strs_len, List.length_take]; simp; omega)
      have e1 : strs ((by4 a).take i) ++ [.str (Lib.decDigits (by4 a)[i])] = strs ((by4 a).take (i + 1)) := by rw [take_succ hi', strs, strs, List.map_append]; rfl
      rw [e1] at ha
      generalize (by4 a)[i] = n at *
      simp -implicitDefEqProofs (disch := omega) only [ipcpo_Text.l0, b8n_len, hx, I, ha, go_sem, reduceIte, Nat.reduceAdd, Nat.reduceSub, Nat.reduceMul, Nat.reduceLeDiff, Nat.reduceLT, Nat.reduceEqDiff, Int.reduceToNat, Int.reduceLT, Int.reduceLE, Int.reduceEq, Int.reduceNe, Int.reduceAdd, Int.reduceSub, Int.reduceMul, Int.reduceNeg, Int.reduceBEq, Int.reduceBNe, reduceCtorEq, dreduceIte, true_or, or_true, false_or, or_false, or_self, ac_x, ac_t, setW_s, setW_0, ac_cp, ac_cpw, ac_lenw, ac_ret, ac_pop, ac_popw, cl_cp, oWS, oW8, oW16, oW32, oW64, oLtT, oLtF, oLeT, oLeF, oNLtT, oNLtF, oNLeT, oNLeF, oEqT, oEqF, oNEqT, oNEqF, oBeqT, oBeqF, oBneT, oBneF, Int.natCast_add, Int.cast_ofNat_Int, Int.toNat_natCast, List.take_length, rndE_eq, rnd_n, rnd_r, rnd_e]) (by simp -implicitDefEqProofs (disch := omega) only [ipcpo_Text.l0, go_sem, reduceIte, Nat.reduceAdd, Nat.reduceSub, Nat.reduceMul, Nat.reduceLeDiff, Nat.reduceLT, Nat.reduceEqDiff, Int.reduceToNat, Int.reduceLT, Int.reduceLE, Int.reduceEq, Int.reduceNe, Int.reduceAdd, Int.reduceSub, Int.reduceMul, Int.reduceNeg, Int.reduceBEq, Int.reduceBNe, reduceCtorEq, dreduceIte, true_or, or_true, false_or, or_false, or_self, ac_x, ac_t, setW_s, setW_0, ac_cp, ac_cpw, ac_lenw, ac_ret, ac_pop, ac_popw, cl_cp, oWS, oW8, oW16, oW32, oW64, oLtT, oLtF, oLeT, oLeF, oNLtT, oNLtF, oNLeT, oNLeF, oEqT, oEqF, oNEqT, oNEqF, oBeqT, oBeqF, oBneT, oBneF, Int.natCast_add, Int.cast_ofNat_Int, Int.toNat_natCast, List.take_length, rndE_eq, rnd_n, rnd_r, rnd_e]; rfl)
  have t4 : (by4 a).take 4 = by4 a := rfl
  have t0 : strs [] = [] := rfl
  rw [t4] at L
  simp only [t0, z0, Int.cast_ofNat_Int, List.take_zero, List.map_nil, List.drop_zero, accN, b8_nil, Int.sub_zero, Int.add_zero, Int.zero_add, Nat.zero_add, Nat.sub_zero, List.nil_append, List.append_nil] at L
  have hj : run G 50 [.v (.slc 1 (strs (by4 a))), .v (.str [46])] [] = some (.v (.str (tx a)), []) := by
    have jl := join_len ((by4 a).map Lib.decDigits) (fun x hx => by
      obtain ⟨n, hn, rfl⟩ := List.mem_map.1 hx
      have := hle n hn
      have := dg_len n
      omega)
    rw [xq_prim G rfl]
    simp only [primPure, allV, Option.map_some, Option.bind_some, joinF, strsOf_strs]
    rw [if_pos (by
      rw [List.length_map, h4] at jl ⊢
      omega)]
    rfl
  have w4 : wkG 1 (strs (by4 a)) = .v (.slc 1 (strs (by4 a))) := rfl
  simp -implicitDefEqProofs (disch := omega) only [ipcpo_Text.s, P, b8n_len, L, h4, w4, hj, go_sem, reduceIte, Nat.reduceAdd, Nat.reduceSub, Nat.reduceMul, Nat.reduceLeDiff, Nat.reduceLT, Nat.reduceEqDiff, Int.reduceToNat, Int.reduceLT, Int.reduceLE, Int.reduceEq, Int.reduceNe, Int.reduceAdd, Int.reduceSub, Int.reduceMul, Int.reduceNeg, Int.reduceBEq, Int.reduceBNe, reduceCtorEq, dreduceIte, true_or, or_true, false_or, or_false, or_self, ac_x, ac_t, setW_s, setW_0, ac_cp, ac_cpw, ac_lenw, ac_ret, ac_pop, ac_popw, cl_cp, oWS, oW8, oW16, oW32, oW64, oLtT, oLtF, oLeT, oLeF, oNLtT, oNLtF, oNLeT, oNLeF, oEqT, oEqF, oNEqT, oNEqF, oBeqT, oBeqF, oBneT, oBneF, Int.natCast_add, Int.cast_ofNat_Int, Int.toNat_natCast, List.take_length, rndE_eq, rnd_n, rnd_r, rnd_e]
/-! ### Parse -/
theorem shl_32 {a : Int} (h : 0 ≤ a ∧ a ≤ 4294967295) : opBin .shl (.v (.int .u32 a)) (.v (.int .u64 8)) = some (.v (.int .u32 (a % 16777216 * 256))) := by
  show some (D.v (.int .u32 (IntKind.u32.wrap (a * 256)))) = _
  have e : IntKind.u32.wrap (a * 256) = a % 16777216 * 256 := by
    simp only [IntKind.wrap, IntKind.signed, IntKind.bits]; simp; omega
  rw [e]
theorem or_32 {x c : Int} (h : 0 ≤ x ∧ x < 16777216 ∧ 0 ≤ c ∧ c ≤ 255) : opBin .or (.v (.int .u32 (x * 256))) (.v (.int .u32 c)) = some (.v (.int .u32 (x * 256 + c))) := by
  obtain ⟨h0, h1, c0, c1⟩ := h
  obtain ⟨a, rfl⟩ := Int.eq_ofNat_of_zero_le h0
  obtain ⟨b, rfl⟩ := Int.eq_ofNat_of_zero_le c0
  have e1 : (BitVec.ofInt 32 ((a : Int) * 256)).toNat = a * 256 := by
    rw [BitVec.toNat_ofInt]
    show (((a : Int) * 256) % ((2 ^ 32 : Nat) : Int)).toNat = _
    omega
  have e2 : (BitVec.ofInt 32 (b : Int)).toNat = b := by
    rw [BitVec.toNat_ofInt]
    show ((b : Int) % ((2 ^ 32 : Nat) : Int)).toNat = _
    omega
  have e3 : a * 256 ||| b = a * 256 + b := by
    have := Nat.shiftLeft_add_eq_or_of_lt (i := 8) (b := b) (by omega) a
    rw [Nat.shiftLeft_eq] at this
    rw [← this]
  show some (D.v (.int .u32 (IntKind.u32.wrap ((BitVec.ofInt 32 ((a : Int) * 256) ||| BitVec.ofInt 32 (b : Int)).toNat : Nat)))) = _
  rw [BitVec.toNat_or, e1, e2, e3, oW32 (by omega), Int.natCast_add, Int.natCast_mul]
  rfl
theorem p_atoi (w : List UInt8) (h : w.length ≤ 281474976710656) : run G 47 [.v (.str w)] [] = some (atoiE 166 w (Lib.atoiAll w), []) := by
  rw [xq_prim G rfl]
  simp only [primPure, allV, Option.map_some, Option.bind_some, atoiF]
  rw [if_pos h]
  rfl
def wdV (w : List UInt8) : Option Int := match Lib.atoiAll w with
  | .ok v => if 0 ≤ v ∧ v ≤ 255 then some v else none
  | _ => none
theorem wdV_rng {w : List UInt8} {v : Int} (h : wdV w = some v) : Lib.atoiAll w = .ok v ∧ 0 ≤ v ∧ v ≤ 255 := by
  unfold wdV at h
  split at h <;> first | (cases h; done) | skip
  rename_i e
  split at h <;> first | (cases h; done) | skip
  rename_i hv
  obtain rfl := Option.some.inj h
  exact ⟨e, hv⟩
def accI (ws : List (List UInt8)) : Nat → Int
  | 0 => 0
  | i + 1 => accI ws i % 16777216 * 256 + ((ws[i]?.bind wdV).getD 0)
theorem accI_rng (ws : List (List UInt8)) : ∀ i, u32ok (accI ws i)
  | 0 => ⟨Int.le_refl 0, by simp [accI]⟩
  | i + 1 => by
    have : 0 ≤ (ws[i]?.bind wdV).getD 0 ∧ (ws[i]?.bind wdV).getD 0 ≤ 255 := by
      cases h : ws[i]?.bind wdV with
      | none => simp
      | some v =>
        obtain ⟨w, _, h2⟩ := bind_some' h
        exact (wdV_rng h2).2
    simp only [u32ok, accI]
    omega
def okT (s : List UInt8) : Bool := (splitC 46 s).all (fun w => (wdV w).isSome) && decide ((splitC 46 s).length = 4) && (tx (accI (splitC 46 s) (splitC 46 s).length) == s)
def swV (l : List (List UInt8)) : List V := l.map V.str
theorem swV_len (l : List (List UInt8)) : (swV l).length = l.length := by simp [swV]
theorem swV_at {l : List (List UInt8)} {i : Nat} (h : i < l.length) : (swV l)[i]? = some (.str l[i]) := by simp [swV, h]
theorem splitC_len (c : UInt8) : ∀ s : List UInt8, (splitC c s).length ≤ s.length + 1
  | [] => by simp [splitC]
  | b :: l => by
    have ih := splitC_len c l
    unfold splitC
    split
    · simp; omega
    · split
      · simp
      · rename_i e; rw [e] at ih; simp at ih ⊢; omega
theorem splitC_word (c : UInt8) : ∀ s : List UInt8, ∀ w ∈ splitC c s, w.length ≤ s.length
  | [], w, h => by simp [splitC] at h; subst h; simp
  | b :: l, w, h => by
    have ih := splitC_word c l
    unfold splitC at h
    split at h
    · rcases List.mem_cons.1 h with rfl | h
      · simp
      · have := ih w h; simp; omega
    · split at h
      · simp at h; subst h; simp
      · rename_i x r e
        rw [e] at ih
        rcases List.mem_cons.1 h with rfl | h
        · have := ih x (by simp); simp; omega
        · have := ih w (by simp [h]); simp; omega
theorem t_parse (s : List UInt8) (hs : s.length ≤ 100) : run G 20 [.v (.str s)] [] = some (.tup [.v (.int .u32 (if okT s = true then accI (splitC 46 s) (splitC 46 s).length else 0)), .v (.int .i64 (if okT s = true then 0 else 3))], []) := by
  rw [xq_fn G rfl ipcpo_Parse.g _ _ rfl]
  have hl := splitC_len 46 s
  have hw := splitC_word 46 s
  have hSp : run G 46 [.v (.str s), .v (.str [46])] [] = some (.lin 1 (swV (splitC 46 s)), []) := by
    rw [xq_prim G rfl]
    simp only [primSplit]
    rw [if_pos (by omega)]
    rfl
  unfold okT
  generalize splitC 46 s = ws at *
  let E := fun (i : Nat) => [D.v (.str s), .v (.int .u32 0), .v (.int .i64 0), .lin 1 (swV ws), .v (.int .u32 (accI ws i)), .v (.slc 1 (swV ws)), .v (.int .i64 (ws.length : Nat)), .v (.int .i64 (i : Nat)), .undef, .undef, .undef]
  have step : ∀ i, i < ws.length → (∀ h : i < ws.length, wdV ws[i] ≠ none) → rndE G [8, 9, 10] ipcpo_Parse.l0 (E i) [[]] = some (.inl (E (i + 1), [[]])) := fun i hi h => by
    have hx := swV_at hi
    have hww := hw _ (List.getElem_mem hi)
    have A := p_atoi ws[i] (by omega)
    obtain ⟨v, hv⟩ := Option.ne_none_iff_exists'.1 (h hi)
    obtain ⟨ev, v0, v1⟩ := wdV_rng hv
    have ea : accI ws (i + 1) = accI ws i % 16777216 * 256 + v := by rw [accI, List.getElem?_eq_getElem hi, Option.bind_some, hv]; rfl
    have ar := accI_rng ws i
    have s1 := shl_32 ar
    have s2 := or_32 (x := accI ws i % 16777216) (c := v) (by omega)
    rw [ev] at A
    simp only [atoiE] at A
    simp only [E]
    rw [ea]
    generalize accI ws i = a at *
    generalize ws[i] = w at *
    simp -implicitDefEqProofs (disch := omega) only [ipcpo_Parse.l0, swV_len, hx, A, s1, s2, go_sem, reduceIte, Nat.reduceAdd, Nat.reduceSub, Nat.reduceMul, Nat.reduceLeDiff, Nat.reduceLT, Nat.reduceEqDiff, Int.reduceToNat, Int.reduceLT, Int.reduceLE, Int.reduceEq, Int.reduceNe, Int.reduceAdd, Int.reduceSub, Int.reduceMul, Int.reduceNeg, Int.reduceBEq, Int.reduceBNe, reduceCtorEq, dreduceIte, true_or, or_true, false_or, or_false, or_self, ac_x, ac_t, setW_s, setW_0, ac_cp, ac_cpw, ac_lenw, ac_ret, ac_pop, ac_popw, cl_cp, oWS, oW8, oW16, oW32, oW64, oLtT, oLtF, oLeT, oLeF, oNLtT, oNLtF, oNLeT, oNLeF, oEqT, oEqF, oNEqT, oNEqF, oBeqT, oBeqF, oBneT, oBneF, Int.natCast_add, Int.cast_ofNat_Int, Int.toNat_natCast, List.take_length, rndE_eq, rnd_n, rnd_r, rnd_e]
  rcases first_or (fun i => ∃ h : i < ws.length, wdV ws[i] = none) ws.length with h | ⟨j, h1, ⟨h2, h3⟩, h4⟩
  · have hno : ∀ i, ∀ h : i < ws.length, wdV ws[i] ≠ none := fun i hi e => h i hi ⟨hi, e⟩
    have hall : ws.all (fun w => (wdV w).isSome) = true := by
      rw [List.all_eq_true]
      intro w hw
      obtain ⟨i, hi, rfl⟩ := List.mem_iff_getElem.1 hw
      exact Option.isSome_iff_ne_none.2 (hno i hi)
    have L := lpFor (G := G) (kill := [8, 9, 10]) (body := ipcpo_Parse.l0) E (fun _ => [[]]) ws.length (fun i hi => step i hi (hno i)) (by simp only [E]; simp -implicitDefEqProofs (disch := omega) only [ipcpo_Parse.l0, swV_len, go_sem, reduceIte, Nat.reduceAdd, Nat.reduceSub, Nat.reduceMul, Nat.reduceLeDiff, Nat.reduceLT, Nat.reduceEqDiff, Int.reduceToNat, Int.reduceLT, Int.reduceLE, Int.reduceEq, Int.reduceNe, Int.reduceAdd, Int.reduceSub, Int.reduceMul, Int.reduceNeg, Int.reduceBEq, Int.reduceBNe, reduceCtorEq, dreduceIte, true_or, or_true, false_or, or_false, or_self, ac_x, ac_t, setW_s, setW_0, ac_cp, ac_cpw, ac_lenw, ac_ret, ac_pop, ac_popw, cl_cp, oWS, oW8, oW16, oW32, oW64, oLtT, oLtF, oLeT, oLeF, oNLtT, oNLtF, oNLeT, oNLeF, oEqT, oEqF, oNEqT, oNEqF, oBeqT, oBeqF, oBneT, oBneF, Int.natCast_add, Int.cast_ofNat_Int, Int.toNat_natCast, List.take_length, rndE_eq, rnd_n, rnd_r, rnd_e]; rfl)
    have a0 : accI ws 0 = 0 := rfl
    simp only [E, a0, z0, Int.cast_ofNat_Int, List.take_zero, List.map_nil, List.drop_zero, accN, b8_nil, Int.sub_zero, Int.add_zero, Int.zero_add, Nat.zero_add, Nat.sub_zero, List.nil_append, List.append_nil] at L
    have T := t_text (accI ws ws.length) (accI_rng ws _)
    rw [hall]
    generalize accI ws ws.length = a at *
    by_cases h4 : ws.length = 4
    · by_cases h5 : tx a = s
      · have e5 : (tx a == s) = true := by simp [h5]
        have e6 : (tx a != s) = false := by simp [h5]
        rw [show decide (ws.length = 4) = true from decide_eq_true h4, e5]
        simp -implicitDefEqProofs (disch := omega) only [ipcpo_Parse.s, hSp, swV_len, L, T, e5, go_sem, reduceIte, Nat.reduceAdd, Nat.reduceSub, Nat.reduceMul, Nat.reduceLeDiff, Nat.reduceLT, Nat.reduceEqDiff, Int.reduceToNat, Int.reduceLT, Int.reduceLE, Int.reduceEq, Int.reduceNe, Int.reduceAdd, Int.reduceSub, Int.reduceMul, Int.reduceNeg, Int.reduceBEq, Int.reduceBNe, reduceCtorEq, dreduceIte, true_or, or_true, false_or, or_false, or_self, ac_x, ac_t, setW_s, setW_0, ac_cp, ac_cpw, ac_lenw, ac_ret, ac_pop, ac_popw, cl_cp, oWS, oW8, oW16, oW32, oW64, oLtT, oLtF, oLeT, oLeF, oNLtT, oNLtF, oNLeT, oNLeF, oEqT, oEqF, oNEqT, oNEqF, oBeqT, oBeqF, oBneT, oBneF, Int.natCast_add, Int.cast_ofNat_Int, Int.toNat_natCast, List.take_length, rndE_eq, rnd_n, rnd_r, rnd_e]
      · have e5 : (tx a == s) = false := by simp [h5]
        have e6 : (tx a != s) = true := by simp [h5]
        rw [e5]
        simp -implicitDefEqProofs (disch := omega) only [ipcpo_Parse.s, hSp, swV_len, L, T, e5, go_sem, reduceIte, Nat.reduceAdd, Nat.reduceSub, Nat.reduceMul, Nat.reduceLeDiff, Nat.reduceLT, Nat.reduceEqDiff, Int.reduceToNat, Int.reduceLT, Int.reduceLE, Int.reduceEq, Int.reduceNe, Int.reduceAdd, Int.reduceSub, Int.reduceMul, Int.reduceNeg, Int.reduceBEq, Int.reduceBNe, reduceCtorEq, dreduceIte, true_or, or_true, false_or, or_false, or_self, ac_x, ac_t, setW_s, setW_0, ac_cp, ac_cpw, ac_lenw, ac_ret, ac_pop, ac_popw, cl_cp, oWS, oW8, oW16, oW32, oW64, oLtT, oLtF, oLeT, oLeF, oNLtT, oNLtF, oNLeT, oNLeF, oEqT, oEqF, oNEqT, oNEqF, oBeqT, oBeqF, oBneT, oBneF, Int.natCast_add, Int.cast_ofNat_Int, Int.toNat_natCast, List.take_length, rndE_eq, rnd_n, rnd_r, rnd_e]
    · rw [show decide (ws.length = 4) = false from decide_eq_false h4]
      simp -implicitDefEqProofs (disch := omega) only [ipcpo_Parse.s, hSp, swV_len, L, T, go_sem, reduceIte, Nat.reduceAdd, Nat.reduceSub, Nat.reduceMul, Nat.reduceLeDiff, Nat.reduceLT, Nat.reduceEqDiff, Int.reduceToNat, Int.reduceLT, Int.reduceLE, Int.reduceEq, Int.reduceNe, Int.reduceAdd, Int.reduceSub, Int.reduceMul, Int.reduceNeg, Int.reduceBEq, Int.reduceBNe, reduceCtorEq, dreduceIte, true_or, or_true, false_or, or_false, or_self, ac_x, ac_t, setW_s, setW_0, ac_cp, ac_cpw, ac_lenw, ac_ret, ac_pop, ac_popw, cl_cp, oWS, oW8, oW16, oW32, oW64, oLtT, oLtF, oLeT, oLeF, oNLtT, oNLtF, oNLeT, oNLeF, oEqT, oEqF, oNEqT, oNEqF, oBeqT, oBeqF, oBneT, oBneF, Int.natCast_add, Int.cast_ofNat_Int, Int.toNat_natCast, List.take_length, rndE_eq, rnd_n, rnd_r, rnd_e]
  · have hno : ∀ i, i < j → ∀ h : i < ws.length, wdV ws[i] ≠ none := fun i hi hil e => h4 i hi ⟨hil, e⟩
    have hall : ws.all (fun w => (wdV w).isSome) = false := by
      rw [List.all_eq_false]
      exact ⟨ws[j], List.getElem_mem h2, by simp [h3]⟩
    have L := lpFor (G := G) (kill := [8, 9, 10]) (body := ipcpo_Parse.l0) E (fun _ => [[]]) j (fun i hi => step i (by omega) (hno i hi)) (o := (.ret, [D.v (.str s), .v (.int .u32 0), .v (.int .i64 3), .lin 1 (swV ws), .v (.int .u32 (accI ws j)), .v (.slc 1 (swV ws)), .v (.int .i64 (ws.length : Nat)), .v (.int .i64 (j : Nat)), .undef, .undef, .undef], [[]])) (by
      have hx := swV_at h2
      have hww := hw _ (List.getElem_mem h2)
      have A := p_atoi ws[j] (by omega)
      unfold wdV at h3
      simp only [E]
      generalize accI ws j = a at *
      generalize ws[j] = w at *
      cases ev : Lib.atoiAll w
      · rename_i v
        rw [ev] at A h3
        simp only [atoiE] at A
        have hv : ¬ (0 ≤ v ∧ v ≤ 255) := fun hv => by simp [hv] at h3
        by_cases v0 : v < 0
        · simp -implicitDefEqProofs (disch := omega) only [ipcpo_Parse.l0, swV_len, hx, A, go_sem, reduceIte, Nat.reduceAdd, Nat.reduceSub, Nat.reduceMul, Nat.reduceLeDiff, Nat.reduceLT, Nat.reduceEqDiff, Int.reduceToNat, Int.reduceLT, Int.reduceLE, Int.reduceEq, Int.reduceNe, Int.reduceAdd, Int.reduceSub, Int.reduceMul, Int.reduceNeg, Int.reduceBEq, Int.reduceBNe, reduceCtorEq, dreduceIte, true_or, or_true, false_or, or_false, or_self, ac_x, ac_t, setW_s, setW_0, ac_cp, ac_cpw, ac_lenw, ac_ret, ac_pop, ac_popw, cl_cp, oWS, oW8, oW16, oW32, oW64, oLtT, oLtF, oLeT, oLeF, oNLtT, oNLtF, oNLeT, oNLeF, oEqT, oEqF, oNEqT, oNEqF, oBeqT, oBeqF, oBneT, oBneF, Int.natCast_add, Int.cast_ofNat_Int, Int.toNat_natCast, List.take_length, rndE_eq, rnd_n, rnd_r, rnd_e]
        · have v1 : 255 < v := by omega
          simp -implicitDefEqProofs (disch := omega) only [ipcpo_Parse.l0, swV_len, hx, A, go_sem, reduceIte, Nat.reduceAdd, Nat.reduceSub, Nat.reduceMul, Nat.reduceLeDiff, Nat.reduceLT, Nat.reduceEqDiff, Int.reduceToNat, Int.reduceLT, Int.reduceLE, Int.reduceEq, Int.reduceNe, Int.reduceAdd, Int.reduceSub, Int.reduceMul, Int.reduceNeg, Int.reduceBEq, Int.reduceBNe, reduceCtorEq, dreduceIte, true_or, or_true, false_or, or_false, or_self, ac_x, ac_t, setW_s, setW_0, ac_cp, ac_cpw, ac_lenw, ac_ret, ac_pop, ac_popw, cl_cp, oWS, oW8, oW16, oW32, oW64, oLtT, oLtF, oLeT, oLeF, oNLtT, oNLtF, oNLeT, oNLeF, oEqT, oEqF, oNEqT, oNEqF, oBeqT, oBeqF, oBneT, oBneF, Int.natCast_add, Int.cast_ofNat_Int, Int.toNat_natCast, List.take_length, rndE_eq, rnd_n, rnd_r, rnd_e]
      · rw [ev] at A
        simp only [atoiE] at A
        simp -implicitDefEqProofs (disch := omega) only [ipcpo_Parse.l0, swV_len, hx, A, go_sem, reduceIte, Nat.reduceAdd, Nat.reduceSub, Nat.reduceMul, Nat.reduceLeDiff, Nat.reduceLT, Nat.reduceEqDiff, Int.reduceToNat, Int.reduceLT, Int.reduceLE, Int.reduceEq, Int.reduceNe, Int.reduceAdd, Int.reduceSub, Int.reduceMul, Int.reduceNeg, Int.reduceBEq, Int.reduceBNe, reduceCtorEq, dreduceIte, true_or, or_true, false_or, or_false, or_self, ac_x, ac_t, setW_s, setW_0, ac_cp, ac_cpw, ac_lenw, ac_ret, ac_pop, ac_popw, cl_cp, oWS, oW8, oW16, oW32, oW64, oLtT, oLtF, oLeT, oLeF, oNLtT, oNLtF, oNLeT, oNLeF, oEqT, oEqF, oNEqT, oNEqF, oBeqT, oBeqF, oBneT, oBneF, Int.natCast_add, Int.cast_ofNat_Int, Int.toNat_natCast, List.take_length, rndE_eq, rnd_n, rnd_r, rnd_e]
      · rw [ev] at A
        simp only [atoiE] at A
        simp -implicitDefEqProofs (disch := omega) only [ipcpo_Parse.l0, swV_len, hx, A, go_sem, reduceIte, Nat.reduceAdd, Nat.reduceSub, Nat.reduceMul, Nat.reduceLeDiff, Nat.reduceLT, Nat.reduceEqDiff, Int.reduceToNat, Int.reduceLT, Int.reduceLE, Int.reduceEq, Int.reduceNe, Int.reduceAdd, Int.reduceSub, Int.reduceMul, Int.reduceNeg, Int.reduceBEq, Int.reduceBNe, reduceCtorEq, dreduceIte, true_or, or_true, false_or, or_false, or_self, ac_x, ac_t, setW_s, setW_0, ac_cp, ac_cpw, ac_lenw, ac_ret, ac_pop, ac_popw, cl_cp, oWS, oW8, oW16, oW32, oW64, oLtT, oLtF, oLeT, oLeF, oNLtT, oNLtF, oNLeT, oNLeF, oEqT, oEqF, oNEqT, oNEqF, oBeqT, oBeqF, oBneT, oBneF, Int.natCast_add, Int.cast_ofNat_Int, Int.toNat_natCast, List.take_length, rndE_eq, rnd_n, rnd_r, rnd_e])
    have a0 : accI ws 0 = 0 := rfl
    simp only [E, a0, z0, Int.cast_ofNat_Int, List.take_zero, List.map_nil, List.drop_zero, accN, b8_nil, Int.sub_zero, Int.add_zero, Int.zero_add, Nat.zero_add, Nat.sub_zero, List.nil_append, List.append_nil] at L
    rw [hall]
    simp -implicitDefEqProofs (disch := omega) only [ipcpo_Parse.s, hSp, swV_len, L, go_sem, reduceIte, Nat.reduceAdd, Nat.reduceSub, Nat.reduceMul, Nat.reduceLeDiff, Nat.reduceLT, Nat.reduceEqDiff, Int.reduceToNat, Int.reduceLT, Int.reduceLE, Int.reduceEq, Int.reduceNe, Int.reduceAdd, Int.reduceSub, Int.reduceMul, Int.reduceNeg, Int.reduceBEq, Int.reduceBNe, reduceCtorEq, dreduceIte, true_or, or_true, false_or, or_false, or_self, ac_x, ac_t, setW_s, setW_0, ac_cp, ac_cpw, ac_lenw, ac_ret, ac_pop, ac_popw, cl_cp, oWS, oW8, oW16, oW32, oW64, oLtT, oLtF, oLeT, oLeF, oNLtT, oNLtF, oNLeT, oNLeF, oEqT, oEqF, oNEqT, oNEqF, oBeqT, oBeqF, oBneT, oBneF, Int.natCast_add, Int.cast_ofNat_Int, Int.toNat_natCast, List.take_length, rndE_eq, rnd_n, rnd_r, rnd_e]
/-! ### The document's Parse -/
abbrev PSt := Nat × Int × Int × Int × Int
def dig (x : Nat) (n : Int) : Option Int := if x < 48 ∨ 57 < x ∨ 255 < n then none else some (10 * n + (x - 48))
def pstep (x : Nat) : PSt → Option PSt
  | (0, a, b, c, d) => if x = 46 then some (1, a, b, c, d) else (dig x a).map fun n => (0, n, b, c, d)
  | (1, a, b, c, d) => if x = 46 then some (2, a, b, c, d) else (dig x b).map fun n => (1, a, n, c, d)
  | (2, a, b, c, d) => if x = 46 then some (3, a, b, c, d) else (dig x c).map fun n => (2, a, b, n, d)
  | (3, a, b, c, d) => if x = 46 then none else (dig x d).map fun n => (3, a, b, c, n)
  | _ => none
def pf : List UInt8 → PSt → Option PSt
  | [], p => some p
  | b :: l, p => (pstep b.toNat p).bind (pf l)
theorem pf_app : ∀ (l r : List UInt8) (p : PSt), pf (l ++ r) p = (pf l p).bind (pf r)
  | [], r, p => rfl
  | b :: l, r, p => by
    simp only [List.cons_append, pf]
    cases pstep b.toNat p with
    | none => rfl
    | some q => simp only [Option.bind_some]; exact pf_app l r q
abbrev okN (n : Int) : Prop := 0 ≤ n ∧ n ≤ 2559
abbrev okPS (p : PSt) : Prop := p.1 ≤ 3 ∧ okN p.2.1 ∧ okN p.2.2.1 ∧ okN p.2.2.2.1 ∧ okN p.2.2.2.2
theorem dig_ok {x : Nat} {n m : Int} (h : dig x n = some m) (hn : okN n) : okN m ∧ 48 ≤ x ∧ x ≤ 57 ∧ n ≤ 255 ∧ m = 10 * n + (x - 48) := by
  unfold dig at h
  split at h <;> first | (cases h; done) | skip
  rename_i hx
  obtain rfl := Option.some.inj h
  omega
theorem pstep_ok {x : Nat} {p q : PSt} (h : pstep x p = some q) (hp : okPS p) : okPS q := by
  obtain ⟨k, a, b, c, d⟩ := p
  obtain ⟨h0, ha, hb, hc, hd⟩ := hp
  simp only at h0 ha hb hc hd
  match k, h0, h with
  | 0, _, h =>
    simp only [pstep] at h
    split at h
    · cases h; exact ⟨by simp, ha, hb, hc, hd⟩
    · obtain ⟨m, hm, rfl⟩ := map_some' h
      exact ⟨by simp, (dig_ok hm ha).1, hb, hc, hd⟩
  | 1, _, h =>
    simp only [pstep] at h
    split at h
    · cases h; exact ⟨by simp, ha, hb, hc, hd⟩
    · obtain ⟨m, hm, rfl⟩ := map_some' h
      exact ⟨by simp, ha, (dig_ok hm hb).1, hc, hd⟩
  | 2, _, h =>
    simp only [pstep] at h
    split at h
    · cases h; exact ⟨by simp, ha, hb, hc, hd⟩
    · obtain ⟨m, hm, rfl⟩ := map_some' h
      exact ⟨by simp, ha, hb, (dig_ok hm hc).1, hd⟩
  | 3, _, h =>
    simp only [pstep] at h
    split at h
    · cases h
    · obtain ⟨m, hm, rfl⟩ := map_some' h
      exact ⟨by simp, ha, hb, hc, (dig_ok hm hd).1⟩
def pst (s : List UInt8) (i : Nat) : Option PSt := pf (s.take i) (0, 0, 0, 0, 0)
theorem pst_succ {s : List UInt8} {i : Nat} (h : i < s.length) : pst s (i + 1) = (pst s i).bind (pstep s[i].toNat) := by
  unfold pst
  rw [take_succ h, pf_app]
  congr 1
  funext p
  simp only [pf]
  cases pstep s[i].toNat p <;> rfl
theorem pst_ok (s : List UInt8) : ∀ (i : Nat) (p : PSt), i ≤ s.length → pst s i = some p → okPS p
  | 0, p, _, h => by
    simp only [pst, List.take_zero, pf] at h
    cases h
    exact ⟨by simp, by decide, by decide, by decide, by decide⟩
  | i + 1, p, hi, h => by
    rw [pst_succ (by omega)] at h
    obtain ⟨q, h1, h2⟩ := bind_some' h
    exact pstep_ok h2 (pst_ok s i q (by omega) h1)
def valR (p : PSt) : Int := 16777216 * p.2.1 + 65536 * p.2.2.1 + 256 * p.2.2.2.1 + p.2.2.2.2
def okR (s : List UInt8) : Option Int := match pst s (min s.length 16) with
  | some p => if p.1 = 3 ∧ p.2.1 ≤ 255 ∧ p.2.2.1 ≤ 255 ∧ p.2.2.2.1 ≤ 255 ∧ p.2.2.2.2 ≤ 255 ∧ tx (valR p) = s then some (valR p) else none
  | none => none
abbrev psE (s : List UInt8) (p : PSt) (i : Nat) : List D := [.v (.str s), .v (.int .u32 0), .v (.int .i64 0), .ptr ⟨0, 0⟩ 0 0, .v (.int .i64 (p.1 : Nat)), .v (.int .i64 (i : Nat)), .undef]
abbrev psS (p : PSt) : St := [[.row [.v (.agg [.int .u32 p.2.1, .int .u32 p.2.2.1, .int .u32 p.2.2.2.1, .int .u32 p.2.2.2.2])]]]
theorem rp_step (s : List UInt8) (i : Nat) (hi : i < s.length) (h16 : i < 16) (p q : PSt) (hp : okPS p) (h : pstep s[i].toNat p = some q) : rndE G [] euphroeref26_Parse.l0 (psE s p i) (psS p) = some (.inl (psE s q (i + 1), psS q)) := by
  have hx : s[i]? = some s[i] := List.getElem?_eq_getElem hi
  have xr : s[i].toNat < 256 := UInt8.toNat_lt _
  obtain ⟨k, a, b, c, d⟩ := p
  obtain ⟨h0, ha, hb, hc, hd⟩ := hp
  simp only at h0 ha hb hc hd
  generalize s[i] = y at *
  generalize hy : y.toNat = x at *
  match k, h0, h with
  | 0, _, h =>
    simp only [pstep] at h
    by_cases e : x = 46
    · rw [if_pos e] at h; cases h
      simp -implicitDefEqProofs (disch := omega) only [euphroeref26_Parse.l0, psE, psS, hx, hy, go_sem, reduceIte, Nat.reduceAdd, Nat.reduceSub, Nat.reduceMul, Nat.reduceLeDiff, Nat.reduceLT, Nat.reduceEqDiff, Int.reduceToNat, Int.reduceLT, Int.reduceLE, Int.reduceEq, Int.reduceNe, Int.reduceAdd, Int.reduceSub, Int.reduceMul, Int.reduceNeg, Int.reduceBEq, Int.reduceBNe, reduceCtorEq, dreduceIte, true_or, or_true, false_or, or_false, or_self, ac_x, ac_t, setW_s, setW_0, ac_cp, ac_cpw, ac_lenw, ac_ret, ac_pop, ac_popw, cl_cp, oWS, oW8, oW16, oW32, oW64, oLtT, oLtF, oLeT, oLeF, oNLtT, oNLtF, oNLeT, oNLeF, oEqT, oEqF, oNEqT, oNEqF, oBeqT, oBeqF, oBneT, oBneF, Int.natCast_add, Int.cast_ofNat_Int, Int.toNat_natCast, List.take_length, rndE_eq, rnd_n, rnd_r, rnd_e]
    · rw [if_neg e] at h
      obtain ⟨m, hm, rfl⟩ := map_some' h
      obtain ⟨m0, m1, m2, m3, rfl⟩ := dig_ok hm ha
      simp -implicitDefEqProofs (disch := omega) only [euphroeref26_Parse.l0, psE, psS, hx, hy, go_sem, reduceIte, Nat.reduceAdd, Nat.reduceSub, Nat.reduceMul, Nat.reduceLeDiff, Nat.reduceLT, Nat.reduceEqDiff, Int.reduceToNat, Int.reduceLT, Int.reduceLE, Int.reduceEq, Int.reduceNe, Int.reduceAdd, Int.reduceSub, Int.reduceMul, Int.reduceNeg, Int.reduceBEq, Int.reduceBNe, reduceCtorEq, dreduceIte, true_or, or_true, false_or, or_false, or_self, ac_x, ac_t, setW_s, setW_0, ac_cp, ac_cpw, ac_lenw, ac_ret, ac_pop, ac_popw, cl_cp, oWS, oW8, oW16, oW32, oW64, oLtT, oLtF, oLeT, oLeF, oNLtT, oNLtF, oNLeT, oNLeF, oEqT, oEqF, oNEqT, oNEqF, oBeqT, oBeqF, oBneT, oBneF, Int.natCast_add, Int.cast_ofNat_Int, Int.toNat_natCast, List.take_length, rndE_eq, rnd_n, rnd_r, rnd_e]
  | 1, _, h =>
    simp only [pstep] at h
    by_cases e : x = 46
    · rw [if_pos e] at h; cases h
      simp -implicitDefEqProofs (disch := omega) only [euphroeref26_Parse.l0, psE, psS, hx, hy, go_sem, reduceIte, Nat.reduceAdd, Nat.reduceSub, Nat.reduceMul, Nat.reduceLeDiff, Nat.reduceLT, Nat.reduceEqDiff, Int.reduceToNat, Int.reduceLT, Int.reduceLE, Int.reduceEq, Int.reduceNe, Int.reduceAdd, Int.reduceSub, Int.reduceMul, Int.reduceNeg, Int.reduceBEq, Int.reduceBNe, reduceCtorEq, dreduceIte, true_or, or_true, false_or, or_false, or_self, ac_x, ac_t, setW_s, setW_0, ac_cp, ac_cpw, ac_lenw, ac_ret, ac_pop, ac_popw, cl_cp, oWS, oW8, oW16, oW32, oW64, oLtT, oLtF, oLeT, oLeF, oNLtT, oNLtF, oNLeT, oNLeF, oEqT, oEqF, oNEqT, oNEqF, oBeqT, oBeqF, oBneT, oBneF, Int.natCast_add, Int.cast_ofNat_Int, Int.toNat_natCast, List.take_length, rndE_eq, rnd_n, rnd_r, rnd_e]
    · rw [if_neg e] at h
      obtain ⟨m, hm, rfl⟩ := map_some' h
      obtain ⟨m0, m1, m2, m3, rfl⟩ := dig_ok hm hb
      simp -implicitDefEqProofs (disch := omega) only [euphroeref26_Parse.l0, psE, psS, hx, hy, go_sem, reduceIte, Nat.reduceAdd, Nat.reduceSub, Nat.reduceMul, Nat.reduceLeDiff, Nat.reduceLT, Nat.reduceEqDiff, Int.reduceToNat, Int.reduceLT, Int.reduceLE, Int.reduceEq, Int.reduceNe, Int.reduceAdd, Int.reduceSub, Int.reduceMul, Int.reduceNeg, Int.reduceBEq, Int.reduceBNe, reduceCtorEq, dreduceIte, true_or, or_true, false_or, or_false, or_self, ac_x, ac_t, setW_s, setW_0, ac_cp, ac_cpw, ac_lenw, ac_ret, ac_pop, ac_popw, cl_cp, oWS, oW8, oW16, oW32, oW64, oLtT, oLtF, oLeT, oLeF, oNLtT, oNLtF, oNLeT, oNLeF, oEqT, oEqF, oNEqT, oNEqF, oBeqT, oBeqF, oBneT, oBneF, Int.natCast_add, Int.cast_ofNat_Int, Int.toNat_natCast, List.take_length, rndE_eq, rnd_n, rnd_r, rnd_e]
  | 2, _, h =>
    simp only [pstep] at h
    by_cases e : x = 46
    · rw [if_pos e] at h; cases h
      simp -implicitDefEqProofs (disch := omega) only [euphroeref26_Parse.l0, psE, psS, hx, hy, go_sem, reduceIte, Nat.reduceAdd, Nat.reduceSub, Nat.reduceMul, Nat.reduceLeDiff, Nat.reduceLT, Nat.reduceEqDiff, Int.reduceToNat, Int.reduceLT, Int.reduceLE, Int.reduceEq, Int.reduceNe, Int.reduceAdd, Int.reduceSub, Int.reduceMul, Int.reduceNeg, Int.reduceBEq, Int.reduceBNe, reduceCtorEq, dreduceIte, true_or, or_true, false_or, or_false, or_self, ac_x, ac_t, setW_s, setW_0, ac_cp, ac_cpw, ac_lenw, ac_ret, ac_pop, ac_popw, cl_cp, oWS, oW8, oW16, oW32, oW64, oLtT, oLtF, oLeT, oLeF, oNLtT, oNLtF, oNLeT, oNLeF, oEqT, oEqF, oNEqT, oNEqF, oBeqT, oBeqF, oBneT, oBneF, Int.natCast_add, Int.cast_ofNat_Int, Int.toNat_natCast, List.take_length, rndE_eq, rnd_n, rnd_r, rnd_e]
    · rw [if_neg e] at h
      obtain ⟨m, hm, rfl⟩ := map_some' h
      obtain ⟨m0, m1, m2, m3, rfl⟩ := dig_ok hm hc
      simp -implicitDefEqProofs (disch := omega) only [euphroeref26_Parse.l0, psE, psS, hx, hy, go_sem, reduceIte, Nat.reduceAdd, Nat.reduceSub, Nat.reduceMul, Nat.reduceLeDiff, Nat.reduceLT, Nat.reduceEqDiff, Int.reduceToNat, Int.reduceLT, Int.reduceLE, Int.reduceEq, Int.reduceNe, Int.reduceAdd, Int.reduceSub, Int.reduceMul, Int.reduceNeg, Int.reduceBEq, Int.reduceBNe, reduceCtorEq, dreduceIte, true_or, or_true, false_or, or_false, or_self, ac_x, ac_t, setW_s, setW_0, ac_cp, ac_cpw, ac_lenw, ac_ret, ac_pop, ac_popw, cl_cp, oWS, oW8, oW16, oW32, oW64, oLtT, oLtF, oLeT, oLeF, oNLtT, oNLtF, oNLeT, oNLeF, oEqT, oEqF, oNEqT, oNEqF, oBeqT, oBeqF, oBneT, oBneF, Int.natCast_add, Int.cast_ofNat_Int, Int.toNat_natCast, List.take_length, rndE_eq, rnd_n, rnd_r, rnd_e]
  | 3, _, h =>
    simp only [pstep] at h
    by_cases e : x = 46
    · rw [if_pos e] at h; cases h
    · rw [if_neg e] at h
      obtain ⟨m, hm, rfl⟩ := map_some' h
      obtain ⟨m0, m1, m2, m3, rfl⟩ := dig_ok hm hd
      simp -implicitDefEqProofs (disch := omega) only [euphroeref26_Parse.l0, psE, psS, hx, hy, go_sem, reduceIte, Nat.reduceAdd, Nat.reduceSub, Nat.reduceMul, Nat.reduceLeDiff, Nat.reduceLT, Nat.reduceEqDiff, Int.reduceToNat, Int.reduceLT, Int.reduceLE, Int.reduceEq, Int.reduceNe, Int.reduceAdd, Int.reduceSub, Int.reduceMul, Int.reduceNeg, Int.reduceBEq, Int.reduceBNe, reduceCtorEq, dreduceIte, true_or, or_true, false_or, or_false, or_self, ac_x, ac_t, setW_s, setW_0, ac_cp, ac_cpw, ac_lenw, ac_ret, ac_pop, ac_popw, cl_cp, oWS, oW8, oW16, oW32, oW64, oLtT, oLtF, oLeT, oLeF, oNLtT, oNLtF, oNLeT, oNLeF, oEqT, oEqF, oNEqT, oNEqF, oBeqT, oBeqF, oBneT, oBneF, Int.natCast_add, Int.cast_ofNat_Int, Int.toNat_natCast, List.take_length, rndE_eq, rnd_n, rnd_r, rnd_e]
theorem dig_none {x : Nat} {n : Int} (h : dig x n = none) : x < 48 ∨ 57 < x ∨ 255 < n := by
  unfold dig at h
  split at h <;> first | (cases h; done) | skip
  assumption
theorem rp_bad (s : List UInt8) (i : Nat) (hi : i < s.length) (h16 : i < 16) (p : PSt) (hp : okPS p) (h : pstep s[i].toNat p = none) :
    ∃ k : Int, rndE G [] euphroeref26_Parse.l0 (psE s p i) (psS p) = some (.inr (.ret, [.v (.str s), .v (.int .u32 0), .v (.int .i64 3), .ptr ⟨0, 0⟩ 0 0, .v (.int .i64 k), .v (.int .i64 (i : Nat)), .undef], psS p)) := by
  have hx : s[i]? = some s[i] := List.getElem?_eq_getElem hi
  have xr : s[i].toNat < 256 := UInt8.toNat_lt _
  obtain ⟨k, a, b, c, d⟩ := p
  obtain ⟨h0, ha, hb, hc, hd⟩ := hp
  simp only at h0 ha hb hc hd
  generalize s[i] = y at *
  generalize hy : y.toNat = x at *
  have key : ∀ n : Int, (x < 48 ∨ 57 < x ∨ 255 < n) → x ≠ 46 → (x < 48 ∨ (¬ x < 48 ∧ 57 < x) ∨ (¬ x < 48 ∧ ¬ 57 < x ∧ 255 < n)) := fun n h _ => by omega
  match k, h0, h with
  | 0, _, h =>
    simp only [pstep] at h
    by_cases e : x = 46
    · rw [if_pos e] at h; cases h
    · rw [if_neg e] at h
      refine ⟨0, ?_⟩
      rcases key a (dig_none (by simpa using h)) e with h1 | ⟨h1, h2⟩ | ⟨h1, h2, h3⟩
      · simp -implicitDefEqProofs (disch := omega) only [euphroeref26_Parse.l0, psE, psS, hx, hy, go_sem, reduceIte, Nat.reduceAdd, Nat.reduceSub, Nat.reduceMul, Nat.reduceLeDiff, Nat.reduceLT, Nat.reduceEqDiff, Int.reduceToNat, Int.reduceLT, Int.reduceLE, Int.reduceEq, Int.reduceNe, Int.reduceAdd, Int.reduceSub, Int.reduceMul, Int.reduceNeg, Int.reduceBEq, Int.reduceBNe, reduceCtorEq, dreduceIte, true_or, or_true, false_or, or_false, or_self, ac_x, ac_t, setW_s, setW_0, ac_cp, ac_cpw, ac_lenw, ac_ret, ac_pop, ac_popw, cl_cp, oWS, oW8, oW16, oW32, oW64, oLtT, oLtF, oLeT, oLeF, oNLtT, oNLtF, oNLeT, oNLeF, oEqT, oEqF, oNEqT, oNEqF, oBeqT, oBeqF, oBneT, oBneF, Int.natCast_add, Int.cast_ofNat_Int, Int.toNat_natCast, List.take_length, rndE_eq, rnd_n, rnd_r, rnd_e]
      · simp -implicitDefEqProofs (disch := omega) only [euphroeref26_Parse.l0, psE, psS, hx, hy, go_sem, reduceIte, Nat.reduceAdd, Nat.reduceSub, Nat.reduceMul, Nat.reduceLeDiff, Nat.reduceLT, Nat.reduceEqDiff, Int.reduceToNat, Int.reduceLT, Int.reduceLE, Int.reduceEq, Int.reduceNe, Int.reduceAdd, Int.reduceSub, Int.reduceMul, Int.reduceNeg, Int.reduceBEq, Int.reduceBNe, reduceCtorEq, dreduceIte, true_or, or_true, false_or, or_false, or_self, ac_x, ac_t, setW_s, setW_0, ac_cp, ac_cpw, ac_lenw, ac_ret, ac_pop, ac_popw, cl_cp, oWS, oW8, oW16, oW32, oW64, oLtT, oLtF, oLeT, oLeF, oNLtT, oNLtF, oNLeT, oNLeF, oEqT, oEqF, oNEqT, oNEqF, oBeqT, oBeqF, oBneT, oBneF, Int.natCast_add, Int.cast_ofNat_Int, Int.toNat_natCast, List.take_length, rndE_eq, rnd_n, rnd_r, rnd_e]
      · simp -implicitDefEqProofs (disch := omega) only [euphroeref26_Parse.l0, psE, psS, hx, hy, go_sem, reduceIte, Nat.reduceAdd, Nat.reduceSub, Nat.reduceMul, Nat.reduceLeDiff, Nat.reduceLT, Nat.reduceEqDiff, Int.reduceToNat, Int.reduceLT, Int.reduceLE, Int.reduceEq, Int.reduceNe, Int.reduceAdd, Int.reduceSub, Int.reduceMul, Int.reduceNeg, Int.reduceBEq, Int.reduceBNe, reduceCtorEq, dreduceIte, true_or, or_true, false_or, or_false, or_self, ac_x, ac_t, setW_s, setW_0, ac_cp, ac_cpw, ac_lenw, ac_ret, ac_pop, ac_popw, cl_cp, oWS, oW8, oW16, oW32, oW64, oLtT, oLtF, oLeT, oLeF, oNLtT, oNLtF, oNLeT, oNLeF, oEqT, oEqF, oNEqT, oNEqF, oBeqT, oBeqF, oBneT, oBneF, Int.natCast_add, Int.cast_ofNat_Int, Int.toNat_natCast, List.take_length, rndE_eq, rnd_n, rnd_r, rnd_e]
  | 1, _, h =>
    simp only [pstep] at h
    by_cases e : x = 46
    · rw [if_pos e] at h; cases h
    · rw [if_neg e] at h
      refine ⟨1, ?_⟩
      rcases key b (dig_none (by simpa using h)) e with h1 | ⟨h1, h2⟩ | ⟨h1, h2, h3⟩
      · simp -implicitDefEqProofs (disch := omega) only [euphroeref26_Parse.l0, psE, psS, hx, hy, go_sem, reduceIte, Nat.reduceAdd, Nat.reduceSub, Nat.reduceMul, Nat.reduceLeDiff, Nat.reduceLT, Nat.reduceEqDiff, Int.reduceToNat, Int.reduceLT, Int.reduceLE, Int.reduceEq, Int.reduceNe, Int.reduceAdd, Int.reduceSub, Int.reduceMul, Int.reduceNeg, Int.reduceBEq, Int.reduceBNe, reduceCtorEq, dreduceIte, true_or, or_true, false_or, or_false, or_self, ac_x, ac_t, setW_s, setW_0, ac_cp, ac_cpw, ac_lenw, ac_ret, ac_pop, ac_popw, cl_cp, oWS, oW8, oW16, oW32, oW64, oLtT, oLtF, oLeT, oLeF, oNLtT, oNLtF, oNLeT, oNLeF, oEqT, oEqF, oNEqT, oNEqF, oBeqT, oBeqF, oBneT, oBneF, Int.natCast_add, Int.cast_ofNat_Int, Int.toNat_natCast, List.take_length, rndE_eq, rnd_n, rnd_r, rnd_e]
      · simp -implicitDefEqProofs (disch := omega) only [euphroeref26_Parse.l0, psE, psS, hx, hy, go_sem, reduceIte, Nat.reduceAdd, Nat.reduceSub, Nat.reduceMul, Nat.reduceLeDiff, Nat.reduceLT, Nat.reduceEqDiff, Int.reduceToNat, Int.reduceLT, Int.reduceLE, Int.reduceEq, Int.reduceNe, Int.reduceAdd, Int.reduceSub, Int.reduceMul, Int.reduceNeg, Int.reduceBEq, Int.reduceBNe, reduceCtorEq, dreduceIte, true_or, or_true, false_or, or_false, or_self, ac_x, ac_t, setW_s, setW_0, ac_cp, ac_cpw, ac_lenw, ac_ret, ac_pop, ac_popw, cl_cp, oWS, oW8, oW16, oW32, oW64, oLtT, oLtF, oLeT, oLeF, oNLtT, oNLtF, oNLeT, oNLeF, oEqT, oEqF, oNEqT, oNEqF, oBeqT, oBeqF, oBneT, oBneF, Int.natCast_add, Int.cast_ofNat_Int, Int.toNat_natCast, List.take_length, rndE_eq, rnd_n, rnd_r, rnd_e]
      · simp -implicitDefEqProofs (disch := omega) only [euphroeref26_Parse.l0, psE, psS, hx, hy, go_sem, reduceIte, Nat.reduceAdd, Nat.reduceSub, Nat.reduceMul, Nat.reduceLeDiff, Nat.reduceLT, Nat.reduceEqDiff, Int.reduceToNat, Int.reduceLT, Int.reduceLE, Int.reduceEq, Int.reduceNe, Int.reduceAdd, Int.reduceSub, Int.reduceMul, Int.reduceNeg, Int.reduceBEq, Int.reduceBNe, reduceCtorEq, dreduceIte, true_or, or_true, false_or, or_false, or_self, ac_x, ac_t, setW_s, setW_0, ac_cp, ac_cpw, ac_lenw, ac_ret, ac_pop, ac_popw, cl_cp, oWS, oW8, oW16, oW32, oW64, oLtT, oLtF, oLeT, oLeF, oNLtT, oNLtF, oNLeT, oNLeF, oEqT, oEqF, oNEqT, oNEqF, oBeqT, oBeqF, oBneT, oBneF, Int.natCast_add, Int.cast_ofNat_Int, Int.toNat_natCast, List.take_length, rndE_eq, rnd_n, rnd_r, rnd_e]
  | 2, _, h =>
    simp only [pstep] at h
    by_cases e : x = 46
    · rw [if_pos e] at h; cases h
    · rw [if_neg e] at h
      refine ⟨2, ?_⟩
      rcases key c (dig_none (by simpa using h)) e with h1 | ⟨h1, h2⟩ | ⟨h1, h2, h3⟩
      · simp -implicitDefEqProofs (disch := omega) only [euphroeref26_Parse.l0, psE, psS, hx, hy, go_sem, reduceIte, Nat.reduceAdd, Nat.reduceSub, Nat.reduceMul, Nat.reduceLeDiff, Nat.reduceLT, Nat.reduceEqDiff, Int.reduceToNat, Int.reduceLT, Int.reduceLE, Int.reduceEq, Int.reduceNe, Int.reduceAdd, Int.reduceSub, Int.reduceMul, Int.reduceNeg, Int.reduceBEq, Int.reduceBNe, reduceCtorEq, dreduceIte, true_or, or_true, false_or, or_false, or_self, ac_x, ac_t, setW_s, setW_0, ac_cp, ac_cpw, ac_lenw, ac_ret, ac_pop, ac_popw, cl_cp, oWS, oW8, oW16, oW32, oW64, oLtT, oLtF, oLeT, oLeF, oNLtT, oNLtF, oNLeT, oNLeF, oEqT, oEqF, oNEqT, oNEqF, oBeqT, oBeqF, oBneT, oBneF, Int.natCast_add, Int.cast_ofNat_Int, Int.toNat_natCast, List.take_length, rndE_eq, rnd_n, rnd_r, rnd_e]
      · simp -implicitDefEqProofs (disch := omega) only [euphroeref26_Parse.l0, psE, psS, hx, hy, go_sem, reduceIte, Nat.reduceAdd, Nat.reduceSub, Nat.reduceMul, Nat.reduceLeDiff, Nat.reduceLT, Nat.reduceEqDiff, Int.reduceToNat, Int.reduceLT, Int.reduceLE, Int.reduceEq, Int.reduceNe, Int.reduceAdd, Int.reduceSub, Int.reduceMul, Int.reduceNeg, Int.reduceBEq, Int.reduceBNe, reduceCtorEq, dreduceIte, true_or, or_true, false_or, or_false, or_self, ac_x, ac_t, setW_s, setW_0, ac_cp, ac_cpw, ac_lenw, ac_ret, ac_pop, ac_popw, cl_cp, oWS, oW8, oW16, oW32, oW64, oLtT, oLtF, oLeT, oLeF, oNLtT, oNLtF, oNLeT, oNLeF, oEqT, oEqF, oNEqT, oNEqF, oBeqT, oBeqF, oBneT, oBneF, Int.natCast_add, Int.cast_ofNat_Int, Int.toNat_natCast, List.take_length, rndE_eq, rnd_n, rnd_r, rnd_e]
      · simp -implicitDefEqProofs (disch := omega) only [euphroeref26_Parse.l0, psE, psS, hx, hy, go_sem, reduceIte, Nat.reduceAdd, Nat.reduceSub, Nat.reduceMul, Nat.reduceLeDiff, Nat.reduceLT, Nat.reduceEqDiff, Int.reduceToNat, Int.reduceLT, Int.reduceLE, Int.reduceEq, Int.reduceNe, Int.reduceAdd, Int.reduceSub, Int.reduceMul, Int.reduceNeg, Int.reduceBEq, Int.reduceBNe, reduceCtorEq, dreduceIte, true_or, or_true, false_or, or_false, or_self, ac_x, ac_t, setW_s, setW_0, ac_cp, ac_cpw, ac_lenw, ac_ret, ac_pop, ac_popw, cl_cp, oWS, oW8, oW16, oW32, oW64, oLtT, oLtF, oLeT, oLeF, oNLtT, oNLtF, oNLeT, oNLeF, oEqT, oEqF, oNEqT, oNEqF, oBeqT, oBeqF, oBneT, oBneF, Int.natCast_add, Int.cast_ofNat_Int, Int.toNat_natCast, List.take_length, rndE_eq, rnd_n, rnd_r, rnd_e]
  | 3, _, h =>
    simp only [pstep] at h
    by_cases e : x = 46
    · refine ⟨4, ?_⟩
      simp -implicitDefEqProofs (disch := omega) only [euphroeref26_Parse.l0, psE, psS, hx, hy, go_sem, reduceIte, Nat.reduceAdd, Nat.reduceSub, Nat.reduceMul, Nat.reduceLeDiff, Nat.reduceLT, Nat.reduceEqDiff, Int.reduceToNat, Int.reduceLT, Int.reduceLE, Int.reduceEq, Int.reduceNe, Int.reduceAdd, Int.reduceSub, Int.reduceMul, Int.reduceNeg, Int.reduceBEq, Int.reduceBNe, reduceCtorEq, dreduceIte, true_or, or_true, false_or, or_false, or_self, ac_x, ac_t, setW_s, setW_0, ac_cp, ac_cpw, ac_lenw, ac_ret, ac_pop, ac_popw, cl_cp, oWS, oW8, oW16, oW32, oW64, oLtT, oLtF, oLeT, oLeF, oNLtT, oNLtF, oNLeT, oNLeF, oEqT, oEqF, oNEqT, oNEqF, oBeqT, oBeqF, oBneT, oBneF, Int.natCast_add, Int.cast_ofNat_Int, Int.toNat_natCast, List.take_length, rndE_eq, rnd_n, rnd_r, rnd_e]
    · rw [if_neg e] at h
      refine ⟨3, ?_⟩
      rcases key d (dig_none (by simpa using h)) e with h1 | ⟨h1, h2⟩ | ⟨h1, h2, h3⟩
      · simp -implicitDefEqProofs (disch := omega) only [euphroeref26_Parse.l0, psE, psS, hx, hy, go_sem, reduceIte, Nat.reduceAdd, Nat.reduceSub, Nat.reduceMul, Nat.reduceLeDiff, Nat.reduceLT, Nat.reduceEqDiff, Int.reduceToNat, Int.reduceLT, Int.reduceLE, Int.reduceEq, Int.reduceNe, Int.reduceAdd, Int.reduceSub, Int.reduceMul, Int.reduceNeg, Int.reduceBEq, Int.reduceBNe, reduceCtorEq, dreduceIte, true_or, or_true, false_or, or_false, or_self, ac_x, ac_t, setW_s, setW_0, ac_cp, ac_cpw, ac_lenw, ac_ret, ac_pop, ac_popw, cl_cp, oWS, oW8, oW16, oW32, oW64, oLtT, oLtF, oLeT, oLeF, oNLtT, oNLtF, oNLeT, oNLeF, oEqT, oEqF, oNEqT, oNEqF, oBeqT, oBeqF, oBneT, oBneF, Int.natCast_add, Int.cast_ofNat_Int, Int.toNat_natCast, List.take_length, rndE_eq, rnd_n, rnd_r, rnd_e]
      · simp -implicitDefEqProofs (disch := omega) only [euphroeref26_Parse.l0, psE, psS, hx, hy, go_sem, reduceIte, Nat.reduceAdd, Nat.reduceSub, Nat.reduceMul, Nat.reduceLeDiff, Nat.reduceLT, Nat.reduceEqDiff, Int.reduceToNat, Int.reduceLT, Int.reduceLE, Int.reduceEq, Int.reduceNe, Int.reduceAdd, Int.reduceSub, Int.reduceMul, Int.reduceNeg, Int.reduceBEq, Int.reduceBNe, reduceCtorEq, dreduceIte, true_or, or_true, false_or, or_false, or_self, ac_x, ac_t, setW_s, setW_0, ac_cp, ac_cpw, ac_lenw, ac_ret, ac_pop, ac_popw, cl_cp, oWS, oW8, oW16, oW32, oW64, oLtT, oLtF, oLeT, oLeF, oNLtT, oNLtF, oNLeT, oNLeF, oEqT, oEqF, oNEqT, oNEqF, oBeqT, oBeqF, oBneT, oBneF, Int.natCast_add, Int.cast_ofNat_Int, Int.toNat_natCast, List.take_length, rndE_eq, rnd_n, rnd_r, rnd_e]
      · simp -implicitDefEqProofs (disch := omega) only [euphroeref26_Parse.l0, psE, psS, hx, hy, go_sem, reduceIte, Nat.reduceAdd, Nat.reduceSub, Nat.reduceMul, Nat.reduceLeDiff, Nat.reduceLT, Nat.reduceEqDiff, Int.reduceToNat, Int.reduceLT, Int.reduceLE, Int.reduceEq, Int.reduceNe, Int.reduceAdd, Int.reduceSub, Int.reduceMul, Int.reduceNeg, Int.reduceBEq, Int.reduceBNe, reduceCtorEq, dreduceIte, true_or, or_true, false_or, or_false, or_self, ac_x, ac_t, setW_s, setW_0, ac_cp, ac_cpw, ac_lenw, ac_ret, ac_pop, ac_popw, cl_cp, oWS, oW8, oW16, oW32, oW64, oLtT, oLtF, oLeT, oLeF, oNLtT, oNLtF, oNLeT, oNLeF, oEqT, oEqF, oNEqT, oNEqF, oBeqT, oBeqF, oBneT, oBneF, Int.natCast_add, Int.cast_ofNat_Int, Int.toNat_natCast, List.take_length, rndE_eq, rnd_n, rnd_r, rnd_e]
abbrev rpV (v : Option Int) : D := match v with
  | some a => .tup [.v (.int .u32 a), .v (.int .i64 0)]
  | none => .tup [.v (.int .u32 0), .v (.int .i64 3)]
theorem t_rparse (s : List UInt8) (hs : s.length ≤ 100) : run G 21 [.v (.str s)] [] = some (rpV (okR s), []) := by
  rw [xq_fn G rfl euphroeref26_Parse.g _ _ rfl]
  have h00 : pst s 0 = some (0, 0, 0, 0, 0) := by simp [pst, pf]
  rcases first_or (fun i => pst s (i + 1) = none) (min s.length 16) with h | ⟨j, h1, h2, h4⟩
  · have hsome : ∀ i, i ≤ min s.length 16 → ∃ p, pst s i = some p := fun i hi => by
      cases i with
      | zero => exact ⟨_, h00⟩
      | succ i => exact Option.ne_none_iff_exists'.1 (h i (by omega))
    let q := fun i => (pst s i).getD (0, 0, 0, 0, 0)
    have hq : ∀ i, i ≤ min s.length 16 → pst s i = some (q i) := fun i hi => by
      obtain ⟨p, hp⟩ := hsome i hi
      simp only [q, hp, Option.getD_some]
    have L := lpFor (G := G) (kill := []) (body := euphroeref26_Parse.l0) (fun i => psE s (q i) i) (fun i => psS (q i)) (min s.length 16) (fun i hi => by
      have hp := hq i (by omega)
      have hp2 := hq (i + 1) (by omega)
      rw [pst_succ (by omega), hp, Option.bind_some] at hp2
      exact rp_step s i (by omega) (by omega) (q i) (q (i + 1)) (pst_ok s i _ (by omega) hp) hp2) (o := (.exit 0, psE s (q (min s.length 16)) (min s.length 16), psS (q (min s.length 16)))) (by
      have hm : ¬ min s.length 16 < s.length ∨ (min s.length 16 < s.length ∧ ¬ min s.length 16 < 16) := by omega
      generalize q (min s.length 16) = p
      generalize min s.length 16 = m at *
      rcases hm with hm | ⟨hm, hm2⟩
      · simp -implicitDefEqProofs (disch := omega) only [euphroeref26_Parse.l0, psE, psS, go_sem, reduceIte, Nat.reduceAdd, Nat.reduceSub, Nat.reduceMul, Nat.reduceLeDiff, Nat.reduceLT, Nat.reduceEqDiff, Int.reduceToNat, Int.reduceLT, Int.reduceLE, Int.reduceEq, Int.reduceNe, Int.reduceAdd, Int.reduceSub, Int.reduceMul, Int.reduceNeg, Int.reduceBEq, Int.reduceBNe, reduceCtorEq, dreduceIte, true_or, or_true, false_or, or_false, or_self, ac_x, ac_t, setW_s, setW_0, ac_cp, ac_cpw, ac_lenw, ac_ret, ac_pop, ac_popw, cl_cp, oWS, oW8, oW16, oW32, oW64, oLtT, oLtF, oLeT, oLeF, oNLtT, oNLtF, oNLeT, oNLeF, oEqT, oEqF, oNEqT, oNEqF, oBeqT, oBeqF, oBneT, oBneF, Int.natCast_add, Int.cast_ofNat_Int, Int.toNat_natCast, List.take_length, rndE_eq, rnd_n, rnd_r, rnd_e]
      · simp -implicitDefEqProofs (disch := omega) only [euphroeref26_Parse.l0, psE, psS, go_sem, reduceIte, Nat.reduceAdd, Nat.reduceSub, Nat.reduceMul, Nat.reduceLeDiff, Nat.reduceLT, Nat.reduceEqDiff, Int.reduceToNat, Int.reduceLT, Int.reduceLE, Int.reduceEq, Int.reduceNe, Int.reduceAdd, Int.reduceSub, Int.reduceMul, Int.reduceNeg, Int.reduceBEq, Int.reduceBNe, reduceCtorEq, dreduceIte, true_or, or_true, false_or, or_false, or_self, ac_x, ac_t, setW_s, setW_0, ac_cp, ac_cpw, ac_lenw, ac_ret, ac_pop, ac_popw, cl_cp, oWS, oW8, oW16, oW32, oW64, oLtT, oLtF, oLeT, oLeF, oNLtT, oNLtF, oNLeT, oNLeF, oEqT, oEqF, oNEqT, oNEqF, oBeqT, oBeqF, oBneT, oBneF, Int.natCast_add, Int.cast_ofNat_Int, Int.toNat_natCast, List.take_length, rndE_eq, rnd_n, rnd_r, rnd_e])
    have q0 : q 0 = (0, 0, 0, 0, 0) := by simp only [q, h00, Option.getD_some]
    have hN := hq _ (Nat.le_refl _)
    have hok := pst_ok s _ _ (by omega) hN
    unfold okR
    rw [hN]
    generalize q (min s.length 16) = p at *
    generalize min s.length 16 = m at *
    simp only [psE, psS, q0] at L
    simp only [z0, Int.cast_ofNat_Int, List.take_zero, List.map_nil, List.drop_zero, accN, b8_nil, Int.sub_zero, Int.add_zero, Int.zero_add, Nat.zero_add, Nat.sub_zero, List.nil_append, List.append_nil] at L
    obtain ⟨k, a, b, c, d⟩ := p
    obtain ⟨g0, ga, gb, gc, gd⟩ := hok
    simp only at g0 ga gb gc gd L ⊢
    by_cases k3 : k = 3
    · subst k3
      by_cases a2 : a ≤ 255
      · by_cases b2 : b ≤ 255
        · by_cases c2 : c ≤ 255
          · by_cases d2 : d ≤ 255
            · have T := t_rtext (16777216 * a + 65536 * b + 256 * c + d) (by simp only [u32ok]; omega)
              simp only [valR]
              by_cases e : tx (16777216 * a + 65536 * b + 256 * c + d) = s
              · have e6 : (tx (16777216 * a + 65536 * b + 256 * c + d) == s) = true := by simp [e]
                rw [if_pos ⟨trivial, a2, b2, c2, d2, e⟩]
                simp -implicitDefEqProofs (disch := omega) only [euphroeref26_Parse.s, L, T, e6, go_sem, reduceIte, Nat.reduceAdd, Nat.reduceSub, Nat.reduceMul, Nat.reduceLeDiff, Nat.reduceLT, Nat.reduceEqDiff, Int.reduceToNat, Int.reduceLT, Int.reduceLE, Int.reduceEq, Int.reduceNe, Int.reduceAdd, Int.reduceSub, Int.reduceMul, Int.reduceNeg, Int.reduceBEq, Int.reduceBNe, reduceCtorEq, dreduceIte, true_or, or_true, false_or, or_false, or_self, ac_x, ac_t, setW_s, setW_0, ac_cp, ac_cpw, ac_lenw, ac_ret, ac_pop, ac_popw, cl_cp, oWS, oW8, oW16, oW32, oW64, oLtT, oLtF, oLeT, oLeF, oNLtT, oNLtF, oNLeT, oNLeF, oEqT, oEqF, oNEqT, oNEqF, oBeqT, oBeqF, oBneT, oBneF, Int.natCast_add, Int.cast_ofNat_Int, Int.toNat_natCast, List.take_length, rndE_eq, rnd_n, rnd_r, rnd_e]
              · have e6 : (tx (16777216 * a + 65536 * b + 256 * c + d) == s) = false := by simp [e]
                rw [if_neg (fun hh => e hh.2.2.2.2.2)]
                simp -implicitDefEqProofs (disch := omega) only [euphroeref26_Parse.s, L, T, e6, go_sem, reduceIte, Nat.reduceAdd, Nat.reduceSub, Nat.reduceMul, Nat.reduceLeDiff, Nat.reduceLT, Nat.reduceEqDiff, Int.reduceToNat, Int.reduceLT, Int.reduceLE, Int.reduceEq, Int.reduceNe, Int.reduceAdd, Int.reduceSub, Int.reduceMul, Int.reduceNeg, Int.reduceBEq, Int.reduceBNe, reduceCtorEq, dreduceIte, true_or, or_true, false_or, or_false, or_self, ac_x, ac_t, setW_s, setW_0, ac_cp, ac_cpw, ac_lenw, ac_ret, ac_pop, ac_popw, cl_cp, oWS, oW8, oW16, oW32, oW64, oLtT, oLtF, oLeT, oLeF, oNLtT, oNLtF, oNLeT, oNLeF, oEqT, oEqF, oNEqT, oNEqF, oBeqT, oBeqF, oBneT, oBneF, Int.natCast_add, Int.cast_ofNat_Int, Int.toNat_natCast, List.take_length, rndE_eq, rnd_n, rnd_r, rnd_e]
            · rw [if_neg (fun hh => d2 hh.2.2.2.2.1)]
              simp -implicitDefEqProofs (disch := omega) only [euphroeref26_Parse.s, L, go_sem, reduceIte, Nat.reduceAdd, Nat.reduceSub, Nat.reduceMul, Nat.reduceLeDiff, Nat.reduceLT, Nat.reduceEqDiff, Int.reduceToNat, Int.reduceLT, Int.reduceLE, Int.reduceEq, Int.reduceNe, Int.reduceAdd, Int.reduceSub, Int.reduceMul, Int.reduceNeg, Int.reduceBEq, Int.reduceBNe, reduceCtorEq, dreduceIte, true_or, or_true, false_or, or_false, or_self, ac_x, ac_t, setW_s, setW_0, ac_cp, ac_cpw, ac_lenw, ac_ret, ac_pop, ac_popw, cl_cp, oWS, oW8, oW16, oW32, oW64, oLtT, oLtF, oLeT, oLeF, oNLtT, oNLtF, oNLeT, oNLeF, oEqT, oEqF, oNEqT, oNEqF, oBeqT, oBeqF, oBneT, oBneF, Int.natCast_add, Int.cast_ofNat_Int, Int.toNat_natCast, List.take_length, rndE_eq, rnd_n, rnd_r, rnd_e]
          · rw [if_neg (fun hh => c2 hh.2.2.2.1)]
            simp -implicitDefEqProofs (disch := omega) only [euphroeref26_Parse.s, L, go_sem, reduceIte, Nat.reduceAdd, Nat.reduceSub, Nat.reduceMul, Nat.reduceLeDiff, Nat.reduceLT, Nat.reduceEqDiff, Int.reduceToNat, Int.reduceLT, Int.reduceLE, Int.reduceEq, Int.reduceNe, Int.reduceAdd, Int.reduceSub, Int.reduceMul, Int.reduceNeg, Int.reduceBEq, Int.reduceBNe, reduceCtorEq, dreduceIte, true_or, or_true, false_or, or_false, or_self, ac_x, ac_t, setW_s, setW_0, ac_cp, ac_cpw, ac_lenw, ac_ret, ac_pop, ac_popw, cl_cp, oWS, oW8, oW16, oW32, oW64, oLtT, oLtF, oLeT, oLeF, oNLtT, oNLtF, oNLeT, oNLeF, oEqT, oEqF, oNEqT, oNEqF, oBeqT, oBeqF, oBneT, oBneF, Int.natCast_add, Int.cast_ofNat_Int, Int.toNat_natCast, List.take_length, rndE_eq, rnd_n, rnd_r, rnd_e]
        · rw [if_neg (fun hh => b2 hh.2.2.1)]
          simp -implicitDefEqProofs (disch := omega) only [euphroeref26_Parse.s, L, go_sem, reduceIte, Nat.reduceAdd, Nat.reduceSub, Nat.reduceMul, Nat.reduceLeDiff, Nat.reduceLT, Nat.reduceEqDiff, Int.reduceToNat, Int.reduceLT, Int.reduceLE, Int.reduceEq, Int.reduceNe, Int.reduceAdd, Int.reduceSub, Int.reduceMul, Int.reduceNeg, Int.reduceBEq, Int.reduceBNe, reduceCtorEq, dreduceIte, true_or, or_true, false_or, or_false, or_self, ac_x, ac_t, setW_s, setW_0, ac_cp, ac_cpw, ac_lenw, ac_ret, ac_pop, ac_popw, cl_cp, oWS, oW8, oW16, oW32, oW64, oLtT, oLtF, oLeT, oLeF, oNLtT, oNLtF, oNLeT, oNLeF, oEqT, oEqF, oNEqT, oNEqF, oBeqT, oBeqF, oBneT, oBneF, Int.natCast_add, Int.cast_ofNat_Int, Int.toNat_natCast, List.take_length, rndE_eq, rnd_n, rnd_r, rnd_e]
      · rw [if_neg (fun hh => a2 hh.2.1)]
        simp -implicitDefEqProofs (disch := omega) only [euphroeref26_Parse.s, L, go_sem, reduceIte, Nat.reduceAdd, Nat.reduceSub, Nat.reduceMul, Nat.reduceLeDiff, Nat.reduceLT, Nat.reduceEqDiff, Int.reduceToNat, Int.reduceLT, Int.reduceLE, Int.reduceEq, Int.reduceNe, Int.reduceAdd, Int.reduceSub, Int.reduceMul, Int.reduceNeg, Int.reduceBEq, Int.reduceBNe, reduceCtorEq, dreduceIte, true_or, or_true, false_or, or_false, or_self, ac_x, ac_t, setW_s, setW_0, ac_cp, ac_cpw, ac_lenw, ac_ret, ac_pop, ac_popw, cl_cp, oWS, oW8, oW16, oW32, oW64, oLtT, oLtF, oLeT, oLeF, oNLtT, oNLtF, oNLeT, oNLeF, oEqT, oEqF, oNEqT, oNEqF, oBeqT, oBeqF, oBneT, oBneF, Int.natCast_add, Int.cast_ofNat_Int, Int.toNat_natCast, List.take_length, rndE_eq, rnd_n, rnd_r, rnd_e]
    · rw [if_neg (fun hh => k3 hh.1)]
      have k3' : ¬ ((k : Nat) : Int) = 3 := by omega
      simp -implicitDefEqProofs (disch := omega) only [euphroeref26_Parse.s, L, go_sem, reduceIte, Nat.reduceAdd, Nat.reduceSub, Nat.reduceMul, Nat.reduceLeDiff, Nat.reduceLT, Nat.reduceEqDiff, Int.reduceToNat, Int.reduceLT, Int.reduceLE, Int.reduceEq, Int.reduceNe, Int.reduceAdd, Int.reduceSub, Int.reduceMul, Int.reduceNeg, Int.reduceBEq, Int.reduceBNe, reduceCtorEq, dreduceIte, true_or, or_true, false_or, or_false, or_self, ac_x, ac_t, setW_s, setW_0, ac_cp, ac_cpw, ac_lenw, ac_ret, ac_pop, ac_popw, cl_cp, oWS, oW8, oW16, oW32, oW64, oLtT, oLtF, oLeT, oLeF, oNLtT, oNLtF, oNLeT, oNLeF, oEqT, oEqF, oNEqT, oNEqF, oBeqT, oBeqF, oBneT, oBneF, Int.natCast_add, Int.cast_ofNat_Int, Int.toNat_natCast, List.take_length, rndE_eq, rnd_n, rnd_r, rnd_e]
  · have hsome : ∀ i, i ≤ j → ∃ p, pst s i = some p := fun i hi => by
      cases i with
      | zero => exact ⟨_, h00⟩
      | succ i => exact Option.ne_none_iff_exists'.1 (h4 i (by omega))
    let q := fun i => (pst s i).getD (0, 0, 0, 0, 0)
    have hq : ∀ i, i ≤ j → pst s i = some (q i) := fun i hi => by
      obtain ⟨p, hp⟩ := hsome i hi
      simp only [q, hp, Option.getD_some]
    have hp := hq j (Nat.le_refl _)
    have hbad := h2
    rw [pst_succ (by omega), hp, Option.bind_some] at hbad
    obtain ⟨k, hb⟩ := rp_bad s j (by omega) (by omega) (q j) (pst_ok s j _ (by omega) hp) hbad
    have L := lpFor (G := G) (kill := []) (body := euphroeref26_Parse.l0) (fun i => psE s (q i) i) (fun i => psS (q i)) j (fun i hi => by
      have hp := hq i (by omega)
      have hp2 := hq (i + 1) (by omega)
      rw [pst_succ (by omega), hp, Option.bind_some] at hp2
      exact rp_step s i (by omega) (by omega) (q i) (q (i + 1)) (pst_ok s i _ (by omega) hp) hp2) hb
    have q0 : q 0 = (0, 0, 0, 0, 0) := by simp only [q, h00, Option.getD_some]
    have hno : okR s = none := by
      have : ∀ m, j + 1 ≤ m → m ≤ s.length → pst s m = none := fun m h1 h2' => by
        have e : s.take m = s.take (j + 1) ++ (s.take m).drop (j + 1) := by
          have := List.take_append_drop (j + 1) (s.take m)
          rw [List.take_take, Nat.min_eq_left h1] at this
          exact this.symm
        unfold pst at h2 ⊢
        rw [e, pf_app, h2]; rfl
      unfold okR
      rw [this _ (by omega) (by omega)]
    rw [hno]
    simp only [psE, psS, q0] at L
    simp only [z0, Int.cast_ofNat_Int, List.take_zero, List.map_nil, List.drop_zero, accN, b8_nil, Int.sub_zero, Int.add_zero, Int.zero_add, Nat.zero_add, Nat.sub_zero, List.nil_append, List.append_nil] at L
    simp -implicitDefEqProofs (disch := omega) only [euphroeref26_Parse.s, L, go_sem, reduceIte, Nat.reduceAdd, Nat.reduceSub, Nat.reduceMul, Nat.reduceLeDiff, Nat.reduceLT, Nat.reduceEqDiff, Int.reduceToNat, Int.reduceLT, Int.reduceLE, Int.reduceEq, Int.reduceNe, Int.reduceAdd, Int.reduceSub, Int.reduceMul, Int.reduceNeg, Int.reduceBEq, Int.reduceBNe, reduceCtorEq, dreduceIte, true_or, or_true, false_or, or_false, or_self, ac_x, ac_t, setW_s, setW_0, ac_cp, ac_cpw, ac_lenw, ac_ret, ac_pop, ac_popw, cl_cp, oWS, oW8, oW16, oW32, oW64, oLtT, oLtF, oLeT, oLeF, oNLtT, oNLtF, oNLeT, oNLeF, oEqT, oEqF, oNEqT, oNEqF, oBeqT, oBeqF, oBneT, oBneF, Int.natCast_add, Int.cast_ofNat_Int, Int.toNat_natCast, List.take_length, rndE_eq, rnd_n, rnd_r, rnd_e]
/-! ### A text of an address -/
def dgN (n : Nat) : List UInt8 := if n < 10 then [UInt8.ofNat (48 + n)] else if n < 100 then [UInt8.ofNat (48 + n / 10), UInt8.ofNat (48 + n % 10)] else [UInt8.ofNat (48 + n / 100), UInt8.ofNat (48 + n / 10 % 10), UInt8.ofNat (48 + n % 10)]
theorem dgN_eq {n : Nat} (h : n ≤ 255) : Lib.decDigits n = dgN n := by
  unfold dgN
  by_cases h1 : n < 10
  · rw [if_pos h1, dg_lt h1]
  · rw [if_neg h1]
    by_cases h2 : n < 100
    · rw [if_pos h2, dg_ge h1, dg_lt (by omega), dg_lt (by omega)]; rfl
    · rw [if_neg h2, dg_ge h1, dg_ge (by omega), dg_lt (by omega), dg_lt (by omega), dg_lt (by omega), show n / 10 / 10 = n / 100 from by omega]; rfl
theorem wd_all : ∀ n : Fin 256, wdV (dgN n) = some ((n : Nat) : Int) := by decide +kernel
theorem no46_all : ∀ n : Fin 256, (dgN n).all (fun b => b != 46) = true := by decide +kernel
theorem wd_dg {n : Nat} (h : n ≤ 255) : wdV (Lib.decDigits n) = some (n : Int) := by
  rw [dgN_eq h]; exact wd_all ⟨n, by omega⟩
theorem no46 {n : Nat} (h : n ≤ 255) : ∀ b ∈ Lib.decDigits n, (b == 46) = false := by
  rw [dgN_eq h]
  intro b hb
  have := List.all_eq_true.1 (no46_all ⟨n, by omega⟩) b hb
  simpa using this
theorem splitC_one (c : UInt8) : ∀ x : List UInt8, (∀ b ∈ x, (b == c) = false) → splitC c x = [x]
  | [], _ => rfl
  | b :: l, h => by
    have ih := splitC_one c l (fun y hy => h y (List.mem_cons_of_mem _ hy))
    have hb := h b (by simp)
    simp only [splitC, hb, ih, Bool.false_eq_true, if_false]
theorem splitC_more (c : UInt8) (r : List UInt8) : ∀ x : List UInt8, (∀ b ∈ x, (b == c) = false) → splitC c (x ++ c :: r) = x :: splitC c r
  | [], _ => by simp [splitC]
  | b :: l, h => by
    have ih := splitC_more c r l (fun y hy => h y (List.mem_cons_of_mem _ hy))
    have hb := h b (by simp)
    simp only [List.cons_append, splitC, hb, ih, Bool.false_eq_true, if_false]
theorem by4_sum {a : Int} (h : u32ok a) : ∃ x y z w : Nat, by4 a = [x, y, z, w] ∧ x ≤ 255 ∧ y ≤ 255 ∧ z ≤ 255 ∧ w ≤ 255 ∧ a = 16777216 * x + 65536 * y + 256 * z + w :=
  ⟨_, _, _, _, rfl, by omega, by omega, by omega, by omega, by omega⟩
theorem split_tx {x y z w : Nat} (hx : x ≤ 255) (hy : y ≤ 255) (hz : z ≤ 255) (hw : w ≤ 255) :
    splitC 46 (Lib.join ([x, y, z, w].map Lib.decDigits) [46]) = [Lib.decDigits x, Lib.decDigits y, Lib.decDigits z, Lib.decDigits w] := by
  have e : Lib.join ([x, y, z, w].map Lib.decDigits) [46] = Lib.decDigits x ++ 46 :: (Lib.decDigits y ++ 46 :: (Lib.decDigits z ++ 46 :: Lib.decDigits w)) := by simp [Lib.join]
  rw [e, splitC_more _ _ _ (no46 hx), splitC_more _ _ _ (no46 hy), splitC_more _ _ _ (no46 hz), splitC_one _ _ (no46 hw)]
theorem okT_tx {a : Int} (h : u32ok a) : okT (tx a) = true ∧ accI (splitC 46 (tx a)) (splitC 46 (tx a)).length = a := by
  obtain ⟨x, y, z, w, e, hx, hy, hz, hw, ha⟩ := by4_sum h
  have es : splitC 46 (tx a) = [Lib.decDigits x, Lib.decDigits y, Lib.decDigits z, Lib.decDigits w] := by
    unfold tx; rw [e]; exact split_tx hx hy hz hw
  have ea : accI [Lib.decDigits x, Lib.decDigits y, Lib.decDigits z, Lib.decDigits w] 4 = a := by
    simp only [accI, List.getElem?_cons_zero, List.getElem?_cons_succ, Option.bind_some, wd_dg hx, wd_dg hy, wd_dg hz, wd_dg hw, Option.getD_some]
    omega
  unfold okT
  rw [es]
  have el : [Lib.decDigits x, Lib.decDigits y, Lib.decDigits z, Lib.decDigits w].length = 4 := rfl
  rw [el, ea]
  refine ⟨?_, rfl⟩
  simp only [List.all_cons, List.all_nil, wd_dg hx, wd_dg hy, wd_dg hz, wd_dg hw, Option.isSome_some, Bool.and_true, Bool.true_and, decide_true, beq_self_eq_true]
theorem okT_of {s : List UInt8} (h : okT s = true) : u32ok (accI (splitC 46 s) (splitC 46 s).length) ∧ tx (accI (splitC 46 s) (splitC 46 s).length) = s := by
  unfold okT at h
  simp only [Bool.and_eq_true, beq_iff_eq] at h
  exact ⟨accI_rng _ _, h.2⟩
theorem dig_d {x : Nat} {n : Int} (hx : x ≤ 9) (hn : n ≤ 255) : dig (48 + x) n = some (10 * n + x) := by
  unfold dig
  rw [if_neg (by omega)]
  congr 1
  omega
theorem u8d {x : Nat} (hx : x ≤ 9) : (UInt8.ofNat (48 + x)).toNat = 48 + x := by
  rw [UInt8.toNat_ofNat']; omega
theorem pf_dg {n : Nat} (h : n ≤ 255) (f : Int → PSt) (hf : ∀ (x : Nat) (m : Int), x ≠ 46 → pstep x (f m) = (dig x m).map f) : pf (Lib.decDigits n) (f 0) = some (f n) := by
  have st : ∀ (x : Nat) (m : Int), x ≤ 9 → m ≤ 255 → pstep (48 + x) (f m) = some (f (10 * m + x)) := fun x m hx hm => by
    rw [hf _ _ (by omega), dig_d hx hm]; rfl
  rw [dgN_eq h]
  unfold dgN
  by_cases h1 : n < 10
  · rw [if_pos h1]
    simp only [pf, u8d (show n ≤ 9 by omega), st n 0 (by omega) (by omega), Option.bind_some]
    congr 2; omega
  · rw [if_neg h1]
    by_cases h2 : n < 100
    · rw [if_pos h2]
      simp only [pf, u8d (show n / 10 ≤ 9 by omega), u8d (show n % 10 ≤ 9 by omega), st (n / 10) 0 (by omega) (by omega), Option.bind_some, st (n % 10) (10 * 0 + (n / 10 : Nat)) (by omega) (by omega)]
      congr 2; omega
    · rw [if_neg h2]
      simp only [pf, u8d (show n / 100 ≤ 9 by omega), u8d (show n / 10 % 10 ≤ 9 by omega), u8d (show n % 10 ≤ 9 by omega), st (n / 100) 0 (by omega) (by omega), Option.bind_some, st (n / 10 % 10) (10 * 0 + (n / 100 : Nat)) (by omega) (by omega), st (n % 10) (10 * (10 * 0 + (n / 100 : Nat)) + (n / 10 % 10 : Nat)) (by omega) (by omega)]
      congr 2; omega
theorem dg_le3 {n : Nat} (h : n ≤ 255) : (Lib.decDigits n).length ≤ 3 := by
  rw [dgN_eq h]; unfold dgN; split
  · simp
  · split <;> simp
theorem okR_tx {a : Int} (h : u32ok a) : okR (tx a) = some a := by
  obtain ⟨x, y, z, w, e, hx, hy, hz, hw, ha⟩ := by4_sum h
  have et : tx a = Lib.decDigits x ++ (46 :: (Lib.decDigits y ++ (46 :: (Lib.decDigits z ++ (46 :: Lib.decDigits w))))) := by unfold tx; rw [e]; simp [Lib.join]
  have l1 := dg_le3 hx
  have l2 := dg_le3 hy
  have l3 := dg_le3 hz
  have l4 := dg_le3 hw
  have hlen : (tx a).length ≤ 16 := by rw [et]; simp only [List.length_append, List.length_cons, List.length_nil]; omega
  have hp : pst (tx a) (min (tx a).length 16) = some ((3, (x : Int), (y : Int), (z : Int), (w : Int)) : PSt) := by
    unfold pst
    rw [Nat.min_eq_left hlen, List.take_length, et]
    have u46 : (46 : UInt8).toNat = 46 := rfl
    rw [pf_app, pf_dg hx (fun m => (0, m, 0, 0, 0)) (fun x m hx => by simp only [pstep, if_neg hx] <;> rfl), Option.bind_some]
    simp only [pf, u46, pstep, if_true, Option.bind_some]
    rw [pf_app, pf_dg hy (fun m => (1, x, m, 0, 0)) (fun x m hx => by simp only [pstep, if_neg hx] <;> rfl), Option.bind_some]
    simp only [pf, u46, pstep, if_true, Option.bind_some]
    rw [pf_app, pf_dg hz (fun m => (2, x, y, m, 0)) (fun x m hx => by simp only [pstep, if_neg hx] <;> rfl), Option.bind_some]
    simp only [pf, u46, pstep, if_true, Option.bind_some]
    rw [pf_dg hw (fun m => (3, x, y, z, m)) (fun x m hx => by simp only [pstep, if_neg hx] <;> rfl)]
  unfold okR
  rw [hp]
  simp only [valR]
  rw [if_pos ⟨trivial, by omega, by omega, by omega, by omega, by rw [← ha]⟩, ← ha]
theorem okR_of {s : List UInt8} {a : Int} (hs : s.length ≤ 100) (h : okR s = some a) : u32ok a ∧ tx a = s := by
  unfold okR at h
  split at h <;> first | (cases h; done) | skip
  rename_i p hp
  have := pst_ok s _ p (by omega) hp
  split at h <;> first | (cases h; done) | skip
  rename_i hc
  obtain rfl := Option.some.inj h
  refine ⟨?_, hc.2.2.2.2.2⟩
  obtain ⟨h1, h2, h3, h4, h5, _⟩ := hc
  simp only [u32ok, valR]
  omega
theorem tx_len {a : Int} (h : u32ok a) : (tx a).length ≤ 100 := by
  obtain ⟨x, y, z, w, e, hx, hy, hz, hw, ha⟩ := by4_sum h
  have l1 := dg_le3 hx
  have l2 := dg_le3 hy
  have l3 := dg_le3 hz
  have l4 := dg_le3 hw
  unfold tx
  rw [e]
  simp [Lib.join]
  omega
theorem ipcpoTexts (a : Int) (s : List UInt8) (h : u32ok a) (hl : s.length ≤ 4611686018427387904) : run G 5 [.v (.int .u32 a), .v (.str s)] [] = some (.v (.bool true), []) := by
  rw [xq_fn G rfl euphroelaw26_IpcpoTexts.g _ _ rfl]
  by_cases hs : 100 < s.length
  · simp -implicitDefEqProofs (disch := omega) only [euphroelaw26_IpcpoTexts.s, i_alive, go_sem, reduceIte, Nat.reduceAdd, Nat.reduceSub, Nat.reduceMul, Nat.reduceLeDiff, Nat.reduceLT, Nat.reduceEqDiff, Int.reduceToNat, Int.reduceLT, Int.reduceLE, Int.reduceEq, Int.reduceNe, Int.reduceAdd, Int.reduceSub, Int.reduceMul, Int.reduceNeg, Int.reduceBEq, Int.reduceBNe, reduceCtorEq, dreduceIte, true_or, or_true, false_or, or_false, or_self, ac_x, ac_t, setW_s, setW_0, ac_cp, ac_cpw, ac_lenw, ac_ret, ac_pop, ac_popw, cl_cp, oWS, oW8, oW16, oW32, oW64, oLtT, oLtF, oLeT, oLeF, oNLtT, oNLtF, oNLeT, oNLeF, oEqT, oEqF, oNEqT, oNEqF, oBeqT, oBeqF, oBneT, oBneF, Int.natCast_add, Int.cast_ofNat_Int, Int.toNat_natCast, List.take_length, rndE_eq, rnd_n, rnd_r, rnd_e]
  · have t1 := t_text a h
    have t2 := t_rtext a h
    have p3 := t_parse (tx a) (tx_len h)
    obtain ⟨k1, k2⟩ := okT_tx h
    rw [k1, k2] at p3
    simp only [if_true] at p3
    have hp : (∃ b, u32ok b ∧ tx b = s) ∨ (okT s = false ∧ okR s = none) := by
      cases h1 : okT s with
      | true => exact .inl ⟨_, okT_of h1⟩
      | false =>
        cases h2 : okR s with
        | none => exact .inr ⟨rfl, rfl⟩
        | some b => exact .inl ⟨b, okR_of (by omega) h2⟩
    have p1 := t_parse s (by omega)
    have p2 := t_rparse s (by omega)
    rcases hp with ⟨b, hb, rfl⟩ | ⟨e1, e2⟩
    · obtain ⟨k3, k4⟩ := okT_tx hb
      rw [k3, k4] at p1
      rw [okR_tx hb] at p2
      simp only [if_true, rpV] at p1 p2
      simp -implicitDefEqProofs (disch := omega) only [euphroelaw26_IpcpoTexts.s, t1, t2, p1, p2, p3, i_alive, beq_self_eq_true, Bool.and_true, go_sem, reduceIte, Nat.reduceAdd, Nat.reduceSub, Nat.reduceMul, Nat.reduceLeDiff, Nat.reduceLT, Nat.reduceEqDiff, Int.reduceToNat, Int.reduceLT, Int.reduceLE, Int.reduceEq, Int.reduceNe, Int.reduceAdd, Int.reduceSub, Int.reduceMul, Int.reduceNeg, Int.reduceBEq, Int.reduceBNe, reduceCtorEq, dreduceIte, true_or, or_true, false_or, or_false, or_self, ac_x, ac_t, setW_s, setW_0, ac_cp, ac_cpw, ac_lenw, ac_ret, ac_pop, ac_popw, cl_cp, oWS, oW8, oW16, oW32, oW64, oLtT, oLtF, oLeT, oLeF, oNLtT, oNLtF, oNLeT, oNLeF, oEqT, oEqF, oNEqT, oNEqF, oBeqT, oBeqF, oBneT, oBneF, Int.natCast_add, Int.cast_ofNat_Int, Int.toNat_natCast, List.take_length, rndE_eq, rnd_n, rnd_r, rnd_e]
    · rw [e1] at p1
      rw [e2] at p2
      simp only [Bool.false_eq_true, if_false, rpV] at p1 p2
      simp -implicitDefEqProofs (disch := omega) only [euphroelaw26_IpcpoTexts.s, t1, t2, p1, p2, p3, i_alive, beq_self_eq_true, Bool.and_true, go_sem, reduceIte, Nat.reduceAdd, Nat.reduceSub, Nat.reduceMul, Nat.reduceLeDiff, Nat.reduceLT, Nat.reduceEqDiff, Int.reduceToNat, Int.reduceLT, Int.reduceLE, Int.reduceEq, Int.reduceNe, Int.reduceAdd, Int.reduceSub, Int.reduceMul, Int.reduceNeg, Int.reduceBEq, Int.reduceBNe, reduceCtorEq, dreduceIte, true_or, or_true, false_or, or_false, or_self, ac_x, ac_t, setW_s, setW_0, ac_cp, ac_cpw, ac_lenw, ac_ret, ac_pop, ac_popw, cl_cp, oWS, oW8, oW16, oW32, oW64, oLtT, oLtF, oLeT, oLeF, oNLtT, oNLtF, oNLeT, oNLeF, oEqT, oEqF, oNEqT, oNEqF, oBeqT, oBeqF, oBneT, oBneF, Int.natCast_add, Int.cast_ofNat_Int, Int.toNat_natCast, List.take_length, rndE_eq, rnd_n, rnd_r, rnd_e]
end Go.Q
