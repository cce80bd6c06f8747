/- Octets as text: what octs.Hex, digit and Unhex and the document's compute. No condition. -/
import Derived.Test.YtdcknpkednpckaaGreatDoorHi
set_option linter.all false
set_option maxRecDepth 100000
namespace Go.Q
open SOp SCode
attribute [local congr] bind_c map_c
abbrev hexL : List UInt8 := [48, 49, 50, 51, 52, 53, 54, 55, 56, 57, 65, 66, 67, 68, 69, 70]
def hxD (n : Nat) : UInt8 := hexL.getD n 0
def hexR : List UInt8 → List UInt8
  | [] => []
  | c :: r => hxD (c.toNat / 16) :: hxD (c.toNat % 16) :: hexR r
theorem hexR_len : ∀ l : List UInt8, (hexR l).length = 2 * l.length
  | [] => rfl
  | c :: r => by have := hexR_len r; simp [hexR]; omega
theorem hexR_app : ∀ (a b : List UInt8), hexR (a ++ b) = hexR a ++ hexR b
  | [], b => rfl
  | c :: r, b => by simp [hexR, hexR_app r b]
theorem hx_at {n : Nat} (h : n < 16) : hexL[n]? = some (hxD n) := by
  have key : ∀ n : Nat, n < 16 → hexL[n]? = some (hxD n) := by decide
  exact key n h
theorem sh_4 (c : UInt8) : opBin .shr (.v (.int .u8 c.toNat)) (.v (.int .u64 4)) = some (.v (.int .u8 ((c.toNat / 16 : Nat) : Int))) := by
  have key : ∀ n : Nat, n < 256 → (n : Int).fdiv 16 = ((n / 16 : Nat) : Int) := by decide +kernel
  show some (D.v (.int .u8 ((c.toNat : Int).fdiv (2 ^ min (Int.toNat 4) IntKind.u8.bits)))) = _
  rw [show (2 : Int) ^ min (Int.toNat 4) IntKind.u8.bits = 16 from rfl, key _ c.toNat_lt]
theorem an_15 (c : UInt8) : opBin .and (.v (.int .u8 c.toNat)) (.v (.int .u8 15)) = some (.v (.int .u8 ((c.toNat % 16 : Nat) : Int))) := by
  have key : ∀ n : Nat, n < 256 → IntKind.u8.wrap ((BitVec.ofInt IntKind.u8.bits (n : Int) &&& BitVec.ofInt IntKind.u8.bits 15).toNat : Nat) = ((n % 16 : Nat) : Int) := by decide +kernel
  show some (D.v (.int .u8 (IntKind.u8.wrap ((BitVec.ofInt IntKind.u8.bits (c.toNat : Int) &&& BitVec.ofInt IntKind.u8.bits 15).toNat : Nat)))) = _
  rw [key _ c.toNat_lt]
abbrev hxE (b acc : List UInt8) (i : Nat) : List D := [.v (.slc 1 (u8L b)), .v (.str []), .lin 1 (u8L acc), .v (.slc 1 (u8L b)), .v (.int .i64 b.length), .v (.int .i64 i), .undef]
theorem u8L_app (a b : List UInt8) : u8L (a ++ b) = u8L a ++ u8L b := by simp [u8L]
theorem hx_step (b : List UInt8) (hb : b.length ≤ 1000) (i : Nat) (hi : i < b.length) : rndE G [6] octs_Hex.l0 (hxE b (hexR (b.take i)) i) [[]] = some (.inl (hxE b (hexR (b.take (i + 1))) (i + 1), [[]])) := by
  have hx := u8L_at (List.getElem?_eq_getElem hi)
  have hub := u8L_len b
  have hM := hmax
  have e1 : hexR (b.take (i + 1)) = hexR (b.take i) ++ [hxD (b[i].toNat / 16), hxD (b[i].toNat % 16)] := by
    rw [take_succ hi, hexR_app]; rfl
  have hl : (u8L (hexR (b.take i))).length ≤ 2000 := by rw [u8L_len, hexR_len, List.length_take]; omega
  rw [e1]
  simp only [hxE, u8L_app]
  generalize hexR (b.take i) = acc at *
  have s1 := sh_4 b[i]
  have s2 := an_15 b[i]
  generalize b[i] = c at *
  have hcl := c.toNat_lt
  have h1 : c.toNat / 16 < 16 := by omega
  have h2 : c.toNat % 16 < 16 := by omega
  have a1 := hx_at h1
  have a2 := hx_at h2
  generalize c.toNat / 16 = p at *
  generalize c.toNat % 16 = q at *
  have e3 : u8L [hxD p, hxD q] = [.int .u8 (hxD p).toNat, .int .u8 (hxD q).toNat] := rfl
  rw [e3]
  generalize u8L acc = ac at *
  have hlt : ∀ n : Nat, n < 16 → ((n : Int) < 16) := fun n h => by omega
  have l1 := hlt p h1
  have l2 := hlt q h2
  simp -implicitDefEqProofs (maxSteps := 2000000) (disch := omega) only [octs_Hex.l0, hub, hx, s1, s2, a1, a2, hM, List.length_cons, List.length_nil, go_sem, reduceIte, Nat.reduceAdd, Nat.reduceSub, Nat.reduceMul, Nat.reduceLeDiff, Nat.reduceLT, Nat.reduceEqDiff, Int.reduceToNat, Int.reduceLT, Int.reduceLE, Int.reduceEq, Int.reduceNe, Int.reduceAdd, Int.reduceSub, Int.reduceMul, Int.reduceNeg, Int.reduceBEq, Int.reduceBNe, reduceCtorEq, dreduceIte, oWS, oW8, oW16, oW32, oW64, oLtT, oLtF, oLeT, oLeF, oNLtT, oNLtF, oNLeT, oNLeF, oEqT, oEqF, oNEqT, oNEqF, oBeqT, oBeqF, oBneT, oBneF, Int.natCast_add, List.take_length]
theorem o_Hex (b : List UInt8) (hb : b.length ≤ 1000) (h0 : b ≠ []) : run G 30 [.v (.slc 1 (u8L b))] [] = some (.v (.str (hexR b)), []) := by
  have hub := u8L_len b
  have hM := hmax
  have hp : 0 < b.length := List.length_pos_iff.2 h0
  have L := lpFor (G := G) (kill := [6]) (body := octs_Hex.l0) (fun i => hxE b (hexR (b.take i)) i) (fun i => [[]]) b.length (fun i hi => hx_step b hb i hi) (by simp only [hxE]; simp -implicitDefEqProofs (maxSteps := 2000000) (disch := omega) only [octs_Hex.l0, go_sem, reduceIte, Nat.reduceAdd, Nat.reduceSub, Nat.reduceMul, Nat.reduceLeDiff, Nat.reduceLT, Nat.reduceEqDiff, Int.reduceToNat, Int.reduceLT, Int.reduceLE, Int.reduceEq, Int.reduceNe, Int.reduceAdd, Int.reduceSub, Int.reduceMul, Int.reduceNeg, Int.reduceBEq, Int.reduceBNe, reduceCtorEq, dreduceIte, oWS, oW8, oW16, oW32, oW64, oLtT, oLtF, oLeT, oLeF, oNLtT, oNLtF, oNLeT, oNLeF, oEqT, oEqF, oNEqT, oNEqF, oBeqT, oBeqF, oBneT, oBneF, Int.natCast_add, List.take_length]; rfl)
  have e0 : hexR (b.take 0) = [] := rfl
  have e1 : u8L ([] : List UInt8) = [] := rfl
  rw [e0] at L
  simp only [hxE, e1] at L
  simp only [z0, Int.cast_ofNat_Int, List.take_zero, List.map_nil, List.drop_zero, accN, b8_nil, Int.sub_zero, Int.add_zero, Int.zero_add, Nat.zero_add, Nat.sub_zero, List.nil_append, List.append_nil] at L
  have hbs := bytesOf_u8L (hexR b)
  have hne : ¬ (2 * (b.length : Int)) = 0 := by omega
  have hne2 : ¬ (0 : Int) = 2 * (b.length : Int) := by omega
  rw [xq_fn G rfl octs_Hex.g _ _ rfl]
  simp -implicitDefEqProofs (maxSteps := 2000000) (disch := omega) only [octs_Hex.s, hub, hM, L, hbs, hne, hne2, makeD, go_sem, reduceIte, Nat.reduceAdd, Nat.reduceSub, Nat.reduceMul, Nat.reduceLeDiff, Nat.reduceLT, Nat.reduceEqDiff, Int.reduceToNat, Int.reduceLT, Int.reduceLE, Int.reduceEq, Int.reduceNe, Int.reduceAdd, Int.reduceSub, Int.reduceMul, Int.reduceNeg, Int.reduceBEq, Int.reduceBNe, reduceCtorEq, dreduceIte, oWS, oW8, oW16, oW32, oW64, oLtT, oLtF, oLeT, oLeF, oNLtT, oNLtF, oNLeT, oNLeF, oEqT, oEqF, oNEqT, oNEqF, oBeqT, oBeqF, oBneT, oBneF, Int.natCast_add, List.take_length]
def dgV (c : UInt8) : Option Nat := if 48 ≤ c.toNat ∧ c.toNat ≤ 57 then some (c.toNat - 48) else if 97 ≤ c.toNat ∧ c.toNat ≤ 102 then some (c.toNat - 87) else if 65 ≤ c.toNat ∧ c.toNat ≤ 70 then some (c.toNat - 55) else none
def dgI (c : UInt8) : Int := match dgV c with
  | none => -1
  | some n => n
def dgU (c : UInt8) : Int := match dgV c with
  | none => 16
  | some n => n
theorem dgV_lt {c : UInt8} {n : Nat} (h : dgV c = some n) : n < 16 := by
  unfold dgV at h
  have := c.toNat_lt
  split at h
  · cases h; omega
  · split at h
    · cases h; omega
    · split at h
      · cases h; omega
      · cases h
def upN (n : Nat) : Nat := if 97 ≤ n ∧ n ≤ 102 then n - 32 else n
theorem sidx_dg (c : UInt8) : sidxF [.str hexL, .int .u8 (upN c.toNat : Nat)] = some (.v (.int .i64 (dgI c))) := by
  have key : ∀ n : Nat, n < 256 → upN n < 256 ∧ (match ixS [UInt8.ofNat (upN n)] hexL with | none => (-1 : Int) | some i => i) = dgI (UInt8.ofNat n) := by decide +kernel
  have e : ∀ t s, idxO t s = .int .i64 (match ixS t s with | none => (-1 : Int) | some i => i) := fun t s => by unfold idxO; cases ixS t s <;> rfl
  obtain ⟨k1, k2⟩ := key c.toNat c.toNat_lt
  simp only [sidxF]
  rw [if_pos (by omega), Int.toNat_natCast, e, k2]
  simp
theorem o_digit (c : UInt8) : run G 51 [.v (.int .u8 c.toNat)] [] = some (.v (.int .i64 (dgI c)), []) := by
  have I : run G 74 [.v (.str hexL), .v (.int .u8 (upN c.toNat : Nat))] [] = some (.v (.int .i64 (dgI c)), []) := by
    rw [xq_prim G (f := 74) (F := primPure sidxF) (by rfl)]
    simp only [primPure, allV, Option.map_some, Option.bind_some, sidx_dg]
  have hc := c.toNat_lt
  rw [xq_fn G rfl octs_digit.g _ _ rfl]
  by_cases h1 : 97 ≤ c.toNat
  · by_cases h2 : c.toNat ≤ 102
    · have e : ((upN c.toNat : Nat) : Int) = (c.toNat : Int) - 32 := by unfold upN; rw [if_pos ⟨h1, h2⟩]; omega
      rw [e] at I
      generalize c.toNat = n at *
      simp -implicitDefEqProofs (maxSteps := 2000000) (disch := omega) only [octs_digit.s, I, go_sem, reduceIte, Nat.reduceAdd, Nat.reduceSub, Nat.reduceMul, Nat.reduceLeDiff, Nat.reduceLT, Nat.reduceEqDiff, Int.reduceToNat, Int.reduceLT, Int.reduceLE, Int.reduceEq, Int.reduceNe, Int.reduceAdd, Int.reduceSub, Int.reduceMul, Int.reduceNeg, Int.reduceBEq, Int.reduceBNe, reduceCtorEq, dreduceIte, oWS, oW8, oW16, oW32, oW64, oLtT, oLtF, oLeT, oLeF, oNLtT, oNLtF, oNLeT, oNLeF, oEqT, oEqF, oNEqT, oNEqF, oBeqT, oBeqF, oBneT, oBneF, Int.natCast_add, List.take_length]
    · have e : upN c.toNat = c.toNat := by unfold upN; rw [if_neg (fun h => h2 h.2)]
      rw [e] at I
      generalize c.toNat = n at *
      simp -implicitDefEqProofs (maxSteps := 2000000) (disch := omega) only [octs_digit.s, I, go_sem, reduceIte, Nat.reduceAdd, Nat.reduceSub, Nat.reduceMul, Nat.reduceLeDiff, Nat.reduceLT, Nat.reduceEqDiff, Int.reduceToNat, Int.reduceLT, Int.reduceLE, Int.reduceEq, Int.reduceNe, Int.reduceAdd, Int.reduceSub, Int.reduceMul, Int.reduceNeg, Int.reduceBEq, Int.reduceBNe, reduceCtorEq, dreduceIte, oWS, oW8, oW16, oW32, oW64, oLtT, oLtF, oLeT, oLeF, oNLtT, oNLtF, oNLeT, oNLeF, oEqT, oEqF, oNEqT, oNEqF, oBeqT, oBeqF, oBneT, oBneF, Int.natCast_add, List.take_length]
  · have e : upN c.toNat = c.toNat := by unfold upN; rw [if_neg (fun h => h1 h.1)]
    rw [e] at I
    generalize c.toNat = n at *
    simp -implicitDefEqProofs (maxSteps := 2000000) (disch := omega) only [octs_digit.s, I, go_sem, reduceIte, Nat.reduceAdd, Nat.reduceSub, Nat.reduceMul, Nat.reduceLeDiff, Nat.reduceLT, Nat.reduceEqDiff, Int.reduceToNat, Int.reduceLT, Int.reduceLE, Int.reduceEq, Int.reduceNe, Int.reduceAdd, Int.reduceSub, Int.reduceMul, Int.reduceNeg, Int.reduceBEq, Int.reduceBNe, reduceCtorEq, dreduceIte, oWS, oW8, oW16, oW32, oW64, oLtT, oLtF, oLeT, oLeF, oNLtT, oNLtF, oNLeT, oNLeF, oEqT, oEqF, oNEqT, oNEqF, oBeqT, oBeqF, oBneT, oBneF, Int.natCast_add, List.take_length]
theorem r_Digit (c : UInt8) : run G 66 [.v (.int .u8 c.toNat)] [] = some (.v (.int .u8 (dgU c)), []) := by
  have hc := c.toNat_lt
  unfold dgU dgV
  rw [xq_fn G rfl euphroeref01_Digit.g _ _ rfl]
  generalize c.toNat = n at *
  by_cases h1 : 48 ≤ n ∧ n ≤ 57
  · rw [if_pos h1]
    have e : ((n - 48 : Nat) : Int) = (n : Int) - 48 := by omega
    simp only [e]
    simp -implicitDefEqProofs (maxSteps := 2000000) (disch := omega) only [euphroeref01_Digit.s, go_sem, reduceIte, Nat.reduceAdd, Nat.reduceSub, Nat.reduceMul, Nat.reduceLeDiff, Nat.reduceLT, Nat.reduceEqDiff, Int.reduceToNat, Int.reduceLT, Int.reduceLE, Int.reduceEq, Int.reduceNe, Int.reduceAdd, Int.reduceSub, Int.reduceMul, Int.reduceNeg, Int.reduceBEq, Int.reduceBNe, reduceCtorEq, dreduceIte, oWS, oW8, oW16, oW32, oW64, oLtT, oLtF, oLeT, oLeF, oNLtT, oNLtF, oNLeT, oNLeF, oEqT, oEqF, oNEqT, oNEqF, oBeqT, oBeqF, oBneT, oBneF, Int.natCast_add, List.take_length]
  rw [if_neg h1]
  by_cases h2 : 97 ≤ n ∧ n ≤ 102
  · rw [if_pos h2]
    have e : ((n - 87 : Nat) : Int) = (n : Int) - 97 + 10 := by omega
    simp only [e]
    simp -implicitDefEqProofs (maxSteps := 2000000) (disch := omega) only [euphroeref01_Digit.s, go_sem, reduceIte, Nat.reduceAdd, Nat.reduceSub, Nat.reduceMul, Nat.reduceLeDiff, Nat.reduceLT, Nat.reduceEqDiff, Int.reduceToNat, Int.reduceLT, Int.reduceLE, Int.reduceEq, Int.reduceNe, Int.reduceAdd, Int.reduceSub, Int.reduceMul, Int.reduceNeg, Int.reduceBEq, Int.reduceBNe, reduceCtorEq, dreduceIte, oWS, oW8, oW16, oW32, oW64, oLtT, oLtF, oLeT, oLeF, oNLtT, oNLtF, oNLeT, oNLeF, oEqT, oEqF, oNEqT, oNEqF, oBeqT, oBeqF, oBneT, oBneF, Int.natCast_add, List.take_length]
  rw [if_neg h2]
  by_cases h3 : 65 ≤ n ∧ n ≤ 70
  · rw [if_pos h3]
    have e : ((n - 55 : Nat) : Int) = (n : Int) - 65 + 10 := by omega
    simp only [e]
    simp -implicitDefEqProofs (maxSteps := 2000000) (disch := omega) only [euphroeref01_Digit.s, go_sem, reduceIte, Nat.reduceAdd, Nat.reduceSub, Nat.reduceMul, Nat.reduceLeDiff, Nat.reduceLT, Nat.reduceEqDiff, Int.reduceToNat, Int.reduceLT, Int.reduceLE, Int.reduceEq, Int.reduceNe, Int.reduceAdd, Int.reduceSub, Int.reduceMul, Int.reduceNeg, Int.reduceBEq, Int.reduceBNe, reduceCtorEq, dreduceIte, oWS, oW8, oW16, oW32, oW64, oLtT, oLtF, oLeT, oLeF, oNLtT, oNLtF, oNLeT, oNLeF, oEqT, oEqF, oNEqT, oNEqF, oBeqT, oBeqF, oBneT, oBneF, Int.natCast_add, List.take_length]
  rw [if_neg h3]
  have c1 : (n : Int) < 48 ∨ (57 < (n : Int) ∧ (n : Int) < 65) ∨ (70 < (n : Int) ∧ (n : Int) < 97) ∨ 102 < (n : Int) := by omega
  rcases c1 with c1 | c1 | c1 | c1
  · simp -implicitDefEqProofs (maxSteps := 2000000) (disch := omega) only [euphroeref01_Digit.s, go_sem, reduceIte, Nat.reduceAdd, Nat.reduceSub, Nat.reduceMul, Nat.reduceLeDiff, Nat.reduceLT, Nat.reduceEqDiff, Int.reduceToNat, Int.reduceLT, Int.reduceLE, Int.reduceEq, Int.reduceNe, Int.reduceAdd, Int.reduceSub, Int.reduceMul, Int.reduceNeg, Int.reduceBEq, Int.reduceBNe, reduceCtorEq, dreduceIte, oWS, oW8, oW16, oW32, oW64, oLtT, oLtF, oLeT, oLeF, oNLtT, oNLtF, oNLeT, oNLeF, oEqT, oEqF, oNEqT, oNEqF, oBeqT, oBeqF, oBneT, oBneF, Int.natCast_add, List.take_length]
  · simp -implicitDefEqProofs (maxSteps := 2000000) (disch := omega) only [euphroeref01_Digit.s, go_sem, reduceIte, Nat.reduceAdd, Nat.reduceSub, Nat.reduceMul, Nat.reduceLeDiff, Nat.reduceLT, Nat.reduceEqDiff, Int.reduceToNat, Int.reduceLT, Int.reduceLE, Int.reduceEq, Int.reduceNe, Int.reduceAdd, Int.reduceSub, Int.reduceMul, Int.reduceNeg, Int.reduceBEq, Int.reduceBNe, reduceCtorEq, dreduceIte, oWS, oW8, oW16, oW32, oW64, oLtT, oLtF, oLeT, oLeF, oNLtT, oNLtF, oNLeT, oNLeF, oEqT, oEqF, oNEqT, oNEqF, oBeqT, oBeqF, oBneT, oBneF, Int.natCast_add, List.take_length]
  · simp -implicitDefEqProofs (maxSteps := 2000000) (disch := omega) only [euphroeref01_Digit.s, go_sem, reduceIte, Nat.reduceAdd, Nat.reduceSub, Nat.reduceMul, Nat.reduceLeDiff, Nat.reduceLT, Nat.reduceEqDiff, Int.reduceToNat, Int.reduceLT, Int.reduceLE, Int.reduceEq, Int.reduceNe, Int.reduceAdd, Int.reduceSub, Int.reduceMul, Int.reduceNeg, Int.reduceBEq, Int.reduceBNe, reduceCtorEq, dreduceIte, oWS, oW8, oW16, oW32, oW64, oLtT, oLtF, oLeT, oLeF, oNLtT, oNLtF, oNLeT, oNLeF, oEqT, oEqF, oNEqT, oNEqF, oBeqT, oBeqF, oBneT, oBneF, Int.natCast_add, List.take_length]
  · simp -implicitDefEqProofs (maxSteps := 2000000) (disch := omega) only [euphroeref01_Digit.s, go_sem, reduceIte, Nat.reduceAdd, Nat.reduceSub, Nat.reduceMul, Nat.reduceLeDiff, Nat.reduceLT, Nat.reduceEqDiff, Int.reduceToNat, Int.reduceLT, Int.reduceLE, Int.reduceEq, Int.reduceNe, Int.reduceAdd, Int.reduceSub, Int.reduceMul, Int.reduceNeg, Int.reduceBEq, Int.reduceBNe, reduceCtorEq, dreduceIte, oWS, oW8, oW16, oW32, oW64, oLtT, oLtF, oLeT, oLeF, oNLtT, oNLtF, oNLeT, oNLeF, oEqT, oEqF, oNEqT, oNEqF, oBeqT, oBeqF, oBneT, oBneF, Int.natCast_add, List.take_length]
def unhR : List UInt8 → Option (List UInt8)
  | [] => some []
  | [_] => none
  | a :: b :: r => match dgV a, dgV b with
    | some x, some y => (unhR r).map (UInt8.ofNat (16 * x + y) :: ·)
    | _, _ => none
theorem unhR_len : ∀ (s l : List UInt8), unhR s = some l → s.length = 2 * l.length
  | [], l, h => by cases h; rfl
  | [_], l, h => by cases h
  | a :: b :: r, l, h => by
    simp only [unhR] at h
    cases ha : dgV a with
    | none => rw [ha] at h; cases h
    | some x =>
      cases hb : dgV b with
      | none => rw [ha, hb] at h; cases h
      | some y =>
        rw [ha, hb] at h
        simp only at h
        cases hr : unhR r with
        | none => rw [hr] at h; cases h
        | some l2 =>
          rw [hr] at h
          cases h
          have := unhR_len r l2 hr
          simp; omega
theorem unhR_dg : ∀ (s l : List UInt8), unhR s = some l → ∀ c ∈ s, ∃ n, dgV c = some n
  | [], l, h, c, hc => by cases hc
  | [_], l, h, c, hc => by cases h
  | a :: b :: r, l, h, c, hc => by
    simp only [unhR] at h
    cases ha : dgV a with
    | none => rw [ha] at h; cases h
    | some x =>
      cases hb : dgV b with
      | none => rw [ha, hb] at h; cases h
      | some y =>
        rw [ha, hb] at h
        simp only at h
        cases hr : unhR r with
        | none => rw [hr] at h; cases h
        | some l2 =>
          rw [hr] at h
          rcases List.mem_cons.1 hc with rfl | hc
          · exact ⟨x, ha⟩
          · rcases List.mem_cons.1 hc with rfl | hc
            · exact ⟨y, hb⟩
            · exact unhR_dg r l2 hr c hc
theorem sh_or {x y : Nat} (hx : x < 16) (hy : y < 16) : opBin .shl (.v (.int .i64 x)) (.v (.int .u64 4)) = some (.v (.int .i64 ((16 * x : Nat) : Int))) ∧ opBin .or (.v (.int .i64 ((16 * x : Nat) : Int))) (.v (.int .i64 y)) = some (.v (.int .i64 ((16 * x + y : Nat) : Int))) := by
  have key : ∀ x : Nat, x < 16 → IntKind.i64.wrap ((x : Int) * 16) = ((16 * x : Nat) : Int) ∧ ∀ y : Nat, y < 16 → IntKind.i64.wrap ((BitVec.ofInt IntKind.i64.bits ((16 * x : Nat) : Int) ||| BitVec.ofInt IntKind.i64.bits (y : Int)).toNat : Nat) = ((16 * x + y : Nat) : Int) := by decide +kernel
  obtain ⟨k1, k2⟩ := key x hx
  have k2 := k2 y hy
  constructor
  · show some (D.v (.int .i64 (IntKind.i64.wrap ((x : Int) * 2 ^ min (Int.toNat 4) IntKind.i64.bits)))) = _
    rw [show (2 : Int) ^ min (Int.toNat 4) IntKind.i64.bits = 16 from rfl, k1]
  · show some (D.v (.int .i64 (IntKind.i64.wrap ((BitVec.ofInt IntKind.i64.bits ((16 * x : Nat) : Int) ||| BitVec.ofInt IntKind.i64.bits (y : Int)).toNat : Nat)))) = _
    rw [k2]
theorem sh_bad {p q : Int} (hp : p = -1 ∨ ∃ x : Nat, x < 16 ∧ p = x) (hq : q = -1 ∨ ∃ x : Nat, x < 16 ∧ q = x) (h : p = -1 ∨ q = -1) : ∃ u v : Int, opBin .shl (.v (.int .i64 p)) (.v (.int .u64 4)) = some (.v (.int .i64 u)) ∧ opBin .or (.v (.int .i64 u)) (.v (.int .i64 q)) = some (.v (.int .i64 v)) ∧ v < 0 := by
  refine ⟨IntKind.i64.wrap (p * 16), IntKind.i64.wrap ((BitVec.ofInt IntKind.i64.bits (IntKind.i64.wrap (p * 16)) ||| BitVec.ofInt IntKind.i64.bits q).toNat : Nat), ?_, rfl, ?_⟩
  · show some (D.v (.int .i64 (IntKind.i64.wrap (p * 2 ^ min (Int.toNat 4) IntKind.i64.bits)))) = _
    rw [show (2 : Int) ^ min (Int.toNat 4) IntKind.i64.bits = 16 from rfl]
  · have key : ∀ x : Nat, x < 16 → IntKind.i64.wrap ((BitVec.ofInt IntKind.i64.bits (IntKind.i64.wrap ((-1) * 16)) ||| BitVec.ofInt IntKind.i64.bits (x : Int)).toNat : Nat) < 0 ∧ IntKind.i64.wrap ((BitVec.ofInt IntKind.i64.bits (IntKind.i64.wrap ((x : Int) * 16)) ||| BitVec.ofInt IntKind.i64.bits (-1)).toNat : Nat) < 0 := by decide +kernel
    have key2 : IntKind.i64.wrap ((BitVec.ofInt IntKind.i64.bits (IntKind.i64.wrap ((-1) * 16)) ||| BitVec.ofInt IntKind.i64.bits (-1)).toNat : Nat) < 0 := by decide +kernel
    rcases hp with rfl | ⟨x, hx, rfl⟩
    · rcases hq with rfl | ⟨y, hy, rfl⟩
      · exact key2
      · exact (key y hy).1
    · rcases hq with rfl | ⟨y, hy, rfl⟩
      · exact (key x hx).2
      · rcases h with h | h <;> omega
theorem dgI_rng (c : UInt8) : dgI c = -1 ∨ ∃ x : Nat, x < 16 ∧ dgI c = x := by
  unfold dgI
  cases h : dgV c with
  | none => exact .inl rfl
  | some n => exact .inr ⟨n, dgV_lt h, rfl⟩
abbrev uxE (s acc : List UInt8) : List D := [.v (.str s), .nils 1, .v (.int .i64 0), accG 1 (u8L acc), .undef]
theorem ux_step (a b : UInt8) (r acc : List UInt8) (hr : r.length ≤ 4000) (ha : acc.length ≤ 4000) (x y : Nat) (hx : dgV a = some x) (hy : dgV b = some y) :
    rndE G [4] octs_Unhex.l0 (uxE (a :: b :: r) acc) [[]] = some (.inl (uxE r (acc ++ [UInt8.ofNat (16 * x + y)]), [[]])) := by
  have I1 := o_digit a
  have I2 := o_digit b
  have e1 : dgI a = x := by unfold dgI; rw [hx]
  have e2 : dgI b = y := by unfold dgI; rw [hy]
  rw [e1] at I1
  rw [e2] at I2
  have hx16 := dgV_lt hx
  have hy16 := dgV_lt hy
  obtain ⟨s1, s2⟩ := sh_or hx16 hy16
  have hn : 16 * x + y < 256 := by omega
  have e3 : ((UInt8.ofNat (16 * x + y)).toNat : Int) = ((16 * x + y : Nat) : Int) := by
    rw [UInt8.toNat_ofNat']; omega
  have hne : ((a :: b :: r : List UInt8) == []) = false := rfl
  have g0 : (a :: b :: r : List UInt8)[0]? = some a := rfl
  have g1 : (a :: b :: r : List UInt8)[1]? = some b := rfl
  have hd : List.drop 2 (List.take (r.length + 2) (a :: b :: r : List UInt8)) = r := by simp
  have hl : (a :: b :: r : List UInt8).length = r.length + 2 := rfl
  have hM := hmax
  cases acc with
  | nil =>
    have eA : accG 1 (u8L []) = .nils 1 := rfl
    have eB : accG 1 (u8L ([] ++ [UInt8.ofNat (16 * x + y)])) = .lin 1 [.int .u8 (UInt8.ofNat (16 * x + y)).toNat] := rfl
    simp only [uxE]
    rw [eA, eB, e3]
    generalize (a :: b :: r : List UInt8) = s at *
    generalize (16 * x + y) = n at *
    generalize ((16 * x : Nat) : Int) = m at *
    simp -implicitDefEqProofs (maxSteps := 2000000) (disch := omega) only [octs_Unhex.l0, hne, g0, g1, hl, I1, I2, s1, s2, hd, hM, List.length_cons, List.length_nil, go_sem, reduceIte, Nat.reduceAdd, Nat.reduceSub, Nat.reduceMul, Nat.reduceLeDiff, Nat.reduceLT, Nat.reduceEqDiff, Int.reduceToNat, Int.reduceLT, Int.reduceLE, Int.reduceEq, Int.reduceNe, Int.reduceAdd, Int.reduceSub, Int.reduceMul, Int.reduceNeg, Int.reduceBEq, Int.reduceBNe, reduceCtorEq, dreduceIte, oWS, oW8, oW16, oW32, oW64, oLtT, oLtF, oLeT, oLeF, oNLtT, oNLtF, oNLeT, oNLeF, oEqT, oEqF, oNEqT, oNEqF, oBeqT, oBeqF, oBneT, oBneF, Int.natCast_add, List.take_length]
  | cons c cs =>
    have eA : accG 1 (u8L (c :: cs)) = .lin 1 (.int .u8 c.toNat :: u8L cs) := rfl
    have eB : accG 1 (u8L ((c :: cs) ++ [UInt8.ofNat (16 * x + y)])) = .lin 1 (.int .u8 c.toNat :: (u8L cs ++ [.int .u8 (UInt8.ofNat (16 * x + y)).toNat])) := by simp [u8L, accG]
    have hcl : (u8L cs).length ≤ 4000 := by rw [u8L_len]; simp at ha; omega
    simp only [uxE]
    rw [eA, eB, e3]
    generalize (a :: b :: r : List UInt8) = s at *
    generalize (16 * x + y) = n at *
    generalize ((16 * x : Nat) : Int) = m at *
    simp -implicitDefEqProofs (maxSteps := 2000000) (disch := omega) only [octs_Unhex.l0, hne, g0, g1, hl, I1, I2, s1, s2, hd, hM, List.length_cons, List.length_nil, go_sem, reduceIte, Nat.reduceAdd, Nat.reduceSub, Nat.reduceMul, Nat.reduceLeDiff, Nat.reduceLT, Nat.reduceEqDiff, Int.reduceToNat, Int.reduceLT, Int.reduceLE, Int.reduceEq, Int.reduceNe, Int.reduceAdd, Int.reduceSub, Int.reduceMul, Int.reduceNeg, Int.reduceBEq, Int.reduceBNe, reduceCtorEq, dreduceIte, oWS, oW8, oW16, oW32, oW64, oLtT, oLtF, oLeT, oLeF, oNLtT, oNLtF, oNLeT, oNLeF, oEqT, oEqF, oNEqT, oNEqF, oBeqT, oBeqF, oBneT, oBneF, Int.natCast_add, List.take_length]
theorem ux_bad (a b : UInt8) (r acc : List UInt8) (h : dgV a = none ∨ dgV b = none) : ∃ x0 x3 : D, ex G (.loop [4] octs_Unhex.l0) (uxE (a :: b :: r) acc) [[]] = some (.ret, [x0, .nils 1, .v (.int .i64 3), x3, .undef], [[]]) := by
  have I1 := o_digit a
  have I2 := o_digit b
  have hm : dgI a = -1 ∨ dgI b = -1 := by
    rcases h with h | h
    · exact .inl (by unfold dgI; rw [h])
    · exact .inr (by unfold dgI; rw [h])
  obtain ⟨u, v, s1, s2, hv⟩ := sh_bad (dgI_rng a) (dgI_rng b) hm
  have hne : ((a :: b :: r : List UInt8) == []) = false := rfl
  have g0 : (a :: b :: r : List UInt8)[0]? = some a := rfl
  have g1 : (a :: b :: r : List UInt8)[1]? = some b := rfl
  have hl : (a :: b :: r : List UInt8).length = r.length + 2 := rfl
  refine ⟨.v (.str (a :: b :: r)), accG 1 (u8L acc), rnd_end ?_⟩
  simp only [uxE]
  generalize (a :: b :: r : List UInt8) = s at *
  generalize dgI a = p at *
  generalize dgI b = q at *
  simp -implicitDefEqProofs (maxSteps := 2000000) (disch := omega) only [octs_Unhex.l0, hne, g0, g1, hl, I1, I2, s1, s2, hv, go_sem, reduceIte, Nat.reduceAdd, Nat.reduceSub, Nat.reduceMul, Nat.reduceLeDiff, Nat.reduceLT, Nat.reduceEqDiff, Int.reduceToNat, Int.reduceLT, Int.reduceLE, Int.reduceEq, Int.reduceNe, Int.reduceAdd, Int.reduceSub, Int.reduceMul, Int.reduceNeg, Int.reduceBEq, Int.reduceBNe, reduceCtorEq, dreduceIte, oWS, oW8, oW16, oW32, oW64, oLtT, oLtF, oLeT, oLeF, oNLtT, oNLtF, oNLeT, oNLeF, oEqT, oEqF, oNEqT, oNEqF, oBeqT, oBeqF, oBneT, oBneF, Int.natCast_add, List.take_length]
theorem ux_loop : ∀ (s acc : List UInt8), s.length % 2 = 0 → s.length ≤ 4000 → acc.length + s.length ≤ 4000 →
    (∀ l, unhR s = some l → ∃ x3 : D, ex G (.loop [4] octs_Unhex.l0) (uxE s acc) [[]] = some (.ret, [.v (.str []), accG 1 (u8L (acc ++ l)), .v (.int .i64 0), x3, .undef], [[]])) ∧
    (unhR s = none → ∃ x0 x3 : D, ex G (.loop [4] octs_Unhex.l0) (uxE s acc) [[]] = some (.ret, [x0, .nils 1, .v (.int .i64 3), x3, .undef], [[]]))
  | [], acc, _, _, _ => by
    refine ⟨fun l h => ?_, fun h => by cases h⟩
    cases h
    have hne : (([] : List UInt8) == []) = true := rfl
    rw [List.append_nil]
    cases acc with
    | nil =>
      have eA : accG 1 (u8L []) = .nils 1 := rfl
      simp only [uxE]
      rw [eA]
      refine ⟨.nils 1, rnd_end ?_⟩
      simp -implicitDefEqProofs (maxSteps := 2000000) (disch := omega) only [octs_Unhex.l0, hne, go_sem, reduceIte, Nat.reduceAdd, Nat.reduceSub, Nat.reduceMul, Nat.reduceLeDiff, Nat.reduceLT, Nat.reduceEqDiff, Int.reduceToNat, Int.reduceLT, Int.reduceLE, Int.reduceEq, Int.reduceNe, Int.reduceAdd, Int.reduceSub, Int.reduceMul, Int.reduceNeg, Int.reduceBEq, Int.reduceBNe, reduceCtorEq, dreduceIte, oWS, oW8, oW16, oW32, oW64, oLtT, oLtF, oLeT, oLeF, oNLtT, oNLtF, oNLeT, oNLeF, oEqT, oEqF, oNEqT, oNEqF, oBeqT, oBeqF, oBneT, oBneF, Int.natCast_add, List.take_length]
    | cons c cs =>
      have eA : accG 1 (u8L (c :: cs)) = .lin 1 (.int .u8 c.toNat :: u8L cs) := rfl
      simp only [uxE]
      rw [eA]
      refine ⟨.v (.slc 1 (.int .u8 c.toNat :: u8L cs)), rnd_end ?_⟩
      simp -implicitDefEqProofs (maxSteps := 2000000) (disch := omega) only [octs_Unhex.l0, hne, go_sem, reduceIte, Nat.reduceAdd, Nat.reduceSub, Nat.reduceMul, Nat.reduceLeDiff, Nat.reduceLT, Nat.reduceEqDiff, Int.reduceToNat, Int.reduceLT, Int.reduceLE, Int.reduceEq, Int.reduceNe, Int.reduceAdd, Int.reduceSub, Int.reduceMul, Int.reduceNeg, Int.reduceBEq, Int.reduceBNe, reduceCtorEq, dreduceIte, oWS, oW8, oW16, oW32, oW64, oLtT, oLtF, oLeT, oLeF, oNLtT, oNLtF, oNLeT, oNLeF, oEqT, oEqF, oNEqT, oNEqF, oBeqT, oBeqF, oBneT, oBneF, Int.natCast_add, List.take_length]
  | [a], acc, h, _, _ => by simp at h
  | a :: b :: r, acc, h, h2, h3 => by
    have hrl : r.length ≤ 4000 := by simp at h2; omega
    have hal : acc.length ≤ 4000 := by simp at h3; omega
    simp only [unhR]
    cases ha : dgV a with
    | none => exact ⟨fun l h => (by cases h), fun _ => ux_bad a b r acc (.inl ha)⟩
    | some x =>
      cases hb : dgV b with
      | none => exact ⟨fun l h => (by cases h), fun _ => ux_bad a b r acc (.inr hb)⟩
      | some y =>
        have ih := ux_loop r (acc ++ [UInt8.ofNat (16 * x + y)]) (by simp at h; omega) hrl (by simp at h3 ⊢; omega)
        rw [rnd_step (ux_step a b r acc hrl hal x y ha hb)]
        simp only
        refine ⟨fun l hl => ?_, fun hl => ih.2 ?_⟩
        · cases hr : unhR r with
          | none => rw [hr] at hl; cases hl
          | some l2 =>
            rw [hr] at hl
            cases hl
            obtain ⟨x3, L⟩ := ih.1 l2 hr
            refine ⟨x3, ?_⟩
            rw [L, List.append_assoc]
            rfl
        · cases hr : unhR r with
          | none => rfl
          | some l2 => rw [hr] at hl; cases hl
theorem tm2 (n : Nat) : (n : Int).tmod 2 = ((n % 2 : Nat) : Int) := rfl
def unhO (o : Option (List UInt8)) : D := match o with
  | none => .tup [.lin 1 [], .v (.int .i64 3)]
  | some l => .tup [.lin 1 (u8L l), .v (.int .i64 0)]
theorem unhR_odd : ∀ s : List UInt8, s.length % 2 = 1 → unhR s = none
  | [], h => by simp at h
  | [_], _ => rfl
  | a :: b :: r, h => by
    have ih := unhR_odd r (by simp at h; omega)
    simp only [unhR]
    split
    · rw [ih]; rfl
    · rfl
theorem o_Unhex (s : List UInt8) (hs : s.length ≤ 4000) : run G 29 [.v (.str s)] [] = some (unhO (unhR s), []) := by
  rw [xq_fn G rfl octs_Unhex.g _ _ rfl]
  by_cases h : s.length % 2 = 0
  · have L := ux_loop s [] h hs (by simpa using hs)
    have hm : ((s.length : Int).tmod 2) = 0 := by rw [tm2, h]; rfl
    have eA : accG 1 (u8L []) = .nils 1 := rfl
    cases hu : unhR s with
    | none =>
      obtain ⟨x0, x3, L⟩ := L.2 hu
      simp only [uxE, eA, z0, Int.cast_ofNat_Int, List.take_zero, List.map_nil, List.drop_zero, accN, b8_nil, Int.sub_zero, Int.add_zero, Int.zero_add, Nat.zero_add, Nat.sub_zero, List.nil_append, List.append_nil] at L
      simp only [unhO]
      simp -implicitDefEqProofs (maxSteps := 2000000) (disch := omega) only [octs_Unhex.s, hm, L, go_sem, reduceIte, Nat.reduceAdd, Nat.reduceSub, Nat.reduceMul, Nat.reduceLeDiff, Nat.reduceLT, Nat.reduceEqDiff, Int.reduceToNat, Int.reduceLT, Int.reduceLE, Int.reduceEq, Int.reduceNe, Int.reduceAdd, Int.reduceSub, Int.reduceMul, Int.reduceNeg, Int.reduceBEq, Int.reduceBNe, reduceCtorEq, dreduceIte, oWS, oW8, oW16, oW32, oW64, oLtT, oLtF, oLeT, oLeF, oNLtT, oNLtF, oNLeT, oNLeF, oEqT, oEqF, oNEqT, oNEqF, oBeqT, oBeqF, oBneT, oBneF, Int.natCast_add, List.take_length]
    | some l =>
      obtain ⟨x3, L⟩ := L.1 l hu
      rw [List.nil_append] at L
      simp only [uxE, eA, z0, Int.cast_ofNat_Int, List.take_zero, List.map_nil, List.drop_zero, accN, b8_nil, Int.sub_zero, Int.add_zero, Int.zero_add, Nat.zero_add, Nat.sub_zero, List.nil_append, List.append_nil] at L
      simp only [unhO]
      simp -implicitDefEqProofs (maxSteps := 2000000) (disch := omega) only [octs_Unhex.s, hm, L, go_sem, reduceIte, Nat.reduceAdd, Nat.reduceSub, Nat.reduceMul, Nat.reduceLeDiff, Nat.reduceLT, Nat.reduceEqDiff, Int.reduceToNat, Int.reduceLT, Int.reduceLE, Int.reduceEq, Int.reduceNe, Int.reduceAdd, Int.reduceSub, Int.reduceMul, Int.reduceNeg, Int.reduceBEq, Int.reduceBNe, reduceCtorEq, dreduceIte, oWS, oW8, oW16, oW32, oW64, oLtT, oLtF, oLeT, oLeF, oNLtT, oNLtF, oNLeT, oNLeF, oEqT, oEqF, oNEqT, oNEqF, oBeqT, oBeqF, oBneT, oBneF, Int.natCast_add, List.take_length]
  · have hm : ((s.length : Int).tmod 2) = 1 := by rw [tm2, show s.length % 2 = 1 by omega]; rfl
    rw [unhR_odd s (by omega)]
    simp only [unhO]
    simp -implicitDefEqProofs (maxSteps := 2000000) (disch := omega) only [octs_Unhex.s, hm, go_sem, reduceIte, Nat.reduceAdd, Nat.reduceSub, Nat.reduceMul, Nat.reduceLeDiff, Nat.reduceLT, Nat.reduceEqDiff, Int.reduceToNat, Int.reduceLT, Int.reduceLE, Int.reduceEq, Int.reduceNe, Int.reduceAdd, Int.reduceSub, Int.reduceMul, Int.reduceNeg, Int.reduceBEq, Int.reduceBNe, reduceCtorEq, dreduceIte, oWS, oW8, oW16, oW32, oW64, oLtT, oLtF, oLeT, oLeF, oNLtT, oNLtF, oNLeT, oNLeF, oEqT, oEqF, oNEqT, oNEqF, oBeqT, oBeqF, oBneT, oBneF, Int.natCast_add, List.take_length]
abbrev vxE (s acc : List UInt8) (i : Nat) : List D := [.v (.str s), .nils 1, .v (.int .i64 0), accG 1 (u8L acc), .v (.int .i64 i), .undef, .undef]
theorem vx_step (s : List UInt8) (hs : s.length ≤ 4000) (i : Nat) (hi : i + 1 < s.length) (a b : UInt8) (g0 : s[i]? = some a) (g1 : s[i + 1]? = some b) (acc : List UInt8) (ha : acc.length ≤ 4000) (x y : Nat) (hx : dgV a = some x) (hy : dgV b = some y) :
    rndE G [5, 6] euphroeref01_Unhex.l0 (vxE s acc i) [[]] = some (.inl (vxE s (acc ++ [UInt8.ofNat (16 * x + y)]) (i + 2), [[]])) := by
  have I1 := r_Digit a
  have I2 := r_Digit b
  have e1 : dgU a = x := by unfold dgU; rw [hx]
  have e2 : dgU b = y := by unfold dgU; rw [hy]
  rw [e1] at I1
  rw [e2] at I2
  have hx16 := dgV_lt hx
  have hy16 := dgV_lt hy
  have hn : 16 * x + y < 256 := by omega
  have e3 : ((UInt8.ofNat (16 * x + y)).toNat : Int) = 16 * (x : Int) + y := by
    rw [UInt8.toNat_ofNat']; omega
  have t1 : ((i : Int) + 1).toNat = i + 1 := by omega
  have hM := hmax
  cases acc with
  | nil =>
    have eA : accG 1 (u8L []) = .nils 1 := rfl
    have eB : accG 1 (u8L ([] ++ [UInt8.ofNat (16 * x + y)])) = .lin 1 [.int .u8 (UInt8.ofNat (16 * x + y)).toNat] := rfl
    simp only [vxE]
    rw [eA, eB, e3]
    simp -implicitDefEqProofs (maxSteps := 2000000) (disch := omega) only [euphroeref01_Unhex.l0, g0, g1, t1, I1, I2, hM, List.length_cons, List.length_nil, go_sem, reduceIte, Nat.reduceAdd, Nat.reduceSub, Nat.reduceMul, Nat.reduceLeDiff, Nat.reduceLT, Nat.reduceEqDiff, Int.reduceToNat, Int.reduceLT, Int.reduceLE, Int.reduceEq, Int.reduceNe, Int.reduceAdd, Int.reduceSub, Int.reduceMul, Int.reduceNeg, Int.reduceBEq, Int.reduceBNe, reduceCtorEq, dreduceIte, oWS, oW8, oW16, oW32, oW64, oLtT, oLtF, oLeT, oLeF, oNLtT, oNLtF, oNLeT, oNLeF, oEqT, oEqF, oNEqT, oNEqF, oBeqT, oBeqF, oBneT, oBneF, Int.natCast_add, List.take_length]
  | cons c cs =>
    have eA : accG 1 (u8L (c :: cs)) = .lin 1 (.int .u8 c.toNat :: u8L cs) := rfl
    have eB : accG 1 (u8L ((c :: cs) ++ [UInt8.ofNat (16 * x + y)])) = .lin 1 (.int .u8 c.toNat :: (u8L cs ++ [.int .u8 (UInt8.ofNat (16 * x + y)).toNat])) := by simp [u8L, accG]
    have hcl : (u8L cs).length ≤ 4000 := by rw [u8L_len]; simp at ha; omega
    simp only [vxE]
    rw [eA, eB, e3]
    simp -implicitDefEqProofs (maxSteps := 2000000) (disch := omega) only [euphroeref01_Unhex.l0, g0, g1, t1, I1, I2, hM, List.length_cons, List.length_nil, go_sem, reduceIte, Nat.reduceAdd, Nat.reduceSub, Nat.reduceMul, Nat.reduceLeDiff, Nat.reduceLT, Nat.reduceEqDiff, Int.reduceToNat, Int.reduceLT, Int.reduceLE, Int.reduceEq, Int.reduceNe, Int.reduceAdd, Int.reduceSub, Int.reduceMul, Int.reduceNeg, Int.reduceBEq, Int.reduceBNe, reduceCtorEq, dreduceIte, oWS, oW8, oW16, oW32, oW64, oLtT, oLtF, oLeT, oLeF, oNLtT, oNLtF, oNLeT, oNLeF, oEqT, oEqF, oNEqT, oNEqF, oBeqT, oBeqF, oBneT, oBneF, Int.natCast_add, List.take_length]
theorem vx_bad (s : List UInt8) (hs : s.length ≤ 4000) (i : Nat) (hi : i + 1 < s.length) (a b : UInt8) (g0 : s[i]? = some a) (g1 : s[i + 1]? = some b) (acc : List UInt8) (h : dgV a = none ∨ dgV b = none) :
    ∃ x3 x4 : D, ex G (.loop [5, 6] euphroeref01_Unhex.l0) (vxE s acc i) [[]] = some (.ret, [.v (.str s), .nils 1, .v (.int .i64 3), x3, x4, .undef, .undef], [[]]) := by
  have I1 := r_Digit a
  have I2 := r_Digit b
  have t1 : ((i : Int) + 1).toNat = i + 1 := by omega
  refine ⟨accG 1 (u8L acc), .v (.int .i64 i), rnd_end ?_⟩
  simp only [vxE]
  cases ha : dgV a with
  | none =>
    have e1 : dgU a = 16 := by unfold dgU; rw [ha]
    rw [e1] at I1
    simp -implicitDefEqProofs (maxSteps := 2000000) (disch := omega) only [euphroeref01_Unhex.l0, g0, g1, t1, I1, I2, go_sem, reduceIte, Nat.reduceAdd, Nat.reduceSub, Nat.reduceMul, Nat.reduceLeDiff, Nat.reduceLT, Nat.reduceEqDiff, Int.reduceToNat, Int.reduceLT, Int.reduceLE, Int.reduceEq, Int.reduceNe, Int.reduceAdd, Int.reduceSub, Int.reduceMul, Int.reduceNeg, Int.reduceBEq, Int.reduceBNe, reduceCtorEq, dreduceIte, oWS, oW8, oW16, oW32, oW64, oLtT, oLtF, oLeT, oLeF, oNLtT, oNLtF, oNLeT, oNLeF, oEqT, oEqF, oNEqT, oNEqF, oBeqT, oBeqF, oBneT, oBneF, Int.natCast_add, List.take_length]
  | some x =>
    have e1 : dgU a = x := by unfold dgU; rw [ha]
    rw [e1] at I1
    have hx16 := dgV_lt ha
    have hb : dgV b = none := by
      rcases h with h | h
      · rw [ha] at h; cases h
      · exact h
    have e2 : dgU b = 16 := by unfold dgU; rw [hb]
    rw [e2] at I2
    simp -implicitDefEqProofs (maxSteps := 2000000) (disch := omega) only [euphroeref01_Unhex.l0, g0, g1, t1, I1, I2, go_sem, reduceIte, Nat.reduceAdd, Nat.reduceSub, Nat.reduceMul, Nat.reduceLeDiff, Nat.reduceLT, Nat.reduceEqDiff, Int.reduceToNat, Int.reduceLT, Int.reduceLE, Int.reduceEq, Int.reduceNe, Int.reduceAdd, Int.reduceSub, Int.reduceMul, Int.reduceNeg, Int.reduceBEq, Int.reduceBNe, reduceCtorEq, dreduceIte, oWS, oW8, oW16, oW32, oW64, oLtT, oLtF, oLeT, oLeF, oNLtT, oNLtF, oNLeT, oNLeF, oEqT, oEqF, oNEqT, oNEqF, oBeqT, oBeqF, oBneT, oBneF, Int.natCast_add, List.take_length]
theorem vx_loop (s : List UInt8) (hs : s.length ≤ 4000) : ∀ (r pre acc : List UInt8), s = pre ++ r → r.length % 2 = 0 → acc.length + r.length ≤ 4000 →
    (∀ l, unhR r = some l → ex G (.loop [5, 6] euphroeref01_Unhex.l0) (vxE s acc pre.length) [[]] = some (.exit 0, vxE s (acc ++ l) s.length, [[]])) ∧
    (unhR r = none → ∃ x3 x4 : D, ex G (.loop [5, 6] euphroeref01_Unhex.l0) (vxE s acc pre.length) [[]] = some (.ret, [.v (.str s), .nils 1, .v (.int .i64 3), x3, x4, .undef, .undef], [[]]))
  | [], pre, acc, e, _, _ => by
    refine ⟨fun l h => ?_, fun h => by cases h⟩
    cases h
    have e1 : pre.length = s.length := by rw [e]; simp
    rw [e1, List.append_nil]
    refine rnd_end ?_
    simp -implicitDefEqProofs (maxSteps := 2000000) (disch := omega) only [euphroeref01_Unhex.l0, vxE, go_sem, reduceIte, Nat.reduceAdd, Nat.reduceSub, Nat.reduceMul, Nat.reduceLeDiff, Nat.reduceLT, Nat.reduceEqDiff, Int.reduceToNat, Int.reduceLT, Int.reduceLE, Int.reduceEq, Int.reduceNe, Int.reduceAdd, Int.reduceSub, Int.reduceMul, Int.reduceNeg, Int.reduceBEq, Int.reduceBNe, reduceCtorEq, dreduceIte, oWS, oW8, oW16, oW32, oW64, oLtT, oLtF, oLeT, oLeF, oNLtT, oNLtF, oNLeT, oNLeF, oEqT, oEqF, oNEqT, oNEqF, oBeqT, oBeqF, oBneT, oBneF, Int.natCast_add, List.take_length]
  | [a], pre, acc, e, h, _ => by simp at h
  | a :: b :: r, pre, acc, e, h, h3 => by
    have hi : pre.length + 1 < s.length := by rw [e]; simp
    have g0 : s[pre.length]? = some a := by rw [e]; simp
    have g1 : s[pre.length + 1]? = some b := by rw [e]; simp
    have hal : acc.length ≤ 4000 := by simp at h3; omega
    have hl' : (pre ++ [a, b]).length = pre.length + 2 := by simp
    simp only [unhR]
    cases ha : dgV a with
    | none => exact ⟨fun l h => (by cases h), fun _ => vx_bad s hs _ hi a b g0 g1 acc (.inl ha)⟩
    | some x =>
      cases hb : dgV b with
      | none => exact ⟨fun l h => (by cases h), fun _ => vx_bad s hs _ hi a b g0 g1 acc (.inr hb)⟩
      | some y =>
        have ih := vx_loop s hs r (pre ++ [a, b]) (acc ++ [UInt8.ofNat (16 * x + y)]) (by rw [e]; simp) (by simp at h; omega) (by simp at h3 ⊢; omega)
        rw [hl'] at ih
        rw [rnd_step (vx_step s hs _ hi a b g0 g1 acc hal x y ha hb)]
        simp only
        refine ⟨fun l hl => ?_, fun hl => ih.2 ?_⟩
        · cases hr : unhR r with
          | none => rw [hr] at hl; cases hl
          | some l2 =>
            rw [hr] at hl
            cases hl
            rw [ih.1 l2 hr, List.append_assoc]
            rfl
        · cases hr : unhR r with
          | none => rfl
          | some l2 => rw [hr] at hl; cases hl
theorem r_Unhex (s : List UInt8) (hs : s.length ≤ 4000) : run G 44 [.v (.str s)] [] = some (unhO (unhR s), []) := by
  rw [xq_fn G rfl euphroeref01_Unhex.g _ _ rfl]
  by_cases h : s.length % 2 = 0
  · have L := vx_loop s hs s [] [] rfl h (by simpa using hs)
    have hm : ((s.length : Int).tmod 2) = 0 := by rw [tm2, h]; rfl
    have eA : accG 1 (u8L []) = .nils 1 := rfl
    cases hu : unhR s with
    | none =>
      obtain ⟨x3, x4, L⟩ := L.2 hu
      simp only [vxE, eA, List.length_nil, z0, Int.cast_ofNat_Int, List.take_zero, List.map_nil, List.drop_zero, accN, b8_nil, Int.sub_zero, Int.add_zero, Int.zero_add, Nat.zero_add, Nat.sub_zero, List.nil_append, List.append_nil] at L
      simp only [unhO]
      simp -implicitDefEqProofs (maxSteps := 2000000) (disch := omega) only [euphroeref01_Unhex.s, hm, L, go_sem, reduceIte, Nat.reduceAdd, Nat.reduceSub, Nat.reduceMul, Nat.reduceLeDiff, Nat.reduceLT, Nat.reduceEqDiff, Int.reduceToNat, Int.reduceLT, Int.reduceLE, Int.reduceEq, Int.reduceNe, Int.reduceAdd, Int.reduceSub, Int.reduceMul, Int.reduceNeg, Int.reduceBEq, Int.reduceBNe, reduceCtorEq, dreduceIte, oWS, oW8, oW16, oW32, oW64, oLtT, oLtF, oLeT, oLeF, oNLtT, oNLtF, oNLeT, oNLeF, oEqT, oEqF, oNEqT, oNEqF, oBeqT, oBeqF, oBneT, oBneF, Int.natCast_add, List.take_length]
    | some l =>
      have L := L.1 l hu
      rw [List.nil_append] at L
      simp only [vxE, eA, List.length_nil, z0, Int.cast_ofNat_Int, List.take_zero, List.map_nil, List.drop_zero, accN, b8_nil, Int.sub_zero, Int.add_zero, Int.zero_add, Nat.zero_add, Nat.sub_zero, List.nil_append, List.append_nil] at L
      simp only [unhO]
      simp -implicitDefEqProofs (maxSteps := 2000000) (disch := omega) only [euphroeref01_Unhex.s, hm, L, go_sem, reduceIte, Nat.reduceAdd, Nat.reduceSub, Nat.reduceMul, Nat.reduceLeDiff, Nat.reduceLT, Nat.reduceEqDiff, Int.reduceToNat, Int.reduceLT, Int.reduceLE, Int.reduceEq, Int.reduceNe, Int.reduceAdd, Int.reduceSub, Int.reduceMul, Int.reduceNeg, Int.reduceBEq, Int.reduceBNe, reduceCtorEq, dreduceIte, oWS, oW8, oW16, oW32, oW64, oLtT, oLtF, oLeT, oLeF, oNLtT, oNLtF, oNLeT, oNLeF, oEqT, oEqF, oNEqT, oNEqF, oBeqT, oBeqF, oBneT, oBneF, Int.natCast_add, List.take_length]
  · have hm : ((s.length : Int).tmod 2) = 1 := by rw [tm2, show s.length % 2 = 1 by omega]; rfl
    rw [unhR_odd s (by omega)]
    simp only [unhO]
    simp -implicitDefEqProofs (maxSteps := 2000000) (disch := omega) only [euphroeref01_Unhex.s, hm, go_sem, reduceIte, Nat.reduceAdd, Nat.reduceSub, Nat.reduceMul, Nat.reduceLeDiff, Nat.reduceLT, Nat.reduceEqDiff, Int.reduceToNat, Int.reduceLT, Int.reduceLE, Int.reduceEq, Int.reduceNe, Int.reduceAdd, Int.reduceSub, Int.reduceMul, Int.reduceNeg, Int.reduceBEq, Int.reduceBNe, reduceCtorEq, dreduceIte, oWS, oW8, oW16, oW32, oW64, oLtT, oLtF, oLeT, oLeF, oNLtT, oNLtF, oNLeT, oNLeF, oEqT, oEqF, oNEqT, oNEqF, oBeqT, oBeqF, oBneT, oBneF, Int.natCast_add, List.take_length]
end Go.Q
