/- Requests: what httpq.Parse computes. No condition. -/
import Derived.Test.YtdcknpkednpckaaGreatDoorHn
set_option linter.all false
set_option maxRecDepth 100000
namespace Go.Q
open SOp SCode
attribute [local congr] bind_c map_c
abbrev metL : List UInt8 := [83, 83, 84, 80, 95, 68, 85, 80, 76, 69, 88, 95, 80, 79, 83, 84]
abbrev pthL : List UInt8 := [47, 115, 114, 97, 95, 123, 66, 65, 49, 57, 53, 57, 56, 48, 45, 67, 68, 52, 57, 45, 52, 53, 56, 98, 45, 57, 69, 50, 51, 45, 67, 56, 52, 69, 69, 48, 65, 68, 67, 68, 55, 53, 125, 47]
abbrev vrsL : List UInt8 := [72, 84, 84, 80, 47, 49, 46, 49]
abbrev hstN : List UInt8 := [72, 111, 115, 116]
abbrev lenN : List UInt8 := [67, 111, 110, 116, 101, 110, 116, 45, 76, 101, 110, 103, 116, 104]
abbrev corN : List UInt8 := [83, 83, 84, 80, 67, 79, 82, 82, 69, 76, 65, 84, 73, 79, 78, 73, 68]
abbrev lngL : List UInt8 := [49, 56, 52, 52, 54, 55, 52, 52, 48, 55, 51, 55, 48, 57, 53, 53, 49, 54, 49, 53]
theorem ql_len (l : List (List UInt8)) : l.length ≤ (flt l).length := by
  induction l with
  | nil => exact Nat.le_refl _
  | cons x l ih => simp only [flt, List.length_append, List.length_cons]; omega
theorem ql_item : ∀ (l : List (List UInt8)) (x : List UInt8), x ∈ l → x.length ≤ (flt l).length
  | [], x, h => by cases h
  | y :: l, x, h => by
    simp only [flt, List.length_append, List.length_cons]
    rcases List.mem_cons.1 h with rfl | h
    · omega
    · have := ql_item l x h; omega
theorem trimP_len (s : List UInt8) : (trimP s).length ≤ s.length := by
  unfold trimP
  have h1 := dropWhile_le blB (trimRB blL s)
  have h2 : (trimRB blL s).length ≤ s.length := by
    show ((s.reverse.dropWhile blB).reverse).length ≤ s.length
    rw [List.length_reverse]
    have := dropWhile_le blB s.reverse
    rw [List.length_reverse] at this
    exact this
  omega
theorem fldR_lens (k : Nat) : ∀ (ls : List (List UInt8)) (l : List Fld), fldR ls = some l → (∀ x ∈ ls, x.length ≤ k) → l.length = ls.length ∧ ∀ p ∈ l, p.1.length ≤ k ∧ p.2.length ≤ k
  | [], l, h, _ => by cases h; exact ⟨rfl, by simp⟩
  | s :: r, l, h, hs => by
    simp only [fldR] at h
    cases hc : cut1 58 s with
    | none => rw [hc] at h; cases h
    | some q =>
      obtain ⟨n, v⟩ := q
      rw [hc] at h
      simp only at h
      cases ht : tokS n with
      | false => rw [ht] at h; simp at h
      | true =>
        rw [ht, if_pos rfl] at h
        cases h2 : fldR r with
        | none => rw [h2] at h; cases h
        | some l2 =>
          rw [h2] at h
          cases h
          obtain ⟨i1, i2⟩ := fldR_lens k r l2 h2 (fun x hx => hs x (by simp [hx]))
          refine ⟨by simp [i1], fun p hp => ?_⟩
          rcases List.mem_cons.1 hp with rfl | hp
          · have h0 := (cut1_some hc).1
            have h1 := hs s (by simp)
            have h3 := trimP_len v
            have h4 : s.length = n.length + (v.length + 1) := by rw [h0]; simp
            exact ⟨by show n.length ≤ k; omega, by show (trimP v).length ≤ k; omega⟩
          · exact i2 p hp
theorem fieldsR_lens (k : Nat) (ls : List (List UInt8)) (hs : ∀ x ∈ ls, x.length ≤ k) : (fieldsR ls).1.length ≤ 32 ∧ ∀ p ∈ (fieldsR ls).1, p.1.length ≤ k ∧ p.2.length ≤ k := by
  unfold fieldsR
  split
  · exact ⟨Nat.zero_le _, by simp⟩
  · cases h : fldR ls with
    | none => exact ⟨Nat.zero_le _, by simp⟩
    | some l =>
      obtain ⟨i1, i2⟩ := fldR_lens k ls l h hs
      exact ⟨by show l.length ≤ 32; omega, i2⟩
theorem findR_len (nm : List UInt8) (l : List Fld) (k : Nat) (hl : ∀ p ∈ l, p.2.length ≤ k) : (findR nm l).1.length ≤ k := by
  have key : ∀ (l : List Fld) (q : Option (List UInt8)), (∀ p ∈ l, p.2.length ≤ k) → (∀ u, q = some u → u.length ≤ k) → ∀ u, fdS nm l q = some (some u) → u.length ≤ k := by
    intro l
    induction l with
    | nil => intro q _ hq u h; simp only [fdS, Option.some.injEq] at h; exact hq u h
    | cons p r ih =>
      intro q hp hq u h
      simp only [fdS] at h
      split at h
      · cases q with
        | none => exact ih (some p.2) (fun x hx => hp x (by simp [hx])) (fun u hu => by cases hu; exact hp p (by simp)) u h
        | some v => cases h
      · exact ih q (fun x hx => hp x (by simp [hx])) hq u h
  unfold findR
  cases h : fdS nm l none with
  | none => exact Nat.zero_le _
  | some q => cases q with
    | none => exact Nat.zero_le _
    | some v => exact key l none hl (fun u hu => by cases hu) v h
theorem findR_err (nm : List UInt8) (l : List Fld) : (findR nm l).2 = 0 ∨ (findR nm l).2 = 6 ∨ (findR nm l).2 = 7 := by
  unfold findR
  cases fdS nm l none with
  | none => exact .inr (.inr rfl)
  | some q => cases q with
    | none => exact .inr (.inl rfl)
    | some v => exact .inl rfl
def linQ (s : List UInt8) : List UInt8 × Int := match splitC 32 s with
  | [a, b, c] => if a = [] ∨ b = [] ∨ c = [] then ([], 3) else if a = metL then (if c = vrsL then (b, 0) else ([], 15)) else ([], 9)
  | _ => ([], 3)
abbrev liO (q : List UInt8 × Int) : D := .tup [.v (.str q.1), .v (.int .i64 q.2)]
theorem h_line (s : List UInt8) (h : s.length ≤ 100000) : run G 13 [.v (.str s)] [] = some (liO (linQ s), []) := by
  have I := p_split 32 s h
  have hl2 := splitC_len2 32 s
  unfold linQ
  rw [xq_fn G rfl httpq_line.g _ _ rfl]
  by_cases h3 : (splitC 32 s).length = 3
  · obtain ⟨a, b, c, e⟩ : ∃ a b c, splitC 32 s = [a, b, c] := by
      match splitC 32 s, h3 with
      | [a, b, c], _ => exact ⟨a, b, c, rfl⟩
    rw [e] at I ⊢
    simp only
    have e2 : sL [a, b, c] = [.str a, .str b, .str c] := rfl
    rw [e2] at I
    by_cases ha : a = []
    · rw [if_pos (.inl ha)]
      have qa : (a == []) = true := by simpa using ha
      simp -implicitDefEqProofs (maxSteps := 2000000) (disch := omega) only [httpq_line.s, I, qa, List.length_cons, List.length_nil, go_sem, reduceIte, Nat.reduceAdd, Nat.reduceSub, Nat.reduceMul, Nat.reduceLeDiff, Nat.reduceLT, Nat.reduceEqDiff, Int.reduceToNat, Int.reduceLT, Int.reduceLE, Int.reduceEq, Int.reduceNe, Int.reduceAdd, Int.reduceSub, Int.reduceMul, Int.reduceNeg, Int.reduceBEq, Int.reduceBNe, reduceCtorEq, dreduceIte, oWS, oW8, oW16, oW32, oW64, oLtT, oLtF, oLeT, oLeF, oNLtT, oNLtF, oNLeT, oNLeF, oEqT, oEqF, oNEqT, oNEqF, oBeqT, oBeqF, oBneT, oBneF, Int.natCast_add, List.take_length]
    · have qa : (a == []) = false := by simpa using ha
      by_cases hb : b = []
      · rw [if_pos (.inr (.inl hb))]
        have qb : (b == []) = true := by simpa using hb
        simp -implicitDefEqProofs (maxSteps := 2000000) (disch := omega) only [httpq_line.s, I, qa, qb, List.length_cons, List.length_nil, go_sem, reduceIte, Nat.reduceAdd, Nat.reduceSub, Nat.reduceMul, Nat.reduceLeDiff, Nat.reduceLT, Nat.reduceEqDiff, Int.reduceToNat, Int.reduceLT, Int.reduceLE, Int.reduceEq, Int.reduceNe, Int.reduceAdd, Int.reduceSub, Int.reduceMul, Int.reduceNeg, Int.reduceBEq, Int.reduceBNe, reduceCtorEq, dreduceIte, oWS, oW8, oW16, oW32, oW64, oLtT, oLtF, oLeT, oLeF, oNLtT, oNLtF, oNLeT, oNLeF, oEqT, oEqF, oNEqT, oNEqF, oBeqT, oBeqF, oBneT, oBneF, Int.natCast_add, List.take_length]
      · have qb : (b == []) = false := by simpa using hb
        by_cases hc : c = []
        · rw [if_pos (.inr (.inr hc))]
          have qc : (c == []) = true := by simpa using hc
          simp -implicitDefEqProofs (maxSteps := 2000000) (disch := omega) only [httpq_line.s, I, qa, qb, qc, List.length_cons, List.length_nil, go_sem, reduceIte, Nat.reduceAdd, Nat.reduceSub, Nat.reduceMul, Nat.reduceLeDiff, Nat.reduceLT, Nat.reduceEqDiff, Int.reduceToNat, Int.reduceLT, Int.reduceLE, Int.reduceEq, Int.reduceNe, Int.reduceAdd, Int.reduceSub, Int.reduceMul, Int.reduceNeg, Int.reduceBEq, Int.reduceBNe, reduceCtorEq, dreduceIte, oWS, oW8, oW16, oW32, oW64, oLtT, oLtF, oLeT, oLeF, oNLtT, oNLtF, oNLeT, oNLeF, oEqT, oEqF, oNEqT, oNEqF, oBeqT, oBeqF, oBneT, oBneF, Int.natCast_add, List.take_length]
        · have qc : (c == []) = false := by simpa using hc
          rw [if_neg (fun h => by rcases h with h | h | h; exact ha h; exact hb h; exact hc h)]
          by_cases hm : a = metL
          · rw [if_pos hm]
            have qm : (a == metL) = true := by simpa using hm
            by_cases hv : c = vrsL
            · rw [if_pos hv]
              have qv : (c == vrsL) = true := by simpa using hv
              simp only [metL, vrsL] at qm qv
              simp -implicitDefEqProofs (maxSteps := 2000000) (disch := omega) only [httpq_line.s, I, qa, qb, qc, qm, qv, List.length_cons, List.length_nil, go_sem, reduceIte, Nat.reduceAdd, Nat.reduceSub, Nat.reduceMul, Nat.reduceLeDiff, Nat.reduceLT, Nat.reduceEqDiff, Int.reduceToNat, Int.reduceLT, Int.reduceLE, Int.reduceEq, Int.reduceNe, Int.reduceAdd, Int.reduceSub, Int.reduceMul, Int.reduceNeg, Int.reduceBEq, Int.reduceBNe, reduceCtorEq, dreduceIte, oWS, oW8, oW16, oW32, oW64, oLtT, oLtF, oLeT, oLeF, oNLtT, oNLtF, oNLeT, oNLeF, oEqT, oEqF, oNEqT, oNEqF, oBeqT, oBeqF, oBneT, oBneF, Int.natCast_add, List.take_length]
            · rw [if_neg hv]
              have qv : (c == vrsL) = false := by simpa using hv
              simp only [metL, vrsL] at qm qv
              simp -implicitDefEqProofs (maxSteps := 2000000) (disch := omega) only [httpq_line.s, I, qa, qb, qc, qm, qv, List.length_cons, List.length_nil, go_sem, reduceIte, Nat.reduceAdd, Nat.reduceSub, Nat.reduceMul, Nat.reduceLeDiff, Nat.reduceLT, Nat.reduceEqDiff, Int.reduceToNat, Int.reduceLT, Int.reduceLE, Int.reduceEq, Int.reduceNe, Int.reduceAdd, Int.reduceSub, Int.reduceMul, Int.reduceNeg, Int.reduceBEq, Int.reduceBNe, reduceCtorEq, dreduceIte, oWS, oW8, oW16, oW32, oW64, oLtT, oLtF, oLeT, oLeF, oNLtT, oNLtF, oNLeT, oNLeF, oEqT, oEqF, oNEqT, oNEqF, oBeqT, oBeqF, oBneT, oBneF, Int.natCast_add, List.take_length]
          · rw [if_neg hm]
            have qm : (a == metL) = false := by simpa using hm
            simp only [metL] at qm
            simp -implicitDefEqProofs (maxSteps := 2000000) (disch := omega) only [httpq_line.s, I, qa, qb, qc, qm, List.length_cons, List.length_nil, go_sem, reduceIte, Nat.reduceAdd, Nat.reduceSub, Nat.reduceMul, Nat.reduceLeDiff, Nat.reduceLT, Nat.reduceEqDiff, Int.reduceToNat, Int.reduceLT, Int.reduceLE, Int.reduceEq, Int.reduceNe, Int.reduceAdd, Int.reduceSub, Int.reduceMul, Int.reduceNeg, Int.reduceBEq, Int.reduceBNe, reduceCtorEq, dreduceIte, oWS, oW8, oW16, oW32, oW64, oLtT, oLtF, oLeT, oLeF, oNLtT, oNLtF, oNLeT, oNLeF, oEqT, oEqF, oNEqT, oNEqF, oBeqT, oBeqF, oBneT, oBneF, Int.natCast_add, List.take_length]
  · have e : (match splitC 32 s with
        | [a, b, c] => if a = [] ∨ b = [] ∨ c = [] then (([] : List UInt8), (3 : Int)) else if a = metL then (if c = vrsL then (b, 0) else ([], 15)) else ([], 9)
        | _ => ([], 3)) = ([], 3) := by
      generalize splitC 32 s = l at *
      match l, h3 with
      | [], _ => rfl
      | [_], _ => rfl
      | [_, _], _ => rfl
      | [_, _, _], h => exact absurd rfl h
      | _ :: _ :: _ :: _ :: _, _ => rfl
    rw [e]
    have h3' : ¬ ((splitC 32 s).length : Int) = 3 := by omega
    have hsl := sL_len (splitC 32 s)
    generalize splitC 32 s = l at *
    simp -implicitDefEqProofs (maxSteps := 2000000) (disch := omega) only [httpq_line.s, I, hsl, h3', go_sem, reduceIte, Nat.reduceAdd, Nat.reduceSub, Nat.reduceMul, Nat.reduceLeDiff, Nat.reduceLT, Nat.reduceEqDiff, Int.reduceToNat, Int.reduceLT, Int.reduceLE, Int.reduceEq, Int.reduceNe, Int.reduceAdd, Int.reduceSub, Int.reduceMul, Int.reduceNeg, Int.reduceBEq, Int.reduceBNe, reduceCtorEq, dreduceIte, oWS, oW8, oW16, oW32, oW64, oLtT, oLtF, oLeT, oLeF, oNLtT, oNLtF, oNLeT, oNLeF, oEqT, oEqF, oNEqT, oNEqF, oBeqT, oBeqF, oBneT, oBneF, Int.natCast_add, List.take_length]
theorem h_isHost1 (st : St) (s : List UInt8) (h : s.length ≤ 100000) : run G 22 [.v (.str s)] st = some (.v (.bool (hostR s)), st) := by
  have step : ∀ i (hi : i < s.length), hostB s[i] = true → rndE G [4] httpq_isHost.l0 [.v (.str s), .v (.bool false), .v (.int .i64 s.length), .v (.int .i64 i), .undef] ([] :: st) = some (.inl ([.v (.str s), .v (.bool false), .v (.int .i64 s.length), .v (.int .i64 ((i + 1 : Nat) : Int)), .undef], ([] :: st))) := by
    intro i hi hb
    have hx := List.getElem?_eq_getElem hi
    have hb : 33 ≤ (s[i]).toNat ∧ (s[i]).toNat ≤ 126 := by simpa [hostB] using hb
    generalize s[i] = c at *
    simp -implicitDefEqProofs (maxSteps := 2000000) (disch := omega) only [httpq_isHost.l0, hx, go_sem, reduceIte, Nat.reduceAdd, Nat.reduceSub, Nat.reduceMul, Nat.reduceLeDiff, Nat.reduceLT, Nat.reduceEqDiff, Int.reduceToNat, Int.reduceLT, Int.reduceLE, Int.reduceEq, Int.reduceNe, Int.reduceAdd, Int.reduceSub, Int.reduceMul, Int.reduceNeg, Int.reduceBEq, Int.reduceBNe, reduceCtorEq, dreduceIte, oWS, oW8, oW16, oW32, oW64, oLtT, oLtF, oLeT, oLeF, oNLtT, oNLtF, oNLeT, oNLeF, oEqT, oEqF, oNEqT, oNEqF, oBeqT, oBeqF, oBneT, oBneF, Int.natCast_add, List.take_length]
  unfold hostR
  rw [xq_fn G rfl httpq_isHost.g _ _ rfl]
  rcases all_first hostB s with ⟨e, k⟩ | ⟨e, j, hj, hb, k⟩
  · have L := lpFor (G := G) (kill := [4]) (body := httpq_isHost.l0) (fun i => [.v (.str s), .v (.bool false), .v (.int .i64 s.length), .v (.int .i64 i), .undef]) (fun i => ([] :: st)) s.length (fun i hi => step i hi (k i hi)) (by simp -implicitDefEqProofs (maxSteps := 2000000) (disch := omega) only [httpq_isHost.l0, go_sem, reduceIte, Nat.reduceAdd, Nat.reduceSub, Nat.reduceMul, Nat.reduceLeDiff, Nat.reduceLT, Nat.reduceEqDiff, Int.reduceToNat, Int.reduceLT, Int.reduceLE, Int.reduceEq, Int.reduceNe, Int.reduceAdd, Int.reduceSub, Int.reduceMul, Int.reduceNeg, Int.reduceBEq, Int.reduceBNe, reduceCtorEq, dreduceIte, oWS, oW8, oW16, oW32, oW64, oLtT, oLtF, oLeT, oLeF, oNLtT, oNLtF, oNLeT, oNLeF, oEqT, oEqF, oNEqT, oNEqF, oBeqT, oBeqF, oBneT, oBneF, Int.natCast_add, List.take_length]; rfl)
    simp only [z0, Int.cast_ofNat_Int, List.take_zero, List.map_nil, List.drop_zero, accN, b8_nil, Int.sub_zero, Int.add_zero, Int.zero_add, Nat.zero_add, Nat.sub_zero, List.nil_append, List.append_nil] at L
    rw [e, Bool.true_and]
    by_cases h1 : 1 ≤ s.length
    · have hne : (s == []) = false := by cases s with
        | nil => simp at h1
        | cons a s => rfl
      by_cases h2 : s.length ≤ 255
      · rw [decide_eq_true ⟨h1, h2⟩]
        simp -implicitDefEqProofs (maxSteps := 2000000) (disch := omega) only [httpq_isHost.s, L, hne, go_sem, reduceIte, Nat.reduceAdd, Nat.reduceSub, Nat.reduceMul, Nat.reduceLeDiff, Nat.reduceLT, Nat.reduceEqDiff, Int.reduceToNat, Int.reduceLT, Int.reduceLE, Int.reduceEq, Int.reduceNe, Int.reduceAdd, Int.reduceSub, Int.reduceMul, Int.reduceNeg, Int.reduceBEq, Int.reduceBNe, reduceCtorEq, dreduceIte, oWS, oW8, oW16, oW32, oW64, oLtT, oLtF, oLeT, oLeF, oNLtT, oNLtF, oNLeT, oNLeF, oEqT, oEqF, oNEqT, oNEqF, oBeqT, oBeqF, oBneT, oBneF, Int.natCast_add, List.take_length]
      · rw [decide_eq_false (fun h => h2 h.2)]
        simp -implicitDefEqProofs (maxSteps := 2000000) (disch := omega) only [httpq_isHost.s, L, hne, go_sem, reduceIte, Nat.reduceAdd, Nat.reduceSub, Nat.reduceMul, Nat.reduceLeDiff, Nat.reduceLT, Nat.reduceEqDiff, Int.reduceToNat, Int.reduceLT, Int.reduceLE, Int.reduceEq, Int.reduceNe, Int.reduceAdd, Int.reduceSub, Int.reduceMul, Int.reduceNeg, Int.reduceBEq, Int.reduceBNe, reduceCtorEq, dreduceIte, oWS, oW8, oW16, oW32, oW64, oLtT, oLtF, oLeT, oLeF, oNLtT, oNLtF, oNLeT, oNLeF, oEqT, oEqF, oNEqT, oNEqF, oBeqT, oBeqF, oBneT, oBneF, Int.natCast_add, List.take_length]
    · have hne : (s == []) = true := by cases s with
        | nil => rfl
        | cons a s => simp at h1
      rw [decide_eq_false (fun h => h1 h.1)]
      simp -implicitDefEqProofs (maxSteps := 2000000) (disch := omega) only [httpq_isHost.s, L, hne, go_sem, reduceIte, Nat.reduceAdd, Nat.reduceSub, Nat.reduceMul, Nat.reduceLeDiff, Nat.reduceLT, Nat.reduceEqDiff, Int.reduceToNat, Int.reduceLT, Int.reduceLE, Int.reduceEq, Int.reduceNe, Int.reduceAdd, Int.reduceSub, Int.reduceMul, Int.reduceNeg, Int.reduceBEq, Int.reduceBNe, reduceCtorEq, dreduceIte, oWS, oW8, oW16, oW32, oW64, oLtT, oLtF, oLeT, oLeF, oNLtT, oNLtF, oNLeT, oNLeF, oEqT, oEqF, oNEqT, oNEqF, oBeqT, oBeqF, oBneT, oBneF, Int.natCast_add, List.take_length]
  · have hx := List.getElem?_eq_getElem hj
    have hb : ¬ (33 ≤ (s[j]).toNat ∧ (s[j]).toNat ≤ 126) := by simpa [hostB] using hb
    have L := lpFor (G := G) (kill := [4]) (body := httpq_isHost.l0) (o := (.ret, [.v (.str s), .v (.bool false), .v (.int .i64 s.length), .v (.int .i64 j), .undef], ([] :: st))) (fun i => [.v (.str s), .v (.bool false), .v (.int .i64 s.length), .v (.int .i64 i), .undef]) (fun i => ([] :: st)) j (fun i hi => step i (by omega) (k i (by omega) hi)) (by
      generalize s[j] = c at *
      by_cases h1 : (c.toNat : Int) < 33
      · simp -implicitDefEqProofs (maxSteps := 2000000) (disch := omega) only [httpq_isHost.l0, hx, h1, go_sem, reduceIte, Nat.reduceAdd, Nat.reduceSub, Nat.reduceMul, Nat.reduceLeDiff, Nat.reduceLT, Nat.reduceEqDiff, Int.reduceToNat, Int.reduceLT, Int.reduceLE, Int.reduceEq, Int.reduceNe, Int.reduceAdd, Int.reduceSub, Int.reduceMul, Int.reduceNeg, Int.reduceBEq, Int.reduceBNe, reduceCtorEq, dreduceIte, oWS, oW8, oW16, oW32, oW64, oLtT, oLtF, oLeT, oLeF, oNLtT, oNLtF, oNLeT, oNLeF, oEqT, oEqF, oNEqT, oNEqF, oBeqT, oBeqF, oBneT, oBneF, Int.natCast_add, List.take_length]
      · have h2 : (126 : Int) < c.toNat := by omega
        simp -implicitDefEqProofs (maxSteps := 2000000) (disch := omega) only [httpq_isHost.l0, hx, h1, h2, go_sem, reduceIte, Nat.reduceAdd, Nat.reduceSub, Nat.reduceMul, Nat.reduceLeDiff, Nat.reduceLT, Nat.reduceEqDiff, Int.reduceToNat, Int.reduceLT, Int.reduceLE, Int.reduceEq, Int.reduceNe, Int.reduceAdd, Int.reduceSub, Int.reduceMul, Int.reduceNeg, Int.reduceBEq, Int.reduceBNe, reduceCtorEq, dreduceIte, oWS, oW8, oW16, oW32, oW64, oLtT, oLtF, oLeT, oLeF, oNLtT, oNLtF, oNLeT, oNLeF, oEqT, oEqF, oNEqT, oNEqF, oBeqT, oBeqF, oBneT, oBneF, Int.natCast_add, List.take_length])
    simp only [z0, Int.cast_ofNat_Int, List.take_zero, List.map_nil, List.drop_zero, accN, b8_nil, Int.sub_zero, Int.add_zero, Int.zero_add, Nat.zero_add, Nat.sub_zero, List.nil_append, List.append_nil] at L
    rw [e, Bool.false_and]
    simp -implicitDefEqProofs (maxSteps := 2000000) (disch := omega) only [httpq_isHost.s, L, go_sem, reduceIte, Nat.reduceAdd, Nat.reduceSub, Nat.reduceMul, Nat.reduceLeDiff, Nat.reduceLT, Nat.reduceEqDiff, Int.reduceToNat, Int.reduceLT, Int.reduceLE, Int.reduceEq, Int.reduceNe, Int.reduceAdd, Int.reduceSub, Int.reduceMul, Int.reduceNeg, Int.reduceBEq, Int.reduceBNe, reduceCtorEq, dreduceIte, oWS, oW8, oW16, oW32, oW64, oLtT, oLtF, oLeT, oLeF, oNLtT, oNLtF, oNLeT, oNLeF, oEqT, oEqF, oNEqT, oNEqF, oBeqT, oBeqF, oBneT, oBneF, Int.natCast_add, List.take_length]
def oneR (nm : List UInt8) (may : List UInt8 → Bool) (l : List Fld) : List UInt8 × Int := if (findR nm l).2 = 0 ∧ may (findR nm l).1 = false then ([], 3) else findR nm l
theorem h_one (st : St) (fc : Nat) (may : List UInt8 → Bool) (nm : List UInt8) (hn : nm.length ≤ 100000) (l : List Fld) (hl : l.length ≤ 32) (hp : ∀ p ∈ l, p.1.length ≤ 3000 ∧ p.2.length ≤ 3000) (I : ∀ v : List UInt8, v.length ≤ 3000 → run G fc [.v (.str v)] ([] :: st) = some (.v (.bool (may v)), [] :: st)) :
    run G 38 [.v (.slc 2 (fL l)), .v (.str nm), .v (.fn fc)] st = some (fdO (oneR nm may l), st) := by
  have I1 := w_Find nm hn l (by omega) (fun p h => by have := (hp p h).1; omega)
  have I2 := I (findR nm l).1 (findR_len nm l 3000 (fun p h => (hp p h).2))
  unfold oneR
  rw [xq_fn G rfl httpq_one.g _ _ rfl]
  by_cases he : (findR nm l).2 = 0
  · cases hm : may (findR nm l).1 with
    | false =>
      rw [if_pos ⟨he, rfl⟩]
      rw [hm] at I2
      simp only [fdO] at I1
      rw [he] at I1
      generalize (findR nm l).1 = v at *
      simp -implicitDefEqProofs (maxSteps := 2000000) (disch := omega) only [httpq_one.s, I1, I2, go_sem, reduceIte, Nat.reduceAdd, Nat.reduceSub, Nat.reduceMul, Nat.reduceLeDiff, Nat.reduceLT, Nat.reduceEqDiff, Int.reduceToNat, Int.reduceLT, Int.reduceLE, Int.reduceEq, Int.reduceNe, Int.reduceAdd, Int.reduceSub, Int.reduceMul, Int.reduceNeg, Int.reduceBEq, Int.reduceBNe, reduceCtorEq, dreduceIte, oWS, oW8, oW16, oW32, oW64, oLtT, oLtF, oLeT, oLeF, oNLtT, oNLtF, oNLeT, oNLeF, oEqT, oEqF, oNEqT, oNEqF, oBeqT, oBeqF, oBneT, oBneF, Int.natCast_add, List.take_length]
    | true =>
      rw [if_neg (fun h => by exact absurd h.2 (by simp))]
      rw [hm] at I2
      have e : findR nm l = ((findR nm l).1, 0) := by rw [← he]
      rw [e]
      simp only [fdO] at I1
      rw [he] at I1
      generalize (findR nm l).1 = v at *
      simp -implicitDefEqProofs (maxSteps := 2000000) (disch := omega) only [httpq_one.s, I1, I2, go_sem, reduceIte, Nat.reduceAdd, Nat.reduceSub, Nat.reduceMul, Nat.reduceLeDiff, Nat.reduceLT, Nat.reduceEqDiff, Int.reduceToNat, Int.reduceLT, Int.reduceLE, Int.reduceEq, Int.reduceNe, Int.reduceAdd, Int.reduceSub, Int.reduceMul, Int.reduceNeg, Int.reduceBEq, Int.reduceBNe, reduceCtorEq, dreduceIte, oWS, oW8, oW16, oW32, oW64, oLtT, oLtF, oLeT, oLeF, oNLtT, oNLtF, oNLeT, oNLeF, oEqT, oEqF, oNEqT, oNEqF, oBeqT, oBeqF, oBneT, oBneF, Int.natCast_add, List.take_length]
  · rw [if_neg (fun h => he h.1)]
    generalize findR nm l = q at *
    obtain ⟨v, e⟩ := q
    simp only [fdO] at I1 he ⊢
    simp -implicitDefEqProofs (maxSteps := 2000000) (disch := omega) only [httpq_one.s, I1, he, go_sem, reduceIte, Nat.reduceAdd, Nat.reduceSub, Nat.reduceMul, Nat.reduceLeDiff, Nat.reduceLT, Nat.reduceEqDiff, Int.reduceToNat, Int.reduceLT, Int.reduceLE, Int.reduceEq, Int.reduceNe, Int.reduceAdd, Int.reduceSub, Int.reduceMul, Int.reduceNeg, Int.reduceBEq, Int.reduceBNe, reduceCtorEq, dreduceIte, oWS, oW8, oW16, oW32, oW64, oLtT, oLtF, oLeT, oLeF, oNLtT, oNLtF, oNLeT, oNLeF, oEqT, oEqF, oNEqT, oNEqF, oBeqT, oBeqF, oBneT, oBneF, Int.natCast_add, List.take_length]
def lngB (s : List UInt8) : Bool := s == lngL
def corB (s : List UInt8) : Bool := !s.isEmpty && (idR s).isSome
theorem h_f1 (st : St) (s : List UInt8) : run G 39 [.v (.str s)] st = some (.v (.bool (lngB s)), st) := by
  rw [xq_fn G rfl httpq_fields_1.g _ _ rfl]
  simp only [lngB, lngL]
  simp -implicitDefEqProofs (maxSteps := 2000000) (disch := omega) only [httpq_fields_1.s, go_sem, reduceIte, Nat.reduceAdd, Nat.reduceSub, Nat.reduceMul, Nat.reduceLeDiff, Nat.reduceLT, Nat.reduceEqDiff, Int.reduceToNat, Int.reduceLT, Int.reduceLE, Int.reduceEq, Int.reduceNe, Int.reduceAdd, Int.reduceSub, Int.reduceMul, Int.reduceNeg, Int.reduceBEq, Int.reduceBNe, reduceCtorEq, dreduceIte, oWS, oW8, oW16, oW32, oW64, oLtT, oLtF, oLeT, oLeF, oNLtT, oNLtF, oNLeT, oNLeF, oEqT, oEqF, oNEqT, oNEqF, oBeqT, oBeqF, oBneT, oBneF, Int.natCast_add, List.take_length]
theorem h_f2 (st : St) (s : List UInt8) (h : s.length ≤ 4000) : run G 40 [.v (.str s)] st = some (.v (.bool (corB s)), st) := by
  have I := h_isID s h
  unfold corB
  unfold isIdR at I
  rw [xq_fn G rfl httpq_fields_2.g _ _ rfl]
  cases s with
  | nil =>
    have hq : (([] : List UInt8) == []) = true := rfl
    simp only [List.isEmpty_nil, Bool.not_true, Bool.false_and]
    simp -implicitDefEqProofs (maxSteps := 2000000) (disch := omega) only [httpq_fields_2.s, hq, go_sem, reduceIte, Nat.reduceAdd, Nat.reduceSub, Nat.reduceMul, Nat.reduceLeDiff, Nat.reduceLT, Nat.reduceEqDiff, Int.reduceToNat, Int.reduceLT, Int.reduceLE, Int.reduceEq, Int.reduceNe, Int.reduceAdd, Int.reduceSub, Int.reduceMul, Int.reduceNeg, Int.reduceBEq, Int.reduceBNe, reduceCtorEq, dreduceIte, oWS, oW8, oW16, oW32, oW64, oLtT, oLtF, oLeT, oLeF, oNLtT, oNLtF, oNLeT, oNLeF, oEqT, oEqF, oNEqT, oNEqF, oBeqT, oBeqF, oBneT, oBneF, Int.natCast_add, List.take_length]
  | cons a r =>
    have hq : ((a :: r : List UInt8) == []) = false := rfl
    simp only [List.isEmpty_cons, Bool.false_or, Bool.not_false, Bool.true_and] at I ⊢
    generalize (a :: r) = t at *
    simp -implicitDefEqProofs (maxSteps := 2000000) (disch := omega) only [httpq_fields_2.s, hq, I, go_sem, reduceIte, Nat.reduceAdd, Nat.reduceSub, Nat.reduceMul, Nat.reduceLeDiff, Nat.reduceLT, Nat.reduceEqDiff, Int.reduceToNat, Int.reduceLT, Int.reduceLE, Int.reduceEq, Int.reduceNe, Int.reduceAdd, Int.reduceSub, Int.reduceMul, Int.reduceNeg, Int.reduceBEq, Int.reduceBNe, reduceCtorEq, dreduceIte, oWS, oW8, oW16, oW32, oW64, oLtT, oLtF, oLeT, oLeF, oNLtT, oNLtF, oNLeT, oNLeF, oEqT, oEqF, oNEqT, oNEqF, oBeqT, oBeqF, oBneT, oBneF, Int.natCast_add, List.take_length]
def fieldsQ (l : List Fld) : (List UInt8 × List UInt8) × Int :=
  if (oneR hstN hostR l).2 = 0 then (if (oneR lenN lngB l).2 = 0 then (if (oneR corN corB l).2 = 0 ∨ (oneR corN corB l).2 = 6 then (((oneR hstN hostR l).1, (oneR corN corB l).1), 0) else (([], []), (oneR corN corB l).2)) else (([], []), (oneR lenN lngB l).2)) else (([], []), (oneR hstN hostR l).2)
abbrev rqO (q : (List UInt8 × List UInt8) × Int) : D := .tup [.v (.agg [.str q.1.1, .str q.1.2]), .v (.int .i64 q.2)]
theorem h_fields (l : List Fld) (hl : l.length ≤ 32) (hp : ∀ p ∈ l, p.1.length ≤ 3000 ∧ p.2.length ≤ 3000) : run G 15 [.v (.slc 2 (fL l))] [] = some (rqO (fieldsQ l), []) := by
  have I1 := h_one [[Blk.row [D.v (V.agg [V.str [], V.str []])]]] 22 hostR hstN (by decide) l hl hp (fun v hv => h_isHost1 _ v (by omega))
  have I2 := h_one [[Blk.row [D.v (V.agg [V.str [], V.str []])]]] 39 lngB lenN (by decide) l hl hp (fun v hv => h_f1 _ v)
  have I3 := h_one [[Blk.row [D.v (V.agg [V.str [], V.str []])]]] 40 corB corN (by decide) l hl hp (fun v hv => h_f2 _ v (by omega))
  unfold fieldsQ
  generalize oneR hstN hostR l = h at *
  generalize oneR lenN lngB l = c at *
  generalize oneR corN corB l = x at *
  obtain ⟨hv, he⟩ := h
  obtain ⟨cv, ce⟩ := c
  obtain ⟨xv, xe⟩ := x
  simp only [fdO] at I1 I2 I3
  simp only
  rw [xq_fn G rfl httpq_fields.g _ _ rfl]
  by_cases h1 : he = 0
  · subst h1
    rw [if_pos rfl]
    by_cases h2 : ce = 0
    · subst h2
      rw [if_pos rfl]
      by_cases h3 : xe = 0
      · subst h3
        rw [if_pos (.inl rfl)]
        simp -implicitDefEqProofs (maxSteps := 2000000) (disch := omega) only [httpq_fields.s, I1, I2, I3, go_sem, reduceIte, Nat.reduceAdd, Nat.reduceSub, Nat.reduceMul, Nat.reduceLeDiff, Nat.reduceLT, Nat.reduceEqDiff, Int.reduceToNat, Int.reduceLT, Int.reduceLE, Int.reduceEq, Int.reduceNe, Int.reduceAdd, Int.reduceSub, Int.reduceMul, Int.reduceNeg, Int.reduceBEq, Int.reduceBNe, reduceCtorEq, dreduceIte, oWS, oW8, oW16, oW32, oW64, oLtT, oLtF, oLeT, oLeF, oNLtT, oNLtF, oNLeT, oNLeF, oEqT, oEqF, oNEqT, oNEqF, oBeqT, oBeqF, oBneT, oBneF, Int.natCast_add, List.take_length]
      · by_cases h4 : xe = 6
        · subst h4
          rw [if_pos (.inr rfl)]
          simp -implicitDefEqProofs (maxSteps := 2000000) (disch := omega) only [httpq_fields.s, I1, I2, I3, go_sem, reduceIte, Nat.reduceAdd, Nat.reduceSub, Nat.reduceMul, Nat.reduceLeDiff, Nat.reduceLT, Nat.reduceEqDiff, Int.reduceToNat, Int.reduceLT, Int.reduceLE, Int.reduceEq, Int.reduceNe, Int.reduceAdd, Int.reduceSub, Int.reduceMul, Int.reduceNeg, Int.reduceBEq, Int.reduceBNe, reduceCtorEq, dreduceIte, oWS, oW8, oW16, oW32, oW64, oLtT, oLtF, oLeT, oLeF, oNLtT, oNLtF, oNLeT, oNLeF, oEqT, oEqF, oNEqT, oNEqF, oBeqT, oBeqF, oBneT, oBneF, Int.natCast_add, List.take_length]
        · rw [if_neg (fun h => h.elim h3 h4)]
          simp -implicitDefEqProofs (maxSteps := 2000000) (disch := omega) only [httpq_fields.s, I1, I2, I3, h3, h4, go_sem, reduceIte, Nat.reduceAdd, Nat.reduceSub, Nat.reduceMul, Nat.reduceLeDiff, Nat.reduceLT, Nat.reduceEqDiff, Int.reduceToNat, Int.reduceLT, Int.reduceLE, Int.reduceEq, Int.reduceNe, Int.reduceAdd, Int.reduceSub, Int.reduceMul, Int.reduceNeg, Int.reduceBEq, Int.reduceBNe, reduceCtorEq, dreduceIte, oWS, oW8, oW16, oW32, oW64, oLtT, oLtF, oLeT, oLeF, oNLtT, oNLtF, oNLeT, oNLeF, oEqT, oEqF, oNEqT, oNEqF, oBeqT, oBeqF, oBneT, oBneF, Int.natCast_add, List.take_length]
    · rw [if_neg h2]
      simp -implicitDefEqProofs (maxSteps := 2000000) (disch := omega) only [httpq_fields.s, I1, I2, h2, go_sem, reduceIte, Nat.reduceAdd, Nat.reduceSub, Nat.reduceMul, Nat.reduceLeDiff, Nat.reduceLT, Nat.reduceEqDiff, Int.reduceToNat, Int.reduceLT, Int.reduceLE, Int.reduceEq, Int.reduceNe, Int.reduceAdd, Int.reduceSub, Int.reduceMul, Int.reduceNeg, Int.reduceBEq, Int.reduceBNe, reduceCtorEq, dreduceIte, oWS, oW8, oW16, oW32, oW64, oLtT, oLtF, oLeT, oLeF, oNLtT, oNLtF, oNLeT, oNLeF, oEqT, oEqF, oNEqT, oNEqF, oBeqT, oBeqF, oBneT, oBneF, Int.natCast_add, List.take_length]
  · rw [if_neg h1]
    simp -implicitDefEqProofs (maxSteps := 2000000) (disch := omega) only [httpq_fields.s, I1, h1, go_sem, reduceIte, Nat.reduceAdd, Nat.reduceSub, Nat.reduceMul, Nat.reduceLeDiff, Nat.reduceLT, Nat.reduceEqDiff, Int.reduceToNat, Int.reduceLT, Int.reduceLE, Int.reduceEq, Int.reduceNe, Int.reduceAdd, Int.reduceSub, Int.reduceMul, Int.reduceNeg, Int.reduceBEq, Int.reduceBNe, reduceCtorEq, dreduceIte, oWS, oW8, oW16, oW32, oW64, oLtT, oLtF, oLeT, oLeF, oNLtT, oNLtF, oNLeT, oNLeF, oEqT, oEqF, oNEqT, oNEqF, oBeqT, oBeqF, oBneT, oBneF, Int.natCast_add, List.take_length]
def parseQ2 (n : Int) : List (List UInt8) → (List UInt8 × List UInt8) × Int × Int
  | [] => (([], []), 0, 3)
  | s :: r => if (linQ s).2 = 0 then (if (fieldsR r).2 = 0 then (if (linQ s).1 = pthL then (if (fieldsQ (fieldsR r).1).2 = 0 then ((fieldsQ (fieldsR r).1).1, n, 0) else (([], []), 0, (fieldsQ (fieldsR r).1).2)) else (([], []), 0, 6)) else (([], []), 0, (fieldsR r).2)) else (([], []), 0, (linQ s).2)
def parseQ (b : List UInt8) : (List UInt8 × List UInt8) × Int × Int := if (hdR b).2.2 = 0 then parseQ2 (hdR b).2.1 (hdR b).1 else (([], []), 0, (hdR b).2.2)
abbrev pqO (q : (List UInt8 × List UInt8) × Int × Int) : D := .tup [.v (.agg [.str q.1.1, .str q.1.2]), .v (.int .i64 q.2.1), .v (.int .i64 q.2.2)]
theorem h_Parse (b : List UInt8) (h : b.length ≤ 100000) : run G 5 [.v (.slc 1 (u8L b))] [] = some (pqO (parseQ b), []) := by
  have I1 := w_Head b h
  rw [progR_eq] at I1
  unfold parseQ
  rw [xq_fn G rfl httpq_Parse.g _ _ rfl]
  rcases hdR_cases b with ⟨ls, n, rest, hr, g, hn, h1, h2, e⟩ | ⟨e, hr, he⟩
  · rw [hr] at I1 ⊢
    simp only [if_true]
    cases ls with
    | nil =>
      have e1 : clW (sL []) = .lin 1 [] := rfl
      simp only [hdO, e1] at I1
      simp only [parseQ2]
      simp -implicitDefEqProofs (maxSteps := 2000000) (disch := omega) only [httpq_Parse.s, I1, List.length_nil, go_sem, reduceIte, Nat.reduceAdd, Nat.reduceSub, Nat.reduceMul, Nat.reduceLeDiff, Nat.reduceLT, Nat.reduceEqDiff, Int.reduceToNat, Int.reduceLT, Int.reduceLE, Int.reduceEq, Int.reduceNe, Int.reduceAdd, Int.reduceSub, Int.reduceMul, Int.reduceNeg, Int.reduceBEq, Int.reduceBNe, reduceCtorEq, dreduceIte, oWS, oW8, oW16, oW32, oW64, oLtT, oLtF, oLeT, oLeF, oNLtT, oNLtF, oNLeT, oNLeF, oEqT, oEqF, oNEqT, oNEqF, oBeqT, oBeqF, oBneT, oBneF, Int.natCast_add, List.take_length]
    | cons s r =>
      have e1 : clW (sL (s :: r)) = .v (.slc 1 (.str s :: sL r)) := rfl
      simp only [hdO, e1] at I1
      have hfl := ql_len (s :: r)
      have hit := ql_item (s :: r)
      have hsl : s.length ≤ 3000 := by have := hit s (by simp); omega
      have I2 := h_line s (by omega)
      have hrl : r.length ≤ 100000 := by simp at hfl; omega
      have hri : ∀ x ∈ r, x.length ≤ 3000 := fun x hx => by have := hit x (by simp [hx]); omega
      have I3 := w_Fields r hrl (fun x hx => by have := hri x hx; omega)
      obtain ⟨k1, k2⟩ := fieldsR_lens 3000 r hri
      have I4 := h_fields (fieldsR r).1 k1 k2
      have hd : List.take r.length (sL r) = sL r := by rw [← sL_len r, List.take_length]
      have hsr := sL_len r
      simp only [parseQ2]
      generalize fieldsQ (fieldsR r).1 = fq at *
      generalize fieldsR r = fr at *
      generalize linQ s = li at *
      obtain ⟨p, e1⟩ := li
      obtain ⟨fl, e2⟩ := fr
      obtain ⟨⟨v1, v2⟩, e3⟩ := fq
      simp only [liO, flO, rqO] at I2 I3 I4
      simp only
      by_cases c1 : e1 = 0
      · subst c1
        rw [if_pos rfl]
        by_cases c2 : e2 = 0
        · subst c2
          rw [if_pos rfl]
          by_cases c3 : p = pthL
          · rw [if_pos c3]
            have hq : (p == pthL) = true := by simpa using c3
            simp only [pthL] at hq
            by_cases c4 : e3 = 0
            · subst c4
              rw [if_pos rfl]
              simp -implicitDefEqProofs (maxSteps := 2000000) (disch := omega) only [httpq_Parse.s, I1, I2, I3, I4, hq, hd, hsr, List.length_cons, go_sem, reduceIte, Nat.reduceAdd, Nat.reduceSub, Nat.reduceMul, Nat.reduceLeDiff, Nat.reduceLT, Nat.reduceEqDiff, Int.reduceToNat, Int.reduceLT, Int.reduceLE, Int.reduceEq, Int.reduceNe, Int.reduceAdd, Int.reduceSub, Int.reduceMul, Int.reduceNeg, Int.reduceBEq, Int.reduceBNe, reduceCtorEq, dreduceIte, oWS, oW8, oW16, oW32, oW64, oLtT, oLtF, oLeT, oLeF, oNLtT, oNLtF, oNLeT, oNLeF, oEqT, oEqF, oNEqT, oNEqF, oBeqT, oBeqF, oBneT, oBneF, Int.natCast_add, List.take_length]
            · rw [if_neg c4]
              simp -implicitDefEqProofs (maxSteps := 2000000) (disch := omega) only [httpq_Parse.s, I1, I2, I3, I4, hq, c4, hd, hsr, List.length_cons, go_sem, reduceIte, Nat.reduceAdd, Nat.reduceSub, Nat.reduceMul, Nat.reduceLeDiff, Nat.reduceLT, Nat.reduceEqDiff, Int.reduceToNat, Int.reduceLT, Int.reduceLE, Int.reduceEq, Int.reduceNe, Int.reduceAdd, Int.reduceSub, Int.reduceMul, Int.reduceNeg, Int.reduceBEq, Int.reduceBNe, reduceCtorEq, dreduceIte, oWS, oW8, oW16, oW32, oW64, oLtT, oLtF, oLeT, oLeF, oNLtT, oNLtF, oNLeT, oNLeF, oEqT, oEqF, oNEqT, oNEqF, oBeqT, oBeqF, oBneT, oBneF, Int.natCast_add, List.take_length]
          · rw [if_neg c3]
            have hq : (p == pthL) = false := by simpa using c3
            simp only [pthL] at hq
            simp -implicitDefEqProofs (maxSteps := 2000000) (disch := omega) only [httpq_Parse.s, I1, I2, I3, I4, hq, hd, hsr, List.length_cons, go_sem, reduceIte, Nat.reduceAdd, Nat.reduceSub, Nat.reduceMul, Nat.reduceLeDiff, Nat.reduceLT, Nat.reduceEqDiff, Int.reduceToNat, Int.reduceLT, Int.reduceLE, Int.reduceEq, Int.reduceNe, Int.reduceAdd, Int.reduceSub, Int.reduceMul, Int.reduceNeg, Int.reduceBEq, Int.reduceBNe, reduceCtorEq, dreduceIte, oWS, oW8, oW16, oW32, oW64, oLtT, oLtF, oLeT, oLeF, oNLtT, oNLtF, oNLeT, oNLeF, oEqT, oEqF, oNEqT, oNEqF, oBeqT, oBeqF, oBneT, oBneF, Int.natCast_add, List.take_length]
        · rw [if_neg c2]
          simp -implicitDefEqProofs (maxSteps := 2000000) (disch := omega) only [httpq_Parse.s, I1, I2, I3, c2, hd, hsr, List.length_cons, go_sem, reduceIte, Nat.reduceAdd, Nat.reduceSub, Nat.reduceMul, Nat.reduceLeDiff, Nat.reduceLT, Nat.reduceEqDiff, Int.reduceToNat, Int.reduceLT, Int.reduceLE, Int.reduceEq, Int.reduceNe, Int.reduceAdd, Int.reduceSub, Int.reduceMul, Int.reduceNeg, Int.reduceBEq, Int.reduceBNe, reduceCtorEq, dreduceIte, oWS, oW8, oW16, oW32, oW64, oLtT, oLtF, oLeT, oLeF, oNLtT, oNLtF, oNLeT, oNLeF, oEqT, oEqF, oNEqT, oNEqF, oBeqT, oBeqF, oBneT, oBneF, Int.natCast_add, List.take_length]
      · rw [if_neg c1]
        simp -implicitDefEqProofs (maxSteps := 2000000) (disch := omega) only [httpq_Parse.s, I1, I2, c1, hd, hsr, List.length_cons, go_sem, reduceIte, Nat.reduceAdd, Nat.reduceSub, Nat.reduceMul, Nat.reduceLeDiff, Nat.reduceLT, Nat.reduceEqDiff, Int.reduceToNat, Int.reduceLT, Int.reduceLE, Int.reduceEq, Int.reduceNe, Int.reduceAdd, Int.reduceSub, Int.reduceMul, Int.reduceNeg, Int.reduceBEq, Int.reduceBNe, reduceCtorEq, dreduceIte, oWS, oW8, oW16, oW32, oW64, oLtT, oLtF, oLeT, oLeF, oNLtT, oNLtF, oNLeT, oNLeF, oEqT, oEqF, oNEqT, oNEqF, oBeqT, oBeqF, oBneT, oBneF, Int.natCast_add, List.take_length]
  · rw [hr] at I1 ⊢
    have e1 : clW (sL []) = .lin 1 [] := rfl
    simp only [hdO, e1] at I1
    have hne : ¬ e = 0 := by omega
    simp only
    rw [if_neg hne]
    simp -implicitDefEqProofs (maxSteps := 2000000) (disch := omega) only [httpq_Parse.s, I1, hne, go_sem, reduceIte, Nat.reduceAdd, Nat.reduceSub, Nat.reduceMul, Nat.reduceLeDiff, Nat.reduceLT, Nat.reduceEqDiff, Int.reduceToNat, Int.reduceLT, Int.reduceLE, Int.reduceEq, Int.reduceNe, Int.reduceAdd, Int.reduceSub, Int.reduceMul, Int.reduceNeg, Int.reduceBEq, Int.reduceBNe, reduceCtorEq, dreduceIte, oWS, oW8, oW16, oW32, oW64, oLtT, oLtF, oLeT, oLeF, oNLtT, oNLtF, oNLeT, oNLeF, oEqT, oEqF, oNEqT, oNEqF, oBeqT, oBeqF, oBneT, oBneF, Int.natCast_add, List.take_length]
end Go.Q
