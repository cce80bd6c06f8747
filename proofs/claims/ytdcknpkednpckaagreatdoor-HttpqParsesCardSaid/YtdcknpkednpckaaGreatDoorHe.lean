/- A head of lines: what the reference's Head computes. No condition. -/
import Derived.Test.YtdcknpkednpckaaGreatDoorHd
set_option linter.all false
set_option maxRecDepth 100000
namespace Go.Q
open SOp SCode
attribute [local congr] bind_c map_c
abbrev rhE (b line : List UInt8) (ls : List (List UInt8)) (i : Nat) : List D := [.v (.slc 1 (u8L b)), .nils 1, .v (.int .i64 0), .v (.int .i64 0), accG 1 (sL ls), .v (.str line), .v (.int .i64 i), .undef]
def rhK (b : List UInt8) (o : Option Out) : HdR → Prop
  | .fin => ∃ x4 x5 x6 x7 : D, o = some (.exit 0, [.v (.slc 1 (u8L b)), .nils 1, .v (.int .i64 0), .v (.int .i64 0), x4, x5, x6, x7], [[]])
  | .form => ∃ x4 x5 x6 x7 : D, o = some (.ret, [.v (.slc 1 (u8L b)), .nils 1, .v (.int .i64 0), .v (.int .i64 3), x4, x5, x6, x7], [[]])
  | .done ls n => ∃ x4 x5 x6 x7 : D, o = some (.ret, [.v (.slc 1 (u8L b)), accG 1 (sL ls), .v (.int .i64 n), .v (.int .i64 0), x4, x5, x6, x7], [[]])
theorem rhK_step {b : List UInt8} {E E' : List D} {k : HdR} (hs : rndE G [7] euphroeref14_Head.l0 E [[]] = some (.inl (E', [[]]))) (h : rhK b (ex G (.loop [7] euphroeref14_Head.l0) E' [[]]) k) : rhK b (ex G (.loop [7] euphroeref14_Head.l0) E [[]]) k := by
  rw [rnd_step hs]; exact h
theorem getT_take {b : List UInt8} {i : Nat} {c : UInt8} (hx : b[i]? = some c) : bytesOf (List.drop i (List.take (i + 1) (u8L b))) = some [c] := by
  obtain ⟨hi, e⟩ := List.getElem?_eq_some_iff.1 hx
  have : List.drop i (List.take (i + 1) (u8L b)) = u8L [c] := by
    rw [take_succ (by rw [u8L_len]; exact hi), List.drop_append_of_le_length (by simp [u8L_len]; omega)]
    have h1 : List.drop i (List.take i (u8L b)) = [] := List.drop_eq_nil_of_le (by rw [List.length_take]; omega)
    rw [h1]
    simp [u8L, e]
  rw [this, bytesOf_u8L]
theorem u8_cases (c : UInt8) : (txB c = true ∧ ((32 ≤ (c.toNat : Int) ∧ (c.toNat : Int) ≤ 126) ∨ (c.toNat : Int) = 9)) ∨ (txB c = false ∧ ((c.toNat : Int) < 32 ∨ 126 < (c.toNat : Int)) ∧ ¬ (c.toNat : Int) = 9) := by
  rw [txB_eq]
  by_cases h1 : (c.toNat : Int) = 9
  · exact .inl ⟨by rw [decide_eq_true h1]; rfl, .inr h1⟩
  · by_cases h2 : 32 ≤ (c.toNat : Int) ∧ (c.toNat : Int) ≤ 126
    · exact .inl ⟨by rw [decide_eq_true h2]; simp, .inl h2⟩
    · refine .inr ⟨by rw [decide_eq_false h1, decide_eq_false h2]; rfl, by omega, h1⟩
set_option maxHeartbeats 4000000 in
theorem ref_loop (b : List UInt8) (hb : b.length ≤ 100000) : ∀ (l pre : List UInt8) (p : UInt8) (line : List UInt8) (ls : List (List UInt8)), b.take 2048 = pre ++ l → (pre = [] → p ≠ 13) → (∀ q x, pre = x ++ [q] → p = q) → ls.length ≤ pre.length → line.length ≤ pre.length →
    rhK b (ex G (.loop [7] euphroeref14_Head.l0) (rhE b line ls pre.length) [[]]) (scan l p line ls pre.length)
  | [], pre, p, line, ls, e, h1, h2, h3, h4 => by
    have hl : (b.take 2048).length = min 2048 b.length := List.length_take ..
    have hlen : pre.length = min 2048 b.length := by rw [← hl, e]; simp
    have hub := u8L_len b
    refine ⟨accG 1 (sL ls), .v (.str line), .v (.int .i64 pre.length), .undef, rnd_end ?_⟩
    generalize pre.length = i at *
    by_cases hc : i < b.length
    · simp -implicitDefEqProofs (maxSteps := 2000000) (disch := omega) only [euphroeref14_Head.l0, rhE, hub, go_sem, reduceIte, Nat.reduceAdd, Nat.reduceSub, Nat.reduceMul, Nat.reduceLeDiff, Nat.reduceLT, Nat.reduceEqDiff, Int.reduceToNat, Int.reduceLT, Int.reduceLE, Int.reduceEq, Int.reduceNe, Int.reduceAdd, Int.reduceSub, Int.reduceMul, Int.reduceNeg, Int.reduceBEq, Int.reduceBNe, reduceCtorEq, dreduceIte, oWS, oW8, oW16, oW32, oW64, oLtT, oLtF, oLeT, oLeF, oNLtT, oNLtF, oNLeT, oNLeF, oEqT, oEqF, oNEqT, oNEqF, oBeqT, oBeqF, oBneT, oBneF, Int.natCast_add, List.take_length]
    · simp -implicitDefEqProofs (maxSteps := 2000000) (disch := omega) only [euphroeref14_Head.l0, rhE, hub, go_sem, reduceIte, Nat.reduceAdd, Nat.reduceSub, Nat.reduceMul, Nat.reduceLeDiff, Nat.reduceLT, Nat.reduceEqDiff, Int.reduceToNat, Int.reduceLT, Int.reduceLE, Int.reduceEq, Int.reduceNe, Int.reduceAdd, Int.reduceSub, Int.reduceMul, Int.reduceNeg, Int.reduceBEq, Int.reduceBNe, reduceCtorEq, dreduceIte, oWS, oW8, oW16, oW32, oW64, oLtT, oLtF, oLeT, oLeF, oNLtT, oNLtF, oNLeT, oNLeF, oEqT, oEqF, oNEqT, oNEqF, oBeqT, oBeqF, oBneT, oBneF, Int.natCast_add, List.take_length]
  | c :: r, pre, p, line, ls, e, h1, h2, h3, h4 => by
    have hl : (b.take 2048).length = min 2048 b.length := List.length_take ..
    have hlen : pre.length < min 2048 b.length := by rw [← hl, e]; simp
    have hub := u8L_len b
    have hM := hmax
    have hat : ∀ k, k < 2048 → b[k]? = (pre ++ c :: r)[k]? := fun k hk => by
      rw [← e, List.getElem?_take_of_lt hk]
    have hxc : b[pre.length]? = some c := by rw [hat _ (by omega)]; simp
    have hx := u8L_at hxc
    have hsub := getT_take hxc
    have hlt := u8_lt c
    have e' : b.take 2048 = (pre ++ [c]) ++ r := by rw [e]; simp
    have hl' : (pre ++ [c]).length = pre.length + 1 := by simp
    have p1 : pre ++ [c] = [] → c ≠ 13 := fun h => by simp at h
    have p2 : ∀ q x, pre ++ [c] = x ++ [q] → c = q := fun q x hq => by
      have := List.append_inj_right' hq rfl
      simpa using this
    have hpl : pre.length < 2048 ∧ pre.length < b.length := by omega
    have c13 : (c = 13) ↔ (c.toNat : Int) = 13 := u8_toNat (k := 13) (by omega)
    have c10 : (c = 10) ↔ (c.toNat : Int) = 10 := u8_toNat (k := 10) (by omega)
    rcases u8_cases c with ⟨ht, hcs⟩ | ⟨ht, hcs, h9⟩
    · simp only [scan, ht, if_true]
      have ih := ref_loop b hb r (pre ++ [c]) c (line ++ [c]) ls e' p1 p2 (by omega) (by simp; omega)
      rw [hl'] at ih
      refine rhK_step ?_ ih
      generalize hi : pre.length = i at *
      have ej : ((i : Int) + 1).toNat = i + 1 := by omega
      rcases hcs with ⟨l1, l2⟩ | l1
      · simp -implicitDefEqProofs (maxSteps := 2000000) (disch := omega) only [euphroeref14_Head.l0, rhE, hub, hx, hsub, ej, go_sem, reduceIte, Nat.reduceAdd, Nat.reduceSub, Nat.reduceMul, Nat.reduceLeDiff, Nat.reduceLT, Nat.reduceEqDiff, Int.reduceToNat, Int.reduceLT, Int.reduceLE, Int.reduceEq, Int.reduceNe, Int.reduceAdd, Int.reduceSub, Int.reduceMul, Int.reduceNeg, Int.reduceBEq, Int.reduceBNe, reduceCtorEq, dreduceIte, oWS, oW8, oW16, oW32, oW64, oLtT, oLtF, oLeT, oLeF, oNLtT, oNLtF, oNLeT, oNLeF, oEqT, oEqF, oNEqT, oNEqF, oBeqT, oBeqF, oBneT, oBneF, Int.natCast_add, List.take_length]
      · simp -implicitDefEqProofs (maxSteps := 2000000) (disch := omega) only [euphroeref14_Head.l0, rhE, hub, hx, hsub, ej, go_sem, reduceIte, Nat.reduceAdd, Nat.reduceSub, Nat.reduceMul, Nat.reduceLeDiff, Nat.reduceLT, Nat.reduceEqDiff, Int.reduceToNat, Int.reduceLT, Int.reduceLE, Int.reduceEq, Int.reduceNe, Int.reduceAdd, Int.reduceSub, Int.reduceMul, Int.reduceNeg, Int.reduceBEq, Int.reduceBNe, reduceCtorEq, dreduceIte, oWS, oW8, oW16, oW32, oW64, oLtT, oLtF, oLeT, oLeF, oNLtT, oNLtF, oNLeT, oNLeF, oEqT, oEqF, oNEqT, oNEqF, oBeqT, oBeqF, oBneT, oBneF, Int.natCast_add, List.take_length]
    · have hub2 : ∀ d, b[pre.length + 1]? = some d → (u8L b)[pre.length + 1]? = some (.int .u8 (d.toNat : Int)) := fun d hd => u8L_at hd
      have ej : ((pre.length : Int) + 1).toNat = pre.length + 1 := by omega
      by_cases h13 : c = 13
      · have hc := c13.1 h13
        by_cases hn : nxtB r = true
        · have esc : scan (c :: r) p line ls pre.length = scan r 13 line ls (pre.length + 1) := by
            simp only [scan, ht, Bool.false_eq_true, if_false]
            rw [if_pos ⟨h13, hn⟩]
          have ih := ref_loop b hb r (pre ++ [c]) c line ls e' p1 p2 (by omega) (by omega)
          rw [hl'] at ih
          subst h13
          rw [esc]
          refine rhK_step ?_ ih
          cases r with
          | nil =>
            have : pre.length + 1 = min 2048 b.length := by rw [← hl, e]; simp
            have h5 : pre.length + 1 = b.length ∨ (¬ pre.length + 1 = b.length ∧ pre.length + 1 = 2048) := by omega
            generalize pre.length = i at *
            rcases h5 with h5 | ⟨h5, h6⟩
            · simp -implicitDefEqProofs (maxSteps := 2000000) (disch := omega) only [euphroeref14_Head.l0, rhE, hub, hx, hc, go_sem, reduceIte, Nat.reduceAdd, Nat.reduceSub, Nat.reduceMul, Nat.reduceLeDiff, Nat.reduceLT, Nat.reduceEqDiff, Int.reduceToNat, Int.reduceLT, Int.reduceLE, Int.reduceEq, Int.reduceNe, Int.reduceAdd, Int.reduceSub, Int.reduceMul, Int.reduceNeg, Int.reduceBEq, Int.reduceBNe, reduceCtorEq, dreduceIte, oWS, oW8, oW16, oW32, oW64, oLtT, oLtF, oLeT, oLeF, oNLtT, oNLtF, oNLeT, oNLeF, oEqT, oEqF, oNEqT, oNEqF, oBeqT, oBeqF, oBneT, oBneF, Int.natCast_add, List.take_length]
            · simp -implicitDefEqProofs (maxSteps := 2000000) (disch := omega) only [euphroeref14_Head.l0, rhE, hub, hx, hc, go_sem, reduceIte, Nat.reduceAdd, Nat.reduceSub, Nat.reduceMul, Nat.reduceLeDiff, Nat.reduceLT, Nat.reduceEqDiff, Int.reduceToNat, Int.reduceLT, Int.reduceLE, Int.reduceEq, Int.reduceNe, Int.reduceAdd, Int.reduceSub, Int.reduceMul, Int.reduceNeg, Int.reduceBEq, Int.reduceBNe, reduceCtorEq, dreduceIte, oWS, oW8, oW16, oW32, oW64, oLtT, oLtF, oLeT, oLeF, oNLtT, oNLtF, oNLeT, oNLeF, oEqT, oEqF, oNEqT, oNEqF, oBeqT, oBeqF, oBneT, oBneF, Int.natCast_add, List.take_length]
          | cons d r =>
            have h3 : pre.length + 2 ≤ min 2048 b.length := by rw [← hl, e]; simp
            have hd : d = 10 := by simpa [nxtB] using hn
            have hx2 := hub2 d (by rw [hat _ (by omega)]; simp)
            have hd10 : (d.toNat : Int) = 10 := by rw [hd]; rfl
            rw [hd10] at hx2
            generalize pre.length = i at *
            by_cases h5 : i + 1 = b.length
            · omega
            · by_cases h6 : i + 1 = 2048
              · omega
              · simp -implicitDefEqProofs (maxSteps := 2000000) (disch := omega) only [euphroeref14_Head.l0, rhE, hub, hx, hx2, hc, ej, go_sem, reduceIte, Nat.reduceAdd, Nat.reduceSub, Nat.reduceMul, Nat.reduceLeDiff, Nat.reduceLT, Nat.reduceEqDiff, Int.reduceToNat, Int.reduceLT, Int.reduceLE, Int.reduceEq, Int.reduceNe, Int.reduceAdd, Int.reduceSub, Int.reduceMul, Int.reduceNeg, Int.reduceBEq, Int.reduceBNe, reduceCtorEq, dreduceIte, oWS, oW8, oW16, oW32, oW64, oLtT, oLtF, oLeT, oLeF, oNLtT, oNLtF, oNLeT, oNLeF, oEqT, oEqF, oNEqT, oNEqF, oBeqT, oBeqF, oBneT, oBneF, Int.natCast_add, List.take_length]
        · have esc : scan (c :: r) p line ls pre.length = .form := by
            simp only [scan, ht, Bool.false_eq_true, if_false]
            rw [if_neg (fun h => hn h.2), if_neg (fun h => by rw [h13] at h; exact absurd h.1 (by decide))]
          rw [esc]
          cases r with
          | nil => exact absurd rfl hn
          | cons d r =>
            have h3 : pre.length + 2 ≤ min 2048 b.length := by rw [← hl, e]; simp
            have hd : ¬ (d.toNat : Int) = 10 := fun h => hn (by
              have := (u8_toNat (c := d) (k := 10) (by omega)).2 h
              simp only [nxtB, this]; rfl)
            have hx2 := hub2 d (by rw [hat _ (by omega)]; simp)
            have hdl := u8_lt d
            refine ⟨accG 1 (sL ls), .v (.str line), .v (.int .i64 pre.length), .undef, rnd_end ?_⟩
            generalize pre.length = i at *
            simp -implicitDefEqProofs (maxSteps := 2000000) (disch := omega) only [euphroeref14_Head.l0, rhE, hub, hx, hx2, hc, ej, hd, go_sem, reduceIte, Nat.reduceAdd, Nat.reduceSub, Nat.reduceMul, Nat.reduceLeDiff, Nat.reduceLT, Nat.reduceEqDiff, Int.reduceToNat, Int.reduceLT, Int.reduceLE, Int.reduceEq, Int.reduceNe, Int.reduceAdd, Int.reduceSub, Int.reduceMul, Int.reduceNeg, Int.reduceBEq, Int.reduceBNe, reduceCtorEq, dreduceIte, oWS, oW8, oW16, oW32, oW64, oLtT, oLtF, oLeT, oLeF, oNLtT, oNLtF, oNLeT, oNLeF, oEqT, oEqF, oNEqT, oNEqF, oBeqT, oBeqF, oBneT, oBneF, Int.natCast_add, List.take_length]
      · have hc : ¬ (c.toNat : Int) = 13 := fun h => h13 (c13.2 h)
        by_cases h10 : c = 10
        · have hc10 := c10.1 h10
          rcases List.eq_nil_or_concat pre with hpe | ⟨x, q, hq⟩
          · have hp := h1 hpe
            have esc : scan (c :: r) p line ls pre.length = .form := by
              simp only [scan, ht, Bool.false_eq_true, if_false]
              rw [if_neg (fun h => h13 h.1), if_neg (fun h => hp h.2)]
            rw [esc]
            have h0 : pre.length = 0 := by rw [hpe]; rfl
            refine ⟨accG 1 (sL ls), .v (.str line), .v (.int .i64 pre.length), .undef, rnd_end ?_⟩
            rw [h0] at hx ⊢
            simp -implicitDefEqProofs (maxSteps := 2000000) (disch := omega) only [euphroeref14_Head.l0, rhE, hub, hx, hc10, go_sem, reduceIte, Nat.reduceAdd, Nat.reduceSub, Nat.reduceMul, Nat.reduceLeDiff, Nat.reduceLT, Nat.reduceEqDiff, Int.reduceToNat, Int.reduceLT, Int.reduceLE, Int.reduceEq, Int.reduceNe, Int.reduceAdd, Int.reduceSub, Int.reduceMul, Int.reduceNeg, Int.reduceBEq, Int.reduceBNe, reduceCtorEq, dreduceIte, oWS, oW8, oW16, oW32, oW64, oLtT, oLtF, oLeT, oLeF, oNLtT, oNLtF, oNLeT, oNLeF, oEqT, oEqF, oNEqT, oNEqF, oBeqT, oBeqF, oBneT, oBneF, Int.natCast_add, List.take_length]
          · have hq : pre = x ++ [q] := by simpa using hq
            have hpq := h2 q x hq
            have hpos : 0 < pre.length := by rw [hq]; simp
            have hxq : b[pre.length - 1]? = some q := by rw [hat _ (by omega), hq]; simp
            have hx2 := u8L_at hxq
            have ek : ((pre.length : Int) - 1).toNat = pre.length - 1 := by omega
            have hql := u8_lt q
            have q13 : (q = 13) ↔ (q.toNat : Int) = 13 := u8_toNat (k := 13) (by omega)
            by_cases hp : p = 13
            · have hq13 := q13.1 (by rw [← hpq]; exact hp)
              by_cases hln : line = []
              · have esc : scan (c :: r) p line ls pre.length = .done ls (pre.length + 1) := by
                  simp only [scan, ht, Bool.false_eq_true, if_false]
                  rw [if_neg (fun h => h13 h.1), if_pos ⟨h10, hp⟩, if_pos hln]
                rw [esc]
                subst hln
                have hnn : (([] : List UInt8) == ([] : List UInt8)) = true := rfl
                cases ls with
                | nil =>
                  have eA : accG 1 (sL []) = .nils 1 := rfl
                  refine ⟨.nils 1, .v (.str []), .v (.int .i64 pre.length), .undef, rnd_end ?_⟩
                  generalize pre.length = i at *
                  simp -implicitDefEqProofs (maxSteps := 2000000) (disch := omega) only [euphroeref14_Head.l0, rhE, hub, hx, hx2, hc10, ek, hq13, hnn, eA, go_sem, reduceIte, Nat.reduceAdd, Nat.reduceSub, Nat.reduceMul, Nat.reduceLeDiff, Nat.reduceLT, Nat.reduceEqDiff, Int.reduceToNat, Int.reduceLT, Int.reduceLE, Int.reduceEq, Int.reduceNe, Int.reduceAdd, Int.reduceSub, Int.reduceMul, Int.reduceNeg, Int.reduceBEq, Int.reduceBNe, reduceCtorEq, dreduceIte, oWS, oW8, oW16, oW32, oW64, oLtT, oLtF, oLeT, oLeF, oNLtT, oNLtF, oNLeT, oNLeF, oEqT, oEqF, oNEqT, oNEqF, oBeqT, oBeqF, oBneT, oBneF, Int.natCast_add, List.take_length]
                | cons a as =>
                  have eA : accG 1 (sL (a :: as)) = .lin 1 (.str a :: sL as) := rfl
                  refine ⟨.v (.slc 1 (.str a :: sL as)), .v (.str []), .v (.int .i64 pre.length), .undef, rnd_end ?_⟩
                  generalize pre.length = i at *
                  simp -implicitDefEqProofs (maxSteps := 2000000) (disch := omega) only [euphroeref14_Head.l0, rhE, hub, hx, hx2, hc10, ek, hq13, hnn, eA, go_sem, reduceIte, Nat.reduceAdd, Nat.reduceSub, Nat.reduceMul, Nat.reduceLeDiff, Nat.reduceLT, Nat.reduceEqDiff, Int.reduceToNat, Int.reduceLT, Int.reduceLE, Int.reduceEq, Int.reduceNe, Int.reduceAdd, Int.reduceSub, Int.reduceMul, Int.reduceNeg, Int.reduceBEq, Int.reduceBNe, reduceCtorEq, dreduceIte, oWS, oW8, oW16, oW32, oW64, oLtT, oLtF, oLeT, oLeF, oNLtT, oNLtF, oNLeT, oNLeF, oEqT, oEqF, oNEqT, oNEqF, oBeqT, oBeqF, oBneT, oBneF, Int.natCast_add, List.take_length]
              · have esc : scan (c :: r) p line ls pre.length = scan r 10 [] (ls ++ [line]) (pre.length + 1) := by
                  simp only [scan, ht, Bool.false_eq_true, if_false]
                  rw [if_neg (fun h => h13 h.1), if_pos ⟨h10, hp⟩, if_neg hln]
                have ih := ref_loop b hb r (pre ++ [c]) c [] (ls ++ [line]) e' p1 p2 (by simp; omega) (by simp)
                rw [hl'] at ih
                subst h10
                rw [esc]
                refine rhK_step ?_ ih
                have hnn : (line == ([] : List UInt8)) = false := by simpa using hln
                generalize pre.length = i at *
                cases ls with
                | nil =>
                  have eA : accG 1 (sL []) = .nils 1 := rfl
                  have eB : accG 1 (sL ([] ++ [line])) = .lin 1 [.str line] := rfl
                  simp only [rhE]
                  rw [eB]
                  simp -implicitDefEqProofs (maxSteps := 2000000) (disch := omega) only [euphroeref14_Head.l0, rhE, hub, hx, hx2, hc10, ek, hq13, hnn, eA, hM, go_sem, reduceIte, Nat.reduceAdd, Nat.reduceSub, Nat.reduceMul, Nat.reduceLeDiff, Nat.reduceLT, Nat.reduceEqDiff, Int.reduceToNat, Int.reduceLT, Int.reduceLE, Int.reduceEq, Int.reduceNe, Int.reduceAdd, Int.reduceSub, Int.reduceMul, Int.reduceNeg, Int.reduceBEq, Int.reduceBNe, reduceCtorEq, dreduceIte, oWS, oW8, oW16, oW32, oW64, oLtT, oLtF, oLeT, oLeF, oNLtT, oNLtF, oNLeT, oNLeF, oEqT, oEqF, oNEqT, oNEqF, oBeqT, oBeqF, oBneT, oBneF, Int.natCast_add, List.take_length]
                | cons a as =>
                  have eA : accG 1 (sL (a :: as)) = .lin 1 (.str a :: sL as) := rfl
                  have eB : accG 1 (sL ((a :: as) ++ [line])) = .lin 1 (.str a :: (sL as ++ [.str line])) := by simp [sL, accG]
                  have hll : (sL as).length ≤ 100000 := by rw [sL_len]; simp at h3; omega
                  simp only [rhE]
                  rw [eB]
                  simp -implicitDefEqProofs (maxSteps := 2000000) (disch := omega) only [euphroeref14_Head.l0, rhE, hub, hx, hx2, hc10, ek, hq13, hnn, eA, hM, List.length_cons, List.length_nil, go_sem, reduceIte, Nat.reduceAdd, Nat.reduceSub, Nat.reduceMul, Nat.reduceLeDiff, Nat.reduceLT, Nat.reduceEqDiff, Int.reduceToNat, Int.reduceLT, Int.reduceLE, Int.reduceEq, Int.reduceNe, Int.reduceAdd, Int.reduceSub, Int.reduceMul, Int.reduceNeg, Int.reduceBEq, Int.reduceBNe, reduceCtorEq, dreduceIte, oWS, oW8, oW16, oW32, oW64, oLtT, oLtF, oLeT, oLeF, oNLtT, oNLtF, oNLeT, oNLeF, oEqT, oEqF, oNEqT, oNEqF, oBeqT, oBeqF, oBneT, oBneF, Int.natCast_add, List.take_length]
            · have esc : scan (c :: r) p line ls pre.length = .form := by
                simp only [scan, ht, Bool.false_eq_true, if_false]
                rw [if_neg (fun h => h13 h.1), if_neg (fun h => hp h.2)]
              rw [esc]
              have hq13 : ¬ (q.toNat : Int) = 13 := fun h => hp (by rw [hpq]; exact q13.2 h)
              refine ⟨accG 1 (sL ls), .v (.str line), .v (.int .i64 pre.length), .undef, rnd_end ?_⟩
              generalize pre.length = i at *
              simp -implicitDefEqProofs (maxSteps := 2000000) (disch := omega) only [euphroeref14_Head.l0, rhE, hub, hx, hx2, hc10, ek, hq13, go_sem, reduceIte, Nat.reduceAdd, Nat.reduceSub, Nat.reduceMul, Nat.reduceLeDiff, Nat.reduceLT, Nat.reduceEqDiff, Int.reduceToNat, Int.reduceLT, Int.reduceLE, Int.reduceEq, Int.reduceNe, Int.reduceAdd, Int.reduceSub, Int.reduceMul, Int.reduceNeg, Int.reduceBEq, Int.reduceBNe, reduceCtorEq, dreduceIte, oWS, oW8, oW16, oW32, oW64, oLtT, oLtF, oLeT, oLeF, oNLtT, oNLtF, oNLeT, oNLeF, oEqT, oEqF, oNEqT, oNEqF, oBeqT, oBeqF, oBneT, oBneF, Int.natCast_add, List.take_length]
        · have hc10 : ¬ (c.toNat : Int) = 10 := fun h => h10 (c10.2 h)
          have esc : scan (c :: r) p line ls pre.length = .form := by
            simp only [scan, ht, Bool.false_eq_true, if_false]
            rw [if_neg (fun h => h13 h.1), if_neg (fun h => h10 h.1)]
          rw [esc]
          refine ⟨accG 1 (sL ls), .v (.str line), .v (.int .i64 pre.length), .undef, rnd_end ?_⟩
          generalize pre.length = i at *
          rcases hcs with l1 | l1
          · simp -implicitDefEqProofs (maxSteps := 2000000) (disch := omega) only [euphroeref14_Head.l0, rhE, hub, hx, hc, hc10, go_sem, reduceIte, Nat.reduceAdd, Nat.reduceSub, Nat.reduceMul, Nat.reduceLeDiff, Nat.reduceLT, Nat.reduceEqDiff, Int.reduceToNat, Int.reduceLT, Int.reduceLE, Int.reduceEq, Int.reduceNe, Int.reduceAdd, Int.reduceSub, Int.reduceMul, Int.reduceNeg, Int.reduceBEq, Int.reduceBNe, reduceCtorEq, dreduceIte, oWS, oW8, oW16, oW32, oW64, oLtT, oLtF, oLeT, oLeF, oNLtT, oNLtF, oNLeT, oNLeF, oEqT, oEqF, oNEqT, oNEqF, oBeqT, oBeqF, oBneT, oBneF, Int.natCast_add, List.take_length]
          · simp -implicitDefEqProofs (maxSteps := 2000000) (disch := omega) only [euphroeref14_Head.l0, rhE, hub, hx, hc, hc10, go_sem, reduceIte, Nat.reduceAdd, Nat.reduceSub, Nat.reduceMul, Nat.reduceLeDiff, Nat.reduceLT, Nat.reduceEqDiff, Int.reduceToNat, Int.reduceLT, Int.reduceLE, Int.reduceEq, Int.reduceNe, Int.reduceAdd, Int.reduceSub, Int.reduceMul, Int.reduceNeg, Int.reduceBEq, Int.reduceBNe, reduceCtorEq, dreduceIte, oWS, oW8, oW16, oW32, oW64, oLtT, oLtF, oLeT, oLeF, oNLtT, oNLtF, oNLeT, oNLeF, oEqT, oEqF, oNEqT, oNEqF, oBeqT, oBeqF, oBneT, oBneF, Int.natCast_add, List.take_length]
abbrev hdP (q : List (List UInt8) × Int × Int) : D := .tup [.lin 1 (sL q.1), .v (.int .i64 q.2.1), .v (.int .i64 q.2.2)]
theorem r_Head (b : List UInt8) (h : b.length ≤ 100000) : run G 16 [.v (.slc 1 (u8L b))] [] = some (hdP (hdR b), []) := by
  have L := ref_loop b h (b.take 2048) [] 0 [] [] (by simp) (fun _ => by decide) (fun q x h => by simp at h) (Nat.zero_le _) (Nat.zero_le _)
  have hub := u8L_len b
  rw [xq_fn G rfl euphroeref14_Head.g _ _ rfl]
  unfold hdR
  simp only [List.length_nil] at L
  cases hs : scan (b.take 2048) 0 [] [] 0 with
  | form =>
    rw [hs] at L
    obtain ⟨x4, x5, x6, x7, L⟩ := L
    have eA : accG 1 (sL []) = .nils 1 := rfl
    simp only [rhE, eA, z0, Int.cast_ofNat_Int, List.take_zero, List.map_nil, List.drop_zero, accN, b8_nil, Int.sub_zero, Int.add_zero, Int.zero_add, Nat.zero_add, Nat.sub_zero, List.nil_append, List.append_nil] at L
    show _ = some (D.tup [.lin 1 [], .v (.int .i64 0), .v (.int .i64 3)], [])
    simp -implicitDefEqProofs (maxSteps := 2000000) (disch := omega) only [euphroeref14_Head.s, L, go_sem, reduceIte, Nat.reduceAdd, Nat.reduceSub, Nat.reduceMul, Nat.reduceLeDiff, Nat.reduceLT, Nat.reduceEqDiff, Int.reduceToNat, Int.reduceLT, Int.reduceLE, Int.reduceEq, Int.reduceNe, Int.reduceAdd, Int.reduceSub, Int.reduceMul, Int.reduceNeg, Int.reduceBEq, Int.reduceBNe, reduceCtorEq, dreduceIte, oWS, oW8, oW16, oW32, oW64, oLtT, oLtF, oLeT, oLeF, oNLtT, oNLtF, oNLeT, oNLeF, oEqT, oEqF, oNEqT, oNEqF, oBeqT, oBeqF, oBneT, oBneF, Int.natCast_add, List.take_length]
  | fin =>
    rw [hs] at L
    obtain ⟨x4, x5, x6, x7, L⟩ := L
    have eA : accG 1 (sL []) = .nils 1 := rfl
    simp only [rhE, eA, z0, Int.cast_ofNat_Int, List.take_zero, List.map_nil, List.drop_zero, accN, b8_nil, Int.sub_zero, Int.add_zero, Int.zero_add, Nat.zero_add, Nat.sub_zero, List.nil_append, List.append_nil] at L
    by_cases hl : b.length < 2048
    · rw [if_pos hl]
      show _ = some (D.tup [.lin 1 [], .v (.int .i64 0), .v (.int .i64 4)], [])
      simp -implicitDefEqProofs (maxSteps := 2000000) (disch := omega) only [euphroeref14_Head.s, L, hub, go_sem, reduceIte, Nat.reduceAdd, Nat.reduceSub, Nat.reduceMul, Nat.reduceLeDiff, Nat.reduceLT, Nat.reduceEqDiff, Int.reduceToNat, Int.reduceLT, Int.reduceLE, Int.reduceEq, Int.reduceNe, Int.reduceAdd, Int.reduceSub, Int.reduceMul, Int.reduceNeg, Int.reduceBEq, Int.reduceBNe, reduceCtorEq, dreduceIte, oWS, oW8, oW16, oW32, oW64, oLtT, oLtF, oLeT, oLeF, oNLtT, oNLtF, oNLeT, oNLeF, oEqT, oEqF, oNEqT, oNEqF, oBeqT, oBeqF, oBneT, oBneF, Int.natCast_add, List.take_length]
    · rw [if_neg hl]
      show _ = some (D.tup [.lin 1 [], .v (.int .i64 0), .v (.int .i64 8)], [])
      simp -implicitDefEqProofs (maxSteps := 2000000) (disch := omega) only [euphroeref14_Head.s, L, hub, go_sem, reduceIte, Nat.reduceAdd, Nat.reduceSub, Nat.reduceMul, Nat.reduceLeDiff, Nat.reduceLT, Nat.reduceEqDiff, Int.reduceToNat, Int.reduceLT, Int.reduceLE, Int.reduceEq, Int.reduceNe, Int.reduceAdd, Int.reduceSub, Int.reduceMul, Int.reduceNeg, Int.reduceBEq, Int.reduceBNe, reduceCtorEq, dreduceIte, oWS, oW8, oW16, oW32, oW64, oLtT, oLtF, oLeT, oLeF, oNLtT, oNLtF, oNLeT, oNLeF, oEqT, oEqF, oNEqT, oNEqF, oBeqT, oBeqF, oBneT, oBneF, Int.natCast_add, List.take_length]
  | done ls n =>
    rw [hs] at L
    obtain ⟨x4, x5, x6, x7, L⟩ := L
    have eA : accG 1 (sL []) = .nils 1 := rfl
    simp only [rhE, eA, z0, Int.cast_ofNat_Int, List.take_zero, List.map_nil, List.drop_zero, accN, b8_nil, Int.sub_zero, Int.add_zero, Int.zero_add, Nat.zero_add, Nat.sub_zero, List.nil_append, List.append_nil] at L
    show _ = some (D.tup [.lin 1 (sL ls), .v (.int .i64 n), .v (.int .i64 0)], [])
    simp -implicitDefEqProofs (maxSteps := 2000000) (disch := omega) only [euphroeref14_Head.s, L, go_sem, reduceIte, Nat.reduceAdd, Nat.reduceSub, Nat.reduceMul, Nat.reduceLeDiff, Nat.reduceLT, Nat.reduceEqDiff, Int.reduceToNat, Int.reduceLT, Int.reduceLE, Int.reduceEq, Int.reduceNe, Int.reduceAdd, Int.reduceSub, Int.reduceMul, Int.reduceNeg, Int.reduceBEq, Int.reduceBNe, reduceCtorEq, dreduceIte, oWS, oW8, oW16, oW32, oW64, oLtT, oLtF, oLeT, oLeF, oNLtT, oNLtF, oNLeT, oNLeF, oEqT, oEqF, oNEqT, oNEqF, oBeqT, oBeqF, oBneT, oBneF, Int.natCast_add, List.take_length]
end Go.Q
