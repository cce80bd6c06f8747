/- What is laid is parsed; the law HttpqBack, in the machine. No condition. -/
import Derived.Test.YtaakegacmjnmoaaDoorHo
set_option linter.all false
set_option maxRecDepth 100000
namespace Go.Q
open SOp SCode
attribute [local congr] bind_c map_c
theorem trimP_sp (h : List UInt8) (hne : h ≠ []) (hb : ∀ c ∈ h, blB c = false) : trimP (32 :: h) = h := by
  obtain ⟨t, b, rfl⟩ : ∃ t b, h = t ++ [b] := (nil_or_snoc h).resolve_left hne
  have e1 : trimRB blL (32 :: (t ++ [b])) = 32 :: (t ++ [b]) := by
    show (((32 :: (t ++ [b])).reverse.dropWhile blB).reverse) = _
    have : (32 :: (t ++ [b])).reverse = b :: (32 :: t).reverse := by simp
    rw [this, List.dropWhile_cons_of_neg (by rw [hb b (by simp)]; simp)]
    simp
  unfold trimP
  rw [e1, List.dropWhile_cons_of_pos (by decide)]
  cases t with
  | nil => rw [List.nil_append, List.dropWhile_cons_of_neg (by rw [hb b (by simp)]; simp)]
  | cons a t => rw [List.cons_append, List.dropWhile_cons_of_neg (by rw [hb a (by simp)]; simp)]
theorem host_bl {c : UInt8} (h : hostB c = true) : blB c = false ∧ txB c = true := by
  have key : ∀ n : Nat, n < 256 → hostB (UInt8.ofNat n) = true → blB (UInt8.ofNat n) = false ∧ txB (UInt8.ofNat n) = true := by decide +kernel
  have := key c.toNat c.toNat_lt
  rw [show UInt8.ofNat c.toNat = c by simp] at this
  exact this h
theorem dg_host {c : UInt8} {n : Nat} (h : dgV c = some n) : hostB c = true := by
  have key : ∀ n : Nat, n < 256 → (dgV (UInt8.ofNat n)).isSome = true → hostB (UInt8.ofNat n) = true := by decide +kernel
  have := key c.toNat c.toNat_lt
  rw [show UInt8.ofNat c.toNat = c by simp] at this
  exact this (by rw [h]; rfl)
theorem id_host {i l : List UInt8} (h : idR i = some l) : i ≠ [] ∧ i.length = 38 ∧ ∀ c ∈ i, hostB c = true := by
  unfold idR at h
  split at h
  · rename_i hc
    have h38 := hc.1
    obtain ⟨a, b, c, d, e, k1, k2, k3, k4, k5, e1, e2⟩ := id_form hc
    have dg := unhR_dg _ _ h
    rw [e2] at dg
    refine ⟨fun he => by rw [he] at h38; simp at h38, h38, fun x hx => ?_⟩
    rw [e1] at hx
    simp only [idF, List.mem_cons, List.mem_append, List.not_mem_nil, or_false] at hx
    have dd : ∀ y, y ∈ a ++ b ++ c ++ d ++ e → hostB y = true := fun y hy => by
      obtain ⟨n, hn⟩ := dg y hy
      exact dg_host hn
    rcases hx with rfl | hx | rfl | hx | rfl | hx | rfl | hx | rfl | hx | rfl
    · decide
    · exact dd x (by simp [hx])
    · decide
    · exact dd x (by simp [hx])
    · decide
    · exact dd x (by simp [hx])
    · decide
    · exact dd x (by simp [hx])
    · decide
    · exact dd x (by simp [hx])
    · decide
  · cases h
theorem txt_host {s : List UInt8} (h : ∀ c ∈ s, hostB c = true) : Txt s := fun c hc => (host_bl (h c hc)).2
theorem Txt.app {a b : List UInt8} (ha : Txt a) (hb : Txt b) : Txt (a ++ b) := fun c hc => by
  rcases List.mem_append.1 hc with h | h
  · exact ha c h
  · exact hb c h
theorem lay_good {h i : List UInt8} (hh : hostR h = true) (hi : isIdR i = true) : goodL (layLs h i) ∧ (flt (layLs h i)).length + 2 ≤ 2000 := by
  unfold hostR at hh
  simp only [Bool.and_eq_true, List.all_eq_true, decide_eq_true_eq] at hh
  obtain ⟨h1, h2, h3⟩ := hh
  have tR : Txt reqL := List.all_eq_true.1 (by decide : List.all reqL txB = true)
  have tH : Txt hosL := List.all_eq_true.1 (by decide : List.all hosL txB = true)
  have tL : Txt lenL := List.all_eq_true.1 (by decide : List.all lenL txB = true)
  have tC : Txt corL := List.all_eq_true.1 (by decide : List.all corL txB = true)
  have g3 : goodL [reqL, hosL ++ h, lenL] := by
    refine goodL.cons (by decide) tR (goodL.cons (by simp) (tH.app (txt_host h1)) (goodL.cons (by decide) tL goodL.nil))
  by_cases h0 : i = []
  · have e : layLs h i = [reqL, hosL ++ h, lenL] := by unfold layLs; rw [if_pos h0]
    rw [e]
    exact ⟨g3, by simp [flt]; omega⟩
  · have e : layLs h i = [reqL, hosL ++ h, lenL, corL ++ i] := by unfold layLs; rw [if_neg h0]
    rw [e]
    obtain ⟨l, hl⟩ : ∃ l, idR i = some l := by
      cases i with
      | nil => exact absurd rfl h0
      | cons a r =>
        cases hr : idR (a :: r) with
        | none => simp [isIdR, hr] at hi
        | some l => exact ⟨l, rfl⟩
    obtain ⟨_, i1, i2⟩ := id_host hl
    refine ⟨goodL.cons (by decide) tR (goodL.cons (by simp) (tH.app (txt_host h1)) (goodL.cons (by decide) tL (goodL.cons (by simp) (tC.app (txt_host i2)) goodL.nil))), by simp [flt]; omega⟩
theorem hd_whole {ls : List (List UInt8)} (g : goodL ls) (h : (flt ls).length + 2 ≤ 2048) (rest : List UInt8) : hdR (flt ls ++ 13 :: 10 :: rest) = (ls, (((flt ls).length + 2 : Nat) : Int), 0) := by
  have e : (flt ls ++ 13 :: 10 :: rest).take 2048 = flt ls ++ 13 :: 10 :: rest.take (2048 - (flt ls).length - 2) := by
    rw [List.take_append, List.take_of_length_le (by omega), show 2048 - (flt ls).length = (2048 - (flt ls).length - 2) + 2 by omega]
    rfl
  unfold hdR
  rw [e, scan_whole g]
theorem pre_form : ∀ (ls : List (List UInt8)), goodL ls → ∀ m, m < (flt ls).length + 2 → ∃ (ls' : List (List UInt8)) (line : List UInt8), goodL ls' ∧ Txt line ∧ ((flt ls ++ [13, 10]).take m = flt ls' ++ line ∨ (flt ls ++ [13, 10]).take m = flt ls' ++ (line ++ [13]))
  | [], _, m, hm => by
    simp only [flt, List.length_nil, Nat.zero_add] at hm
    match m, hm with
    | 0, _ => exact ⟨[], [], goodL.nil, Txt.nil, .inl rfl⟩
    | 1, _ => exact ⟨[], [], goodL.nil, Txt.nil, .inr rfl⟩
  | x :: ls, g, m, hm => by
    have gx := g x (by simp)
    have gl : goodL ls := fun y hy => g y (by simp [hy])
    have e : flt (x :: ls) ++ [13, 10] = x ++ 13 :: 10 :: (flt ls ++ [13, 10]) := flt_cons x ls [13, 10]
    have el : (flt (x :: ls)).length = x.length + 2 + (flt ls).length := by simp [flt]; omega
    rw [e]
    by_cases h1 : m ≤ x.length
    · refine ⟨[], x.take m, goodL.nil, fun c hc => gx.2 c (List.mem_of_mem_take hc), .inl ?_⟩
      rw [List.take_append_of_le_length h1]; rfl
    · by_cases h2 : m = x.length + 1
      · refine ⟨[], x, goodL.nil, gx.2, .inr ?_⟩
        rw [h2, List.take_append, List.take_of_length_le (by omega), show x.length + 1 - x.length = 1 by omega]
        rfl
      · obtain ⟨ls', line, k1, k2, k3⟩ := pre_form ls gl (m - x.length - 2) (by omega)
        have e2 : (x ++ 13 :: 10 :: (flt ls ++ [13, 10])).take m = x ++ 13 :: 10 :: (flt ls ++ [13, 10]).take (m - x.length - 2) := by
          rw [List.take_append, List.take_of_length_le (by omega), show m - x.length = (m - x.length - 2) + 2 by omega]
          rfl
        refine ⟨x :: ls', line, goodL.cons gx.1 gx.2 k1, k2, ?_⟩
        rw [e2, flt_cons, flt_cons]
        rcases k3 with k3 | k3
        · exact .inl (by rw [k3])
        · exact .inr (by rw [k3])
theorem hd_begun {ls : List (List UInt8)} (g : goodL ls) (h : (flt ls).length + 2 ≤ 2000) (m : Nat) (hm : m < (flt ls).length + 2) : hdR ((flt ls ++ [13, 10]).take m) = ([], 0, 4) := by
  obtain ⟨ls', line, k1, k2, k3⟩ := pre_form ls g m hm
  have hl : ((flt ls ++ [13, 10]).take m).length < 2048 := by rw [List.length_take]; omega
  obtain ⟨s1, s2⟩ := scan_begin k1 k2
  unfold hdR
  rw [List.take_of_length_le (by omega)]
  rcases k3 with k3 | k3
  · rw [k3] at hl ⊢
    rw [s1]
    simp only
    rw [if_pos hl]
  · rw [k3] at hl ⊢
    rw [s2]
    simp only
    rw [if_pos hl]
theorem cut_pre (c : UInt8) : ∀ (p r : List UInt8), (∀ x ∈ p, ¬ x = c) → cut1 c (p ++ c :: r) = some (p, r)
  | [], r, _ => by simp [cut1]
  | x :: p, r, h => by
    have ih := cut_pre c p r (fun y hy => h y (by simp [hy]))
    simp only [List.cons_append, cut1]
    rw [if_neg (h x (by simp)), ih]
    rfl
theorem all_ne {c : UInt8} {p : List UInt8} (h : p.all (fun x => x != c) = true) : ∀ x ∈ p, ¬ x = c := fun x hx => by
  have := List.all_eq_true.1 h x hx
  simpa using this
theorem like_tt (h : List UInt8) : likeB hstN (hstN, h) = true ∧ likeB hstN (lenN, h) = false ∧ likeB hstN (corN, h) = false ∧ likeB lenN (hstN, h) = false ∧ likeB lenN (lenN, h) = true ∧ likeB lenN (corN, h) = false ∧ likeB corN (hstN, h) = false ∧ likeB corN (lenN, h) = false ∧ likeB corN (corN, h) = true := by
  simp only [likeB]
  decide
theorem lin_req : linQ reqL = (pthL, 0) := by decide +kernel
theorem tok_names : tokS hstN = true ∧ tokS lenN = true ∧ tokS corN = true := by decide
theorem fields3 (h : List UInt8) (h0 : h ≠ []) (hb : ∀ c ∈ h, blB c = false) : fieldsR [hosL ++ h, lenL] = ([(hstN, h), (lenN, lngL)], 0) := by
  have c1 : cut1 58 (hosL ++ h) = some (hstN, 32 :: h) := cut_pre 58 hstN (32 :: h) (all_ne (by decide))
  have c2 : cut1 58 lenL = some (lenN, 32 :: lngL) := cut_pre 58 lenN (32 :: lngL) (all_ne (by decide))
  obtain ⟨t1, t2, t3⟩ := tok_names
  have p1 := trimP_sp h h0 hb
  have p2 := trimP_sp lngL (by decide) (fun c hc => (List.all_eq_true.1 (by decide : List.all lngL (fun c => !blB c) = true) c hc |> fun x => by simpa using x))
  have e : fldR [hosL ++ h, lenL] = some [(hstN, h), (lenN, lngL)] := by
    simp only [fldR, c1, c2, t1, t2, p1, p2, if_true, Option.map_some]
  unfold fieldsR
  rw [e]
  rfl
theorem fields4 (h i : List UInt8) (h0 : h ≠ []) (hb : ∀ c ∈ h, blB c = false) (i0 : i ≠ []) (ib : ∀ c ∈ i, blB c = false) : fieldsR [hosL ++ h, lenL, corL ++ i] = ([(hstN, h), (lenN, lngL), (corN, i)], 0) := by
  have c1 : cut1 58 (hosL ++ h) = some (hstN, 32 :: h) := cut_pre 58 hstN (32 :: h) (all_ne (by decide))
  have c2 : cut1 58 lenL = some (lenN, 32 :: lngL) := cut_pre 58 lenN (32 :: lngL) (all_ne (by decide))
  have c3 : cut1 58 (corL ++ i) = some (corN, 32 :: i) := cut_pre 58 corN (32 :: i) (all_ne (by decide))
  obtain ⟨t1, t2, t3⟩ := tok_names
  have p1 := trimP_sp h h0 hb
  have p2 := trimP_sp lngL (by decide) (fun c hc => (List.all_eq_true.1 (by decide : List.all lngL (fun c => !blB c) = true) c hc |> fun x => by simpa using x))
  have p3 := trimP_sp i i0 ib
  have e : fldR [hosL ++ h, lenL, corL ++ i] = some [(hstN, h), (lenN, lngL), (corN, i)] := by
    simp only [fldR, c1, c2, c3, t1, t2, t3, p1, p2, p3, if_true, Option.map_some]
  unfold fieldsR
  rw [e]
  rfl
theorem parse2Q_cons {n : Int} {r : List (List UInt8)} {l : List Fld} (h : fieldsR r = (l, 0)) : parseQ2 n (reqL :: r) = (if (fieldsQ l).2 = 0 then ((fieldsQ l).1, n, 0) else (([], []), 0, (fieldsQ l).2)) := by
  simp only [parseQ2, lin_req, h, if_true]
theorem parse_lay {h i : List UInt8} (hh : hostR h = true) (hi : isIdR i = true) (rest : List UInt8) : parseQ (flt (layLs h i) ++ 13 :: 10 :: rest) = ((h, i), (((flt (layLs h i)).length + 2 : Nat) : Int), 0) := by
  obtain ⟨g, gl⟩ := lay_good hh hi
  have hw := hd_whole g (by omega) rest
  have hh' := hh
  unfold hostR at hh
  simp only [Bool.and_eq_true, List.all_eq_true, decide_eq_true_eq] at hh
  obtain ⟨h1, h2, h3⟩ := hh
  have h0 : h ≠ [] := fun e => by rw [e] at h2; simp at h2
  have hb : ∀ c ∈ h, blB c = false := fun c hc => (host_bl (h1 c hc)).1
  obtain ⟨a1, _⟩ := like_tt h
  obtain ⟨_, a2, a3, a4, a5, a6, a7, a8, a9⟩ := like_tt lngL
  have b4 := (like_tt h).2.2.2.1
  have b7 := (like_tt h).2.2.2.2.2.2.1
  have hlg : lngB lngL = true := by decide
  unfold parseQ
  rw [hw]
  simp only [if_true]
  by_cases i0 : i = []
  · have e : layLs h i = [reqL, hosL ++ h, lenL] := by unfold layLs; rw [if_pos i0]
    rw [e, parse2Q_cons (fields3 h h0 hb)]
    have f1 : findR hstN [(hstN, h), (lenN, lngL)] = (h, 0) := by simp [findR, fdS, a1, a2]
    have f2 : findR lenN [(hstN, h), (lenN, lngL)] = (lngL, 0) := by simp [findR, fdS, b4, a5]
    have f3 : findR corN [(hstN, h), (lenN, lngL)] = ([], 6) := by simp [findR, fdS, b7, a8]
    have e1 : fieldsQ [(hstN, h), (lenN, lngL)] = ((h, []), 0) := by
      simp [fieldsQ, oneR, f1, f2, f3, hh', hlg]
    rw [e1, i0]
    rfl
  · have e : layLs h i = [reqL, hosL ++ h, lenL, corL ++ i] := by unfold layLs; rw [if_neg i0]
    obtain ⟨l, hl⟩ : ∃ l, idR i = some l := by
      cases i with
      | nil => exact absurd rfl i0
      | cons a r =>
        cases hr : idR (a :: r) with
        | none => simp [isIdR, hr] at hi
        | some l => exact ⟨l, rfl⟩
    obtain ⟨_, i1, i2⟩ := id_host hl
    have ib : ∀ c ∈ i, blB c = false := fun c hc => (host_bl (i2 c hc)).1
    rw [e, parse2Q_cons (fields4 h i h0 hb i0 ib)]
    have d3 := (like_tt i).2.2.1
    have d6 := (like_tt i).2.2.2.2.2.1
    have d9 := (like_tt i).2.2.2.2.2.2.2.2
    have hcb : corB i = true := by
      unfold corB
      rw [hl]
      cases i with
      | nil => exact absurd rfl i0
      | cons a r => rfl
    have f1 : findR hstN [(hstN, h), (lenN, lngL), (corN, i)] = (h, 0) := by simp [findR, fdS, a1, a2, d3]
    have f2 : findR lenN [(hstN, h), (lenN, lngL), (corN, i)] = (lngL, 0) := by simp [findR, fdS, b4, a5, d6]
    have f3 : findR corN [(hstN, h), (lenN, lngL), (corN, i)] = (i, 0) := by simp [findR, fdS, b7, a8, d9]
    have e1 : fieldsQ [(hstN, h), (lenN, lngL), (corN, i)] = ((h, i), 0) := by
      simp [fieldsQ, oneR, f1, f2, f3, hh', hlg, hcb]
    rw [e1]
    rfl
theorem parse_begun {h i : List UInt8} (hh : hostR h = true) (hi : isIdR i = true) (m : Nat) (hm : m < (flt (layLs h i)).length + 2) : parseQ ((flt (layLs h i) ++ [13, 10]).take m) = (([], []), 0, 4) := by
  obtain ⟨g, gl⟩ := lay_good hh hi
  unfold parseQ
  rw [hd_begun g gl m hm]
  rfl
theorem httpqBack (h i bh : List UInt8) (n : Nat) (hn : n ≤ 65535) : run G 4 [.v (.agg [.str h, .str i]), .v (.slc 1 (u8L bh)), .v (.int .u16 n)] [] = some (.v (.bool true), []) := by
  have A := a15
  have hub := u8L_len bh
  have hM := hmax
  rw [xq_fn G rfl euphroelaw15_HttpqBack.g _ _ rfl]
  by_cases h1 : 600 < h.length
  · simp -implicitDefEqProofs (maxSteps := 2000000) (disch := omega) only [euphroelaw15_HttpqBack.s, A, hub, go_sem, reduceIte, Nat.reduceAdd, Nat.reduceSub, Nat.reduceMul, Nat.reduceLeDiff, Nat.reduceLT, Nat.reduceEqDiff, Int.reduceToNat, Int.reduceLT, Int.reduceLE, Int.reduceEq, Int.reduceNe, Int.reduceAdd, Int.reduceSub, Int.reduceMul, Int.reduceNeg, Int.reduceBEq, Int.reduceBNe, reduceCtorEq, dreduceIte, oWS, oW8, oW16, oW32, oW64, oLtT, oLtF, oLeT, oLeF, oNLtT, oNLtF, oNLeT, oNLeF, oEqT, oEqF, oNEqT, oNEqF, oBeqT, oBeqF, oBneT, oBneF, Int.natCast_add, List.take_length]
  by_cases h2 : 200 < i.length
  · simp -implicitDefEqProofs (maxSteps := 2000000) (disch := omega) only [euphroelaw15_HttpqBack.s, A, hub, go_sem, reduceIte, Nat.reduceAdd, Nat.reduceSub, Nat.reduceMul, Nat.reduceLeDiff, Nat.reduceLT, Nat.reduceEqDiff, Int.reduceToNat, Int.reduceLT, Int.reduceLE, Int.reduceEq, Int.reduceNe, Int.reduceAdd, Int.reduceSub, Int.reduceMul, Int.reduceNeg, Int.reduceBEq, Int.reduceBNe, reduceCtorEq, dreduceIte, oWS, oW8, oW16, oW32, oW64, oLtT, oLtF, oLeT, oLeF, oNLtT, oNLtF, oNLeT, oNLeF, oEqT, oEqF, oNEqT, oNEqF, oBeqT, oBeqF, oBneT, oBneF, Int.natCast_add, List.take_length]
  by_cases h3 : 300 < bh.length
  · simp -implicitDefEqProofs (maxSteps := 2000000) (disch := omega) only [euphroelaw15_HttpqBack.s, A, hub, go_sem, reduceIte, Nat.reduceAdd, Nat.reduceSub, Nat.reduceMul, Nat.reduceLeDiff, Nat.reduceLT, Nat.reduceEqDiff, Int.reduceToNat, Int.reduceLT, Int.reduceLE, Int.reduceEq, Int.reduceNe, Int.reduceAdd, Int.reduceSub, Int.reduceMul, Int.reduceNeg, Int.reduceBEq, Int.reduceBNe, reduceCtorEq, dreduceIte, oWS, oW8, oW16, oW32, oW64, oLtT, oLtF, oLeT, oLeF, oNLtT, oNLtF, oNLeT, oNLeF, oEqT, oEqF, oNEqT, oNEqF, oBeqT, oBeqF, oBneT, oBneF, Int.natCast_add, List.take_length]
  have I1 := h_Lay h i (by omega) (by omega)
  unfold layR at I1
  by_cases hc : hostR h = true ∧ isIdR i = true
  · rw [if_pos hc] at I1
    obtain ⟨hh, hi⟩ := hc
    obtain ⟨g, gl⟩ := lay_good hh hi
    have P1 := parse_lay hh hi bh
    have hbl : (flt (layLs h i) ++ [13, 10]).length = (flt (layLs h i)).length + 2 := by simp
    have P2 := parse_begun hh hi (n % ((flt (layLs h i)).length + 2)) (Nat.mod_lt _ (by omega))
    have e1 : flt (layLs h i) ++ 13 :: 10 :: bh = (flt (layLs h i) ++ [13, 10]) ++ bh := by simp
    rw [e1] at P1
    simp only [layO] at I1
    rw [← hbl] at P1 P2 gl
    have hne : 0 < (flt (layLs h i) ++ [13, 10]).length := by rw [hbl]; omega
    generalize flt (layLs h i) ++ [13, 10] = b at *
    have I2 := h_Parse (b ++ bh) (by simp; omega)
    have I3 := h_Parse (b.take (n % b.length)) (by simp; omega)
    rw [P1, u8L_app] at I2
    rw [P2, ← u8L_take] at I3
    simp only [pqO] at I2 I3
    have hbu := u8L_len b
    have hm : ((n : Int).tmod (b.length : Int)) = ((n % b.length : Nat) : Int) := rfl
    have hml : n % b.length < b.length := Nat.mod_lt _ hne
    have q1 : (h == h) = true := beq_self_eq_true _
    have q2 : (i == i) = true := beq_self_eq_true _
    have hne2 : ¬ (b.length : Int) = 0 := by omega
    have hne3 : u8L b ++ u8L bh ≠ [] := fun e => by
      have := congrArg List.length e
      rw [List.length_append, u8L_len, List.length_nil] at this
      omega
    generalize n % b.length = m at *
    generalize u8L bh = ubh at *
    generalize hub2 : u8L b = ub at *
    simp -implicitDefEqProofs (maxSteps := 2000000) (disch := omega) only [euphroelaw15_HttpqBack.s, A, hub, I1, I2, I3, hbu, hm, q1, q2, hne2, hM, eqVs, go_sem, reduceIte, Nat.reduceAdd, Nat.reduceSub, Nat.reduceMul, Nat.reduceLeDiff, Nat.reduceLT, Nat.reduceEqDiff, Int.reduceToNat, Int.reduceLT, Int.reduceLE, Int.reduceEq, Int.reduceNe, Int.reduceAdd, Int.reduceSub, Int.reduceMul, Int.reduceNeg, Int.reduceBEq, Int.reduceBNe, reduceCtorEq, dreduceIte, oWS, oW8, oW16, oW32, oW64, oLtT, oLtF, oLeT, oLeF, oNLtT, oNLtF, oNLeT, oNLeF, oEqT, oEqF, oNEqT, oNEqF, oBeqT, oBeqF, oBneT, oBneF, Int.natCast_add, List.take_length]
  · rw [if_neg hc] at I1
    simp only [layO] at I1
    simp -implicitDefEqProofs (maxSteps := 2000000) (disch := omega) only [euphroelaw15_HttpqBack.s, A, hub, I1, List.length_nil, go_sem, reduceIte, Nat.reduceAdd, Nat.reduceSub, Nat.reduceMul, Nat.reduceLeDiff, Nat.reduceLT, Nat.reduceEqDiff, Int.reduceToNat, Int.reduceLT, Int.reduceLE, Int.reduceEq, Int.reduceNe, Int.reduceAdd, Int.reduceSub, Int.reduceMul, Int.reduceNeg, Int.reduceBEq, Int.reduceBNe, reduceCtorEq, dreduceIte, oWS, oW8, oW16, oW32, oW64, oLtT, oLtF, oLeT, oLeF, oNLtT, oNLtF, oNLeT, oNLeF, oEqT, oEqF, oNEqT, oNEqF, oBeqT, oBeqF, oBneT, oBneF, Int.natCast_add, List.take_length]
end Go.Q
