/- What the functions of OptsAsks compute. No condition. -/
import Derived.Test.YtjglogffdihahaaLo
set_option maxRecDepth 100000
set_option linter.unusedSimpArgs false
set_option linter.unusedVariables false
namespace Go.Q
open SOp SCode
attribute [local congr] bind_c map_c

/-! ### Kinds -/
def kds (l : List Opt) : List Int := l.map (·.1)
abbrev kdE (l : List Opt) (i : Nat) : List D := [.v (.slc 2 (oes l)), .nils 1, accG 1 (b8 (kds (l.take i))), .v (.slc 2 (oes l)), .v (.int .i64 (l.length : Nat)), .v (.int .i64 i), .undef]
theorem kd_step (l : List Opt) (hn : l.length ≤ 40) (i : Nat) (hi : i < l.length) :
    ex G (.loop [6] opts_Kinds.l0) (kdE l i) [[]] = ex G (.loop [6] opts_Kinds.l0) (kdE l (i + 1)) [[]] := by
  have q1 : (i : Int) < ((l.length : Nat) : Int) := by omega
  have q0 : (0 : Int) ≤ i := by omega
  have w := inc (i := i) (by have : M = 100000 := rfl; omega)
  have hx := oes_at (List.getElem?_eq_getElem hi)
  have ha := ac_app 1 (b8 (kds (l.take i))) 1 [.int .u8 (l[i]).1] (by simp) (by rw [b8_len, kds, List.length_map]; have := hmax; simp; omega)
  have he : b8 (kds (l.take i)) ++ [.int .u8 (l[i]).1] = b8 (kds (l.take (i + 1))) := by rw [take_succ hi, kds, kds, List.map_append, ← b8_app]; rfl
  rw [he] at ha
  rw [xq_loop]
  simp -implicitDefEqProofs only [opts_Kinds.l0, go_sem, reduceIte, Nat.reduceAdd, Nat.reduceSub, Nat.reduceMul, Nat.reduceLeDiff, Nat.reduceLT, Nat.reduceEqDiff, Int.reduceToNat, Int.reduceLT, Int.reduceLE, Int.reduceEq, Int.reduceNe, Int.reduceAdd, Int.reduceSub, Int.reduceMul, Int.reduceNeg, Int.reduceBEq, Int.reduceBNe, reduceCtorEq, dreduceIte, oes_len, q0, q1, Int.toNat_natCast, hx, w, lpD, ac_x, ac_t, setW_s, setW_0, ac_cp, ac_cpw, ac_lenw, ac_ret, ac_pop, ac_popw, cl_cp, ha]
theorem kinds61 (l : List Opt) (hn : l.length ≤ 40) : run G 61 [.v (.slc 2 (oes l))] [] = some (.lin 1 (b8 (kds l)), []) := by
  rw [xq_fn G rfl opts_Kinds.g _ _ rfl]
  have h1 : ¬ ((l.length : Nat) : Int) < ((l.length : Nat) : Int) := by omega
  have e : ex G (.loop [6] opts_Kinds.l0) (kdE l l.length) [[]] = some (.exit 0, kdE l l.length, [[]]) := by
    rw [xq_loop]
    simp -implicitDefEqProofs only [opts_Kinds.l0, go_sem, reduceIte, Nat.reduceAdd, Nat.reduceSub, Nat.reduceMul, Nat.reduceLeDiff, Nat.reduceLT, Nat.reduceEqDiff, Int.reduceToNat, Int.reduceLT, Int.reduceLE, Int.reduceEq, Int.reduceNe, Int.reduceAdd, Int.reduceSub, Int.reduceMul, Int.reduceNeg, Int.reduceBEq, Int.reduceBNe, reduceCtorEq, dreduceIte, h1, lpD, ac_x, ac_t, setW_s, setW_0, ac_cp, ac_cpw, ac_lenw, ac_ret, ac_pop, ac_popw, cl_cp]
  have L : ex G (.loop [6] opts_Kinds.l0) [.v (.slc 2 (oes l)), .nils 1, .nils 1, .v (.slc 2 (oes l)), .v (.int .i64 (l.length : Nat)), .v (.int .i64 0), .undef] [[]] = _ := (lp0 (kdE l) l.length (fun i hi => kd_step l hn i hi)).trans e
  simp -implicitDefEqProofs only [opts_Kinds.s, go_sem, reduceIte, Nat.reduceAdd, Nat.reduceSub, Nat.reduceMul, Nat.reduceLeDiff, Nat.reduceLT, Nat.reduceEqDiff, Int.reduceToNat, Int.reduceLT, Int.reduceLE, Int.reduceEq, Int.reduceNe, Int.reduceAdd, Int.reduceSub, Int.reduceMul, Int.reduceNeg, Int.reduceBEq, Int.reduceBNe, reduceCtorEq, dreduceIte, oes_len, L, List.take_length, ac_x, ac_t, setW_s, setW_0, ac_cp, ac_cpw, ac_lenw, ac_ret, ac_pop, ac_popw, cl_cp]

/-! ### The document's Find -/
abbrev noO : Opt := (0, [])
def fdR (l : List Opt) (k : Int) : Opt × Bool := match l.find? (·.1 == k) with
  | some o => (o, true)
  | none => (noO, false)
theorem find_first {l : List Opt} {k : Int} {j : Nat} (h1 : j < l.length) (h2 : (l[j]).1 = k) (h3 : ∀ i, i < j → ∀ h : i < l.length, (l[i]).1 ≠ k) : l.find? (·.1 == k) = some l[j] := by
  induction l generalizing j with
  | nil => simp at h1
  | cons x l ih =>
    cases j with
    | zero => simp at h2; simp [h2]
    | succ j =>
      have hx := h3 0 (by omega) (by simp)
      simp only [List.getElem_cons_zero] at hx
      rw [List.find?_cons_of_neg (by simpa using hx)]
      simp only [List.getElem_cons_succ]
      exact ih (j := j) (by simpa using h1) (by simpa using h2) (fun i hi h => by have := h3 (i + 1) (by omega) (by simpa using h); simpa using this)
theorem find_not {l : List Opt} {k : Int} (h : ∀ i, i < l.length → ∀ h : i < l.length, (l[i]).1 ≠ k) : l.find? (·.1 == k) = none := by
  rw [List.find?_eq_none]
  intro o ho
  obtain ⟨i, hi, rfl⟩ := List.mem_iff_getElem.1 ho
  simpa using h i hi hi
abbrev noD : D := .agg [.v (.int .u8 0), .nils 1]
abbrev rfE (l : List Opt) (k : Int) (i : Nat) : List D := [.v (.slc 2 (oes l)), .v (.int .u8 k), .ptr ⟨0, 0⟩ 0 0, .v (.bool false), .v (.int .i64 i)]
theorem rf_step (l : List Opt) (k : Int) (hn : l.length ≤ 40) (i : Nat) (hi : i < l.length) (h : (l[i]).1 ≠ k) :
    ex G (.loop [] euphroeref21_Find.l0) (rfE l k i) [[.row [noD]]] = ex G (.loop [] euphroeref21_Find.l0) (rfE l k (i + 1)) [[.row [noD]]] := by
  have q1 : (i : Int) < ((l.length : Nat) : Int) := by omega
  have q0 : (0 : Int) ≤ i := by omega
  have w := inc (i := i) (by have : M = 100000 := rfl; omega)
  have hx := oes_at (List.getElem?_eq_getElem hi)
  have hb := beq_ne h
  rw [xq_loop]
  simp -implicitDefEqProofs only [euphroeref21_Find.l0, go_sem, reduceIte, Nat.reduceAdd, Nat.reduceSub, Nat.reduceMul, Nat.reduceLeDiff, Nat.reduceLT, Nat.reduceEqDiff, Int.reduceToNat, Int.reduceLT, Int.reduceLE, Int.reduceEq, Int.reduceNe, Int.reduceAdd, Int.reduceSub, Int.reduceMul, Int.reduceNeg, Int.reduceBEq, Int.reduceBNe, reduceCtorEq, dreduceIte, oes_len, q0, q1, Int.toNat_natCast, hx, w, hb, lpD]
theorem find60 (l : List Opt) (k : Int) (hn : l.length ≤ 40) : run G 60 [.v (.slc 2 (oes l)), .v (.int .u8 k)] [] = some (.tup [od (fdR l k).1, .v (.bool (fdR l k).2)], []) := by
  rw [xq_fn G rfl euphroeref21_Find.g _ _ rfl]
  rcases first_or (fun i => ∃ h : i < l.length, (l[i]).1 = k) l.length with h | ⟨j, h1, ⟨h2, h3⟩, h4⟩
  · have h' : ∀ i, i < l.length → ∀ h : i < l.length, (l[i]).1 ≠ k := fun i hi h2 h3 => h i hi ⟨h2, h3⟩
    have hR : fdR l k = (noO, false) := by rw [fdR, find_not h']
    have e : ex G (.loop [] euphroeref21_Find.l0) (rfE l k l.length) [[.row [noD]]] = some (.exit 0, rfE l k l.length, [[.row [noD]]]) := by
      have h1 : ¬ ((l.length : Nat) : Int) < ((l.length : Nat) : Int) := by omega
      rw [xq_loop]
      simp -implicitDefEqProofs only [euphroeref21_Find.l0, go_sem, reduceIte, Nat.reduceAdd, Nat.reduceSub, Nat.reduceMul, Nat.reduceLeDiff, Nat.reduceLT, Nat.reduceEqDiff, Int.reduceToNat, Int.reduceLT, Int.reduceLE, Int.reduceEq, Int.reduceNe, Int.reduceAdd, Int.reduceSub, Int.reduceMul, Int.reduceNeg, Int.reduceBEq, Int.reduceBNe, reduceCtorEq, dreduceIte, oes_len, h1, lpD]
    have L : ex G (.loop [] euphroeref21_Find.l0) [.v (.slc 2 (oes l)), .v (.int .u8 k), .ptr ⟨0, 0⟩ 0 0, .v (.bool false), .v (.int .i64 0)] [[.row [noD]]] = _ := (lp0 (rfE l k) l.length (fun i hi => rf_step l k hn i hi (h' i hi hi))).trans e
    simp -implicitDefEqProofs only [euphroeref21_Find.s, go_sem, reduceIte, Nat.reduceAdd, Nat.reduceSub, Nat.reduceMul, Nat.reduceLeDiff, Nat.reduceLT, Nat.reduceEqDiff, Int.reduceToNat, Int.reduceLT, Int.reduceLE, Int.reduceEq, Int.reduceNe, Int.reduceAdd, Int.reduceSub, Int.reduceMul, Int.reduceNeg, Int.reduceBEq, Int.reduceBNe, reduceCtorEq, dreduceIte, L, hR]
    rfl
  · have h' : ∀ i, i < j → ∀ h : i < l.length, (l[i]).1 ≠ k := fun i hi h2 h3 => h4 i hi ⟨h2, h3⟩
    have hR : fdR l k = (l[j], true) := by rw [fdR, find_first h1 h3 h']
    have e : ex G (.loop [] euphroeref21_Find.l0) (rfE l k j) [[.row [noD]]] = some (.ret, [.v (.slc 2 (oes l)), .v (.int .u8 k), .ptr ⟨0, 0⟩ 0 0, .v (.bool true), .v (.int .i64 j)], [[.row [od l[j]]]]) := by
      have q1 : (j : Int) < ((l.length : Nat) : Int) := by omega
      have q0 : (0 : Int) ≤ j := by omega
      have hx := oes_at (List.getElem?_eq_getElem h2)
      have c1 : ((l[j]).1 == k) = true := by simp [h3]
      rw [xq_loop]
      simp -implicitDefEqProofs only [euphroeref21_Find.l0, go_sem, reduceIte, Nat.reduceAdd, Nat.reduceSub, Nat.reduceMul, Nat.reduceLeDiff, Nat.reduceLT, Nat.reduceEqDiff, Int.reduceToNat, Int.reduceLT, Int.reduceLE, Int.reduceEq, Int.reduceNe, Int.reduceAdd, Int.reduceSub, Int.reduceMul, Int.reduceNeg, Int.reduceBEq, Int.reduceBNe, reduceCtorEq, dreduceIte, oes_len, q0, q1, Int.toNat_natCast, hx, c1, lpD]
    have L : ex G (.loop [] euphroeref21_Find.l0) [.v (.slc 2 (oes l)), .v (.int .u8 k), .ptr ⟨0, 0⟩ 0 0, .v (.bool false), .v (.int .i64 0)] [[.row [noD]]] = _ := (lp0 (rfE l k) j (fun i hi => rf_step l k hn i (by omega) (h' i hi (by omega)))).trans e
    simp -implicitDefEqProofs only [euphroeref21_Find.s, go_sem, reduceIte, Nat.reduceAdd, Nat.reduceSub, Nat.reduceMul, Nat.reduceLeDiff, Nat.reduceLT, Nat.reduceEqDiff, Int.reduceToNat, Int.reduceLT, Int.reduceLE, Int.reduceEq, Int.reduceNe, Int.reduceAdd, Int.reduceSub, Int.reduceMul, Int.reduceNeg, Int.reduceBEq, Int.reduceBNe, reduceCtorEq, dreduceIte, L, hR]

/-! ### The document's Same -/
theorem one99 (a b : Opt) (ha : a.2.length ≤ M) : run G 99 [od a, od b] [] = some (.v (.bool (a == b)), []) := by
  rw [xq_fn G rfl euphroeref21_one.g _ _ rfl]
  have h1 := same40 a.2 b.2 ha
  have e : (a == b) = ((a.1 == b.1) && (a.2 == b.2)) := rfl
  by_cases c : a.1 = b.1
  · have c1 : (a.1 == b.1) = true := by simp [c]
    simp -implicitDefEqProofs only [euphroeref21_one.s, go_sem, reduceIte, Nat.reduceAdd, Nat.reduceSub, Nat.reduceMul, Nat.reduceLeDiff, Nat.reduceLT, Nat.reduceEqDiff, Int.reduceToNat, Int.reduceLT, Int.reduceLE, Int.reduceEq, Int.reduceNe, Int.reduceAdd, Int.reduceSub, Int.reduceMul, Int.reduceNeg, Int.reduceBEq, Int.reduceBNe, reduceCtorEq, dreduceIte, c1, h1, e, Bool.true_and]
  · have c1 : (a.1 == b.1) = false := by simp [c]
    simp -implicitDefEqProofs only [euphroeref21_one.s, go_sem, reduceIte, Nat.reduceAdd, Nat.reduceSub, Nat.reduceMul, Nat.reduceLeDiff, Nat.reduceLT, Nat.reduceEqDiff, Int.reduceToNat, Int.reduceLT, Int.reduceLE, Int.reduceEq, Int.reduceNe, Int.reduceAdd, Int.reduceSub, Int.reduceMul, Int.reduceNeg, Int.reduceBEq, Int.reduceBNe, reduceCtorEq, dreduceIte, c1, h1, e, Bool.false_and]
abbrev smE2 (a b : List Opt) (i : Nat) : List D := [.v (.slc 2 (oes a)), .v (.slc 2 (oes b)), .v (.bool false), .v (.int .i64 i)]
abbrev shL (l : List Opt) : Prop := ∀ o ∈ l, o.2.length ≤ 300
theorem s2_step (a b : List Opt) (ha : shL a) (hn : a.length ≤ 40) (i : Nat) (x : Opt) (h1 : a[i]? = some x) (h2 : b[i]? = some x) :
    ex G (.loop [] euphroeref21_Same.l0) (smE2 a b i) [[]] = ex G (.loop [] euphroeref21_Same.l0) (smE2 a b (i + 1)) [[]] := by
  have l1 : i < a.length := (List.getElem?_eq_some_iff.1 h1).1
  have l2 : i < b.length := (List.getElem?_eq_some_iff.1 h2).1
  have q1 : (i : Int) < ((a.length : Nat) : Int) := by omega
  have q2 : (i : Int) < ((b.length : Nat) : Int) := by omega
  have q0 : (0 : Int) ≤ i := by omega
  have w := inc (i := i) (by have : M = 100000 := rfl; omega)
  have hs := one99 x x (by have : M = 100000 := rfl; have := ha x (List.mem_of_getElem? h1); omega)
  rw [xq_loop]
  simp -implicitDefEqProofs only [euphroeref21_Same.l0, go_sem, reduceIte, Nat.reduceAdd, Nat.reduceSub, Nat.reduceMul, Nat.reduceLeDiff, Nat.reduceLT, Nat.reduceEqDiff, Int.reduceToNat, Int.reduceLT, Int.reduceLE, Int.reduceEq, Int.reduceNe, Int.reduceAdd, Int.reduceSub, Int.reduceMul, Int.reduceNeg, Int.reduceBEq, Int.reduceBNe, reduceCtorEq, dreduceIte, oes_len, q0, q1, q2, Int.toNat_natCast, oes_at h1, oes_at h2, hs, beq_self_eq_true, w, lpD]
theorem same62 (a b : List Opt) (ha : shL a) (hn : a.length ≤ 40) : run G 62 [.v (.slc 2 (oes a)), .v (.slc 2 (oes b))] [] = some (.v (.bool (a == b)), []) := by
  rw [xq_fn G rfl euphroeref21_Same.g _ _ rfl]
  by_cases hl : a.length = b.length
  · have q3 : (((a.length : Nat) : Int) != ((b.length : Nat) : Int)) = false := bne_eq (by omega)
    rcases first_or (fun i => a[i]? ≠ b[i]?) a.length with h | ⟨j, h1, h2, h3⟩
    · have he : a = b := List.ext_getElem? fun i => by
        by_cases hi : i < a.length
        · exact Classical.byContradiction fun hn => h i hi hn
        · rw [List.getElem?_eq_none (by omega), List.getElem?_eq_none (by omega)]
      subst he
      have e : ex G (.loop [] euphroeref21_Same.l0) (smE2 a a a.length) [[]] = some (.exit 0, smE2 a a a.length, [[]]) := by
        have h1 : ¬ ((a.length : Nat) : Int) < ((a.length : Nat) : Int) := by omega
        rw [xq_loop]
        simp -implicitDefEqProofs only [euphroeref21_Same.l0, go_sem, reduceIte, Nat.reduceAdd, Nat.reduceSub, Nat.reduceMul, Nat.reduceLeDiff, Nat.reduceLT, Nat.reduceEqDiff, Int.reduceToNat, Int.reduceLT, Int.reduceLE, Int.reduceEq, Int.reduceNe, Int.reduceAdd, Int.reduceSub, Int.reduceMul, Int.reduceNeg, Int.reduceBEq, Int.reduceBNe, reduceCtorEq, dreduceIte, oes_len, h1, lpD]
      have L : ex G (.loop [] euphroeref21_Same.l0) [.v (.slc 2 (oes a)), .v (.slc 2 (oes a)), .v (.bool false), .v (.int .i64 0)] [[]] = _ :=
        (lp0 (fun i => smE2 a a i) a.length (fun i hi => s2_step a a ha hn i a[i] (List.getElem?_eq_getElem hi) (List.getElem?_eq_getElem hi))).trans e
      simp -implicitDefEqProofs only [euphroeref21_Same.s, go_sem, reduceIte, Nat.reduceAdd, Nat.reduceSub, Nat.reduceMul, Nat.reduceLeDiff, Nat.reduceLT, Nat.reduceEqDiff, Int.reduceToNat, Int.reduceLT, Int.reduceLE, Int.reduceEq, Int.reduceNe, Int.reduceAdd, Int.reduceSub, Int.reduceMul, Int.reduceNeg, Int.reduceBEq, Int.reduceBNe, reduceCtorEq, dreduceIte, oes_len, q3, L, beq_self_eq_true]
    · have hb1 : (a == b) = false := by simp; intro e; exact h2 (by rw [e])
      have hx := List.getElem?_eq_getElem h1
      have hy := List.getElem?_eq_getElem (l := b) (i := j) (by omega)
      have hne : (a[j] == b[j]) = false := by simp; intro e; exact h2 (by rw [hx, hy, e])
      have e : ex G (.loop [] euphroeref21_Same.l0) (smE2 a b j) [[]] = some (.ret, smE2 a b j, [[]]) := by
        have q1 : (j : Int) < ((a.length : Nat) : Int) := by omega
        have q2 : (j : Int) < ((b.length : Nat) : Int) := by omega
        have q0 : (0 : Int) ≤ j := by omega
        have hs := one99 a[j] b[j] (by have : M = 100000 := rfl; have := ha _ (List.getElem_mem h1); omega)
        rw [xq_loop]
        simp -implicitDefEqProofs only [euphroeref21_Same.l0, go_sem, reduceIte, Nat.reduceAdd, Nat.reduceSub, Nat.reduceMul, Nat.reduceLeDiff, Nat.reduceLT, Nat.reduceEqDiff, Int.reduceToNat, Int.reduceLT, Int.reduceLE, Int.reduceEq, Int.reduceNe, Int.reduceAdd, Int.reduceSub, Int.reduceMul, Int.reduceNeg, Int.reduceBEq, Int.reduceBNe, reduceCtorEq, dreduceIte, oes_len, q0, q1, q2, Int.toNat_natCast, oes_at hx, oes_at hy, hs, hne, lpD]
      have L : ex G (.loop [] euphroeref21_Same.l0) [.v (.slc 2 (oes a)), .v (.slc 2 (oes b)), .v (.bool false), .v (.int .i64 0)] [[]] = _ :=
        (lp0 (fun i => smE2 a b i) j (fun i hi => s2_step a b ha hn i a[i] (List.getElem?_eq_getElem (by omega)) (by rw [← Classical.byContradiction (h3 i hi)]; exact List.getElem?_eq_getElem (by omega)))).trans e
      simp -implicitDefEqProofs only [euphroeref21_Same.s, go_sem, reduceIte, Nat.reduceAdd, Nat.reduceSub, Nat.reduceMul, Nat.reduceLeDiff, Nat.reduceLT, Nat.reduceEqDiff, Int.reduceToNat, Int.reduceLT, Int.reduceLE, Int.reduceEq, Int.reduceNe, Int.reduceAdd, Int.reduceSub, Int.reduceMul, Int.reduceNeg, Int.reduceBEq, Int.reduceBNe, reduceCtorEq, dreduceIte, oes_len, q3, L, hb1]
  · have q3 : (((a.length : Nat) : Int) != ((b.length : Nat) : Int)) = true := bne_ne (by omega)
    have hb1 : (a == b) = false := by simp; intro e; exact hl (by rw [e])
    simp -implicitDefEqProofs only [euphroeref21_Same.s, go_sem, reduceIte, Nat.reduceAdd, Nat.reduceSub, Nat.reduceMul, Nat.reduceLeDiff, Nat.reduceLT, Nat.reduceEqDiff, Int.reduceToNat, Int.reduceLT, Int.reduceLE, Int.reduceEq, Int.reduceNe, Int.reduceAdd, Int.reduceSub, Int.reduceMul, Int.reduceNeg, Int.reduceBEq, Int.reduceBNe, reduceCtorEq, dreduceIte, oes_len, q3, hb1]

/-! ### The document's Without -/
def woR (l : List Opt) (k : Int) : List Opt := l.filter (·.1 != k)
theorem wo_succ {l : List Opt} {i : Nat} (k : Int) (h : i < l.length) : woR (l.take (i + 1)) k = woR (l.take i) k ++ (if (l[i]).1 = k then [] else [l[i]]) := by
  rw [take_succ h, woR, woR, List.filter_append]
  by_cases c : (l[i]).1 = k <;> simp [c]
theorem wo_len (l : List Opt) (k : Int) (i : Nat) : (woR (l.take i) k).length ≤ i := Nat.le_trans (List.length_filter_le ..) (by rw [List.length_take]; omega)
abbrev rwE (l : List Opt) (k : Int) (i : Nat) : List D := [.v (.slc 2 (oes l)), .v (.int .u8 k), .nils 2, accG 2 (oes (woR (l.take i) k)), .v (.int .i64 i)]
theorem rw_step (l : List Opt) (k : Int) (hn : l.length ≤ 40) (i : Nat) (hi : i < l.length) :
    ex G (.loop [] euphroeref21_Without.l0) (rwE l k i) [[]] = ex G (.loop [] euphroeref21_Without.l0) (rwE l k (i + 1)) [[]] := by
  have q1 : (i : Int) < ((l.length : Nat) : Int) := by omega
  have q0 : (0 : Int) ≤ i := by omega
  have w := inc (i := i) (by have : M = 100000 := rfl; omega)
  have hx := oes_at (List.getElem?_eq_getElem hi)
  have hl := wo_len l k i
  have ha := ac_app 2 (oes (woR (l.take i) k)) 32 [oe l[i]] (by simp) (by rw [oes_len]; have := hmax; simp; omega)
  have he : oes (woR (l.take i) k) ++ [oe l[i]] = oes (woR (l.take i) k ++ [l[i]]) := by rw [← oes_app]; rfl
  rw [he] at ha
  have hs := wo_succ k hi
  unfold rwE
  rw [xq_loop]
  by_cases c : (l[i]).1 = k
  · have c1 : ((l[i]).1 != k) = false := bne_eq c
    rw [if_pos c, List.append_nil] at hs
    rw [hs]
    simp -implicitDefEqProofs only [euphroeref21_Without.l0, go_sem, reduceIte, Nat.reduceAdd, Nat.reduceSub, Nat.reduceMul, Nat.reduceLeDiff, Nat.reduceLT, Nat.reduceEqDiff, Int.reduceToNat, Int.reduceLT, Int.reduceLE, Int.reduceEq, Int.reduceNe, Int.reduceAdd, Int.reduceSub, Int.reduceMul, Int.reduceNeg, Int.reduceBEq, Int.reduceBNe, reduceCtorEq, dreduceIte, oes_len, q0, q1, Int.toNat_natCast, hx, w, lpD, ac_x, ac_t, setW_s, setW_0, ac_cp, ac_cpw, ac_lenw, ac_ret, ac_pop, ac_popw, cl_cp, ha, c1]
  · have c1 : ((l[i]).1 != k) = true := bne_ne c
    rw [if_neg c] at hs
    rw [hs]
    simp -implicitDefEqProofs only [euphroeref21_Without.l0, go_sem, reduceIte, Nat.reduceAdd, Nat.reduceSub, Nat.reduceMul, Nat.reduceLeDiff, Nat.reduceLT, Nat.reduceEqDiff, Int.reduceToNat, Int.reduceLT, Int.reduceLE, Int.reduceEq, Int.reduceNe, Int.reduceAdd, Int.reduceSub, Int.reduceMul, Int.reduceNeg, Int.reduceBEq, Int.reduceBNe, reduceCtorEq, dreduceIte, oes_len, q0, q1, Int.toNat_natCast, hx, w, lpD, ac_x, ac_t, setW_s, setW_0, ac_cp, ac_cpw, ac_lenw, ac_ret, ac_pop, ac_popw, cl_cp, ha, c1]
theorem without64 (l : List Opt) (k : Int) (hn : l.length ≤ 40) : run G 64 [.v (.slc 2 (oes l)), .v (.int .u8 k)] [] = some (.lin 2 (oes (woR l k)), []) := by
  rw [xq_fn G rfl euphroeref21_Without.g _ _ rfl]
  have e : ex G (.loop [] euphroeref21_Without.l0) (rwE l k l.length) [[]] = some (.exit 0, rwE l k l.length, [[]]) := by
    have h1 : ¬ ((l.length : Nat) : Int) < ((l.length : Nat) : Int) := by omega
    rw [xq_loop]
    simp -implicitDefEqProofs only [euphroeref21_Without.l0, go_sem, reduceIte, Nat.reduceAdd, Nat.reduceSub, Nat.reduceMul, Nat.reduceLeDiff, Nat.reduceLT, Nat.reduceEqDiff, Int.reduceToNat, Int.reduceLT, Int.reduceLE, Int.reduceEq, Int.reduceNe, Int.reduceAdd, Int.reduceSub, Int.reduceMul, Int.reduceNeg, Int.reduceBEq, Int.reduceBNe, reduceCtorEq, dreduceIte, oes_len, h1, lpD, ac_x, ac_t, setW_s, setW_0, ac_cp, ac_cpw, ac_lenw, ac_ret, ac_pop, ac_popw, cl_cp]
  have L : ex G (.loop [] euphroeref21_Without.l0) [.v (.slc 2 (oes l)), .v (.int .u8 k), .nils 2, .nils 2, .v (.int .i64 0)] [[]] = _ := (lp0 (rwE l k) l.length (fun i hi => rw_step l k hn i hi)).trans e
  simp -implicitDefEqProofs only [euphroeref21_Without.s, go_sem, reduceIte, Nat.reduceAdd, Nat.reduceSub, Nat.reduceMul, Nat.reduceLeDiff, Nat.reduceLT, Nat.reduceEqDiff, Int.reduceToNat, Int.reduceLT, Int.reduceLE, Int.reduceEq, Int.reduceNe, Int.reduceAdd, Int.reduceSub, Int.reduceMul, Int.reduceNeg, Int.reduceBEq, Int.reduceBNe, reduceCtorEq, dreduceIte, oes_len, L, List.take_length, ac_x, ac_t, setW_s, setW_0, ac_cp, ac_cpw, ac_lenw, ac_ret, ac_pop, ac_popw, cl_cp]

/-! ### Among -/
def amR : List Opt → List Opt → Bool
  | [], _ => true
  | _ :: _, [] => false
  | x :: l, y :: a => if x = y then amR l a else amR (x :: l) a
def amS (l : List Opt) (o : Opt) : List Opt := match l with
  | [] => []
  | x :: r => if x = o then r else x :: r
theorem am_fold : ∀ (a l : List Opt), (a.foldl amS l == []) = amR l a
  | [], [] => rfl
  | [], x :: l => rfl
  | y :: a, [] => by rw [List.foldl_cons, show amS [] y = [] from rfl, am_fold a []]; cases a <;> rfl
  | y :: a, x :: l => by
    rw [List.foldl_cons, am_fold]
    by_cases c : x = y
    · rw [amR, if_pos c, amS, if_pos c]
    · rw [amR, if_neg c, amS, if_neg c]
abbrev amE (l a : List Opt) (i : Nat) : List D := [.v (.slc 2 (oes ((a.take i).foldl amS l))), .v (.slc 2 (oes a)), .v (.bool false), .v (.slc 2 (oes a)), .v (.int .i64 (a.length : Nat)), .v (.int .i64 i), .undef]
theorem am_sub (a l : List Opt) : ∀ o ∈ a.foldl amS l, o ∈ l := by
  induction a generalizing l with
  | nil => intro o h; exact h
  | cons x a ih =>
    intro o h
    have := ih _ o h
    cases l with
    | nil => exact this
    | cons y l =>
      simp only [amS] at this
      split at this
      · exact List.mem_cons_of_mem _ this
      · exact this
theorem am_step (l a : List Opt) (hl : okL l) (ha : okL a) (hn : a.length ≤ 40) (i : Nat) (hi : i < a.length) :
    ex G (.loop [6] opts_Among.l0) (amE l a i) [[]] = ex G (.loop [6] opts_Among.l0) (amE l a (i + 1)) [[]] := by
  have q1 : (i : Int) < ((a.length : Nat) : Int) := by omega
  have q0 : (0 : Int) ≤ i := by omega
  have w := inc (i := i) (by have : M = 100000 := rfl; omega)
  have hx := oes_at (List.getElem?_eq_getElem hi)
  have hs : (a.take (i + 1)).foldl amS l = amS ((a.take i).foldl amS l) a[i] := by rw [take_succ hi, List.foldl_append]; rfl
  have hnl : (oes a).length = a.length := oes_len a
  have hm := am_sub (a.take i) l
  rw [xq_loop, amE, amE, hs]
  generalize (a.take i).foldl amS l = c at hm
  cases c with
  | nil =>
    have q3 : ¬ (0 : Int) < (((oes []).length : Nat) : Int) := by decide
    simp -implicitDefEqProofs only [opts_Among.l0, go_sem, reduceIte, Nat.reduceAdd, Nat.reduceSub, Nat.reduceMul, Nat.reduceLeDiff, Nat.reduceLT, Nat.reduceEqDiff, Int.reduceToNat, Int.reduceLT, Int.reduceLE, Int.reduceEq, Int.reduceNe, Int.reduceAdd, Int.reduceSub, Int.reduceMul, Int.reduceNeg, Int.reduceBEq, Int.reduceBNe, reduceCtorEq, dreduceIte, amS, hnl, q0, q1, q3, Int.toNat_natCast, hx, w, lpD]
  | cons x r =>
    have q3 : (0 : Int) < (((oes (x :: r)).length : Nat) : Int) := by rw [oes_len]; simp
    have q4 : (1 : Int) ≤ (((oes (x :: r)).length : Nat) : Int) := by omega
    have q5 : (((Int.toNat 1 : Nat)) : Int) ≤ (((oes (x :: r)).length : Nat) : Int) := by omega
    have h0 : (oes (x :: r))[0]? = some (oe x) := rfl
    have ht : List.take (oes (x :: r)).length (oes (x :: r)) = oes (x :: r) := List.take_length
    have hd : List.drop 1 (oes (x :: r)) = oes r := rfl
    have hs := same96 x a[i] (hl x (hm x (by simp))) (ha _ (List.getElem_mem _)) []
    by_cases c : x = a[i]
    · have c1 : (x == a[i]) = true := by simp [c]
      rw [c1] at hs
      have e : amS (x :: r) a[i] = r := by rw [amS, if_pos c]
      simp -implicitDefEqProofs only [opts_Among.l0, go_sem, reduceIte, Nat.reduceAdd, Nat.reduceSub, Nat.reduceMul, Nat.reduceLeDiff, Nat.reduceLT, Nat.reduceEqDiff, Int.reduceToNat, Int.reduceLT, Int.reduceLE, Int.reduceEq, Int.reduceNe, Int.reduceAdd, Int.reduceSub, Int.reduceMul, Int.reduceNeg, Int.reduceBEq, Int.reduceBNe, reduceCtorEq, dreduceIte, e, hnl, q0, q1, q3, q4, q5, h0, ht, hd, hs, Int.toNat_natCast, hx, w, lpD]
    · have c1 : (x == a[i]) = false := by simp [c]
      rw [c1] at hs
      have e : amS (x :: r) a[i] = x :: r := by rw [amS, if_neg c]
      simp -implicitDefEqProofs only [opts_Among.l0, go_sem, reduceIte, Nat.reduceAdd, Nat.reduceSub, Nat.reduceMul, Nat.reduceLeDiff, Nat.reduceLT, Nat.reduceEqDiff, Int.reduceToNat, Int.reduceLT, Int.reduceLE, Int.reduceEq, Int.reduceNe, Int.reduceAdd, Int.reduceSub, Int.reduceMul, Int.reduceNeg, Int.reduceBEq, Int.reduceBNe, reduceCtorEq, dreduceIte, e, hnl, q0, q1, q3, q4, h0, ht, hd, hs, Int.toNat_natCast, hx, w, lpD]
theorem among65 (l a : List Opt) (hl : okL l) (ha : okL a) (hn : a.length ≤ 40) : run G 65 [.v (.slc 2 (oes l)), .v (.slc 2 (oes a))] [] = some (.v (.bool (amR l a)), []) := by
  rw [xq_fn G rfl opts_Among.g _ _ rfl]
  have e : ex G (.loop [6] opts_Among.l0) (amE l a a.length) [[]] = some (.exit 0, amE l a a.length, [[]]) := by
    have h1 : ¬ ((a.length : Nat) : Int) < ((a.length : Nat) : Int) := by omega
    rw [xq_loop]
    simp -implicitDefEqProofs only [opts_Among.l0, go_sem, reduceIte, Nat.reduceAdd, Nat.reduceSub, Nat.reduceMul, Nat.reduceLeDiff, Nat.reduceLT, Nat.reduceEqDiff, Int.reduceToNat, Int.reduceLT, Int.reduceLE, Int.reduceEq, Int.reduceNe, Int.reduceAdd, Int.reduceSub, Int.reduceMul, Int.reduceNeg, Int.reduceBEq, Int.reduceBNe, reduceCtorEq, dreduceIte, h1, lpD]
  have L : ex G (.loop [6] opts_Among.l0) [.v (.slc 2 (oes l)), .v (.slc 2 (oes a)), .v (.bool false), .v (.slc 2 (oes a)), .v (.int .i64 (a.length : Nat)), .v (.int .i64 0), .undef] [[]] = _ := (lp0 (amE l a) a.length (fun i hi => am_step l a hl ha hn i hi)).trans e
  have hf : ((((a.foldl amS l).length : Nat) : Int) == 0) = amR l a := by
    rw [← am_fold]
    cases a.foldl amS l with
    | nil => rfl
    | cons x r => exact beq_ne (by simp; omega)
  simp -implicitDefEqProofs only [opts_Among.s, go_sem, reduceIte, Nat.reduceAdd, Nat.reduceSub, Nat.reduceMul, Nat.reduceLeDiff, Nat.reduceLT, Nat.reduceEqDiff, Int.reduceToNat, Int.reduceLT, Int.reduceLE, Int.reduceEq, Int.reduceNe, Int.reduceAdd, Int.reduceSub, Int.reduceMul, Int.reduceNeg, Int.reduceBEq, Int.reduceBNe, reduceCtorEq, dreduceIte, oes_len, L, List.take_length, hf]
theorem am_none : ∀ (a : List Opt) (x : Opt) (l : List Opt), (∀ y ∈ a, y ≠ x) → amR (x :: l) a = false
  | [], x, l, _ => rfl
  | y :: a, x, l, h => by rw [amR, if_neg (Ne.symm (h y (by simp)))]; exact am_none a x l fun z hz => h z (by simp [hz])
theorem am_at : ∀ (a : List Opt) (x : Opt) (l : List Opt) (j : Nat) (h1 : j < a.length), a[j] = x → (∀ i, i < j → ∀ h : i < a.length, a[i] ≠ x) → amR (x :: l) a = amR l (a.drop (j + 1))
  | [], x, l, j, h1, _, _ => by simp at h1
  | y :: a, x, l, 0, h1, h2, _ => by simp at h2; rw [amR, if_pos h2.symm]; rfl
  | y :: a, x, l, j + 1, h1, h2, h3 => by
    have hy := h3 0 (by omega) (by simp)
    simp only [List.getElem_cons_zero] at hy
    rw [amR, if_neg (Ne.symm hy), am_at a x l j (by simpa using h1) (by simpa using h2) (fun i hi h => by have := h3 (i + 1) (by omega) (by simpa using h); simpa using this)]
    rfl
abbrev raE (l a : List Opt) (i : Nat) : List D := [.v (.slc 2 (oes l)), .v (.slc 2 (oes a)), .v (.bool false), .v (.int .i64 i)]
theorem ra_step (x : Opt) (l a : List Opt) (hl : shL (x :: l)) (hn : a.length ≤ 40) (i : Nat) (hi : i < a.length) (h : a[i] ≠ x) :
    ex G (.loop [] euphroeref21_Among.l0) (raE (x :: l) a i) [[]] = ex G (.loop [] euphroeref21_Among.l0) (raE (x :: l) a (i + 1)) [[]] := by
  have q1 : (i : Int) < ((a.length : Nat) : Int) := by omega
  have q0 : (0 : Int) ≤ i := by omega
  have w := inc (i := i) (by have : M = 100000 := rfl; omega)
  have hx := oes_at (List.getElem?_eq_getElem hi)
  have q3 : (0 : Int) < (((oes (x :: l)).length : Nat) : Int) := by rw [oes_len]; simp
  have h0 : (oes (x :: l))[0]? = some (oe x) := rfl
  have hs := one99 x a[i] (by have : M = 100000 := rfl; have := hl x (by simp); omega)
  have c1 : (x == a[i]) = false := by simp; exact fun e => h e.symm
  rw [c1] at hs
  have hnl : (oes a).length = a.length := oes_len a
  rw [xq_loop]
  simp -implicitDefEqProofs only [euphroeref21_Among.l0, go_sem, reduceIte, Nat.reduceAdd, Nat.reduceSub, Nat.reduceMul, Nat.reduceLeDiff, Nat.reduceLT, Nat.reduceEqDiff, Int.reduceToNat, Int.reduceLT, Int.reduceLE, Int.reduceEq, Int.reduceNe, Int.reduceAdd, Int.reduceSub, Int.reduceMul, Int.reduceNeg, Int.reduceBEq, Int.reduceBNe, reduceCtorEq, dreduceIte, hnl, q0, q1, q3, h0, hs, Int.toNat_natCast, hx, w, lpD]
theorem among66 : ∀ (n : Nat) (l a : List Opt), a.length ≤ n → shL l → a.length ≤ 40 → run G 66 [.v (.slc 2 (oes l)), .v (.slc 2 (oes a))] [] = some (.v (.bool (amR l a)), []) := by
  intro n
  induction n with
  | zero =>
    intro l a h0 hl hn
    rw [xq_fn G rfl euphroeref21_Among.g _ _ rfl]
    have : a = [] := List.length_eq_zero_iff.1 (by omega)
    subst this
    cases l with
    | nil =>
      have q : ((((oes []).length : Nat) : Int) == 0) = true := rfl
      simp -implicitDefEqProofs only [euphroeref21_Among.s, go_sem, reduceIte, Nat.reduceAdd, Nat.reduceSub, Nat.reduceMul, Nat.reduceLeDiff, Nat.reduceLT, Nat.reduceEqDiff, Int.reduceToNat, Int.reduceLT, Int.reduceLE, Int.reduceEq, Int.reduceNe, Int.reduceAdd, Int.reduceSub, Int.reduceMul, Int.reduceNeg, Int.reduceBEq, Int.reduceBNe, reduceCtorEq, dreduceIte, q, amR]
    | cons x l =>
      have q : ((((oes (x :: l)).length : Nat) : Int) == 0) = false := by rw [oes_len]; exact beq_ne (by simp; omega)
      have e : ex G (.loop [] euphroeref21_Among.l0) [.v (.slc 2 (oes (x :: l))), .v (.slc 2 (oes [])), .v (.bool false), .v (.int .i64 0)] [[]] = some (.exit 0, [.v (.slc 2 (oes (x :: l))), .v (.slc 2 (oes [])), .v (.bool false), .v (.int .i64 0)], [[]]) := by
        have h1 : ¬ (0 : Int) < (((oes []).length : Nat) : Int) := by decide
        rw [xq_loop]
        simp -implicitDefEqProofs only [euphroeref21_Among.l0, go_sem, reduceIte, Nat.reduceAdd, Nat.reduceSub, Nat.reduceMul, Nat.reduceLeDiff, Nat.reduceLT, Nat.reduceEqDiff, Int.reduceToNat, Int.reduceLT, Int.reduceLE, Int.reduceEq, Int.reduceNe, Int.reduceAdd, Int.reduceSub, Int.reduceMul, Int.reduceNeg, Int.reduceBEq, Int.reduceBNe, reduceCtorEq, dreduceIte, h1, lpD]
      simp -implicitDefEqProofs only [euphroeref21_Among.s, go_sem, reduceIte, Nat.reduceAdd, Nat.reduceSub, Nat.reduceMul, Nat.reduceLeDiff, Nat.reduceLT, Nat.reduceEqDiff, Int.reduceToNat, Int.reduceLT, Int.reduceLE, Int.reduceEq, Int.reduceNe, Int.reduceAdd, Int.reduceSub, Int.reduceMul, Int.reduceNeg, Int.reduceBEq, Int.reduceBNe, reduceCtorEq, dreduceIte, q, amR, e]
  | succ n ih =>
    intro l a h0 hl hn
    rw [xq_fn G rfl euphroeref21_Among.g _ _ rfl]
    cases l with
    | nil =>
      have q : ((((oes []).length : Nat) : Int) == 0) = true := rfl
      have e : amR [] a = true := by cases a <;> rfl
      simp -implicitDefEqProofs only [euphroeref21_Among.s, go_sem, reduceIte, Nat.reduceAdd, Nat.reduceSub, Nat.reduceMul, Nat.reduceLeDiff, Nat.reduceLT, Nat.reduceEqDiff, Int.reduceToNat, Int.reduceLT, Int.reduceLE, Int.reduceEq, Int.reduceNe, Int.reduceAdd, Int.reduceSub, Int.reduceMul, Int.reduceNeg, Int.reduceBEq, Int.reduceBNe, reduceCtorEq, dreduceIte, q, e]
    | cons x l =>
      have q : ((((oes (x :: l)).length : Nat) : Int) == 0) = false := by rw [oes_len]; exact beq_ne (by simp; omega)
      have hnl : (oes a).length = a.length := oes_len a
      rcases first_or (fun i => ∃ h : i < a.length, a[i] = x) a.length with h | ⟨j, h1, ⟨h2, h3⟩, h4⟩
      · have h' : ∀ i, i < a.length → ∀ h : i < a.length, a[i] ≠ x := fun i hi h2 h3 => h i hi ⟨h2, h3⟩
        have hR : amR (x :: l) a = false := am_none a x l fun y hy => by
          obtain ⟨i, hi, rfl⟩ := List.mem_iff_getElem.1 hy
          exact h' i hi hi
        have e : ex G (.loop [] euphroeref21_Among.l0) (raE (x :: l) a a.length) [[]] = some (.exit 0, raE (x :: l) a a.length, [[]]) := by
          have h1 : ¬ ((a.length : Nat) : Int) < ((a.length : Nat) : Int) := by omega
          rw [xq_loop]
          simp -implicitDefEqProofs only [euphroeref21_Among.l0, go_sem, reduceIte, Nat.reduceAdd, Nat.reduceSub, Nat.reduceMul, Nat.reduceLeDiff, Nat.reduceLT, Nat.reduceEqDiff, Int.reduceToNat, Int.reduceLT, Int.reduceLE, Int.reduceEq, Int.reduceNe, Int.reduceAdd, Int.reduceSub, Int.reduceMul, Int.reduceNeg, Int.reduceBEq, Int.reduceBNe, reduceCtorEq, dreduceIte, hnl, h1, lpD]
        have L : ex G (.loop [] euphroeref21_Among.l0) [.v (.slc 2 (oes (x :: l))), .v (.slc 2 (oes a)), .v (.bool false), .v (.int .i64 0)] [[]] = _ := (lp0 (raE (x :: l) a) a.length (fun i hi => ra_step x l a hl hn i hi (h' i hi hi))).trans e
        simp -implicitDefEqProofs only [euphroeref21_Among.s, go_sem, reduceIte, Nat.reduceAdd, Nat.reduceSub, Nat.reduceMul, Nat.reduceLeDiff, Nat.reduceLT, Nat.reduceEqDiff, Int.reduceToNat, Int.reduceLT, Int.reduceLE, Int.reduceEq, Int.reduceNe, Int.reduceAdd, Int.reduceSub, Int.reduceMul, Int.reduceNeg, Int.reduceBEq, Int.reduceBNe, reduceCtorEq, dreduceIte, q, L, hR]
      · have h' : ∀ i, i < j → ∀ h : i < a.length, a[i] ≠ x := fun i hi h2 h3 => h4 i hi ⟨h2, h3⟩
        have hR := am_at a x l j h1 h3 h'
        have hI := ih l (a.drop (j + 1)) (by rw [List.length_drop]; omega) (fun o ho => hl o (by simp [ho])) (by rw [List.length_drop]; omega)
        have e : ex G (.loop [] euphroeref21_Among.l0) (raE (x :: l) a j) [[]] = some (.ret, [.v (.slc 2 (oes (x :: l))), .v (.slc 2 (oes a)), .v (.bool (amR l (a.drop (j + 1)))), .v (.int .i64 j)], [[]]) := by
          have q1 : (j : Int) < ((a.length : Nat) : Int) := by omega
          have q0 : (0 : Int) ≤ j := by omega
          have w := inc (i := j) (by have : M = 100000 := rfl; omega)
          have hx := oes_at (List.getElem?_eq_getElem h2)
          have q3 : (0 : Int) < (((oes (x :: l)).length : Nat) : Int) := by rw [oes_len]; simp
          have q4 : (1 : Int) ≤ (((oes (x :: l)).length : Nat) : Int) := by omega
          have q5 : (0 : Int) ≤ ((j + 1 : Nat) : Int) := by omega
          have q6 : ((j + 1 : Nat) : Int) ≤ ((a.length : Nat) : Int) := by omega
          have hf0 : (oes (x :: l))[0]? = some (oe x) := rfl
          have ht : List.take (oes (x :: l)).length (oes (x :: l)) = oes (x :: l) := List.take_length
          have hta : List.take a.length (oes a) = oes a := by rw [← oes_len, List.take_length]
          have hd : List.drop 1 (oes (x :: l)) = oes l := rfl
          have hs := one99 x a[j] (by have : M = 100000 := rfl; have := hl x (by simp); omega)
          rw [h3, beq_self_eq_true] at hs
          rw [h3] at hx
          rw [xq_loop]
          simp -implicitDefEqProofs only [euphroeref21_Among.l0, go_sem, reduceIte, Nat.reduceAdd, Nat.reduceSub, Nat.reduceMul, Nat.reduceLeDiff, Nat.reduceLT, Nat.reduceEqDiff, Int.reduceToNat, Int.reduceLT, Int.reduceLE, Int.reduceEq, Int.reduceNe, Int.reduceAdd, Int.reduceSub, Int.reduceMul, Int.reduceNeg, Int.reduceBEq, Int.reduceBNe, reduceCtorEq, dreduceIte, hnl, q0, q1, q3, q4, q5, q6, hf0, ht, hta, hd, hs, oes_drop, hI, Int.toNat_natCast, hx, w, lpD]
        have L : ex G (.loop [] euphroeref21_Among.l0) [.v (.slc 2 (oes (x :: l))), .v (.slc 2 (oes a)), .v (.bool false), .v (.int .i64 0)] [[]] = _ := (lp0 (raE (x :: l) a) j (fun i hi => ra_step x l a hl hn i (by omega) (h' i hi (by omega)))).trans e
        simp -implicitDefEqProofs only [euphroeref21_Among.s, go_sem, reduceIte, Nat.reduceAdd, Nat.reduceSub, Nat.reduceMul, Nat.reduceLeDiff, Nat.reduceLT, Nat.reduceEqDiff, Int.reduceToNat, Int.reduceLT, Int.reduceLE, Int.reduceEq, Int.reduceNe, Int.reduceAdd, Int.reduceSub, Int.reduceMul, Int.reduceNeg, Int.reduceBEq, Int.reduceBNe, reduceCtorEq, dreduceIte, q, L, hR]

/-! ### IndexFunc, Find -/
abbrev ck : D := .ptr ⟨0, 0⟩ 0 0
theorem del98 (o : Opt) (k : Int) (st : St) (h1 : getB st ⟨0, 0⟩ = some (.row [.v (.int .u8 k)])) (h0 : ¬ 0 = st.length) : run G 98 [od o, ck] st = some (.v (.bool (o.1 == k)), st) := by
  rw [xq_fn G rfl opts_Find_1.g _ _ rfl]
  simp -implicitDefEqProofs only [opts_Find_1.s, go_sem, reduceIte, Nat.reduceAdd, Nat.reduceSub, Nat.reduceMul, Nat.reduceLeDiff, Nat.reduceLT, Nat.reduceEqDiff, Int.reduceToNat, Int.reduceLT, Int.reduceLE, Int.reduceEq, Int.reduceNe, Int.reduceAdd, Int.reduceSub, Int.reduceMul, Int.reduceNeg, Int.reduceBEq, Int.reduceBNe, reduceCtorEq, dreduceIte, h1, h0]
theorem del102 (o : Opt) (k : Int) (st : St) (h1 : getB st ⟨0, 0⟩ = some (.row [.v (.int .u8 k)])) (h0 : ¬ 0 = st.length) : run G 102 [od o, ck] st = some (.v (.bool (o.1 == k)), st) := by
  rw [xq_fn G rfl opts_Without_1.g _ _ rfl]
  simp -implicitDefEqProofs only [opts_Without_1.s, go_sem, reduceIte, Nat.reduceAdd, Nat.reduceSub, Nat.reduceMul, Nat.reduceLeDiff, Nat.reduceLT, Nat.reduceEqDiff, Int.reduceToNat, Int.reduceLT, Int.reduceLE, Int.reduceEq, Int.reduceNe, Int.reduceAdd, Int.reduceSub, Int.reduceMul, Int.reduceNeg, Int.reduceBEq, Int.reduceBNe, reduceCtorEq, dreduceIte, h1, h0]
abbrev ixE (s : D) (f : Nat) (n : Nat) (i : Nat) : List D := [s, .clo f [] [ck], .v (.int .i64 0), .v (.int .i64 n), .v (.int .i64 i), .undef]
abbrev IsDel (f : Nat) (k : Int) : Prop := ∀ (o : Opt) (st : St), getB st ⟨0, 0⟩ = some (.row [.v (.int .u8 k)]) → ¬ 0 = st.length → run G f [od o, ck] st = some (.v (.bool (o.1 == k)), st)
theorem ix_step (l : List Opt) (k : Int) (f : Nat) (hf : IsDel f k) (st : St) (h1 : getB st ⟨0, 0⟩ = some (.row [.v (.int .u8 k)])) (h0 : ¬ 0 = st.length) (hn : l.length ≤ 40) (i : Nat) (hi : i < l.length) (h : (l[i]).1 ≠ k) :
    ex G (.loop [5] slices_IndexFunc_api_Option.l0) (ixE (.v (.slc 2 (oes l))) f l.length i) ([] :: st) = ex G (.loop [5] slices_IndexFunc_api_Option.l0) (ixE (.v (.slc 2 (oes l))) f l.length (i + 1)) ([] :: st) := by
  have q8 : 0 < st.length + 1 + 1 - 1 := by omega
  have q1 : (i : Int) < ((l.length : Nat) : Int) := by omega
  have q0 : (0 : Int) ≤ i := by omega
  have w := inc (i := i) (by have : M = 100000 := rfl; omega)
  have hx := oes_at (List.getElem?_eq_getElem hi)
  have hd := hf l[i] ([] :: [] :: st) (by simp only [getB, List.length_cons]; rw [if_neg (by omega), if_neg h0]; exact h1) (by simp)
  rw [beq_ne h] at hd
  rw [xq_loop]
  simp -implicitDefEqProofs only [slices_IndexFunc_api_Option.l0, go_sem, reduceIte, Nat.reduceAdd, Nat.reduceSub, Nat.reduceMul, Nat.reduceLeDiff, Nat.reduceLT, Nat.reduceEqDiff, Int.reduceToNat, Int.reduceLT, Int.reduceLE, Int.reduceEq, Int.reduceNe, Int.reduceAdd, Int.reduceSub, Int.reduceMul, Int.reduceNeg, Int.reduceBEq, Int.reduceBNe, reduceCtorEq, dreduceIte, oes_len, q0, q1, Int.toNat_natCast, hx, hd, w, q8, lpD]
theorem ix_none (l : List Opt) (k : Int) (f : Nat) (hf : IsDel f k) (st : St) (h1 : getB st ⟨0, 0⟩ = some (.row [.v (.int .u8 k)])) (h0 : ¬ 0 = st.length) (hn : l.length ≤ 40) (h : ∀ i, i < l.length → ∀ h : i < l.length, (l[i]).1 ≠ k) :
    run G 97 [.v (.slc 2 (oes l)), .clo f [] [ck]] st = some (.v (.int .i64 (-1)), st) := by
  rw [xq_fn G rfl slices_IndexFunc_api_Option.g _ _ rfl]
  have q8 : 0 < st.length + 1 + 1 - 1 := by omega
  have e : ex G (.loop [5] slices_IndexFunc_api_Option.l0) (ixE (.v (.slc 2 (oes l))) f l.length l.length) ([] :: st) = some (.exit 0, ixE (.v (.slc 2 (oes l))) f l.length l.length, [] :: st) := by
    have h1 : ¬ ((l.length : Nat) : Int) < ((l.length : Nat) : Int) := by omega
    rw [xq_loop]
    simp -implicitDefEqProofs only [slices_IndexFunc_api_Option.l0, go_sem, reduceIte, Nat.reduceAdd, Nat.reduceSub, Nat.reduceMul, Nat.reduceLeDiff, Nat.reduceLT, Nat.reduceEqDiff, Int.reduceToNat, Int.reduceLT, Int.reduceLE, Int.reduceEq, Int.reduceNe, Int.reduceAdd, Int.reduceSub, Int.reduceMul, Int.reduceNeg, Int.reduceBEq, Int.reduceBNe, reduceCtorEq, dreduceIte, h1, q8, lpD]
  have L : ex G (.loop [5] slices_IndexFunc_api_Option.l0) [.v (.slc 2 (oes l)), .clo f [] [ck], .v (.int .i64 0), .v (.int .i64 l.length), .v (.int .i64 0), .undef] ([] :: st) = _ := (lp0 (ixE (.v (.slc 2 (oes l))) f l.length) l.length (fun i hi => ix_step l k f hf st h1 h0 hn i hi (h i hi hi))).trans e
  simp -implicitDefEqProofs only [slices_IndexFunc_api_Option.s, go_sem, reduceIte, Nat.reduceAdd, Nat.reduceSub, Nat.reduceMul, Nat.reduceLeDiff, Nat.reduceLT, Nat.reduceEqDiff, Int.reduceToNat, Int.reduceLT, Int.reduceLE, Int.reduceEq, Int.reduceNe, Int.reduceAdd, Int.reduceSub, Int.reduceMul, Int.reduceNeg, Int.reduceBEq, Int.reduceBNe, reduceCtorEq, dreduceIte, oes_len, L]
theorem ix_some (l : List Opt) (k : Int) (f : Nat) (hf : IsDel f k) (st : St) (h1 : getB st ⟨0, 0⟩ = some (.row [.v (.int .u8 k)])) (h0 : ¬ 0 = st.length) (hn : l.length ≤ 40) (j : Nat) (hj : j < l.length) (h3 : (l[j]).1 = k) (h : ∀ i, i < j → ∀ h : i < l.length, (l[i]).1 ≠ k) :
    run G 97 [.v (.slc 2 (oes l)), .clo f [] [ck]] st = some (.v (.int .i64 j), st) := by
  rw [xq_fn G rfl slices_IndexFunc_api_Option.g _ _ rfl]
  have q8 : 0 < st.length + 1 + 1 - 1 := by omega
  have e : ex G (.loop [5] slices_IndexFunc_api_Option.l0) (ixE (.v (.slc 2 (oes l))) f l.length j) ([] :: st) = some (.ret, [.v (.slc 2 (oes l)), .clo f [] [ck], .v (.int .i64 j), .v (.int .i64 l.length), .v (.int .i64 j), .undef], [] :: st) := by
    have q1 : (j : Int) < ((l.length : Nat) : Int) := by omega
    have q0 : (0 : Int) ≤ j := by omega
    have hx := oes_at (List.getElem?_eq_getElem hj)
    have hd := hf l[j] ([] :: [] :: st) (by simp only [getB, List.length_cons]; rw [if_neg (by omega), if_neg h0]; exact h1) (by simp)
    have c1 : ((l[j]).1 == k) = true := by simp [h3]
    rw [c1] at hd
    rw [xq_loop]
    simp -implicitDefEqProofs only [slices_IndexFunc_api_Option.l0, go_sem, reduceIte, Nat.reduceAdd, Nat.reduceSub, Nat.reduceMul, Nat.reduceLeDiff, Nat.reduceLT, Nat.reduceEqDiff, Int.reduceToNat, Int.reduceLT, Int.reduceLE, Int.reduceEq, Int.reduceNe, Int.reduceAdd, Int.reduceSub, Int.reduceMul, Int.reduceNeg, Int.reduceBEq, Int.reduceBNe, reduceCtorEq, dreduceIte, oes_len, q0, q1, Int.toNat_natCast, hx, hd, q8, lpD]
  have L : ex G (.loop [5] slices_IndexFunc_api_Option.l0) [.v (.slc 2 (oes l)), .clo f [] [ck], .v (.int .i64 0), .v (.int .i64 l.length), .v (.int .i64 0), .undef] ([] :: st) = _ := (lp0 (ixE (.v (.slc 2 (oes l))) f l.length) j (fun i hi => ix_step l k f hf st h1 h0 hn i (by omega) (h i hi (by omega)))).trans e
  simp -implicitDefEqProofs only [slices_IndexFunc_api_Option.s, go_sem, reduceIte, Nat.reduceAdd, Nat.reduceSub, Nat.reduceMul, Nat.reduceLeDiff, Nat.reduceLT, Nat.reduceEqDiff, Int.reduceToNat, Int.reduceLT, Int.reduceLE, Int.reduceEq, Int.reduceNe, Int.reduceAdd, Int.reduceSub, Int.reduceMul, Int.reduceNeg, Int.reduceBEq, Int.reduceBNe, reduceCtorEq, dreduceIte, oes_len, L]
theorem find59 (l : List Opt) (k : Int) (hn : l.length ≤ 40) : run G 59 [.v (.slc 2 (oes l)), .v (.int .u8 k)] [] = some (.tup [od (fdR l k).1, .v (.bool (fdR l k).2)], []) := by
  rw [xq_fn G rfl opts_Find.g _ _ rfl]
  rcases first_or (fun i => ∃ h : i < l.length, (l[i]).1 = k) l.length with h | ⟨j, h1, ⟨h2, h3⟩, h4⟩
  · have h' : ∀ i, i < l.length → ∀ h : i < l.length, (l[i]).1 ≠ k := fun i hi h2 h3 => h i hi ⟨h2, h3⟩
    have hR : fdR l k = (noO, false) := by rw [fdR, find_not h']
    have hi := ix_none l k 98 (fun o st => del98 o k st) [[.row [.v (.int .u8 k)], .row [noD]]] rfl (by simp) hn h'
    simp -implicitDefEqProofs only [opts_Find.s, go_sem, reduceIte, Nat.reduceAdd, Nat.reduceSub, Nat.reduceMul, Nat.reduceLeDiff, Nat.reduceLT, Nat.reduceEqDiff, Int.reduceToNat, Int.reduceLT, Int.reduceLE, Int.reduceEq, Int.reduceNe, Int.reduceAdd, Int.reduceSub, Int.reduceMul, Int.reduceNeg, Int.reduceBEq, Int.reduceBNe, reduceCtorEq, dreduceIte, mkfD, hi, hR]
    rfl
  · have h' : ∀ i, i < j → ∀ h : i < l.length, (l[i]).1 ≠ k := fun i hi h2 h3 => h4 i hi ⟨h2, h3⟩
    have hR : fdR l k = (l[j], true) := by rw [fdR, find_first h1 h3 h']
    have hi := ix_some l k 98 (fun o st => del98 o k st) [[.row [.v (.int .u8 k)], .row [noD]]] rfl (by simp) hn j h1 h3 h'
    have q0 : ¬ (j : Int) < 0 := by omega
    have q1 : (j : Int) < ((l.length : Nat) : Int) := by omega
    have q2 : (0 : Int) ≤ j := by omega
    have hx := oes_at (List.getElem?_eq_getElem h2)
    simp -implicitDefEqProofs only [opts_Find.s, go_sem, reduceIte, Nat.reduceAdd, Nat.reduceSub, Nat.reduceMul, Nat.reduceLeDiff, Nat.reduceLT, Nat.reduceEqDiff, Int.reduceToNat, Int.reduceLT, Int.reduceLE, Int.reduceEq, Int.reduceNe, Int.reduceAdd, Int.reduceSub, Int.reduceMul, Int.reduceNeg, Int.reduceBEq, Int.reduceBNe, reduceCtorEq, dreduceIte, mkfD, hi, hR, q0, q1, q2, oes_len, hx, Int.toNat_natCast]

/-! ### Without -/
theorem szs_oes : ∀ (l : List Opt), szs 2 (oes l) = true
  | [] => rfl
  | p :: l => by
    have := szs_oes l
    simp only [oes] at this
    simp only [oes, List.map_cons, szs, cellsV, List.length_cons, List.length_nil, this]
    rfl
theorem oes_eqn (l : List Opt) (h : l ≠ []) : eqD .s (.v (.slc 2 (oes l))) (.nils 2) = some false := by
  cases l with
  | nil => exact absurd rfl h
  | cons p l => rfl
theorem oes_isNil (l : List Opt) (h : l ≠ []) : isNilV (some (.slc 2 (oes l))) = false := by
  cases l with
  | nil => exact absurd rfl h
  | cons p l => rfl
theorem clone101 (l : List Opt) (h0 : l ≠ []) (hn : l.length ≤ 40) (fr : List Blk) (st : St) :
    run G 101 [.v (.slc 2 (oes l))] (fr :: st) = some (.own ⟨st.length, fr.length⟩ 2 0 l.length false, (fr ++ [.row ((oes l).map .v)]) :: st) := by
  rw [xq_fn G rfl slices_Clone_api_Option.g _ _ rfl]
  have h2 : (oes l).length * 32 ≤ maxB := by
    have := hmax
    rw [oes_len]; omega
  have h4 : (oes l).length ≠ 0 := by rw [oes_len]; intro e; exact h0 (List.length_eq_zero_iff.1 e)
  have h5 : cloneD 1 2 32 [.v (.slc 2 (oes l)), .nils 2] ([] :: fr :: st) (oes l) = some (.normal, [.v (.slc 2 (oes l)), .own ⟨st.length, fr.length⟩ 2 0 (oes l).length false], [] :: (fr ++ [.row ((oes l).map .v)]) :: st) := by
    unfold cloneD
    rw [if_pos ⟨h4, h2, szs_oes l⟩]
    rfl
  have h6 : st.length < st.length + 1 := by omega
  simp -implicitDefEqProofs only [slices_Clone_api_Option.s, go_sem, reduceIte, Nat.reduceAdd, Nat.reduceSub, Nat.reduceMul, Nat.reduceLeDiff, Nat.reduceLT, Nat.reduceEqDiff, Int.reduceToNat, Int.reduceLT, Int.reduceLE, Int.reduceEq, Int.reduceNe, Int.reduceAdd, Int.reduceSub, Int.reduceMul, Int.reduceNeg, Int.reduceBEq, Int.reduceBNe, reduceCtorEq, dreduceIte, h5, h6, oes_eqn l h0, oes_isNil l h0, oes_len, slcOf]
theorem clone101n (st : St) : run G 101 [.v (.slc 2 (oes []))] st = some (.v (.slc 2 []), st) := by
  rw [xq_fn G rfl slices_Clone_api_Option.g _ _ rfl]
  have h : isNilV (some (.slc 2 (oes []))) = true := rfl
  simp -implicitDefEqProofs only [slices_Clone_api_Option.s, go_sem, reduceIte, Nat.reduceAdd, Nat.reduceSub, Nat.reduceMul, Nat.reduceLeDiff, Nat.reduceLT, Nat.reduceEqDiff, Int.reduceToNat, Int.reduceLT, Int.reduceLE, Int.reduceEq, Int.reduceNe, Int.reduceAdd, Int.reduceSub, Int.reduceMul, Int.reduceNeg, Int.reduceBEq, Int.reduceBNe, reduceCtorEq, dreduceIte, h]
abbrev dS (k : Int) (c : List Opt) : St := [[.row [.v (.int .u8 k)], .row ((oes c).map .v)]]
theorem row_at {l : List Opt} {i : Nat} {x : Opt} (h : l[i]? = some x) : ((oes l).map D.v)[i]? = some (.v (oe x)) := by rw [List.getElem?_map, oes_at h]; rfl
abbrev ow (n : Nat) : D := .own ⟨0, 1⟩ 2 0 n false
theorem ixo_step (l : List Opt) (k : Int) (hn : l.length ≤ 40) (i : Nat) (hi : i < l.length) (h : (l[i]).1 ≠ k) :
    ex G (.loop [5] slices_IndexFunc_api_Option.l0) (ixE (ow l.length) 102 l.length i) ([] :: [] :: dS k l) = ex G (.loop [5] slices_IndexFunc_api_Option.l0) (ixE (ow l.length) 102 l.length (i + 1)) ([] :: [] :: dS k l) := by
  have q1 : (i : Int) < ((l.length : Nat) : Int) := by omega
  have q0 : (0 : Int) ≤ i := by omega
  have w := inc (i := i) (by have : M = 100000 := rfl; omega)
  have hx := row_at (List.getElem?_eq_getElem hi)
  have hd := del102 l[i] k ([] :: [] :: [] :: dS k l) rfl (by simp)
  rw [beq_ne h] at hd
  rw [xq_loop]
  simp -implicitDefEqProofs only [slices_IndexFunc_api_Option.l0, go_sem, reduceIte, Nat.reduceAdd, Nat.reduceSub, Nat.reduceMul, Nat.reduceLeDiff, Nat.reduceLT, Nat.reduceEqDiff, Int.reduceToNat, Int.reduceLT, Int.reduceLE, Int.reduceEq, Int.reduceNe, Int.reduceAdd, Int.reduceSub, Int.reduceMul, Int.reduceNeg, Int.reduceBEq, Int.reduceBNe, reduceCtorEq, dreduceIte, oes_len, q0, q1, Int.toNat_natCast, Nat.zero_add, hx, hd, w, lpD]
theorem ixo_none (l : List Opt) (k : Int) (hn : l.length ≤ 40) (h : ∀ i, i < l.length → ∀ h : i < l.length, (l[i]).1 ≠ k) :
    run G 97 [ow l.length, .clo 102 [] [ck]] ([] :: dS k l) = some (.v (.int .i64 (-1)), [] :: dS k l) := by
  rw [xq_fn G rfl slices_IndexFunc_api_Option.g _ _ rfl]
  have e : ex G (.loop [5] slices_IndexFunc_api_Option.l0) (ixE (ow l.length) 102 l.length l.length) ([] :: [] :: dS k l) = some (.exit 0, ixE (ow l.length) 102 l.length l.length, [] :: [] :: dS k l) := by
    have h1 : ¬ ((l.length : Nat) : Int) < ((l.length : Nat) : Int) := by omega
    rw [xq_loop]
    simp -implicitDefEqProofs only [slices_IndexFunc_api_Option.l0, go_sem, reduceIte, Nat.reduceAdd, Nat.reduceSub, Nat.reduceMul, Nat.reduceLeDiff, Nat.reduceLT, Nat.reduceEqDiff, Int.reduceToNat, Int.reduceLT, Int.reduceLE, Int.reduceEq, Int.reduceNe, Int.reduceAdd, Int.reduceSub, Int.reduceMul, Int.reduceNeg, Int.reduceBEq, Int.reduceBNe, reduceCtorEq, dreduceIte, h1, lpD]
  have L : ex G (.loop [5] slices_IndexFunc_api_Option.l0) [ow l.length, .clo 102 [] [ck], .v (.int .i64 0), .v (.int .i64 l.length), .v (.int .i64 0), .undef] ([] :: [] :: dS k l) = _ := (lp0 (ixE (ow l.length) 102 l.length) l.length (fun i hi => ixo_step l k hn i hi (h i hi hi))).trans e
  simp -implicitDefEqProofs only [slices_IndexFunc_api_Option.s, go_sem, reduceIte, Nat.reduceAdd, Nat.reduceSub, Nat.reduceMul, Nat.reduceLeDiff, Nat.reduceLT, Nat.reduceEqDiff, Int.reduceToNat, Int.reduceLT, Int.reduceLE, Int.reduceEq, Int.reduceNe, Int.reduceAdd, Int.reduceSub, Int.reduceMul, Int.reduceNeg, Int.reduceBEq, Int.reduceBNe, reduceCtorEq, dreduceIte, oes_len, L]
theorem ixo_some (l : List Opt) (k : Int) (hn : l.length ≤ 40) (j : Nat) (hj : j < l.length) (h3 : (l[j]).1 = k) (h : ∀ i, i < j → ∀ h : i < l.length, (l[i]).1 ≠ k) :
    run G 97 [ow l.length, .clo 102 [] [ck]] ([] :: dS k l) = some (.v (.int .i64 j), [] :: dS k l) := by
  rw [xq_fn G rfl slices_IndexFunc_api_Option.g _ _ rfl]
  have e : ex G (.loop [5] slices_IndexFunc_api_Option.l0) (ixE (ow l.length) 102 l.length j) ([] :: [] :: dS k l) = some (.ret, [ow l.length, .clo 102 [] [ck], .v (.int .i64 j), .v (.int .i64 l.length), .v (.int .i64 j), .undef], [] :: [] :: dS k l) := by
    have q1 : (j : Int) < ((l.length : Nat) : Int) := by omega
    have q0 : (0 : Int) ≤ j := by omega
    have hx := row_at (List.getElem?_eq_getElem hj)
    have hd := del102 l[j] k ([] :: [] :: [] :: dS k l) rfl (by simp)
    have c1 : ((l[j]).1 == k) = true := by simp [h3]
    rw [c1] at hd
    rw [xq_loop]
    simp -implicitDefEqProofs only [slices_IndexFunc_api_Option.l0, go_sem, reduceIte, Nat.reduceAdd, Nat.reduceSub, Nat.reduceMul, Nat.reduceLeDiff, Nat.reduceLT, Nat.reduceEqDiff, Int.reduceToNat, Int.reduceLT, Int.reduceLE, Int.reduceEq, Int.reduceNe, Int.reduceAdd, Int.reduceSub, Int.reduceMul, Int.reduceNeg, Int.reduceBEq, Int.reduceBNe, reduceCtorEq, dreduceIte, oes_len, q0, q1, Int.toNat_natCast, Nat.zero_add, hx, hd, lpD]
  have L : ex G (.loop [5] slices_IndexFunc_api_Option.l0) [ow l.length, .clo 102 [] [ck], .v (.int .i64 0), .v (.int .i64 l.length), .v (.int .i64 0), .undef] ([] :: [] :: dS k l) = _ := (lp0 (ixE (ow l.length) 102 l.length) j (fun i hi => ixo_step l k hn i (by omega) (h i hi (by omega)))).trans e
  simp -implicitDefEqProofs only [slices_IndexFunc_api_Option.s, go_sem, reduceIte, Nat.reduceAdd, Nat.reduceSub, Nat.reduceMul, Nat.reduceLeDiff, Nat.reduceLT, Nat.reduceEqDiff, Int.reduceToNat, Int.reduceLT, Int.reduceLE, Int.reduceEq, Int.reduceNe, Int.reduceAdd, Int.reduceSub, Int.reduceMul, Int.reduceNeg, Int.reduceBEq, Int.reduceBNe, reduceCtorEq, dreduceIte, oes_len, L]
/-! ### DeleteFunc -/
abbrev dlE (n i j : Nat) : List D := [ow n, .clo 102 [] [ck], .nils 2, .v (.int .i64 i), .v (.int .i64 j), .undef]
theorem row_set (c : List Opt) (i : Nat) (x : Opt) : ((oes c).map D.v).set i (.v (oe x)) = (oes (c.set i x)).map D.v := by simp [oes, List.map_set]
theorem dl_skip (c : List Opt) (k : Int) (hn : c.length ≤ 40) (i j : Nat) (hj : j < c.length) (h : (c[j]).1 = k) :
    ex G (.loop [5] slices_DeleteFunc_api_Option.l0) (dlE c.length i j) ([] :: dS k c) = ex G (.loop [5] slices_DeleteFunc_api_Option.l0) (dlE c.length i (j + 1)) ([] :: dS k c) := by
  have q1 : (j : Int) < ((c.length : Nat) : Int) := by omega
  have q0 : (0 : Int) ≤ j := by omega
  have w := inc (i := j) (by have : M = 100000 := rfl; omega)
  have hx := row_at (List.getElem?_eq_getElem hj)
  have hd := del102 c[j] k ([.row [od c[j]]] :: [] :: dS k c) rfl (by simp)
  have c1 : ((c[j]).1 == k) = true := by simp [h]
  rw [c1] at hd
  rw [xq_loop]
  simp -implicitDefEqProofs only [slices_DeleteFunc_api_Option.l0, go_sem, reduceIte, Nat.reduceAdd, Nat.reduceSub, Nat.reduceMul, Nat.reduceLeDiff, Nat.reduceLT, Nat.reduceEqDiff, Int.reduceToNat, Int.reduceLT, Int.reduceLE, Int.reduceEq, Int.reduceNe, Int.reduceAdd, Int.reduceSub, Int.reduceMul, Int.reduceNeg, Int.reduceBEq, Int.reduceBNe, reduceCtorEq, dreduceIte, oes_len, q0, q1, Int.toNat_natCast, Nat.zero_add, hx, hd, w, lpD]
theorem dl_move (c : List Opt) (k : Int) (hn : c.length ≤ 40) (i j : Nat) (hij : i ≤ j) (hj : j < c.length) (h : (c[j]).1 ≠ k) :
    ex G (.loop [5] slices_DeleteFunc_api_Option.l0) (dlE c.length i j) ([] :: dS k c) = ex G (.loop [5] slices_DeleteFunc_api_Option.l0) (dlE c.length (i + 1) (j + 1)) ([] :: dS k (c.set i c[j])) := by
  have q1 : (j : Int) < ((c.length : Nat) : Int) := by omega
  have q0 : (0 : Int) ≤ j := by omega
  have q3 : (i : Int) < ((c.length : Nat) : Int) := by omega
  have q4 : (0 : Int) ≤ i := by omega
  have w := inc (i := j) (by have : M = 100000 := rfl; omega)
  have w2 := inc (i := i) (by have : M = 100000 := rfl; omega)
  have hx := row_at (List.getElem?_eq_getElem hj)
  have hy := row_at (List.getElem?_eq_getElem (l := c) (i := i) (by omega))
  have hd := del102 c[j] k ([.row [od c[j]]] :: [] :: dS k c) rfl (by simp)
  rw [beq_ne h] at hd
  have hs := row_set c i c[j]
  rw [xq_loop]
  simp -implicitDefEqProofs only [slices_DeleteFunc_api_Option.l0, go_sem, reduceIte, Nat.reduceAdd, Nat.reduceSub, Nat.reduceMul, Nat.reduceLeDiff, Nat.reduceLT, Nat.reduceEqDiff, Int.reduceToNat, Int.reduceLT, Int.reduceLE, Int.reduceEq, Int.reduceNe, Int.reduceAdd, Int.reduceSub, Int.reduceMul, Int.reduceNeg, Int.reduceBEq, Int.reduceBNe, reduceCtorEq, dreduceIte, oes_len, q0, q1, q3, q4, Int.toNat_natCast, Nat.zero_add, hx, hy, hd, hs, w, w2, lpD]

theorem dl_run (l : List Opt) (k : Int) (hn : l.length ≤ 40) : ∀ (m : Nat) (c : List Opt) (i j : Nat), j + m = l.length → c.length = l.length → i ≤ j → c.take i = woR (l.take j) k → c.drop j = l.drop j →
    ∃ c' i', ex G (.loop [5] slices_DeleteFunc_api_Option.l0) (dlE l.length i j) ([] :: dS k c) = some (.exit 0, dlE l.length i' l.length, [] :: dS k c') ∧ c'.length = l.length ∧ i' ≤ l.length ∧ c'.take i' = woR l k := by
  intro m
  induction m with
  | zero =>
    intro c i j hm hc hij h1 h2
    have : j = l.length := by omega
    subst this
    refine ⟨c, i, ?_, hc, hij, by rw [h1, List.take_length]⟩
    have h1 : ¬ ((l.length : Nat) : Int) < ((l.length : Nat) : Int) := by omega
    rw [xq_loop]
    simp -implicitDefEqProofs only [slices_DeleteFunc_api_Option.l0, go_sem, reduceIte, Nat.reduceAdd, Nat.reduceSub, Nat.reduceMul, Nat.reduceLeDiff, Nat.reduceLT, Nat.reduceEqDiff, Int.reduceToNat, Int.reduceLT, Int.reduceLE, Int.reduceEq, Int.reduceNe, Int.reduceAdd, Int.reduceSub, Int.reduceMul, Int.reduceNeg, Int.reduceBEq, Int.reduceBNe, reduceCtorEq, dreduceIte, h1, lpD]
  | succ m ih =>
    intro c i j hm hc hij h1 h2
    have hj : j < c.length := by omega
    have hx : c[j] = l[j] := by
      have := congrArg (·[0]?) h2
      simp only [List.getElem?_drop, Nat.add_zero] at this
      rw [List.getElem?_eq_getElem hj, List.getElem?_eq_getElem (by omega)] at this
      exact Option.some.inj this
    have h2' : c.drop (j + 1) = l.drop (j + 1) := by rw [← List.drop_drop, ← List.drop_drop, h2]
    have hs := wo_succ (l := l) (i := j) k (by omega)
    by_cases q : (c[j]).1 = k
    · obtain ⟨c', i', k1, k2⟩ := ih c i (j + 1) (by omega) hc (by omega) (by rw [hs, if_pos (by rw [← hx]; exact q), List.append_nil, h1]) h2'
      refine ⟨c', i', ?_, k2⟩
      have := dl_skip c k (by omega) i j hj q
      rw [hc] at this
      rw [this, k1]
    · obtain ⟨c', i', k1, k2⟩ := ih (c.set i c[j]) (i + 1) (j + 1) (by omega) (by rw [List.length_set, hc]) (by omega)
        (by
          rw [hs, if_neg (by rw [← hx]; exact q), ← hx, ← h1, take_succ (by rw [List.length_set]; omega), List.getElem_set_self]
          rw [List.take_set, List.set_eq_of_length_le (by rw [List.length_take]; omega)])
        (by rw [List.drop_set_of_lt (by omega)]; exact h2')
      refine ⟨c', i', ?_, k2⟩
      have := dl_move c k (by omega) i j hij hj q
      rw [hc] at this
      rw [this, k1]
theorem toVL_oes : ∀ (l : List Opt), toVL ((oes l).map .v) = some (oes l)
  | [] => rfl
  | x :: l => by
    have := toVL_oes l
    simp only [oes] at this
    simp only [oes, List.map_cons, toVL, toV, Option.bind_some, this, Option.map_some]
theorem row_rd (rw_ : List D) (c : List Opt) (i : Nat) (hi : i ≤ c.length) (hl : i ≤ rw_.length) (h : rw_.take i = ((oes c).map D.v).take i) : rowV 2 0 i (some (.row rw_)) = some (.slc 2 (oes (c.take i))) := by
  simp only [rowV, Nat.zero_add]
  rw [if_pos hl, List.drop_zero, h, ← List.map_take, oes_take, toVL_oes]; rfl
theorem delete100 (l : List Opt) (k : Int) (h0 : l ≠ []) (hn : l.length ≤ 40) : ∃ (rw_ : List D) (i : Nat), run G 100 [ow l.length, .clo 102 [] [ck]] (dS k l) = some (.own ⟨0, 1⟩ 2 0 i false, [[.row [.v (.int .u8 k)], .row rw_]]) ∧ rowV 2 0 i (some (.row rw_)) = some (.slc 2 (oes (woR l k))) := by
  rw [xq_fn G rfl slices_DeleteFunc_api_Option.g _ _ rfl]
  rcases first_or (fun i => ∃ h : i < l.length, (l[i]).1 = k) l.length with h | ⟨j, h1, ⟨h2, h3⟩, h4⟩
  · have h' : ∀ i, i < l.length → ∀ h : i < l.length, (l[i]).1 ≠ k := fun i hi h2 h3 => h i hi ⟨h2, h3⟩
    have hi := ixo_none l k hn h'
    have hR : woR l k = l := by
      rw [woR, List.filter_eq_self]
      intro o ho
      obtain ⟨i, hi, rfl⟩ := List.mem_iff_getElem.1 ho
      exact bne_ne (h' i hi hi)
    refine ⟨(oes l).map .v, l.length, ?_, by rw [hR]; have := row_rd ((oes l).map .v) l l.length (Nat.le_refl _) (by rw [List.length_map, oes_len]; exact Nat.le_refl _) rfl; rwa [List.take_length] at this⟩
    simp -implicitDefEqProofs only [slices_DeleteFunc_api_Option.s, go_sem, reduceIte, Nat.reduceAdd, Nat.reduceSub, Nat.reduceMul, Nat.reduceLeDiff, Nat.reduceLT, Nat.reduceEqDiff, Int.reduceToNat, Int.reduceLT, Int.reduceLE, Int.reduceEq, Int.reduceNe, Int.reduceAdd, Int.reduceSub, Int.reduceMul, Int.reduceNeg, Int.reduceBEq, Int.reduceBNe, reduceCtorEq, dreduceIte, hi]
  · have h' : ∀ i, i < j → ∀ h : i < l.length, (l[i]).1 ≠ k := fun i hi h2 h3 => h4 i hi ⟨h2, h3⟩
    have hi := ixo_some l k hn j h1 h3 h'
    have hw := inc (i := j) (by have : M = 100000 := rfl; omega)
    have hp : woR (l.take j) k = l.take j := by
      rw [woR, List.filter_eq_self]
      intro o ho
      obtain ⟨i, hi, rfl⟩ := List.mem_iff_getElem.1 ho
      rw [List.length_take] at hi
      rw [List.getElem_take]
      exact bne_ne (h' i (by omega) (by omega))
    obtain ⟨c, i, L, k2, k3, k4⟩ := dl_run l k hn (l.length - (j + 1)) l j (j + 1) (by omega) rfl (by omega) (by rw [wo_succ k h1, if_pos h3, List.append_nil, hp]) rfl
    have q0 : ((j : Int) == -1) = false := beq_ne (by omega)
    have q1 : (0 : Int) ≤ i := by omega
    have q2 : (i : Int) ≤ ((l.length : Nat) : Int) := by omega
    have ecl : ((oes c).map D.v).length = l.length := by rw [List.length_map, oes_len, k2]
    by_cases hz : l.length - i = 0
    · refine ⟨(oes c).map .v, i, ?_, by rw [row_rd ((oes c).map .v) c i (by omega) (by omega) rfl, k4]⟩
      simp -implicitDefEqProofs only [slices_DeleteFunc_api_Option.s, go_sem, reduceIte, Nat.reduceAdd, Nat.reduceSub, Nat.reduceMul, Nat.reduceLeDiff, Nat.reduceLT, Nat.reduceEqDiff, Int.reduceToNat, Int.reduceLT, Int.reduceLE, Int.reduceEq, Int.reduceNe, Int.reduceAdd, Int.reduceSub, Int.reduceMul, Int.reduceNeg, Int.reduceBEq, Int.reduceBNe, reduceCtorEq, dreduceIte, hi, hw, q0, L, q1, q2, Int.toNat_natCast, Nat.zero_add, Nat.sub_zero, hz]
    · have e1 : i + (l.length - i) = l.length := by omega
      refine ⟨((oes c).map D.v).take i ++ (List.replicate (l.length - i) noD ++ ((oes c).map D.v).drop (i + (l.length - i))), i, ?_, ?_⟩
      · simp -implicitDefEqProofs only [slices_DeleteFunc_api_Option.s, go_sem, reduceIte, Nat.reduceAdd, Nat.reduceSub, Nat.reduceMul, Nat.reduceLeDiff, Nat.reduceLT, Nat.reduceEqDiff, Int.reduceToNat, Int.reduceLT, Int.reduceLE, Int.reduceEq, Int.reduceNe, Int.reduceAdd, Int.reduceSub, Int.reduceMul, Int.reduceNeg, Int.reduceBEq, Int.reduceBNe, reduceCtorEq, dreduceIte, hi, hw, q0, L, q1, q2, Int.toNat_natCast, Nat.zero_add, Nat.sub_zero, hz, e1, ecl, Nat.le_refl]
      · rw [row_rd _ c i (by omega) (by simp only [List.length_append, List.length_take, List.length_map, oes_len]; omega) (by rw [List.take_append_of_le_length (by rw [List.length_take, ecl]; omega), List.take_take, Nat.min_self]), k4]
theorem without63 (l : List Opt) (k : Int) (hn : l.length ≤ 40) : run G 63 [.v (.slc 2 (oes l)), .v (.int .u8 k)] [] = some (.v (.slc 2 (oes (woR l k))), []) := by
  rw [xq_fn G rfl opts_Without.g _ _ rfl]
  by_cases h0 : l = []
  · subst h0
    have hc := clone101n [[.row [.v (.int .u8 k)]]]
    have hd : run G 100 [.v (.slc 2 []), .clo 102 [] [ck]] [[.row [.v (.int .u8 k)]]] = some (.v (.slc 2 []), [[.row [.v (.int .u8 k)]]]) := by
      rw [xq_fn G rfl slices_DeleteFunc_api_Option.g _ _ rfl]
      have hi := ix_none [] k 102 (fun o st => del102 o k st) [[], [.row [.v (.int .u8 k)]]] rfl (by simp) (by simp) (fun i h => by simp at h)
      have hi' : run G 97 [.v (.slc 2 []), .clo 102 [] [ck]] [[], [.row [.v (.int .u8 k)]]] = _ := hi
      simp -implicitDefEqProofs only [slices_DeleteFunc_api_Option.s, go_sem, reduceIte, Nat.reduceAdd, Nat.reduceSub, Nat.reduceMul, Nat.reduceLeDiff, Nat.reduceLT, Nat.reduceEqDiff, Int.reduceToNat, Int.reduceLT, Int.reduceLE, Int.reduceEq, Int.reduceNe, Int.reduceAdd, Int.reduceSub, Int.reduceMul, Int.reduceNeg, Int.reduceBEq, Int.reduceBNe, reduceCtorEq, dreduceIte, hi']
    simp -implicitDefEqProofs only [opts_Without.s, go_sem, reduceIte, Nat.reduceAdd, Nat.reduceSub, Nat.reduceMul, Nat.reduceLeDiff, Nat.reduceLT, Nat.reduceEqDiff, Int.reduceToNat, Int.reduceLT, Int.reduceLE, Int.reduceEq, Int.reduceNe, Int.reduceAdd, Int.reduceSub, Int.reduceMul, Int.reduceNeg, Int.reduceBEq, Int.reduceBNe, reduceCtorEq, dreduceIte, mkfD, hc, hd]
    rfl
  · have hc := clone101 l h0 hn [.row [.v (.int .u8 k)]] []
    obtain ⟨rw_, i, hd, hr⟩ := delete100 l k h0 hn
    simp -implicitDefEqProofs only [opts_Without.s, go_sem, reduceIte, Nat.reduceAdd, Nat.reduceSub, Nat.reduceMul, Nat.reduceLeDiff, Nat.reduceLT, Nat.reduceEqDiff, Int.reduceToNat, Int.reduceLT, Int.reduceLE, Int.reduceEq, Int.reduceNe, Int.reduceAdd, Int.reduceSub, Int.reduceMul, Int.reduceNeg, Int.reduceBEq, Int.reduceBNe, reduceCtorEq, dreduceIte, mkfD, hc, hd, hr]

/-! ### The plain law -/
theorem am_filter (k : Int) : ∀ (l : List Opt), amR (woR l k) l = true
  | [] => rfl
  | x :: l => by
    have ih := am_filter k l
    by_cases c : x.1 = k
    · have e : woR (x :: l) k = woR l k := by simp [woR, c]
      rw [e]
      cases h : woR l k with
      | nil => rfl
      | cons y r =>
        have hy : y ∈ woR l k := by rw [h]; simp
        have hy2 := (List.mem_filter.1 hy).2
        have hne : y ≠ x := fun e => by rw [e] at hy2; simp [c] at hy2
        rw [amR, if_neg hne, ← h]
        exact ih
    · have e : woR (x :: l) k = x :: woR l k := by simp [woR, c]
      rw [e, amR, if_pos rfl]
      exact ih
theorem fd_ok (l : List Opt) (k : Int) (hl : okL l) : okO (fdR l k).1 := by
  unfold fdR
  split
  · rename_i o h
    exact hl o (List.mem_of_find?_eq_some h)
  · exact ⟨by decide, fun x hx => by simp at hx⟩
theorem far_sh {l : List Opt} (h : farP l = false) : l.length ≤ 40 ∧ shL l := by
  unfold farP at h
  simp only [Bool.or_eq_false_iff, decide_eq_false_iff_not] at h
  have h40 : l.length ≤ 40 := by omega
  refine ⟨h40, fun o ho => ?_⟩
  have := List.any_eq_false.1 h.1 o (by rw [List.take_of_length_le h40]; exact ho)
  simp only [decide_eq_true_eq] at this
  omega
abbrev akE (l k : List Opt) (kind : Int) (ok is : Bool) (i : Nat) : List D := [.v (.slc 2 (oes l)), .v (.slc 2 (oes k)), .v (.int .u8 kind), .v (.bool false), .lin 2 (oes l), .lin 2 (oes k), .ptr ⟨0, 0⟩ 0 0, .v (.bool ok), .ptr ⟨0, 1⟩ 0 0, .v (.bool is), .lin 1 (b8 (kds l)), .v (.int .i64 (l.length : Nat)), .v (.int .i64 i), .undef]
theorem ak_step (l k : List Opt) (kind : Int) (ok is : Bool) (st : List Blk) (hn : l.length ≤ 40) (i : Nat) (hi : i < l.length) :
    ex G (.loop [13] euphroelaw21_OptsAsks.l0) (akE l k kind ok is i) [st] = ex G (.loop [13] euphroelaw21_OptsAsks.l0) (akE l k kind ok is (i + 1)) [st] := by
  have q1 : (i : Int) < ((l.length : Nat) : Int) := by omega
  have q0 : (0 : Int) ≤ i := by omega
  have w := inc (i := i) (by have : M = 100000 := rfl; omega)
  have hx := oes_at (List.getElem?_eq_getElem hi)
  have hy : (b8 (kds l))[i]? = some (.int .u8 (l[i]).1) := b8_at (by rw [kds, List.getElem?_map, List.getElem?_eq_getElem hi]; rfl)
  have hl : (b8 (kds l)).length = l.length := by rw [b8_len, kds, List.length_map]
  rw [xq_loop]
  simp -implicitDefEqProofs only [euphroelaw21_OptsAsks.l0, go_sem, reduceIte, Nat.reduceAdd, Nat.reduceSub, Nat.reduceMul, Nat.reduceLeDiff, Nat.reduceLT, Nat.reduceEqDiff, Int.reduceToNat, Int.reduceLT, Int.reduceLE, Int.reduceEq, Int.reduceNe, Int.reduceAdd, Int.reduceSub, Int.reduceMul, Int.reduceNeg, Int.reduceBEq, Int.reduceBNe, reduceCtorEq, dreduceIte, oes_len, hl, q0, q1, Int.toNat_natCast, hx, hy, w, bne_self_eq_false, lpD]
theorem optsAsks (l k : List Opt) (kind : Int) (hl : okL l) (hk : okL k) (hn : l.length ≤ 4611686018427387904) (hm : k.length ≤ 4611686018427387904) : run G 10 [.v (.slc 2 (oes l)), .v (.slc 2 (oes k)), .v (.int .u8 kind)] [] = some (.v (.bool true), []) := by
  rw [xq_fn G rfl euphroelaw21_OptsAsks.g _ _ rfl]
  have hf := far l hn
  have hg := far k hm
  cases hfar : farP l with
  | true =>
    rw [hfar] at hf
    simp -implicitDefEqProofs only [euphroelaw21_OptsAsks.s, go_sem, reduceIte, Nat.reduceAdd, Nat.reduceSub, Nat.reduceMul, Nat.reduceLeDiff, Nat.reduceLT, Nat.reduceEqDiff, Int.reduceToNat, Int.reduceLT, Int.reduceLE, Int.reduceEq, Int.reduceNe, Int.reduceAdd, Int.reduceSub, Int.reduceMul, Int.reduceNeg, Int.reduceBEq, Int.reduceBNe, reduceCtorEq, dreduceIte, hf, alive]
  | false =>
    rw [hfar] at hf
    cases hgar : farP k with
    | true =>
      rw [hgar] at hg
      simp -implicitDefEqProofs only [euphroelaw21_OptsAsks.s, go_sem, reduceIte, Nat.reduceAdd, Nat.reduceSub, Nat.reduceMul, Nat.reduceLeDiff, Nat.reduceLT, Nat.reduceEqDiff, Int.reduceToNat, Int.reduceLT, Int.reduceLE, Int.reduceEq, Int.reduceNe, Int.reduceAdd, Int.reduceSub, Int.reduceMul, Int.reduceNeg, Int.reduceBEq, Int.reduceBNe, reduceCtorEq, dreduceIte, hf, hg, alive]
    | false =>
      rw [hgar] at hg
      obtain ⟨l40, lsh⟩ := far_sh hfar
      obtain ⟨k40, ksh⟩ := far_sh hgar
      have t1 := theirs l l40
      have t2 := theirs k k40
      have f1 := find59 l kind l40
      have f2 := find60 l kind l40
      have kk := kinds61 l l40
      have ho := fd_ok l kind hl
      have hbl : (b8 (kds l)).length = l.length := by rw [b8_len, kds, List.length_map]
      have e : ∀ (st : List Blk), ex G (.loop [13] euphroelaw21_OptsAsks.l0) (akE l k kind (fdR l kind).2 (fdR l kind).2 l.length) [st] = some (.exit 0, akE l k kind (fdR l kind).2 (fdR l kind).2 l.length, [st]) := fun st => by
        have h1 : ¬ ((l.length : Nat) : Int) < ((l.length : Nat) : Int) := by omega
        rw [xq_loop]
        simp -implicitDefEqProofs only [euphroelaw21_OptsAsks.l0, go_sem, reduceIte, Nat.reduceAdd, Nat.reduceSub, Nat.reduceMul, Nat.reduceLeDiff, Nat.reduceLT, Nat.reduceEqDiff, Int.reduceToNat, Int.reduceLT, Int.reduceLE, Int.reduceEq, Int.reduceNe, Int.reduceAdd, Int.reduceSub, Int.reduceMul, Int.reduceNeg, Int.reduceBEq, Int.reduceBNe, reduceCtorEq, dreduceIte, h1, lpD]
      have L : ∀ (st : List Blk), ex G (.loop [13] euphroelaw21_OptsAsks.l0) [.v (.slc 2 (oes l)), .v (.slc 2 (oes k)), .v (.int .u8 kind), .v (.bool false), .lin 2 (oes l), .lin 2 (oes k), .ptr ⟨0, 0⟩ 0 0, .v (.bool (fdR l kind).2), .ptr ⟨0, 1⟩ 0 0, .v (.bool (fdR l kind).2), .lin 1 (b8 (kds l)), .v (.int .i64 (l.length : Nat)), .v (.int .i64 0), .undef] [st] = _ := fun st => (lp0 (akE l k kind (fdR l kind).2 (fdR l kind).2) l.length (fun i hi => ak_step l k kind _ _ st l40 i hi)).trans (e st)
      have t3 : run G 54 [.v (.slc 2 [oe (fdR l kind).1])] [] = some (.lin 2 [oe (fdR l kind).1], []) := theirs [(fdR l kind).1] (by simp)
      have s1 : run G 58 [.v (.slc 2 [oe (fdR l kind).1]), .v (.slc 2 [oe (fdR l kind).1])] [] = some (.v (.bool ([(fdR l kind).1] == [(fdR l kind).1])), []) := same58 [(fdR l kind).1] [(fdR l kind).1] (fun o h => by rw [List.mem_singleton.1 h]; exact ho) (fun o h => by rw [List.mem_singleton.1 h]; exact ho) (by simp)
      rw [beq_self_eq_true] at s1
      have s2 := same58 l k hl hk l40
      have s3 := same62 l k lsh l40
      have hw : okL (woR l kind) := fun o h => hl o (List.mem_filter.1 h).1
      have hwl : (woR l kind).length ≤ 40 := Nat.le_trans (List.length_filter_le ..) l40
      have w1 := without63 l kind l40
      have w2 := without64 l kind l40
      have t4 := theirs (woR l kind) hwl
      have s4 := same58 (woR l kind) (woR l kind) hw hw hwl
      rw [beq_self_eq_true] at s4
      have a1 := among65 l k hl hk k40
      have a2 := among66 40 l k k40 lsh k40
      have a3 := among65 (woR l kind) l hw hl l40
      rw [am_filter] at a3
      simp -implicitDefEqProofs only [euphroelaw21_OptsAsks.s, go_sem, reduceIte, Nat.reduceAdd, Nat.reduceSub, Nat.reduceMul, Nat.reduceLeDiff, Nat.reduceLT, Nat.reduceEqDiff, Int.reduceToNat, Int.reduceLT, Int.reduceLE, Int.reduceEq, Int.reduceNe, Int.reduceAdd, Int.reduceSub, Int.reduceMul, Int.reduceNeg, Int.reduceBEq, Int.reduceBNe, reduceCtorEq, dreduceIte, hf, hg, t1, t2, f1, f2, kk, hbl, oes_len, L, t3, s1, s2, s3, w1, w2, t4, s4, a1, a2, a3, alive, beq_self_eq_true, bne_self_eq_false]
end Go.Q
