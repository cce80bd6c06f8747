/- What the functions of OptsAsks compute. No condition. -/
import Derived.Test.YtmbdamompcdolaaGreatDoorLo
set_option linter.all false
set_option maxRecDepth 100000
namespace Go.Q
open SOp SCode
attribute [local congr] bind_c map_c

def kds (l : List Opt) : List Int := l.map (·.1)
abbrev kdE (l : List Opt) (i : Nat) : List D := [.v (.slc 2 (oes l)), .nils 1, accG 1 (b8 (kds (l.take i))), .v (.slc 2 (oes l)), .v (.int .i64 (l.length : Nat)), .v (.int .i64 i), .undef]
theorem kd_step (l : List Opt) (hn : l.length ≤ 40) (i : Nat) (hi : i < l.length) :
    ex G (.loop [6] opts_Kinds.l0) (kdE l i) [[]] = ex G (.loop [6] opts_Kinds.l0) (kdE l (i + 1)) [[]] := by
  have q1 : (i : Int) < ((l.length : Nat) : Int) := by omega
  have q0 : (0 : Int) ≤ i := by omega
  have w := inc (i := i) (by have : M = 100000 := rfl; omega)
  have hx := oes_at (List.getElem?_eq_getElem hi)
  have ha := ac_app 1 (b8 (kds (l.take i))) 1 [.int .u8 (l[i]).1] (by simp) (by rw [b8_len, kds, List.length_map]; have := hmax; simp; omega)
  have he : b8 (kds (l.take i)) ++ [.int .u8 (l[i]).1] = b8 (kds (l.take (i + 1))) := by rw [take_succ hi, kds, kds, List.map_append, ← b8_app]; rfl
  rw [he] at ha
  rw [xq_loop]
  simp -implicitDefEqProofs only [opts_Kinds.l0, go_sem, reduceIte, Nat.reduceAdd, Nat.reduceSub, Nat.reduceMul, Nat.reduceLeDiff, Nat.reduceLT, Nat.reduceEqDiff, Int.reduceToNat, Int.reduceLT, Int.reduceLE, Int.reduceEq, Int.reduceNe, Int.reduceAdd, Int.reduceSub, Int.reduceMul, Int.reduceNeg, Int.reduceBEq, Int.reduceBNe, reduceCtorEq, dreduceIte, oes_len, q0, q1, Int.toNat_natCast, hx, w, lpD, ha]
theorem kinds61 (l : List Opt) (hn : l.length ≤ 40) : run G 90 [.v (.slc 2 (oes l))] [] = some (.lin 1 (b8 (kds l)), []) := by
  rw [xq_fn G rfl opts_Kinds.g _ _ rfl]
  have h1 : ¬ ((l.length : Nat) : Int) < ((l.length : Nat) : Int) := by omega
  have e : ex G (.loop [6] opts_Kinds.l0) (kdE l l.length) [[]] = some (.exit 0, kdE l l.length, [[]]) := by
    rw [xq_loop]
    simp -implicitDefEqProofs only [opts_Kinds.l0, go_sem, reduceIte, Nat.reduceAdd, Nat.reduceSub, Nat.reduceMul, Nat.reduceLeDiff, Nat.reduceLT, Nat.reduceEqDiff, Int.reduceToNat, Int.reduceLT, Int.reduceLE, Int.reduceEq, Int.reduceNe, Int.reduceAdd, Int.reduceSub, Int.reduceMul, Int.reduceNeg, Int.reduceBEq, Int.reduceBNe, reduceCtorEq, dreduceIte, h1, lpD]
  have L : ex G (.loop [6] opts_Kinds.l0) [.v (.slc 2 (oes l)), .nils 1, .nils 1, .v (.slc 2 (oes l)), .v (.int .i64 (l.length : Nat)), .v (.int .i64 0), .undef] [[]] = _ := (lp0 (kdE l) l.length (fun i hi => kd_step l hn i hi)).trans e
  simp -implicitDefEqProofs only [opts_Kinds.s, go_sem, reduceIte, Nat.reduceAdd, Nat.reduceSub, Nat.reduceMul, Nat.reduceLeDiff, Nat.reduceLT, Nat.reduceEqDiff, Int.reduceToNat, Int.reduceLT, Int.reduceLE, Int.reduceEq, Int.reduceNe, Int.reduceAdd, Int.reduceSub, Int.reduceMul, Int.reduceNeg, Int.reduceBEq, Int.reduceBNe, reduceCtorEq, dreduceIte, oes_len, L, List.take_length]

abbrev noO : Opt := (0, [])
def fdR (l : List Opt) (k : Int) : Opt × Bool := match l.find? (·.1 == k) with
  | some o => (o, true)
  | none => (noO, false)
theorem find_first {l : List Opt} {k : Int} {j : Nat} (h1 : j < l.length) (h2 : (l[j]).1 = k) (h3 : ∀ i, i < j → ∀ h : i < l.length, (l[i]).1 ≠ k) : l.find? (·.1 == k) = some l[j] := by
  induction l generalizing j with
  | nil => simp at h1
  | cons x l ih =>
    cases j with
    | zero => simp at h2; simp [h2]
    | succ j =>
      have hx := h3 0 (by omega) (by simp)
      simp only [List.getElem_cons_zero] at hx
      rw [List.find?_cons_of_neg (by simpa using hx)]
      simp only [List.getElem_cons_succ]
      exact ih (j := j) (by simpa using h1) (by simpa using h2) (fun i hi h => by have := h3 (i + 1) (by omega) (by simpa using h); simpa using this)
theorem find_not {l : List Opt} {k : Int} (h : ∀ i, i < l.length → ∀ h : i < l.length, (l[i]).1 ≠ k) : l.find? (·.1 == k) = none := by
  rw [List.find?_eq_none]
  intro o ho
  obtain ⟨i, hi, rfl⟩ := List.mem_iff_getElem.1 ho
  simpa using h i hi hi
abbrev noD : D := .agg [.v (.int .u8 0), .nils 1]
abbrev rfE (l : List Opt) (k : Int) (i : Nat) : List D := [.v (.slc 2 (oes l)), .v (.int .u8 k), .ptr ⟨0, 0⟩ 0 0, .v (.bool false), .v (.int .i64 i)]
abbrev smE2 (a b : List Opt) (i : Nat) : List D := [.v (.slc 2 (oes a)), .v (.slc 2 (oes b)), .v (.bool false), .v (.int .i64 i)]
abbrev shL (l : List Opt) : Prop := ∀ o ∈ l, o.2.length ≤ 300
def woR (l : List Opt) (k : Int) : List Opt := l.filter (·.1 != k)
theorem wo_succ {l : List Opt} {i : Nat} (k : Int) (h : i < l.length) : woR (l.take (i + 1)) k = woR (l.take i) k ++ (if (l[i]).1 = k then [] else [l[i]]) := by
  rw [take_succ h, woR, woR, List.filter_append]
  by_cases c : (l[i]).1 = k <;> simp [c]
theorem wo_len (l : List Opt) (k : Int) (i : Nat) : (woR (l.take i) k).length ≤ i := Nat.le_trans (List.length_filter_le ..) (by rw [List.length_take]; omega)
abbrev rwE (l : List Opt) (k : Int) (i : Nat) : List D := [.v (.slc 2 (oes l)), .v (.int .u8 k), .nils 2, accG 2 (oes (woR (l.take i) k)), .v (.int .i64 i)]
def amR : List Opt → List Opt → Bool
  | [], _ => true
  | _ :: _, [] => false
  | x :: l, y :: a => if x = y then amR l a else amR (x :: l) a
def amS (l : List Opt) (o : Opt) : List Opt := match l with
  | [] => []
  | x :: r => if x = o then r else x :: r
theorem am_fold : ∀ (a l : List Opt), (a.foldl amS l == []) = amR l a
  | [], [] => rfl
  | [], x :: l => rfl
  | y :: a, [] => by rw [List.foldl_cons, show amS [] y = [] from rfl, am_fold a []]; cases a <;> rfl
  | y :: a, x :: l => by
    rw [List.foldl_cons, am_fold]
    by_cases c : x = y
    · rw [amR, if_pos c, amS, if_pos c]
    · rw [amR, if_neg c, amS, if_neg c]
abbrev amE (l a : List Opt) (i : Nat) : List D := [.v (.slc 2 (oes ((a.take i).foldl amS l))), .v (.slc 2 (oes a)), .v (.bool false), .v (.slc 2 (oes a)), .v (.int .i64 (a.length : Nat)), .v (.int .i64 i), .undef]
theorem am_sub (a l : List Opt) : ∀ o ∈ a.foldl amS l, o ∈ l := by
  induction a generalizing l with
  | nil => intro o h; exact h
  | cons x a ih =>
    intro o h
    have := ih _ o h
    cases l with
    | nil => exact this
    | cons y l =>
      simp only [amS] at this
      split at this
      · exact List.mem_cons_of_mem _ this
      · exact this
theorem am_step (l a : List Opt) (hl : okL l) (ha : okL a) (hn : a.length ≤ 40) (i : Nat) (hi : i < a.length) :
    ex G (.loop [6] opts_Among.l0) (amE l a i) [[]] = ex G (.loop [6] opts_Among.l0) (amE l a (i + 1)) [[]] := by
  have q1 : (i : Int) < ((a.length : Nat) : Int) := by omega
  have q0 : (0 : Int) ≤ i := by omega
  have w := inc (i := i) (by have : M = 100000 := rfl; omega)
  have hx := oes_at (List.getElem?_eq_getElem hi)
  have hs : (a.take (i + 1)).foldl amS l = amS ((a.take i).foldl amS l) a[i] := by rw [take_succ hi, List.foldl_append]; rfl
  have hnl : (oes a).length = a.length := oes_len a
  have hm := am_sub (a.take i) l
  rw [xq_loop, amE, amE, hs]
  generalize (a.take i).foldl amS l = c at hm
  cases c with
  | nil =>
    have q3 : ¬ (0 : Int) < (((oes []).length : Nat) : Int) := by decide
    simp -implicitDefEqProofs only [opts_Among.l0, go_sem, reduceIte, Nat.reduceAdd, Nat.reduceSub, Nat.reduceMul, Nat.reduceLeDiff, Nat.reduceLT, Nat.reduceEqDiff, Int.reduceToNat, Int.reduceLT, Int.reduceLE, Int.reduceEq, Int.reduceNe, Int.reduceAdd, Int.reduceSub, Int.reduceMul, Int.reduceNeg, Int.reduceBEq, Int.reduceBNe, reduceCtorEq, dreduceIte, amS, hnl, q0, q1, q3, Int.toNat_natCast, hx, w, lpD]
  | cons x r =>
    have q3 : (0 : Int) < (((oes (x :: r)).length : Nat) : Int) := by rw [oes_len]; simp
    have q4 : (1 : Int) ≤ (((oes (x :: r)).length : Nat) : Int) := by omega
    have q5 : (((Int.toNat 1 : Nat)) : Int) ≤ (((oes (x :: r)).length : Nat) : Int) := by omega
    have h0 : (oes (x :: r))[0]? = some (oe x) := rfl
    have ht : List.take (oes (x :: r)).length (oes (x :: r)) = oes (x :: r) := List.take_length
    have hd : List.drop 1 (oes (x :: r)) = oes r := rfl
    have hs := same96 x a[i] (hl x (hm x (by simp))) (ha _ (List.getElem_mem _)) []
    by_cases c : x = a[i]
    · have c1 : (x == a[i]) = true := by simp [c]
      rw [c1] at hs
      have e : amS (x :: r) a[i] = r := by rw [amS, if_pos c]
      simp -implicitDefEqProofs only [opts_Among.l0, go_sem, reduceIte, Nat.reduceAdd, Nat.reduceSub, Nat.reduceMul, Nat.reduceLeDiff, Nat.reduceLT, Nat.reduceEqDiff, Int.reduceToNat, Int.reduceLT, Int.reduceLE, Int.reduceEq, Int.reduceNe, Int.reduceAdd, Int.reduceSub, Int.reduceMul, Int.reduceNeg, Int.reduceBEq, Int.reduceBNe, reduceCtorEq, dreduceIte, e, hnl, q0, q1, q3, q4, q5, h0, ht, hd, hs, Int.toNat_natCast, hx, w, lpD]
    · have c1 : (x == a[i]) = false := by simp [c]
      rw [c1] at hs
      have e : amS (x :: r) a[i] = x :: r := by rw [amS, if_neg c]
      simp -implicitDefEqProofs only [opts_Among.l0, go_sem, reduceIte, Nat.reduceAdd, Nat.reduceSub, Nat.reduceMul, Nat.reduceLeDiff, Nat.reduceLT, Nat.reduceEqDiff, Int.reduceToNat, Int.reduceLT, Int.reduceLE, Int.reduceEq, Int.reduceNe, Int.reduceAdd, Int.reduceSub, Int.reduceMul, Int.reduceNeg, Int.reduceBEq, Int.reduceBNe, reduceCtorEq, dreduceIte, e, hnl, q0, q1, q3, q4, h0, ht, hd, hs, Int.toNat_natCast, hx, w, lpD]
theorem among65 (l a : List Opt) (hl : okL l) (ha : okL a) (hn : a.length ≤ 40) : run G 96 [.v (.slc 2 (oes l)), .v (.slc 2 (oes a))] [] = some (.v (.bool (amR l a)), []) := by
  rw [xq_fn G rfl opts_Among.g _ _ rfl]
  have e : ex G (.loop [6] opts_Among.l0) (amE l a a.length) [[]] = some (.exit 0, amE l a a.length, [[]]) := by
    have h1 : ¬ ((a.length : Nat) : Int) < ((a.length : Nat) : Int) := by omega
    rw [xq_loop]
    simp -implicitDefEqProofs only [opts_Among.l0, go_sem, reduceIte, Nat.reduceAdd, Nat.reduceSub, Nat.reduceMul, Nat.reduceLeDiff, Nat.reduceLT, Nat.reduceEqDiff, Int.reduceToNat, Int.reduceLT, Int.reduceLE, Int.reduceEq, Int.reduceNe, Int.reduceAdd, Int.reduceSub, Int.reduceMul, Int.reduceNeg, Int.reduceBEq, Int.reduceBNe, reduceCtorEq, dreduceIte, h1, lpD]
  have L : ex G (.loop [6] opts_Among.l0) [.v (.slc 2 (oes l)), .v (.slc 2 (oes a)), .v (.bool false), .v (.slc 2 (oes a)), .v (.int .i64 (a.length : Nat)), .v (.int .i64 0), .undef] [[]] = _ := (lp0 (amE l a) a.length (fun i hi => am_step l a hl ha hn i hi)).trans e
  have hf : ((((a.foldl amS l).length : Nat) : Int) == 0) = amR l a := by
    rw [← am_fold]
    cases a.foldl amS l with
    | nil => rfl
    | cons x r => exact beq_ne (by simp; omega)
  simp -implicitDefEqProofs only [opts_Among.s, go_sem, reduceIte, Nat.reduceAdd, Nat.reduceSub, Nat.reduceMul, Nat.reduceLeDiff, Nat.reduceLT, Nat.reduceEqDiff, Int.reduceToNat, Int.reduceLT, Int.reduceLE, Int.reduceEq, Int.reduceNe, Int.reduceAdd, Int.reduceSub, Int.reduceMul, Int.reduceNeg, Int.reduceBEq, Int.reduceBNe, reduceCtorEq, dreduceIte, oes_len, L, List.take_length, hf]
theorem am_none : ∀ (a : List Opt) (x : Opt) (l : List Opt), (∀ y ∈ a, y ≠ x) → amR (x :: l) a = false
  | [], x, l, _ => rfl
  | y :: a, x, l, h => by rw [amR, if_neg (Ne.symm (h y (by simp)))]; exact am_none a x l fun z hz => h z (by simp [hz])
theorem am_at : ∀ (a : List Opt) (x : Opt) (l : List Opt) (j : Nat) (h1 : j < a.length), a[j] = x → (∀ i, i < j → ∀ h : i < a.length, a[i] ≠ x) → amR (x :: l) a = amR l (a.drop (j + 1))
  | [], x, l, j, h1, _, _ => by simp at h1
  | y :: a, x, l, 0, h1, h2, _ => by simp at h2; rw [amR, if_pos h2.symm]; rfl
  | y :: a, x, l, j + 1, h1, h2, h3 => by
    have hy := h3 0 (by omega) (by simp)
    simp only [List.getElem_cons_zero] at hy
    rw [amR, if_neg (Ne.symm hy), am_at a x l j (by simpa using h1) (by simpa using h2) (fun i hi h => by have := h3 (i + 1) (by omega) (by simpa using h); simpa using this)]
    rfl
abbrev raE (l a : List Opt) (i : Nat) : List D := [.v (.slc 2 (oes l)), .v (.slc 2 (oes a)), .v (.bool false), .v (.int .i64 i)]
abbrev ck : D := .ptr ⟨0, 0⟩ 0 0
theorem del98 (o : Opt) (k : Int) (st : St) (h1 : getB st ⟨0, 0⟩ = some (.row [.v (.int .u8 k)])) (h0 : ¬ 0 = st.length) : run G 187 [od o, ck] st = some (.v (.bool (o.1 == k)), st) := by
  rw [xq_fn G rfl opts_Find_1.g _ _ rfl]
  simp -implicitDefEqProofs only [opts_Find_1.s, go_sem, reduceIte, Nat.reduceAdd, Nat.reduceSub, Nat.reduceMul, Nat.reduceLeDiff, Nat.reduceLT, Nat.reduceEqDiff, Int.reduceToNat, Int.reduceLT, Int.reduceLE, Int.reduceEq, Int.reduceNe, Int.reduceAdd, Int.reduceSub, Int.reduceMul, Int.reduceNeg, Int.reduceBEq, Int.reduceBNe, reduceCtorEq, dreduceIte, h1, h0]
abbrev ixE (s : D) (f : Nat) (n : Nat) (i : Nat) : List D := [s, .clo f [] [ck], .v (.int .i64 0), .v (.int .i64 n), .v (.int .i64 i), .undef]
abbrev IsDel (f : Nat) (k : Int) : Prop := ∀ (o : Opt) (st : St), getB st ⟨0, 0⟩ = some (.row [.v (.int .u8 k)]) → ¬ 0 = st.length → run G f [od o, ck] st = some (.v (.bool (o.1 == k)), st)
theorem ix_step (l : List Opt) (k : Int) (f : Nat) (hf : IsDel f k) (st : St) (h1 : getB st ⟨0, 0⟩ = some (.row [.v (.int .u8 k)])) (h0 : ¬ 0 = st.length) (hn : l.length ≤ 40) (i : Nat) (hi : i < l.length) (h : (l[i]).1 ≠ k) :
    ex G (.loop [5] slices_IndexFunc_api_Option.l0) (ixE (.v (.slc 2 (oes l))) f l.length i) ([] :: st) = ex G (.loop [5] slices_IndexFunc_api_Option.l0) (ixE (.v (.slc 2 (oes l))) f l.length (i + 1)) ([] :: st) := by
  have q8 : 0 < st.length + 1 + 1 - 1 := by omega
  have q1 : (i : Int) < ((l.length : Nat) : Int) := by omega
  have q0 : (0 : Int) ≤ i := by omega
  have w := inc (i := i) (by have : M = 100000 := rfl; omega)
  have hx := oes_at (List.getElem?_eq_getElem hi)
  have hd := hf l[i] ([] :: [] :: st) (by simp only [getB, List.length_cons]; rw [if_neg (by omega), if_neg h0]; exact h1) (by simp)
  rw [beq_ne h] at hd
  rw [xq_loop]
  simp -implicitDefEqProofs only [slices_IndexFunc_api_Option.l0, go_sem, reduceIte, Nat.reduceAdd, Nat.reduceSub, Nat.reduceMul, Nat.reduceLeDiff, Nat.reduceLT, Nat.reduceEqDiff, Int.reduceToNat, Int.reduceLT, Int.reduceLE, Int.reduceEq, Int.reduceNe, Int.reduceAdd, Int.reduceSub, Int.reduceMul, Int.reduceNeg, Int.reduceBEq, Int.reduceBNe, reduceCtorEq, dreduceIte, oes_len, q0, q1, Int.toNat_natCast, hx, hd, w, q8, lpD]
theorem ix_none (l : List Opt) (k : Int) (f : Nat) (hf : IsDel f k) (st : St) (h1 : getB st ⟨0, 0⟩ = some (.row [.v (.int .u8 k)])) (h0 : ¬ 0 = st.length) (hn : l.length ≤ 40) (h : ∀ i, i < l.length → ∀ h : i < l.length, (l[i]).1 ≠ k) :
    run G 132 [.v (.slc 2 (oes l)), .clo f [] [ck]] st = some (.v (.int .i64 (-1)), st) := by
  rw [xq_fn G rfl slices_IndexFunc_api_Option.g _ _ rfl]
  have q8 : 0 < st.length + 1 + 1 - 1 := by omega
  have e : ex G (.loop [5] slices_IndexFunc_api_Option.l0) (ixE (.v (.slc 2 (oes l))) f l.length l.length) ([] :: st) = some (.exit 0, ixE (.v (.slc 2 (oes l))) f l.length l.length, [] :: st) := by
    have h1 : ¬ ((l.length : Nat) : Int) < ((l.length : Nat) : Int) := by omega
    rw [xq_loop]
    simp -implicitDefEqProofs only [slices_IndexFunc_api_Option.l0, go_sem, reduceIte, Nat.reduceAdd, Nat.reduceSub, Nat.reduceMul, Nat.reduceLeDiff, Nat.reduceLT, Nat.reduceEqDiff, Int.reduceToNat, Int.reduceLT, Int.reduceLE, Int.reduceEq, Int.reduceNe, Int.reduceAdd, Int.reduceSub, Int.reduceMul, Int.reduceNeg, Int.reduceBEq, Int.reduceBNe, reduceCtorEq, dreduceIte, h1, q8, lpD]
  have L : ex G (.loop [5] slices_IndexFunc_api_Option.l0) [.v (.slc 2 (oes l)), .clo f [] [ck], .v (.int .i64 0), .v (.int .i64 l.length), .v (.int .i64 0), .undef] ([] :: st) = _ := (lp0 (ixE (.v (.slc 2 (oes l))) f l.length) l.length (fun i hi => ix_step l k f hf st h1 h0 hn i hi (h i hi hi))).trans e
  simp -implicitDefEqProofs only [slices_IndexFunc_api_Option.s, go_sem, reduceIte, Nat.reduceAdd, Nat.reduceSub, Nat.reduceMul, Nat.reduceLeDiff, Nat.reduceLT, Nat.reduceEqDiff, Int.reduceToNat, Int.reduceLT, Int.reduceLE, Int.reduceEq, Int.reduceNe, Int.reduceAdd, Int.reduceSub, Int.reduceMul, Int.reduceNeg, Int.reduceBEq, Int.reduceBNe, reduceCtorEq, dreduceIte, oes_len, L]
theorem ix_some (l : List Opt) (k : Int) (f : Nat) (hf : IsDel f k) (st : St) (h1 : getB st ⟨0, 0⟩ = some (.row [.v (.int .u8 k)])) (h0 : ¬ 0 = st.length) (hn : l.length ≤ 40) (j : Nat) (hj : j < l.length) (h3 : (l[j]).1 = k) (h : ∀ i, i < j → ∀ h : i < l.length, (l[i]).1 ≠ k) :
    run G 132 [.v (.slc 2 (oes l)), .clo f [] [ck]] st = some (.v (.int .i64 j), st) := by
  rw [xq_fn G rfl slices_IndexFunc_api_Option.g _ _ rfl]
  have q8 : 0 < st.length + 1 + 1 - 1 := by omega
  have e : ex G (.loop [5] slices_IndexFunc_api_Option.l0) (ixE (.v (.slc 2 (oes l))) f l.length j) ([] :: st) = some (.ret, [.v (.slc 2 (oes l)), .clo f [] [ck], .v (.int .i64 j), .v (.int .i64 l.length), .v (.int .i64 j), .undef], [] :: st) := by
    have q1 : (j : Int) < ((l.length : Nat) : Int) := by omega
    have q0 : (0 : Int) ≤ j := by omega
    have hx := oes_at (List.getElem?_eq_getElem hj)
    have hd := hf l[j] ([] :: [] :: st) (by simp only [getB, List.length_cons]; rw [if_neg (by omega), if_neg h0]; exact h1) (by simp)
    have c1 : ((l[j]).1 == k) = true := by simp [h3]
    rw [c1] at hd
    rw [xq_loop]
    simp -implicitDefEqProofs only [slices_IndexFunc_api_Option.l0, go_sem, reduceIte, Nat.reduceAdd, Nat.reduceSub, Nat.reduceMul, Nat.reduceLeDiff, Nat.reduceLT, Nat.reduceEqDiff, Int.reduceToNat, Int.reduceLT, Int.reduceLE, Int.reduceEq, Int.reduceNe, Int.reduceAdd, Int.reduceSub, Int.reduceMul, Int.reduceNeg, Int.reduceBEq, Int.reduceBNe, reduceCtorEq, dreduceIte, oes_len, q0, q1, Int.toNat_natCast, hx, hd, q8, lpD]
  have L : ex G (.loop [5] slices_IndexFunc_api_Option.l0) [.v (.slc 2 (oes l)), .clo f [] [ck], .v (.int .i64 0), .v (.int .i64 l.length), .v (.int .i64 0), .undef] ([] :: st) = _ := (lp0 (ixE (.v (.slc 2 (oes l))) f l.length) j (fun i hi => ix_step l k f hf st h1 h0 hn i (by omega) (h i hi (by omega)))).trans e
  simp -implicitDefEqProofs only [slices_IndexFunc_api_Option.s, go_sem, reduceIte, Nat.reduceAdd, Nat.reduceSub, Nat.reduceMul, Nat.reduceLeDiff, Nat.reduceLT, Nat.reduceEqDiff, Int.reduceToNat, Int.reduceLT, Int.reduceLE, Int.reduceEq, Int.reduceNe, Int.reduceAdd, Int.reduceSub, Int.reduceMul, Int.reduceNeg, Int.reduceBEq, Int.reduceBNe, reduceCtorEq, dreduceIte, oes_len, L]
theorem find59 (l : List Opt) (k : Int) (hn : l.length ≤ 40) : run G 165 [.v (.slc 2 (oes l)), .v (.int .u8 k)] [] = some (.tup [od (fdR l k).1, .v (.bool (fdR l k).2)], []) := by
  rw [xq_fn G rfl opts_Find.g _ _ rfl]
  rcases first_or (fun i => ∃ h : i < l.length, (l[i]).1 = k) l.length with h | ⟨j, h1, ⟨h2, h3⟩, h4⟩
  · have h' : ∀ i, i < l.length → ∀ h : i < l.length, (l[i]).1 ≠ k := fun i hi h2 h3 => h i hi ⟨h2, h3⟩
    have hR : fdR l k = (noO, false) := by rw [fdR, find_not h']
    have hi := ix_none l k 187 (fun o st => del98 o k st) [[.row [.v (.int .u8 k)], .row [noD]]] rfl (by simp) hn h'
    simp -implicitDefEqProofs only [opts_Find.s, go_sem, reduceIte, Nat.reduceAdd, Nat.reduceSub, Nat.reduceMul, Nat.reduceLeDiff, Nat.reduceLT, Nat.reduceEqDiff, Int.reduceToNat, Int.reduceLT, Int.reduceLE, Int.reduceEq, Int.reduceNe, Int.reduceAdd, Int.reduceSub, Int.reduceMul, Int.reduceNeg, Int.reduceBEq, Int.reduceBNe, reduceCtorEq, dreduceIte, mkfD, hi, hR]
    rfl
  · have h' : ∀ i, i < j → ∀ h : i < l.length, (l[i]).1 ≠ k := fun i hi h2 h3 => h4 i hi ⟨h2, h3⟩
    have hR : fdR l k = (l[j], true) := by rw [fdR, find_first h1 h3 h']
    have hi := ix_some l k 187 (fun o st => del98 o k st) [[.row [.v (.int .u8 k)], .row [noD]]] rfl (by simp) hn j h1 h3 h'
    have q0 : ¬ (j : Int) < 0 := by omega
    have q1 : (j : Int) < ((l.length : Nat) : Int) := by omega
    have q2 : (0 : Int) ≤ j := by omega
    have hx := oes_at (List.getElem?_eq_getElem h2)
    simp -implicitDefEqProofs only [opts_Find.s, go_sem, reduceIte, Nat.reduceAdd, Nat.reduceSub, Nat.reduceMul, Nat.reduceLeDiff, Nat.reduceLT, Nat.reduceEqDiff, Int.reduceToNat, Int.reduceLT, Int.reduceLE, Int.reduceEq, Int.reduceNe, Int.reduceAdd, Int.reduceSub, Int.reduceMul, Int.reduceNeg, Int.reduceBEq, Int.reduceBNe, reduceCtorEq, dreduceIte, mkfD, hi, hR, q0, q1, q2, oes_len, hx, Int.toNat_natCast]

theorem szs_oes : ∀ (l : List Opt), szs 2 (oes l) = true
  | [] => rfl
  | p :: l => by
    have := szs_oes l
    simp only [oes] at this
    simp only [oes, List.map_cons, szs, cellsV, List.length_cons, List.length_nil, this]
    rfl
theorem oes_eqn (l : List Opt) (h : l ≠ []) : eqD .s (.v (.slc 2 (oes l))) (.nils 2) = some false := by
  cases l with
  | nil => exact absurd rfl h
  | cons p l => rfl
theorem oes_isNil (l : List Opt) (h : l ≠ []) : isNilV (some (.slc 2 (oes l))) = false := by
  cases l with
  | nil => exact absurd rfl h
  | cons p l => rfl
theorem clone101 (l : List Opt) (h0 : l ≠ []) (hn : l.length ≤ 40) (fr : List Blk) (st : St) :
    run G 47 [.v (.slc 2 (oes l))] (fr :: st) = some (.own ⟨st.length, fr.length⟩ 2 0 l.length false, (fr ++ [.row ((oes l).map .v)]) :: st) := by
  rw [xq_fn G rfl slices_Clone_api_Option.g _ _ rfl]
  have h2 : (oes l).length * 32 ≤ maxB := by
    have := hmax
    rw [oes_len]; omega
  have h4 : (oes l).length ≠ 0 := by rw [oes_len]; intro e; exact h0 (List.length_eq_zero_iff.1 e)
  have h5 : cloneD 1 2 32 [.v (.slc 2 (oes l)), .nils 2] ([] :: fr :: st) (oes l) = some (.normal, [.v (.slc 2 (oes l)), .own ⟨st.length, fr.length⟩ 2 0 (oes l).length false], [] :: (fr ++ [.row ((oes l).map .v)]) :: st) := by
    unfold cloneD
    rw [if_pos ⟨h4, h2, szs_oes l⟩]
    rfl
  have h6 : st.length < st.length + 1 := by omega
  simp -implicitDefEqProofs only [slices_Clone_api_Option.s, go_sem, reduceIte, Nat.reduceAdd, Nat.reduceSub, Nat.reduceMul, Nat.reduceLeDiff, Nat.reduceLT, Nat.reduceEqDiff, Int.reduceToNat, Int.reduceLT, Int.reduceLE, Int.reduceEq, Int.reduceNe, Int.reduceAdd, Int.reduceSub, Int.reduceMul, Int.reduceNeg, Int.reduceBEq, Int.reduceBNe, reduceCtorEq, dreduceIte, h5, h6, oes_eqn l h0, oes_isNil l h0, oes_len, slcOf]
theorem clone101n (st : St) : run G 47 [.v (.slc 2 (oes []))] st = some (.v (.slc 2 []), st) := by
  rw [xq_fn G rfl slices_Clone_api_Option.g _ _ rfl]
  have h : isNilV (some (.slc 2 (oes []))) = true := rfl
  simp -implicitDefEqProofs only [slices_Clone_api_Option.s, go_sem, reduceIte, Nat.reduceAdd, Nat.reduceSub, Nat.reduceMul, Nat.reduceLeDiff, Nat.reduceLT, Nat.reduceEqDiff, Int.reduceToNat, Int.reduceLT, Int.reduceLE, Int.reduceEq, Int.reduceNe, Int.reduceAdd, Int.reduceSub, Int.reduceMul, Int.reduceNeg, Int.reduceBEq, Int.reduceBNe, reduceCtorEq, dreduceIte, h]
abbrev dS (k : Int) (c : List Opt) : St := [[.row [.v (.int .u8 k)], .row ((oes c).map .v)]]
theorem row_at {l : List Opt} {i : Nat} {x : Opt} (h : l[i]? = some x) : ((oes l).map D.v)[i]? = some (.v (oe x)) := by rw [List.getElem?_map, oes_at h]; rfl
abbrev ow (n : Nat) : D := .own ⟨0, 1⟩ 2 0 n false
theorem row_set (c : List Opt) (i : Nat) (x : Opt) : ((oes c).map D.v).set i (.v (oe x)) = (oes (c.set i x)).map D.v := by simp [oes, List.map_set]
theorem toVL_oes : ∀ (l : List Opt), toVL ((oes l).map .v) = some (oes l)
  | [] => rfl
  | x :: l => by
    have := toVL_oes l
    simp only [oes] at this
    simp only [oes, List.map_cons, toVL, toV, Option.bind_some, this, Option.map_some]
theorem row_rd (rw_ : List D) (c : List Opt) (i : Nat) (hi : i ≤ c.length) (hl : i ≤ rw_.length) (h : rw_.take i = ((oes c).map D.v).take i) : rowV 2 0 i (some (.row rw_)) = some (.slc 2 (oes (c.take i))) := by
  simp only [rowV, Nat.zero_add]
  rw [if_pos hl, List.drop_zero, h, ← List.map_take, oes_take, toVL_oes]; rfl
theorem am_filter (k : Int) : ∀ (l : List Opt), amR (woR l k) l = true
  | [] => rfl
  | x :: l => by
    have ih := am_filter k l
    by_cases c : x.1 = k
    · have e : woR (x :: l) k = woR l k := by simp [woR, c]
      rw [e]
      cases h : woR l k with
      | nil => rfl
      | cons y r =>
        have hy : y ∈ woR l k := by rw [h]; simp
        have hy2 := (List.mem_filter.1 hy).2
        have hne : y ≠ x := fun e => by rw [e] at hy2; simp [c] at hy2
        rw [amR, if_neg hne, ← h]
        exact ih
    · have e : woR (x :: l) k = x :: woR l k := by simp [woR, c]
      rw [e, amR, if_pos rfl]
      exact ih
theorem fd_ok (l : List Opt) (k : Int) (hl : okL l) : okO (fdR l k).1 := by
  unfold fdR
  split
  · rename_i o h
    exact hl o (List.mem_of_find?_eq_some h)
  · exact ⟨by decide, fun x hx => by simp at hx⟩
theorem far_sh {l : List Opt} (h : farP l = false) : l.length ≤ 40 ∧ shL l := by
  unfold farP at h
  simp only [Bool.or_eq_false_iff, decide_eq_false_iff_not] at h
  have h40 : l.length ≤ 40 := by omega
  refine ⟨h40, fun o ho => ?_⟩
  have := List.any_eq_false.1 h.1 o (by rw [List.take_of_length_le h40]; exact ho)
  simp only [decide_eq_true_eq] at this
  omega
abbrev akE (l k : List Opt) (kind : Int) (ok is : Bool) (i : Nat) : List D := [.v (.slc 2 (oes l)), .v (.slc 2 (oes k)), .v (.int .u8 kind), .v (.bool false), .lin 2 (oes l), .lin 2 (oes k), .ptr ⟨0, 0⟩ 0 0, .v (.bool ok), .ptr ⟨0, 1⟩ 0 0, .v (.bool is), .lin 1 (b8 (kds l)), .v (.int .i64 (l.length : Nat)), .v (.int .i64 i), .undef]
end Go.Q
