/- What the functions of OptsLays compute. No condition. -/
import Derived.Test.YthfjopmfgaohjaaDoorSi
import Derived.Test.YthfjopmfgaohjaaDoorLz
set_option linter.all false
set_option maxRecDepth 100000
namespace Go.Q
open SOp SCode

attribute [local congr] bind_c map_c
abbrev smE (a b : List Int) (i : Nat) : List D := [.v (.slc 1 (b8 a)), .v (.slc 1 (b8 b)), .v (.bool false), .v (.int .i64 i)]
theorem sm_step (a b : List Int) (ha : a.length ≤ M) (i : Nat) (x : Int) (h1 : a[i]? = some x) (h2 : b[i]? = some x) :
    ex G (.loop [] euphroeref01_Same.l0) (smE a b i) [[]] = ex G (.loop [] euphroeref01_Same.l0) (smE a b (i + 1)) [[]] := by
  have l1 : i < a.length := (List.getElem?_eq_some_iff.1 h1).1
  have l2 : i < b.length := (List.getElem?_eq_some_iff.1 h2).1
  have q1 : (i : Int) < ((a.length : Nat) : Int) := by omega
  have q2 : (i : Int) < ((b.length : Nat) : Int) := by omega
  have q0 : (0 : Int) ≤ i := by omega
  have w := inc (i := i) (by omega)
  rw [xq_loop]
  simp -implicitDefEqProofs only [euphroeref01_Same.l0, go_sem, reduceIte, Nat.reduceAdd, Nat.reduceSub, Nat.reduceMul, Nat.reduceLeDiff, Nat.reduceLT, Nat.reduceEqDiff, Int.reduceToNat, Int.reduceLT, Int.reduceLE, Int.reduceEq, Int.reduceNe, Int.reduceAdd, Int.reduceSub, Int.reduceMul, Int.reduceNeg, Int.reduceBEq, Int.reduceBNe, reduceCtorEq, dreduceIte, b8_len, q0, q1, q2, Int.toNat_natCast, b8_at h1, b8_at h2, bne_self_eq_false, w, lpD]
theorem same40 (a b : List Int) (ha : a.length ≤ M) : run G 11 [.v (.slc 1 (b8 a)), .v (.slc 1 (b8 b))] [] = some (.v (.bool (a == b)), []) := by
  rw [xq_fn G rfl euphroeref01_Same.g _ _ rfl]
  by_cases hl : a.length = b.length
  · have q3 : (((a.length : Nat) : Int) != ((b.length : Nat) : Int)) = false := bne_eq (by omega)
    by_cases he : a = b
    · subst he
      have L := lp_up (kill := []) (body := euphroeref01_Same.l0) (st := [[]]) (smE a a) a.length (fun i hi => sm_step a a ha i a[i] (List.getElem?_eq_getElem hi) (List.getElem?_eq_getElem hi)) a.length 0 (by omega)
      have e : ex G (.loop [] euphroeref01_Same.l0) (smE a a a.length) [[]] = some (.exit 0, smE a a a.length, [[]]) := by
        have h1 : ¬ ((a.length : Nat) : Int) < ((a.length : Nat) : Int) := by omega
        rw [xq_loop]
        simp -implicitDefEqProofs only [euphroeref01_Same.l0, go_sem, reduceIte, Nat.reduceAdd, Nat.reduceSub, Nat.reduceMul, Nat.reduceLeDiff, Nat.reduceLT, Nat.reduceEqDiff, Int.reduceToNat, Int.reduceLT, Int.reduceLE, Int.reduceEq, Int.reduceNe, Int.reduceAdd, Int.reduceSub, Int.reduceMul, Int.reduceNeg, Int.reduceBEq, Int.reduceBNe, reduceCtorEq, dreduceIte, b8_len, h1, lpD]
      rw [e] at L
      have L' : ex G (.loop [] euphroeref01_Same.l0) [.v (.slc 1 (b8 a)), .v (.slc 1 (b8 a)), .v (.bool false), .v (.int .i64 0)] [[]] = _ := L
      simp -implicitDefEqProofs only [euphroeref01_Same.s, go_sem, reduceIte, Nat.reduceAdd, Nat.reduceSub, Nat.reduceMul, Nat.reduceLeDiff, Nat.reduceLT, Nat.reduceEqDiff, Int.reduceToNat, Int.reduceLT, Int.reduceLE, Int.reduceEq, Int.reduceNe, Int.reduceAdd, Int.reduceSub, Int.reduceMul, Int.reduceNeg, Int.reduceBEq, Int.reduceBNe, reduceCtorEq, dreduceIte, b8_len, q3, L', beq_self_eq_true]
    · -- the first place at which they differ
      obtain ⟨j, h1, h2, h3, h4⟩ : ∃ j, j < a.length ∧ j < b.length ∧ a[j]? ≠ b[j]? ∧ ∀ i, i < j → a[i]? = b[i]? := by
        have hex : ∃ j, a[j]? ≠ b[j]? := Classical.byContradiction fun hn => he (List.ext_getElem? fun j => Classical.byContradiction fun hj => hn ⟨j, hj⟩)
        obtain ⟨j, hj⟩ := hex
        induction j using Nat.strongRecOn with
        | _ j ih =>
          by_cases h : ∃ i, i < j ∧ a[i]? ≠ b[i]?
          · obtain ⟨i, hi, hn⟩ := h
            exact ih i hi hn
          · have hlt : j < a.length := Classical.byContradiction fun hn => hj (by rw [List.getElem?_eq_none (by omega), List.getElem?_eq_none (by omega)])
            exact ⟨j, hlt, by omega, hj, fun i hi => Classical.byContradiction fun hn => h ⟨i, hi, hn⟩⟩
      have L := lp_up (kill := []) (body := euphroeref01_Same.l0) (st := [[]]) (smE a b) j (fun i hi => sm_step a b ha i a[i] (List.getElem?_eq_getElem (by omega)) (by rw [← h4 i hi]; exact List.getElem?_eq_getElem (by omega))) j 0 (by omega)
      have e : ex G (.loop [] euphroeref01_Same.l0) (smE a b j) [[]] = some (.ret, smE a b j, [[]]) := by
        have q1 : (j : Int) < ((a.length : Nat) : Int) := by omega
        have q2 : (j : Int) < ((b.length : Nat) : Int) := by omega
        have q0 : (0 : Int) ≤ j := by omega
        have hx := b8_at (List.getElem?_eq_getElem h1)
        have hy := b8_at (List.getElem?_eq_getElem h2)
        have hne : (a[j] != b[j]) = true := bne_ne fun hh => h3 (by rw [List.getElem?_eq_getElem h1, List.getElem?_eq_getElem h2, hh])
        rw [xq_loop]
        simp -implicitDefEqProofs only [euphroeref01_Same.l0, go_sem, reduceIte, Nat.reduceAdd, Nat.reduceSub, Nat.reduceMul, Nat.reduceLeDiff, Nat.reduceLT, Nat.reduceEqDiff, Int.reduceToNat, Int.reduceLT, Int.reduceLE, Int.reduceEq, Int.reduceNe, Int.reduceAdd, Int.reduceSub, Int.reduceMul, Int.reduceNeg, Int.reduceBEq, Int.reduceBNe, reduceCtorEq, dreduceIte, b8_len, q0, q1, q2, Int.toNat_natCast, hx, hy, hne, lpD]
      rw [e] at L
      have L' : ex G (.loop [] euphroeref01_Same.l0) [.v (.slc 1 (b8 a)), .v (.slc 1 (b8 b)), .v (.bool false), .v (.int .i64 0)] [[]] = _ := L
      have hb : (a == b) = false := by simp [he]
      simp -implicitDefEqProofs only [euphroeref01_Same.s, go_sem, reduceIte, Nat.reduceAdd, Nat.reduceSub, Nat.reduceMul, Nat.reduceLeDiff, Nat.reduceLT, Nat.reduceEqDiff, Int.reduceToNat, Int.reduceLT, Int.reduceLE, Int.reduceEq, Int.reduceNe, Int.reduceAdd, Int.reduceSub, Int.reduceMul, Int.reduceNeg, Int.reduceBEq, Int.reduceBNe, reduceCtorEq, dreduceIte, b8_len, q3, L', hb]
  · have q3 : (((a.length : Nat) : Int) != ((b.length : Nat) : Int)) = true := bne_ne (by omega)
    have hb : (a == b) = false := by simp; intro e; exact hl (by rw [e])
    simp -implicitDefEqProofs only [euphroeref01_Same.s, go_sem, reduceIte, Nat.reduceAdd, Nat.reduceSub, Nat.reduceMul, Nat.reduceLeDiff, Nat.reduceLT, Nat.reduceEqDiff, Int.reduceToNat, Int.reduceLT, Int.reduceLE, Int.reduceEq, Int.reduceNe, Int.reduceAdd, Int.reduceSub, Int.reduceMul, Int.reduceNeg, Int.reduceBEq, Int.reduceBNe, reduceCtorEq, dreduceIte, b8_len, q3, hb]
abbrev thE (l : List Opt) (i : Nat) : List D := [.v (.slc 2 (oes l)), .nils 2, accG 2 (oes (l.take i)), .v (.slc 2 (oes l)), .v (.int .i64 (l.length : Nat)), .v (.int .i64 i), .undef]
abbrev faE (l : List Opt) (i : Nat) : List D := [.v (.slc 2 (oes l)), .v (.bool false), .v (.slc 2 (oes (l.take (min l.length 40)))), .v (.int .i64 ((min l.length 40 : Nat) : Nat)), .v (.int .i64 i), .undef]
def small (l : List Opt) : Bool := l.all fun o => decide (o.2.length ≤ 300)
def farP (l : List Opt) : Bool := (l.take 40).any (fun o => decide (300 < o.2.length)) || decide (40 < l.length)
def cat (l : List Opt) : List Int := l.flatMap fun o => [o.1, 2 + (o.2.length : Int)] ++ o.2
theorem cat_succ {l : List Opt} {i : Nat} (h : i < l.length) : cat (l.take (i + 1)) = cat (l.take i) ++ [(l[i]).1, 2 + ((l[i]).2.length : Int)] ++ (l[i]).2 := by
  rw [take_succ h, cat, cat, List.flatMap_append]; simp
theorem cat_len : ∀ (l : List Opt), (∀ o ∈ l, o.2.length ≤ 253) → (cat l).length ≤ 255 * l.length
  | [], _ => by simp [cat]
  | o :: l, h => by
    have h1 := h o (by simp)
    have ih := cat_len l fun o ho => h o (by simp [ho])
    simp only [cat] at ih
    simp only [cat, List.flatMap_cons, List.length_append, List.length_cons, List.length_nil]
    omega
theorem cat_len' (l : List Opt) (i : Nat) (hn : l.length ≤ 40) (h : ∀ k, k < i → ∀ hk : k < l.length, (l[k]).2.length ≤ 253) : (cat (l.take i)).length ≤ 10200 := by
  have := cat_len (l.take i) (fun o ho => by
    obtain ⟨k, hk, rfl⟩ := List.mem_iff_getElem.1 ho
    rw [List.length_take] at hk
    rw [List.getElem_take]
    exact h k (by omega) (by omega))
  rw [List.length_take] at this
  omega
def layR (l : List Opt) : List Int × Int := if 32 < l.length then ([], 5) else if l.any (fun o => decide (253 < o.2.length)) = true then ([], 8) else (cat l, 0)
abbrev lyE (l : List Opt) (i : Nat) : List D := [.v (.slc 2 (oes l)), .nils 1, .v (.int .i64 0), accG 1 (b8 (cat (l.take i))), .v (.slc 2 (oes l)), .v (.int .i64 (l.length : Nat)), .v (.int .i64 i), .undef]
abbrev d253 (l : List Opt) (i : Nat) : Prop := ∃ h : i < l.length, 253 < (l[i]).2.length
theorem le253 {l : List Opt} {j : Nat} (h : ∀ i, i < j → ¬ d253 l i) : ∀ k, k < j → ∀ hk : k < l.length, (l[k]).2.length ≤ 253 := fun k h1 h2 => by
  have := h k h1
  simp only [d253, not_exists] at this
  have := this h2
  omega
theorem ly_step (l : List Opt) (hn : l.length ≤ 40) (i : Nat) (hi : i < l.length) (h : ∀ k, k < i + 1 → ¬ d253 l k) :
    ex G (.loop [7] opts_Lay.l0) (lyE l i) [[]] = ex G (.loop [7] opts_Lay.l0) (lyE l (i + 1)) [[]] := by
  have hd := le253 h i (by omega) hi
  have hc := cat_len' l i hn (fun k hk => le253 h k (by omega))
  have q1 : (i : Int) < ((l.length : Nat) : Int) := by omega
  have q0 : (0 : Int) ≤ i := by omega
  have q2 : ¬ (253 : Int) < (((l[i]).2.length : Nat) : Int) := by omega
  have hM : M = 100000 := rfl
  have hB := hmax
  have w := inc (i := i) (by omega)
  have w2 : IntKind.i64.wrap (2 + (((l[i]).2.length : Nat) : Int)) = 2 + (((l[i]).2.length : Nat) : Int) := wrapS (by omega)
  have w3 : IntKind.u8.wrap (2 + (((l[i]).2.length : Nat) : Int)) = 2 + (((l[i]).2.length : Nat) : Int) := wrap8 (by omega)
  have hx := oes_at (List.getElem?_eq_getElem hi)
  have e1 : b8 (cat (l.take i)) ++ [V.int .u8 (l[i]).1, V.int .u8 (2 + (((l[i]).2.length : Nat) : Int))] = b8 (cat (l.take i) ++ [(l[i]).1, 2 + (((l[i]).2.length : Nat) : Int)]) := by rw [← b8_app]; rfl
  have ha := ac_app 1 (b8 (cat (l.take i))) 1 [V.int .u8 (l[i]).1, V.int .u8 (2 + (((l[i]).2.length : Nat) : Int))] (by simp) (by rw [b8_len]; simp; omega)
  rw [e1] at ha
  have ha2 := ac_app 1 (b8 (cat (l.take i) ++ [(l[i]).1, 2 + (((l[i]).2.length : Nat) : Int)])) 1 (b8 (l[i]).2) (by simp [b8]) (by rw [b8_len, b8_len]; simp; omega)
  rw [b8_app, ← cat_succ hi] at ha2
  rw [xq_loop]
  simp -implicitDefEqProofs only [opts_Lay.l0, go_sem, reduceIte, Nat.reduceAdd, Nat.reduceSub, Nat.reduceMul, Nat.reduceLeDiff, Nat.reduceLT, Nat.reduceEqDiff, Int.reduceToNat, Int.reduceLT, Int.reduceLE, Int.reduceEq, Int.reduceNe, Int.reduceAdd, Int.reduceSub, Int.reduceMul, Int.reduceNeg, Int.reduceBEq, Int.reduceBNe, reduceCtorEq, dreduceIte, oes_len, b8_len, q0, q1, q2, Int.toNat_natCast, hx, w, w2, w3, lpD, ac_x, ac_t, setW_s, setW_0, ha, ha2, ac_pop]
theorem any253 {l : List Opt} : (l.any (fun o => decide (253 < o.2.length)) = true) = ∃ i, i < l.length ∧ d253 l i := by
  refine propext ⟨fun h => ?_, fun ⟨i, h1, h2, h3⟩ => ?_⟩
  · obtain ⟨o, h1, h2⟩ := List.any_eq_true.1 h
    obtain ⟨k, hk, rfl⟩ := List.mem_iff_getElem.1 h1
    exact ⟨k, hk, hk, by simpa using h2⟩
  · exact List.any_eq_true.2 ⟨l[i], List.getElem_mem _, by simpa using h3⟩
theorem lay53 (l : List Opt) (hn : l.length ≤ 40) : run G 64 [.v (.slc 2 (oes l))] [] = some (.tup [.lin 1 (b8 (layR l).1), .v (.int .i64 (layR l).2)], []) := by
  rw [xq_fn G rfl opts_Lay.g _ _ rfl]
  by_cases h32 : 32 < l.length
  · have q : (32 : Int) < ((l.length : Nat) : Int) := by omega
    have hR : layR l = ([], 5) := by rw [layR, if_pos h32]
    simp -implicitDefEqProofs only [opts_Lay.s, go_sem, reduceIte, Nat.reduceAdd, Nat.reduceSub, Nat.reduceMul, Nat.reduceLeDiff, Nat.reduceLT, Nat.reduceEqDiff, Int.reduceToNat, Int.reduceLT, Int.reduceLE, Int.reduceEq, Int.reduceNe, Int.reduceAdd, Int.reduceSub, Int.reduceMul, Int.reduceNeg, Int.reduceBEq, Int.reduceBNe, reduceCtorEq, dreduceIte, oes_len, q, hR]
    rfl
  · have q : ¬ (32 : Int) < ((l.length : Nat) : Int) := by omega
    rcases first_or (d253 l) l.length with h | ⟨j, h1, ⟨h2, h3⟩, h4⟩
    · have hR : layR l = (cat l, 0) := by rw [layR, if_neg h32, if_neg (by rw [any253]; exact fun ⟨i, h1, h2⟩ => h i h1 h2)]
      have e : ex G (.loop [7] opts_Lay.l0) (lyE l l.length) [[]] = some (.exit 0, lyE l l.length, [[]]) := by
        have h1 : ¬ ((l.length : Nat) : Int) < ((l.length : Nat) : Int) := by omega
        rw [xq_loop]
        simp -implicitDefEqProofs only [lyE, opts_Lay.l0, go_sem, reduceIte, Nat.reduceAdd, Nat.reduceSub, Nat.reduceMul, Nat.reduceLeDiff, Nat.reduceLT, Nat.reduceEqDiff, Int.reduceToNat, Int.reduceLT, Int.reduceLE, Int.reduceEq, Int.reduceNe, Int.reduceAdd, Int.reduceSub, Int.reduceMul, Int.reduceNeg, Int.reduceBEq, Int.reduceBNe, reduceCtorEq, dreduceIte, h1, lpD, ac_pop]
      have L : ex G (.loop [7] opts_Lay.l0) [.v (.slc 2 (oes l)), .nils 1, .v (.int .i64 0), .nils 1, .v (.slc 2 (oes l)), .v (.int .i64 (l.length : Nat)), .v (.int .i64 0), .undef] [[]] = _ := (lp0 (lyE l) l.length (fun i hi => ly_step l hn i hi (fun k hk => h k (by omega)))).trans e
      simp -implicitDefEqProofs only [opts_Lay.s, go_sem, reduceIte, Nat.reduceAdd, Nat.reduceSub, Nat.reduceMul, Nat.reduceLeDiff, Nat.reduceLT, Nat.reduceEqDiff, Int.reduceToNat, Int.reduceLT, Int.reduceLE, Int.reduceEq, Int.reduceNe, Int.reduceAdd, Int.reduceSub, Int.reduceMul, Int.reduceNeg, Int.reduceBEq, Int.reduceBNe, reduceCtorEq, dreduceIte, oes_len, q, L, List.take_length, ac_x, ac_t, setW_s, setW_0, ac_pop, ac_ret, hR]
    · have hR : layR l = ([], 8) := by rw [layR, if_neg h32, if_pos (by rw [any253]; exact ⟨j, h1, h2, h3⟩)]
      have e : ex G (.loop [7] opts_Lay.l0) (lyE l j) [[]] = some (.ret, [.v (.slc 2 (oes l)), .nils 1, .v (.int .i64 8), accG 1 (b8 (cat (l.take j))), .v (.slc 2 (oes l)), .v (.int .i64 (l.length : Nat)), .v (.int .i64 j), .undef], [[]]) := by
        have q3 : (j : Int) < ((l.length : Nat) : Int) := by omega
        have q4 : (0 : Int) ≤ j := by omega
        have q5 : (253 : Int) < (((l[j]).2.length : Nat) : Int) := by omega
        have hx := oes_at (List.getElem?_eq_getElem h2)
        rw [xq_loop]
        simp -implicitDefEqProofs only [opts_Lay.l0, go_sem, reduceIte, Nat.reduceAdd, Nat.reduceSub, Nat.reduceMul, Nat.reduceLeDiff, Nat.reduceLT, Nat.reduceEqDiff, Int.reduceToNat, Int.reduceLT, Int.reduceLE, Int.reduceEq, Int.reduceNe, Int.reduceAdd, Int.reduceSub, Int.reduceMul, Int.reduceNeg, Int.reduceBEq, Int.reduceBNe, reduceCtorEq, dreduceIte, oes_len, b8_len, q3, q4, q5, Int.toNat_natCast, hx, lpD, ac_pop]
      have L : ex G (.loop [7] opts_Lay.l0) [.v (.slc 2 (oes l)), .nils 1, .v (.int .i64 0), .nils 1, .v (.slc 2 (oes l)), .v (.int .i64 (l.length : Nat)), .v (.int .i64 0), .undef] [[]] = _ := (lp0 (lyE l) j (fun i hi => ly_step l hn i (by omega) (fun k hk => h4 k (by omega)))).trans e
      simp -implicitDefEqProofs only [opts_Lay.s, go_sem, reduceIte, Nat.reduceAdd, Nat.reduceSub, Nat.reduceMul, Nat.reduceLeDiff, Nat.reduceLT, Nat.reduceEqDiff, Int.reduceToNat, Int.reduceLT, Int.reduceLE, Int.reduceEq, Int.reduceNe, Int.reduceAdd, Int.reduceSub, Int.reduceMul, Int.reduceNeg, Int.reduceBEq, Int.reduceBNe, reduceCtorEq, dreduceIte, oes_len, q, L, List.take_length, ac_x, ac_t, setW_s, setW_0, ac_pop, ac_ret, hR]
      rfl

abbrev rlE (l : List Opt) (i : Nat) : List D := [.v (.slc 2 (oes l)), .nils 1, .v (.int .i64 0), accG 1 (b8 (cat (l.take i))), .v (.int .i64 i)]
theorem clone89 (l : List Int) (h : l.length ≤ M) : run G 23 [.v (.slc 1 (b8 l))] [] = some (clD 1 (b8 l), []) := by
  rw [xq_fn G rfl bytes_Clone.g _ _ rfl]
  cases l with
  | nil =>
    simp -implicitDefEqProofs only [bytes_Clone.s, go_sem, reduceIte, Nat.reduceAdd, Nat.reduceSub, Nat.reduceMul, Nat.reduceLeDiff, Nat.reduceLT, Nat.reduceEqDiff, Int.reduceToNat, Int.reduceLT, Int.reduceLE, Int.reduceEq, Int.reduceNe, Int.reduceAdd, Int.reduceSub, Int.reduceMul, Int.reduceNeg, Int.reduceBEq, Int.reduceBNe, reduceCtorEq, dreduceIte, b8, List.map_nil]
    rfl
  | cons x l =>
    have hB := hmax
    have hM : M = 100000 := rfl
    have h2 : (l.length + 1) ≤ maxB := by simp at h; omega
    simp -implicitDefEqProofs only [bytes_Clone.s, go_sem, reduceIte, Nat.reduceAdd, Nat.reduceSub, Nat.reduceMul, Nat.reduceLeDiff, Nat.reduceLT, Nat.reduceEqDiff, Int.reduceToNat, Int.reduceLT, Int.reduceLE, Int.reduceEq, Int.reduceNe, Int.reduceAdd, Int.reduceSub, Int.reduceMul, Int.reduceNeg, Int.reduceBEq, Int.reduceBNe, reduceCtorEq, dreduceIte, b8, List.map_cons, isNilV, h2, List.length_map, Nat.mul_one]
    rfl
theorem equal91 (a b : List Int) (ha : okB a) (hb : okB b) (st : St) : run G 25 [.v (.slc 1 (b8 a)), .v (.slc 1 (b8 b))] [] = some (.v (.bool (a == b)), []) := by
  rw [xq_fn G rfl bytes_Equal.g _ _ rfl]
  simp -implicitDefEqProofs only [bytes_Equal.s, go_sem, reduceIte, Nat.reduceAdd, Nat.reduceSub, Nat.reduceMul, Nat.reduceLeDiff, Nat.reduceLT, Nat.reduceEqDiff, Int.reduceToNat, Int.reduceLT, Int.reduceLE, Int.reduceEq, Int.reduceNe, Int.reduceAdd, Int.reduceSub, Int.reduceMul, Int.reduceNeg, Int.reduceBEq, Int.reduceBNe, reduceCtorEq, dreduceIte, slcOf, bytesOf_b8 a ha, bytesOf_b8 b hb, by8_inj a b ha hb]
abbrev od (o : Opt) : D := .v (oe o)
def fstR (b : List Int) : Opt × Int × Int :=
  match b with
  | [] => ((0, []), 0, 4)
  | [_] => ((0, []), 0, 4)
  | t :: n :: r => if n < 2 then ((0, []), 0, 3) else if ((r.length : Nat) : Int) + 2 < n then ((0, []), 0, 4) else ((t, r.take (n - 2).toNat), n, 0)
def prs : Nat → List Opt → List Int → List Opt × Int
  | _, acc, [] => (acc, 0)
  | 0, _, _ :: _ => ([], 5)
  | r + 1, acc, x :: b => if (fstR (x :: b)).2.2 ≠ 0 then ([], (fstR (x :: b)).2.2) else prs r (acc ++ [(fstR (x :: b)).1]) ((x :: b).drop (fstR (x :: b)).2.1.toNat)
theorem fst_ok {x : Int} {b : List Int} (hb : okB (x :: b)) (h : (fstR (x :: b)).2.2 = 0) : 2 ≤ (fstR (x :: b)).2.1 ∧ (fstR (x :: b)).2.1 ≤ ((x :: b).length : Nat) ∧ okO (fstR (x :: b)).1 := by
  match b, hb, h with
  | [], _, h => simp [fstR] at h
  | n :: r, hb, h =>
    have h0 := hb x (by simp)
    simp only [fstR] at h ⊢
    split at h
    · simp at h
    · split at h
      · simp at h
      · rename_i c1 c2
        rw [if_neg c1, if_neg c2]
        refine ⟨by simp only; omega, by simp; omega, h0, fun y hy => hb y ?_⟩
        simp only [List.mem_cons]
        exact .inr (.inr (List.mem_of_mem_take hy))
theorem okB_app {a b : List Int} (ha : okB a) (hb : okB b) : okB (a ++ b) := fun x hx => (List.mem_append.1 hx).elim (ha x) (hb x)
theorem cat_ok : ∀ (l : List Opt), okL l → (∀ o ∈ l, o.2.length ≤ 253) → okB (cat l)
  | [], _, _ => by intro x hx; simp [cat] at hx
  | o :: l, h, h2 => by
    have ho := h o (by simp)
    have hd := h2 o (by simp)
    have ih := cat_ok l (fun o ho => h o (by simp [ho])) fun o ho => h2 o (by simp [ho])
    rw [show cat (o :: l) = ([o.1, 2 + (o.2.length : Int)] ++ o.2) ++ cat l by simp [cat]]
    refine okB_app (okB_app (fun x hx => ?_) ho.2) ih
    simp only [List.mem_cons, List.not_mem_nil, or_false] at hx
    rcases hx with rfl | rfl
    · exact ho.1
    · omega
theorem layR_ok (l : List Opt) (h : okL l) : okB (layR l).1 ∧ (layR l).1.length ≤ 10000 := by
  unfold layR
  split
  · exact ⟨fun x hx => by simp at hx, by simp⟩
  · split
    · exact ⟨fun x hx => by simp at hx, by simp⟩
    · rename_i h1 h2
      have h3 : ∀ o ∈ l, o.2.length ≤ 253 := fun o ho => Classical.byContradiction fun hn => h2 (List.any_eq_true.2 ⟨o, ho, by simp only [decide_eq_true_eq]; omega⟩)
      exact ⟨cat_ok l h h3, by have := cat_len l h3; simp only; omega⟩
theorem prs_cat : ∀ (l acc : List Opt) (r : Nat), l.length ≤ r → (∀ o ∈ l, o.2.length ≤ 253) → prs r acc (cat l) = (acc ++ l, 0)
  | [], acc, r, _, _ => by simp [cat, prs]
  | o :: l, acc, 0, h, _ => by simp at h
  | o :: l, acc, r + 1, h, h2 => by
    have hd := h2 o (by simp)
    have e : cat (o :: l) = o.1 :: (2 + (o.2.length : Int)) :: (o.2 ++ cat l) := by simp [cat]
    have hR : fstR (o.1 :: (2 + (o.2.length : Int)) :: (o.2 ++ cat l)) = (o, 2 + (o.2.length : Int), 0) := by
      simp only [fstR]
      rw [if_neg (by omega), if_neg (by simp; omega), show (2 + (o.2.length : Int) - 2).toNat = o.2.length by omega, List.take_left]
    rw [e, prs, hR, if_neg (by simp)]
    have e2 : (o.1 :: (2 + (o.2.length : Int)) :: (o.2 ++ cat l)).drop (2 + (o.2.length : Int)).toNat = cat l := by
      rw [show (2 + (o.2.length : Int)).toNat = o.2.length + 1 + 1 by omega, List.drop_succ_cons, List.drop_succ_cons, List.drop_left]
    simp only
    rw [e2, prs_cat l (acc ++ [o]) r (by simp at h; omega) (fun o ho => h2 o (by simp [ho]))]
    simp
theorem prs_lay (l : List Opt) (h : (layR l).2 = 0) : prs 32 [] (layR l).1 = (l, 0) := by
  unfold layR at h ⊢
  split at h
  · simp at h
  · split at h
    · simp at h
    · rename_i h1 h2
      have h3 : ∀ o ∈ l, o.2.length ≤ 253 := fun o ho => Classical.byContradiction fun hn => h2 (List.any_eq_true.2 ⟨o, ho, by simp only [decide_eq_true_eq]; omega⟩)
      rw [if_neg h1, if_neg h2]
      simpa using prs_cat l [] 32 (by omega) h3
theorem prs_ok : ∀ (r : Nat) (acc : List Opt) (b : List Int), okB b → okL acc → (∀ o ∈ acc, o.2.length ≤ 253) →
    okL (prs r acc b).1 ∧ (prs r acc b).1.length ≤ acc.length + r ∧ (∀ o ∈ (prs r acc b).1, o.2.length ≤ 253) ∧ ((prs r acc b).2 = 0 → cat (prs r acc b).1 = cat acc ++ b)
  | r, acc, [], hb, ha, h2 => by
    have : prs r acc [] = (acc, 0) := by cases r <;> rfl
    rw [this]
    exact ⟨ha, by simp, h2, fun _ => by simp⟩
  | 0, acc, x :: b, hb, ha, h2 => by
    rw [prs]
    exact ⟨fun o ho => by simp at ho, by simp, fun o ho => by simp at ho, fun h => by simp at h⟩
  | r + 1, acc, x :: b, hb, ha, h2 => by
    rw [prs]
    by_cases c : (fstR (x :: b)).2.2 = 0
    · rw [if_neg (by simpa using c)]
      have hk := fst_ok hb c
      have hd : (fstR (x :: b)).1.2.length ≤ 253 ∧ cat [(fstR (x :: b)).1] ++ (x :: b).drop (fstR (x :: b)).2.1.toNat = x :: b := by
        match b, hb, c with
        | [], _, c => simp [fstR] at c
        | n :: q, hb, c =>
          have hn := hb n (by simp)
          simp only [fstR] at c ⊢
          split at c
          · simp at c
          · split at c
            · simp at c
            · rename_i c1 c2
              rw [if_neg c1, if_neg c2]
              have hl : (q.take (n - 2).toNat).length = (n - 2).toNat := by rw [List.length_take]; omega
              refine ⟨by simp only; omega, ?_⟩
              have e : n.toNat = (n - 2).toNat + 1 + 1 := by omega
              simp only [cat, List.flatMap_cons, List.flatMap_nil, List.append_nil, List.cons_append, List.nil_append]
              rw [e, List.drop_succ_cons, List.drop_succ_cons, List.take_append_drop, hl, show 2 + (((n - 2).toNat : Nat) : Int) = n by omega]
      obtain ⟨k1, k2, k3, k4⟩ := prs_ok r (acc ++ [(fstR (x :: b)).1]) ((x :: b).drop (fstR (x :: b)).2.1.toNat) (fun y hy => hb y (List.mem_of_mem_drop hy))
        (fun o ho => (List.mem_append.1 ho).elim (ha o) (fun h => by rw [List.mem_singleton.1 h]; exact hk.2.2)) (fun o ho => (List.mem_append.1 ho).elim (h2 o) (fun h => by rw [List.mem_singleton.1 h]; exact hd.1))
      refine ⟨k1, by simp at k2; omega, k3, fun h => ?_⟩
      rw [k4 h, ← show cat acc ++ cat [(fstR (x :: b)).1] = cat (acc ++ [(fstR (x :: b)).1]) by simp [cat], List.append_assoc, hd.2]
    · rw [if_pos c]
      exact ⟨fun o ho => by simp at ho, by simp, fun o ho => by simp at ho, fun h => absurd h c⟩
theorem lay_prs (b : List Int) (hb : okB b) (h : (prs 32 [] b).2 = 0) : layR (prs 32 [] b).1 = (b, 0) := by
  obtain ⟨h1, h2, h3, h4⟩ := prs_ok 32 [] b hb (fun o ho => by simp at ho) (fun o ho => by simp at ho)
  unfold layR
  rw [if_neg (by simp at h2; omega), if_neg (by simp only [List.any_eq_true, not_exists, not_and, decide_eq_true_eq]; intro o ho; have := h3 o ho; omega), h4 h]
  simp [cat]

end Go.Q
