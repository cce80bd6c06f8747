/- What the functions of PoolAll compute. No condition. -/
import Derived.Test.YtjglogffdihahaaSp
import Derived.Test.YtjglogffdihahaaEq
import Derived.Laws.MakeOwn
import Derived.ProofKit
set_option maxRecDepth 100000
set_option linter.unusedSimpArgs false
set_option linter.unusedVariables false
namespace Go.Q
open SOp SCode

def fnOf (n : Nat) : Option SFunc := (fns.find? (·.1 == n)).map (·.2.1)
def G : Prg := { fn := fnOf, prim := fun _ => none }
theorem fn6 : G.fn 6 = some euphroelaw31_PoolAll.s := by rfl
theorem fn29 : G.fn 29 = some pool_New.s := by rfl
theorem fn30 : G.fn 30 = some pool_Pool_Give.s := by rfl
theorem fn31 : G.fn 31 = some pool_Pool_Free.s := by rfl
theorem fn32 : G.fn 32 = some euphroelaw31_alive.s := by rfl
theorem fn33 : G.fn 33 = some pool_Pool_Take.s := by rfl
theorem fn79 : G.fn 79 = some pool_Pool_find.s := by rfl
theorem fn80 : G.fn 80 = some pool_Pool_at.s := by rfl
theorem fn81 : G.fn 81 = some pool_Pool_set.s := by rfl
theorem fn82 : G.fn 82 = some pool_Pool_Held.s := by rfl
theorem fn83 : G.fn 83 = some pool_Pool_Of.s := by rfl
theorem fn84 : G.fn 84 = some pool_Pool_Holder.s := by rfl
theorem fn113 : G.fn 113 = some slices_Index_pool_lease.s := by rfl
theorem fn114 : G.fn 114 = some slices_Clone_pool_lease.s := by rfl

attribute [local congr] bind_c map_c
theorem exN {G : Prg} {n m : Nat} {c env st r} (h : exec (runN G m) n c env st = some r) : ex G c env st = some r := ex_of (exec_le (le_run G m) (Nat.le_refl n) h)
abbrev In (x : Int) : Prop := -9223372036854775808 ≤ x ∧ x ≤ 9223372036854775807
theorem wrapS {x : Int} (h : In x) : IntKind.i64.wrap x = x := by rw [IntKind.wrap_i64]; omega
theorem wrap32 {x : Int} (h : 0 ≤ x ∧ x ≤ 4294967295) : IntKind.u32.wrap x = x := by rw [IntKind.wrap_u32]; omega
theorem wrap_u64' (x : Int) : IntKind.u64.wrap x = x % 18446744073709551616 := by simp [IntKind.wrap, IntKind.signed, IntKind.bits]
theorem wrap64 {x : Int} (h : 0 ≤ x ∧ x ≤ 18446744073709551615) : IntKind.u64.wrap x = x := by rw [wrap_u64']; omega

abbrev le (p : Int × Bool) : V := .agg [.int .i64 p.1, .bool p.2]
def en (l : List (Int × Bool)) : List V := l.map le
theorem en_len (l : List (Int × Bool)) : (en l).length = l.length := by simp [en]
theorem en_set (l : List (Int × Bool)) (i : Nat) (x : Int × Bool) : ((en l).map D.v).set i (.v (le x)) = (en (l.set i x)).map D.v := by simp [en, List.map_set]
theorem en_nil (l : List (Int × Bool)) (h : l ≠ []) : eqD .s (.v (.slc 2 (en l))) (.nils 2) = some false := by
  cases l with
  | nil => exact absurd rfl h
  | cons p l => rfl
abbrev pv (f : Int) (l : List (Int × Bool)) : V := .agg [.int .u32 f, .slc 2 (en l)]
theorem en_at {l : List (Int × Bool)} {i : Nat} {p : Int × Bool} (h : l[i]? = some p) : (en l)[i]? = some (le p) := by simp [en, h]
theorem toVL_v : ∀ (l : List V), toVL (l.map .v) = some l
  | [] => rfl
  | x :: l => by simp only [List.map_cons, toVL, toV, Option.bind_some, toVL_v l, Option.map_some]
theorem rowV_full (sz : Nat) (l : List V) : rowV sz 0 l.length (some (.row (l.map .v))) = some (.slc sz l) := by
  have e : (l.map D.v).take l.length = l.map D.v := List.take_of_length_le (by simp)
  simp [rowV, e, toVL_v]
theorem make_eq (env ts : List D) (st : St) (sz bytes : Nat) (x : V) (n : Nat) (hb : (n : Int) * bytes ≤ maxB) (hz : (cellsOf (.v x)).length = sz) :
    makeD env ts st sz bytes (.v x) (n : Int) (n : Int) = some (.own (addB st (.row ((List.replicate n x).map .v))).2 sz 0 (List.replicate n x).length, env, ts, (addB st (.row ((List.replicate n x).map .v))).1) := by
  unfold makeD
  rw [if_pos ⟨by omega, rfl, hb, hz⟩]
  simp

/-! ### Index, find, at -/
theorem at_ (f i : Int) (l : List (Int × Bool)) : run G 80 [.v (pv f l), .v (.int .i64 i)] [] = some (.v (.int .u32 (IntKind.u32.wrap (f + IntKind.u32.wrap i))), []) := by
  rw [xq_fn G rfl fn80 _ _ rfl]
  simp -implicitDefEqProofs only [pool_Pool_at.s, go_sem, reduceIte, Nat.reduceAdd, Nat.reduceSub, Nat.reduceMul, Nat.reduceLeDiff, Nat.reduceLT, Nat.reduceEqDiff, Int.reduceToNat, Int.reduceLT, Int.reduceLE, Int.reduceEq, Int.reduceNe, Int.reduceAdd, Int.reduceSub, Int.reduceMul, Int.reduceNeg, Int.reduceBEq, Int.reduceBNe, reduceCtorEq, dreduceIte]

abbrev ixEnv (l : List (Int × Bool)) (h : Int) (r : Int) (i : Nat) (x : D) : List D := [.v (.slc 2 (en l)), .v (le (h, true)), .ptr ⟨0, 0⟩ 0 0, .v (.int .i64 r), .v (.int .i64 (l.length : Nat)), .v (.int .i64 i), x]
theorem ix_skip (l : List (Int × Bool)) (h : Int) (i : Nat) (p : Int × Bool) (hn : l.length ≤ 1000) (hi : l[i]? = some p) (hp : p ≠ (h, true)) :
    ex G slices_Index_pool_lease.l0 (ixEnv l h 0 i .undef) [[], [.row [.v (le (h, true))]]] = some (.normal, ixEnv l h 0 (i + 1) (.v (.int .i64 i)), [[], [.row [.v (le (h, true))]]]) := by
  have hlt : i < l.length := (List.getElem?_eq_some_iff.1 hi).1
  have h1 : (i : Int) < (l.length : Nat) := by omega
  have h2 : (0 : Int) ≤ i := by omega
  have hx := en_at hi
  have w : IntKind.i64.wrap ((i : Int) + 1) = ((i + 1 : Nat) : Int) := by rw [wrapS (by omega)]; omega
  have hb : (h == p.1 && true == p.2) = false := by
    obtain ⟨a, b⟩ := p
    by_cases e : a = h
    · subst e; cases b <;> simp_all
    · simp [Ne.symm e]
  simp -implicitDefEqProofs only [slices_Index_pool_lease.l0, go_sem, reduceIte, Nat.reduceAdd, Nat.reduceSub, Nat.reduceMul, Nat.reduceLeDiff, Nat.reduceLT, Nat.reduceEqDiff, Int.reduceToNat, Int.reduceLT, Int.reduceLE, Int.reduceEq, Int.reduceNe, Int.reduceAdd, Int.reduceSub, Int.reduceMul, Int.reduceNeg, Int.reduceBEq, Int.reduceBNe, reduceCtorEq, dreduceIte, h1, h2, hx, Int.toNat_natCast, en_len, w, hb]

theorem ix_run (l : List (Int × Bool)) (h : Int) (hn : l.length ≤ 1000) (j : Nat) (hj : j ≤ l.length) : ∀ (k i : Nat), i + k = j → (∀ i' p, i ≤ i' → i' < j → l[i']? = some p → p ≠ (h, true)) →
    ex G (.loop [6] slices_Index_pool_lease.l0) (ixEnv l h 0 i .undef) [[.row [.v (le (h, true))]]] = ex G (.loop [6] slices_Index_pool_lease.l0) (ixEnv l h 0 j .undef) [[.row [.v (le (h, true))]]]
  | 0, i, hk, hp => by
    have : i = j := by omega
    subst this; rfl
  | k + 1, i, hk, hp => by
    have hlt : i < l.length := by omega
    rw [xq_loop, ix_skip l h i l[i] hn (List.getElem?_eq_getElem hlt) (hp i _ (Nat.le_refl _) (by omega) (List.getElem?_eq_getElem hlt))]
    have := ix_run l h hn j hj k (i + 1) (by omega) (fun i' p h1 h2 h3 => hp i' p (by omega) h2 h3)
    simp -implicitDefEqProofs only [go_sem, reduceIte, Nat.reduceAdd, Nat.reduceSub, Nat.reduceMul, Nat.reduceLeDiff, Nat.reduceLT, Nat.reduceEqDiff, Int.reduceToNat, Int.reduceLT, Int.reduceLE, Int.reduceEq, Int.reduceNe, Int.reduceAdd, Int.reduceSub, Int.reduceMul, Int.reduceNeg, Int.reduceBEq, Int.reduceBNe, reduceCtorEq, dreduceIte, lpD]
    rw [← this]
theorem ix_none (l : List (Int × Bool)) (h : Int) (hn : l.length ≤ 1000) (hp : ∀ p ∈ l, p ≠ (h, true)) : run G 113 [.v (.slc 2 (en l)), .v (le (h, true))] [] = some (.v (.int .i64 (-1)), []) := by
  rw [xq_fn G rfl fn113 _ _ rfl]
  have L := ix_run l h hn l.length (Nat.le_refl _) l.length 0 (by omega) (fun i' p _ _ h3 => hp p (List.mem_of_getElem? h3))
  have e : ex G (.loop [6] slices_Index_pool_lease.l0) (ixEnv l h 0 l.length .undef) [[.row [.v (le (h, true))]]] = some (.exit 0, ixEnv l h 0 l.length .undef, [[.row [.v (le (h, true))]]]) := by
    have h1 : ¬ ((l.length : Nat) : Int) < ((l.length : Nat) : Int) := by omega
    rw [xq_loop]
    simp -implicitDefEqProofs only [slices_Index_pool_lease.l0, go_sem, reduceIte, Nat.reduceAdd, Nat.reduceSub, Nat.reduceMul, Nat.reduceLeDiff, Nat.reduceLT, Nat.reduceEqDiff, Int.reduceToNat, Int.reduceLT, Int.reduceLE, Int.reduceEq, Int.reduceNe, Int.reduceAdd, Int.reduceSub, Int.reduceMul, Int.reduceNeg, Int.reduceBEq, Int.reduceBNe, reduceCtorEq, dreduceIte, h1, lpD]
  rw [e] at L
  have L' : ex G (.loop [6] slices_Index_pool_lease.l0) [.v (.slc 2 (en l)), .v (le (h, true)), .ptr ⟨0, 0⟩ 0 0, .v (.int .i64 0), .v (.int .i64 (l.length : Nat)), .v (.int .i64 0), .undef] [[.row [.v (le (h, true))]]] = _ := L
  simp -implicitDefEqProofs only [slices_Index_pool_lease.s, go_sem, reduceIte, Nat.reduceAdd, Nat.reduceSub, Nat.reduceMul, Nat.reduceLeDiff, Nat.reduceLT, Nat.reduceEqDiff, Int.reduceToNat, Int.reduceLT, Int.reduceLE, Int.reduceEq, Int.reduceNe, Int.reduceAdd, Int.reduceSub, Int.reduceMul, Int.reduceNeg, Int.reduceBEq, Int.reduceBNe, reduceCtorEq, dreduceIte, en_len, L']
theorem ix_some (l : List (Int × Bool)) (h : Int) (hn : l.length ≤ 1000) (j : Nat) (hj : l[j]? = some (h, true)) (hp : ∀ i' p, i' < j → l[i']? = some p → p ≠ (h, true)) : run G 113 [.v (.slc 2 (en l)), .v (le (h, true))] [] = some (.v (.int .i64 j), []) := by
  rw [xq_fn G rfl fn113 _ _ rfl]
  have hlt : j < l.length := (List.getElem?_eq_some_iff.1 hj).1
  have L := ix_run l h hn j (by omega) j 0 (by omega) (fun i' p _ h2 h3 => hp i' p h2 h3)
  have e : ex G (.loop [6] slices_Index_pool_lease.l0) (ixEnv l h 0 j .undef) [[.row [.v (le (h, true))]]] = some (.ret, ixEnv l h j j .undef, [[.row [.v (le (h, true))]]]) := by
    have h1 : (j : Int) < ((l.length : Nat) : Int) := by omega
    have h2 : (0 : Int) ≤ j := by omega
    have hx := en_at hj
    rw [xq_loop]
    simp -implicitDefEqProofs only [slices_Index_pool_lease.l0, go_sem, reduceIte, Nat.reduceAdd, Nat.reduceSub, Nat.reduceMul, Nat.reduceLeDiff, Nat.reduceLT, Nat.reduceEqDiff, Int.reduceToNat, Int.reduceLT, Int.reduceLE, Int.reduceEq, Int.reduceNe, Int.reduceAdd, Int.reduceSub, Int.reduceMul, Int.reduceNeg, Int.reduceBEq, Int.reduceBNe, reduceCtorEq, dreduceIte, h1, h2, hx, Int.toNat_natCast, en_len, beq_self_eq_true, lpD]
  rw [e] at L
  have L' : ex G (.loop [6] slices_Index_pool_lease.l0) [.v (.slc 2 (en l)), .v (le (h, true)), .ptr ⟨0, 0⟩ 0 0, .v (.int .i64 0), .v (.int .i64 (l.length : Nat)), .v (.int .i64 0), .undef] [[.row [.v (le (h, true))]]] = _ := L
  simp -implicitDefEqProofs only [slices_Index_pool_lease.s, go_sem, reduceIte, Nat.reduceAdd, Nat.reduceSub, Nat.reduceMul, Nat.reduceLeDiff, Nat.reduceLT, Nat.reduceEqDiff, Int.reduceToNat, Int.reduceLT, Int.reduceLE, Int.reduceEq, Int.reduceNe, Int.reduceAdd, Int.reduceSub, Int.reduceMul, Int.reduceNeg, Int.reduceBEq, Int.reduceBNe, reduceCtorEq, dreduceIte, en_len, L']

theorem find_none (f : Int) (l : List (Int × Bool)) (h : Int) (hn : l.length ≤ 1000) (hp : ∀ p ∈ l, p ≠ (h, true)) : run G 79 [.v (pv f l), .v (.int .i64 h)] [] = some (.v (.int .i64 (-1)), []) := by
  rw [xq_fn G rfl fn79 _ _ rfl]
  simp -implicitDefEqProofs only [pool_Pool_find.s, go_sem, reduceIte, Nat.reduceAdd, Nat.reduceSub, Nat.reduceMul, Nat.reduceLeDiff, Nat.reduceLT, Nat.reduceEqDiff, Int.reduceToNat, Int.reduceLT, Int.reduceLE, Int.reduceEq, Int.reduceNe, Int.reduceAdd, Int.reduceSub, Int.reduceMul, Int.reduceNeg, Int.reduceBEq, Int.reduceBNe, reduceCtorEq, dreduceIte, ix_none l h hn hp]
theorem find_some (f : Int) (l : List (Int × Bool)) (h : Int) (hn : l.length ≤ 1000) (j : Nat) (hj : l[j]? = some (h, true)) (hp : ∀ i' p, i' < j → l[i']? = some p → p ≠ (h, true)) : run G 79 [.v (pv f l), .v (.int .i64 h)] [] = some (.v (.int .i64 j), []) := by
  rw [xq_fn G rfl fn79 _ _ rfl]
  simp -implicitDefEqProofs only [pool_Pool_find.s, go_sem, reduceIte, Nat.reduceAdd, Nat.reduceSub, Nat.reduceMul, Nat.reduceLeDiff, Nat.reduceLT, Nat.reduceEqDiff, Int.reduceToNat, Int.reduceLT, Int.reduceLE, Int.reduceEq, Int.reduceNe, Int.reduceAdd, Int.reduceSub, Int.reduceMul, Int.reduceNeg, Int.reduceBEq, Int.reduceBNe, reduceCtorEq, dreduceIte, ix_some l h hn j hj hp]

/-! ### set -/
theorem szs_en : ∀ (l : List (Int × Bool)), szs 2 (en l) = true
  | [] => rfl
  | p :: l => by
    have := szs_en l
    simp only [en] at this
    simp only [en, List.map_cons, szs, cellsV, List.length_cons, List.length_nil, this]
    rfl
theorem clone (l : List (Int × Bool)) (h0 : l ≠ []) (hn : l.length ≤ 1000) (fr : List Blk) (st : St) :
    run G 114 [.v (.slc 2 (en l))] (fr :: st) = some (.own ⟨st.length, fr.length⟩ 2 0 l.length, (fr ++ [.row ((en l).map .v)]) :: st) := by
  rw [xq_fn G rfl fn114 _ _ rfl]
  have h2 : (en l).length * 16 ≤ maxB := by
    have : maxB = 140737488355328 := rfl
    rw [en_len]; omega
  have h4 : (en l).length ≠ 0 := by rw [en_len]; intro e; exact h0 (List.length_eq_zero_iff.1 e)
  have h5 : cloneD 1 2 16 [.v (.slc 2 (en l)), .nils 2] ([] :: fr :: st) (en l) = some (.normal, [.v (.slc 2 (en l)), .own ⟨st.length, fr.length⟩ 2 0 (en l).length], [] :: (fr ++ [.row ((en l).map .v)]) :: st) := by
    unfold cloneD
    rw [if_pos ⟨h4, h2, szs_en l⟩]
    rfl
  have h6 : st.length < st.length + 1 := by omega
  simp -implicitDefEqProofs only [slices_Clone_pool_lease.s, go_sem, reduceIte, Nat.reduceAdd, Nat.reduceSub, Nat.reduceMul, Nat.reduceLeDiff, Nat.reduceLT, Nat.reduceEqDiff, Int.reduceToNat, Int.reduceLT, Int.reduceLE, Int.reduceEq, Int.reduceNe, Int.reduceAdd, Int.reduceSub, Int.reduceMul, Int.reduceNeg, Int.reduceBEq, Int.reduceBNe, reduceCtorEq, dreduceIte, h5, h6, en_nil l h0, en_len, slcOf]
theorem row_en (l : List (Int × Bool)) : rowV 2 0 l.length (some (.row ((en l).map D.v))) = some (.slc 2 (en l)) := by
  have := rowV_full 2 (en l)
  rw [en_len] at this
  exact this
theorem set_ (f : Int) (l : List (Int × Bool)) (i : Nat) (x : Int × Bool) (hn : l.length ≤ 1000) (hi : i < l.length) : run G 81 [.v (pv f l), .v (.int .i64 i), .v (le x)] [] = some (.v (pv f (l.set i x)), []) := by
  rw [xq_fn G rfl fn81 _ _ rfl]
  have h0 : l ≠ [] := fun e => by rw [e] at hi; simp at hi
  have h1 : (i : Int) < ((l.length : Nat) : Int) := by omega
  have h2 : (0 : Int) ≤ i := by omega
  have hx : ((en l).map D.v)[i]? = some (.v (le l[i])) := by simp [en, hi]
  have hr := row_en (l.set i x)
  rw [List.length_set] at hr
  simp -implicitDefEqProofs only [pool_Pool_set.s, go_sem, reduceIte, Nat.reduceAdd, Nat.reduceSub, Nat.reduceMul, Nat.reduceLeDiff, Nat.reduceLT, Nat.reduceEqDiff, Int.reduceToNat, Int.reduceLT, Int.reduceLE, Int.reduceEq, Int.reduceNe, Int.reduceAdd, Int.reduceSub, Int.reduceMul, Int.reduceNeg, Int.reduceBEq, Int.reduceBNe, reduceCtorEq, dreduceIte, clone l h0 hn, h1, h2, Int.toNat_natCast, hx, en_set, hr]

/-! ### Give, Take -/
abbrev gvEnv (f : Int) (l : List (Int × Bool)) (h : Int) (i : Nat) (x : D) : List D := [.v (pv f l), .v (.int .i64 h), .ptr ⟨0, 0⟩ 0 0, .ptr ⟨0, 1⟩ 0 0, .v (.int .u32 0), .v (.int .i64 0), .v (.int .i64 (-1)), .v (.int .i64 (l.length : Nat)), .v (.int .i64 i), x]
abbrev gvSt (f : Int) (l : List (Int × Bool)) : List Blk := [.row [.v (pv f l)], .row [.agg [.v (.int .u32 0), .nils 2]]]
theorem gv_skip (f : Int) (l : List (Int × Bool)) (h : Int) (i : Nat) (a : Int) (hn : l.length ≤ 1000) (hi : l[i]? = some (a, true)) :
    ex G pool_Pool_Give.l0 (gvEnv f l h i .undef) [[], gvSt f l] = some (.normal, gvEnv f l h (i + 1) (.v (.int .i64 i)), [[], gvSt f l]) := by
  have hlt : i < l.length := (List.getElem?_eq_some_iff.1 hi).1
  have h1 : (i : Int) < (l.length : Nat) := by omega
  have h2 : (0 : Int) ≤ i := by omega
  have hx := en_at hi
  have w : IntKind.i64.wrap ((i : Int) + 1) = ((i + 1 : Nat) : Int) := by rw [wrapS (by omega)]; omega
  simp -implicitDefEqProofs only [pool_Pool_Give.l0, go_sem, reduceIte, Nat.reduceAdd, Nat.reduceSub, Nat.reduceMul, Nat.reduceLeDiff, Nat.reduceLT, Nat.reduceEqDiff, Int.reduceToNat, Int.reduceLT, Int.reduceLE, Int.reduceEq, Int.reduceNe, Int.reduceAdd, Int.reduceSub, Int.reduceMul, Int.reduceNeg, Int.reduceBEq, Int.reduceBNe, reduceCtorEq, dreduceIte, h1, h2, hx, Int.toNat_natCast, en_len, w]
theorem gv_run (f : Int) (l : List (Int × Bool)) (h : Int) (hn : l.length ≤ 1000) (j : Nat) (hj : j ≤ l.length) : ∀ (k i : Nat), i + k = j → (∀ i' p, i ≤ i' → i' < j → l[i']? = some p → p.2 = true) →
    ex G (.loop [9] pool_Pool_Give.l0) (gvEnv f l h i .undef) [gvSt f l] = ex G (.loop [9] pool_Pool_Give.l0) (gvEnv f l h j .undef) [gvSt f l]
  | 0, i, hk, hp => by
    have : i = j := by omega
    subst this; rfl
  | k + 1, i, hk, hp => by
    have hlt : i < l.length := by omega
    have h0 : l[i]? = some (l[i].1, true) := by
      have := hp i _ (Nat.le_refl _) (by omega) (List.getElem?_eq_getElem hlt)
      rw [List.getElem?_eq_getElem hlt, ← this]
    rw [xq_loop, gv_skip f l h i l[i].1 hn h0]
    have := gv_run f l h hn j hj k (i + 1) (by omega) (fun i' p h1 h2 h3 => hp i' p (by omega) h2 h3)
    simp -implicitDefEqProofs only [go_sem, reduceIte, Nat.reduceAdd, Nat.reduceSub, Nat.reduceMul, Nat.reduceLeDiff, Nat.reduceLT, Nat.reduceEqDiff, Int.reduceToNat, Int.reduceLT, Int.reduceLE, Int.reduceEq, Int.reduceNe, Int.reduceAdd, Int.reduceSub, Int.reduceMul, Int.reduceNeg, Int.reduceBEq, Int.reduceBNe, reduceCtorEq, dreduceIte, lpD]
    rw [← this]
theorem give_free (f : Int) (l : List (Int × Bool)) (h : Int) (hn : l.length ≤ 1000) (hf : ∀ p ∈ l, p ≠ (h, true)) (j : Nat) (a : Int) (hj : l[j]? = some (a, false)) (hp : ∀ i' p, i' < j → l[i']? = some p → p.2 = true) :
    run G 30 [.v (pv f l), .v (.int .i64 h)] [] = some (.tup [.v (pv f (l.set j (h, true))), .v (.int .u32 (IntKind.u32.wrap (f + IntKind.u32.wrap j))), .v (.int .i64 0)], []) := by
  rw [xq_fn G rfl fn30 _ _ rfl]
  have hlt : j < l.length := (List.getElem?_eq_some_iff.1 hj).1
  have L := gv_run f l h hn j (by omega) j 0 (by omega) (fun i' p _ h2 h3 => hp i' p h2 h3)
  have e : ex G (.loop [9] pool_Pool_Give.l0) (gvEnv f l h j .undef) [gvSt f l] = some (.ret, [.v (pv f l), .v (.int .i64 h), .ptr ⟨0, 0⟩ 0 0, .ptr ⟨0, 1⟩ 0 0, .v (.int .u32 (IntKind.u32.wrap (f + IntKind.u32.wrap j))), .v (.int .i64 0), .v (.int .i64 (-1)), .v (.int .i64 (l.length : Nat)), .v (.int .i64 j), .undef], [[.row [.v (pv f l)], .row [.v (pv f (l.set j (h, true)))]]]) := by
    have h1 : (j : Int) < ((l.length : Nat) : Int) := by omega
    have h2 : (0 : Int) ≤ j := by omega
    have hx := en_at hj
    have hs := set_ f l j (h, true) hn hlt
    have ha := at_ f j l
    rw [xq_loop]
    simp -implicitDefEqProofs only [pool_Pool_Give.l0, go_sem, reduceIte, Nat.reduceAdd, Nat.reduceSub, Nat.reduceMul, Nat.reduceLeDiff, Nat.reduceLT, Nat.reduceEqDiff, Int.reduceToNat, Int.reduceLT, Int.reduceLE, Int.reduceEq, Int.reduceNe, Int.reduceAdd, Int.reduceSub, Int.reduceMul, Int.reduceNeg, Int.reduceBEq, Int.reduceBNe, reduceCtorEq, dreduceIte, h1, h2, hx, Int.toNat_natCast, en_len, hs, ha, lpD]
  rw [e] at L
  have L' : ex G (.loop [9] pool_Pool_Give.l0) [.v (pv f l), .v (.int .i64 h), .ptr ⟨0, 0⟩ 0 0, .ptr ⟨0, 1⟩ 0 0, .v (.int .u32 0), .v (.int .i64 0), .v (.int .i64 (-1)), .v (.int .i64 (l.length : Nat)), .v (.int .i64 0), .undef] [gvSt f l] = _ := L
  simp -implicitDefEqProofs only [pool_Pool_Give.s, go_sem, reduceIte, Nat.reduceAdd, Nat.reduceSub, Nat.reduceMul, Nat.reduceLeDiff, Nat.reduceLT, Nat.reduceEqDiff, Int.reduceToNat, Int.reduceLT, Int.reduceLE, Int.reduceEq, Int.reduceNe, Int.reduceAdd, Int.reduceSub, Int.reduceMul, Int.reduceNeg, Int.reduceBEq, Int.reduceBNe, reduceCtorEq, dreduceIte, find_none f l h hn hf, en_len, L']
theorem give_full (f : Int) (l : List (Int × Bool)) (h : Int) (hn : l.length ≤ 1000) (hf : ∀ p ∈ l, p ≠ (h, true)) (hp : ∀ p ∈ l, p.2 = true) :
    run G 30 [.v (pv f l), .v (.int .i64 h)] [] = some (.tup [.v (pv f l), .v (.int .u32 0), .v (.int .i64 12)], []) := by
  rw [xq_fn G rfl fn30 _ _ rfl]
  have L := gv_run f l h hn l.length (Nat.le_refl _) l.length 0 (by omega) (fun i' p _ _ h3 => hp p (List.mem_of_getElem? h3))
  have e : ex G (.loop [9] pool_Pool_Give.l0) (gvEnv f l h l.length .undef) [gvSt f l] = some (.exit 0, gvEnv f l h l.length .undef, [gvSt f l]) := by
    have h1 : ¬ ((l.length : Nat) : Int) < ((l.length : Nat) : Int) := by omega
    rw [xq_loop]
    simp -implicitDefEqProofs only [pool_Pool_Give.l0, go_sem, reduceIte, Nat.reduceAdd, Nat.reduceSub, Nat.reduceMul, Nat.reduceLeDiff, Nat.reduceLT, Nat.reduceEqDiff, Int.reduceToNat, Int.reduceLT, Int.reduceLE, Int.reduceEq, Int.reduceNe, Int.reduceAdd, Int.reduceSub, Int.reduceMul, Int.reduceNeg, Int.reduceBEq, Int.reduceBNe, reduceCtorEq, dreduceIte, h1, lpD]
  rw [e] at L
  have L' : ex G (.loop [9] pool_Pool_Give.l0) [.v (pv f l), .v (.int .i64 h), .ptr ⟨0, 0⟩ 0 0, .ptr ⟨0, 1⟩ 0 0, .v (.int .u32 0), .v (.int .i64 0), .v (.int .i64 (-1)), .v (.int .i64 (l.length : Nat)), .v (.int .i64 0), .undef] [gvSt f l] = _ := L
  simp -implicitDefEqProofs only [pool_Pool_Give.s, go_sem, reduceIte, Nat.reduceAdd, Nat.reduceSub, Nat.reduceMul, Nat.reduceLeDiff, Nat.reduceLT, Nat.reduceEqDiff, Int.reduceToNat, Int.reduceLT, Int.reduceLE, Int.reduceEq, Int.reduceNe, Int.reduceAdd, Int.reduceSub, Int.reduceMul, Int.reduceNeg, Int.reduceBEq, Int.reduceBNe, reduceCtorEq, dreduceIte, find_none f l h hn hf, en_len, L']
theorem take_some (f : Int) (l : List (Int × Bool)) (h : Int) (hn : l.length ≤ 1000) (j : Nat) (hj : l[j]? = some (h, true)) (hp : ∀ i' p, i' < j → l[i']? = some p → p ≠ (h, true)) :
    run G 33 [.v (pv f l), .v (.int .i64 h)] [] = some (.tup [.v (pv f (l.set j (0, false))), .v (.int .i64 0)], []) := by
  rw [xq_fn G rfl fn33 _ _ rfl]
  have hlt : j < l.length := (List.getElem?_eq_some_iff.1 hj).1
  have h2 : ¬ (j : Int) < 0 := by omega
  have hs := set_ f l j (0, false) hn hlt
  simp -implicitDefEqProofs only [pool_Pool_Take.s, go_sem, reduceIte, Nat.reduceAdd, Nat.reduceSub, Nat.reduceMul, Nat.reduceLeDiff, Nat.reduceLT, Nat.reduceEqDiff, Int.reduceToNat, Int.reduceLT, Int.reduceLE, Int.reduceEq, Int.reduceNe, Int.reduceAdd, Int.reduceSub, Int.reduceMul, Int.reduceNeg, Int.reduceBEq, Int.reduceBNe, reduceCtorEq, dreduceIte, find_some f l h hn j hj hp, h2, hs]

/-! ### New -/
theorem new_ (f : Int) (n : Nat) (hn : n ≤ 39) (h1 : 1 ≤ f) (h2 : f ≤ 65536) :
    run G 29 [.v (.int .u32 f), .v (.int .i64 n)] [] = some (.tup [.v (pv f (List.replicate n (0, false))), .v (.int .i64 0)], []) := by
  rw [xq_fn G rfl fn29 _ _ rfl]
  have q1 : ¬ (n : Int) < 0 := by omega
  have q2 : ¬ (256 : Int) < n := by omega
  have q3 : (f == 0) = false := by simp; omega
  have w1 : IntKind.u64.wrap f = f := wrap64 (by omega)
  have w2 : IntKind.u64.wrap n = n := wrap64 (by omega)
  have w3 : IntKind.u64.wrap (f + n) = f + n := wrap64 (by omega)
  have w4 : IntKind.u64.wrap (f + n - 1) = f + n - 1 := wrap64 (by omega)
  have q4 : ¬ (4294967295 : Int) < f + n - 1 := by omega
  have hm : (n : Int) * (16 : Nat) ≤ (maxB : Nat) := by
    have : maxB = 140737488355328 := rfl
    omega
  have e := fun env ts st => make_eq env ts st 2 16 (le (0, false)) n hm rfl
  have el : (List.replicate n (le (0, false))).length = n := by simp
  have er : List.replicate n (le (0, false)) = en (List.replicate n (0, false)) := by simp [en]
  have hr := row_en (List.replicate n (0, false))
  rw [List.length_replicate] at hr
  have ht : List.take n ((en (List.replicate n (0, false))).map D.v) = (en (List.replicate n (0, false))).map D.v := List.take_of_length_le (by simp [en])
  by_cases hz : 0 < (n : Int)
  · simp -implicitDefEqProofs only [pool_New.s, go_sem, reduceIte, Nat.reduceAdd, Nat.reduceSub, Nat.reduceMul, Nat.reduceLeDiff, Nat.reduceLT, Nat.reduceEqDiff, Int.reduceToNat, Int.reduceLT, Int.reduceLE, Int.reduceEq, Int.reduceNe, Int.reduceAdd, Int.reduceSub, Int.reduceMul, Int.reduceNeg, Int.reduceBEq, Int.reduceBNe, reduceCtorEq, dreduceIte, q1, q2, q3, w1, w2, w3, w4, q4, hz, e, el, er, ht, List.length_replicate, en_len, List.length_map, toVL_v, Nat.le_refl]
  · simp -implicitDefEqProofs only [pool_New.s, go_sem, reduceIte, Nat.reduceAdd, Nat.reduceSub, Nat.reduceMul, Nat.reduceLeDiff, Nat.reduceLT, Nat.reduceEqDiff, Int.reduceToNat, Int.reduceLT, Int.reduceLE, Int.reduceEq, Int.reduceNe, Int.reduceAdd, Int.reduceSub, Int.reduceMul, Int.reduceNeg, Int.reduceBEq, Int.reduceBNe, reduceCtorEq, dreduceIte, q1, q2, q3, w1, w2, w3, w4, q4, hz, e, el, er, ht, List.length_replicate, en_len, List.length_map, toVL_v, Nat.le_refl]

/-! ### Held, Free -/
def atl (f : Int) (n : Nat) : List V := (List.range n).map fun (i : Nat) => V.int .u32 (IntKind.u32.wrap (f + IntKind.u32.wrap (i : Int)))
theorem atl_len (f : Int) (n : Nat) : (atl f n).length = n := by simp [atl]
theorem atl_succ (f : Int) (n : Nat) : atl f (n + 1) = atl f n ++ [V.int .u32 (IntKind.u32.wrap (f + IntKind.u32.wrap (n : Int)))] := by simp [atl, List.range_succ]
def acc (f : Int) : Nat → D
  | 0 => .nils 1
  | n + 1 => .lin 1 (atl f (n + 1))
abbrev hdEnv (f : Int) (l : List (Int × Bool)) (a : D) (i : Nat) (x y : D) : List D := [.v (pv f l), .ptr ⟨0, 0⟩ 0 0, .nils 1, a, .v (.slc 2 (en l)), .v (.int .i64 (l.length : Nat)), .v (.int .i64 i), x, y]
theorem hd_step (f : Int) (l : List (Int × Bool)) (i : Nat) (a : Int) (hn : l.length ≤ 1000) (hi : l[i]? = some (a, true)) :
    ex G pool_Pool_Held.l0 (hdEnv f l (acc f i) i .undef .undef) [[], [.row [.v (pv f l)]]] = some (.normal, hdEnv f l (acc f (i + 1)) (i + 1) (.ptr ⟨1, 0⟩ 0 0) (.v (.int .i64 i)), [[.row [.v (le (a, true))]], [.row [.v (pv f l)]]]) := by
  have hlt : i < l.length := (List.getElem?_eq_some_iff.1 hi).1
  have h1 : (i : Int) < (l.length : Nat) := by omega
  have h2 : (0 : Int) ≤ i := by omega
  have hx := en_at hi
  have w : IntKind.i64.wrap ((i : Int) + 1) = ((i + 1 : Nat) : Int) := by rw [wrapS (by omega)]; omega
  have ha := at_ f i l
  have hm : maxB = 140737488355328 := rfl
  cases i with
  | zero =>
    have e1 : acc f (0 + 1) = .lin 1 [V.int .u32 (IntKind.u32.wrap (f + IntKind.u32.wrap ((0 : Nat) : Int)))] := rfl
    have h9 : 4 ≤ maxB := by omega
    have e2 : acc f 0 = .nils 1 := rfl
    rw [e1, e2]
    simp -implicitDefEqProofs only [pool_Pool_Held.l0, go_sem, reduceIte, Nat.reduceAdd, Nat.reduceSub, Nat.reduceMul, Nat.reduceLeDiff, Nat.reduceLT, Nat.reduceEqDiff, Int.reduceToNat, Int.reduceLT, Int.reduceLE, Int.reduceEq, Int.reduceNe, Int.reduceAdd, Int.reduceSub, Int.reduceMul, Int.reduceNeg, Int.reduceBEq, Int.reduceBNe, reduceCtorEq, dreduceIte, h1, h2, h9, hx, Int.toNat_natCast, en_len, w, ha]
  | succ i =>
    have h9 : (i + 1 + 1) * 4 ≤ maxB := by omega
    have e1 : acc f (i + 1 + 1) = .lin 1 (atl f (i + 1) ++ [V.int .u32 (IntKind.u32.wrap (f + IntKind.u32.wrap ((i + 1 : Nat) : Int)))]) := by rw [← atl_succ]; rfl
    have e2 : acc f (i + 1) = .lin 1 (atl f (i + 1)) := rfl
    rw [e1, e2]
    simp -implicitDefEqProofs only [pool_Pool_Held.l0, go_sem, reduceIte, Nat.reduceAdd, Nat.reduceSub, Nat.reduceMul, Nat.reduceLeDiff, Nat.reduceLT, Nat.reduceEqDiff, Int.reduceToNat, Int.reduceLT, Int.reduceLE, Int.reduceEq, Int.reduceNe, Int.reduceAdd, Int.reduceSub, Int.reduceMul, Int.reduceNeg, Int.reduceBEq, Int.reduceBNe, reduceCtorEq, dreduceIte, h1, h2, hx, Int.toNat_natCast, en_len, w, ha, atl_len, h9]
theorem acc_lin (f : Int) (i : Nat) : (acc f i = .nils 1 ∧ i = 0) ∨ acc f i = .lin 1 (atl f i) := by
  cases i with
  | zero => exact .inl ⟨rfl, rfl⟩
  | succ i => exact .inr rfl
theorem hd_run (f : Int) (l : List (Int × Bool)) (hn : l.length ≤ 1000) (hp : ∀ p ∈ l, p.2 = true) : ∀ (k i : Nat), i + k = l.length →
    ex G (.loop [7, 8] pool_Pool_Held.l0) (hdEnv f l (acc f i) i .undef .undef) [[.row [.v (pv f l)]]] = some (.exit 0, hdEnv f l (acc f l.length) l.length .undef .undef, [[.row [.v (pv f l)]]])
  | 0, i, hk => by
    have : i = l.length := by omega
    subst this
    have h1 : ¬ ((l.length : Nat) : Int) < ((l.length : Nat) : Int) := by omega
    rw [xq_loop]
    rcases acc_lin f l.length with ⟨e, _⟩ | e <;> rw [e] <;> simp -implicitDefEqProofs only [pool_Pool_Held.l0, go_sem, reduceIte, Nat.reduceAdd, Nat.reduceSub, Nat.reduceMul, Nat.reduceLeDiff, Nat.reduceLT, Nat.reduceEqDiff, Int.reduceToNat, Int.reduceLT, Int.reduceLE, Int.reduceEq, Int.reduceNe, Int.reduceAdd, Int.reduceSub, Int.reduceMul, Int.reduceNeg, Int.reduceBEq, Int.reduceBNe, reduceCtorEq, dreduceIte, h1, lpD]
  | k + 1, i, hk => by
    have hlt : i < l.length := by omega
    have h0 : l[i]? = some (l[i].1, true) := by
      have := hp _ (List.getElem_mem hlt)
      rw [List.getElem?_eq_getElem hlt, ← this]
    rw [xq_loop, hd_step f l i l[i].1 hn h0]
    have := hd_run f l hn hp k (i + 1) (by omega)
    have e : acc f (i + 1) = .lin 1 (atl f (i + 1)) := rfl
    rw [e] at this ⊢
    simp -implicitDefEqProofs only [go_sem, reduceIte, Nat.reduceAdd, Nat.reduceSub, Nat.reduceMul, Nat.reduceLeDiff, Nat.reduceLT, Nat.reduceEqDiff, Int.reduceToNat, Int.reduceLT, Int.reduceLE, Int.reduceEq, Int.reduceNe, Int.reduceAdd, Int.reduceSub, Int.reduceMul, Int.reduceNeg, Int.reduceBEq, Int.reduceBNe, reduceCtorEq, dreduceIte, lpD]
    rw [this]
theorem held_all (f : Int) (l : List (Int × Bool)) (hn : l.length ≤ 1000) (hp : ∀ p ∈ l, p.2 = true) : run G 82 [.v (pv f l)] [] = some (.lin 1 (atl f l.length), []) := by
  rw [xq_fn G rfl fn82 _ _ rfl]
  have L := hd_run f l hn hp l.length 0 (by omega)
  have L' : ex G (.loop [7, 8] pool_Pool_Held.l0) [.v (pv f l), .ptr ⟨0, 0⟩ 0 0, .nils 1, .nils 1, .v (.slc 2 (en l)), .v (.int .i64 (l.length : Nat)), .v (.int .i64 0), .undef, .undef] [[.row [.v (pv f l)]]] = _ := L
  rcases acc_lin f l.length with ⟨e, e2⟩ | e
  · rw [e] at L'
    have e3 : atl f l.length = [] := by rw [e2]; rfl
    rw [e3]
    simp -implicitDefEqProofs only [pool_Pool_Held.s, go_sem, reduceIte, Nat.reduceAdd, Nat.reduceSub, Nat.reduceMul, Nat.reduceLeDiff, Nat.reduceLT, Nat.reduceEqDiff, Int.reduceToNat, Int.reduceLT, Int.reduceLE, Int.reduceEq, Int.reduceNe, Int.reduceAdd, Int.reduceSub, Int.reduceMul, Int.reduceNeg, Int.reduceBEq, Int.reduceBNe, reduceCtorEq, dreduceIte, en_len, L']
  · rw [e] at L'
    simp -implicitDefEqProofs only [pool_Pool_Held.s, go_sem, reduceIte, Nat.reduceAdd, Nat.reduceSub, Nat.reduceMul, Nat.reduceLeDiff, Nat.reduceLT, Nat.reduceEqDiff, Int.reduceToNat, Int.reduceLT, Int.reduceLE, Int.reduceEq, Int.reduceNe, Int.reduceAdd, Int.reduceSub, Int.reduceMul, Int.reduceNeg, Int.reduceBEq, Int.reduceBNe, reduceCtorEq, dreduceIte, en_len, L']
theorem free_0 (f : Int) (l : List (Int × Bool)) (hn : l.length ≤ 1000) (hp : ∀ p ∈ l, p.2 = true) : run G 31 [.v (pv f l)] [] = some (.v (.int .i64 0), []) := by
  rw [xq_fn G rfl fn31 _ _ rfl]
  have h1 := held_all f l hn hp
  have w : IntKind.i64.wrap ((l.length : Int) - l.length) = 0 := by rw [Int.sub_self]; exact wrapS (by omega)
  simp -implicitDefEqProofs only [pool_Pool_Free.s, go_sem, reduceIte, Nat.reduceAdd, Nat.reduceSub, Nat.reduceMul, Nat.reduceLeDiff, Nat.reduceLT, Nat.reduceEqDiff, Int.reduceToNat, Int.reduceLT, Int.reduceLE, Int.reduceEq, Int.reduceNe, Int.reduceAdd, Int.reduceSub, Int.reduceMul, Int.reduceNeg, Int.reduceBEq, Int.reduceBNe, reduceCtorEq, dreduceIte, en_len, h1, atl_len, w]
theorem alive : run G 32 [] [] = some (.v (.bool true), []) := run_of (n := 30) (by kernel_rfl)

/-! ### The law -/
/-- so many have got theirs -/
def led (n i : Nat) : List (Int × Bool) := (List.range i).map (fun (j : Nat) => ((100 + (j : Int)), true)) ++ List.replicate (n - i) (0, false)
theorem led_len {n i : Nat} (h : i ≤ n) : (led n i).length = n := by simp [led]; omega
theorem led_held {n i j : Nat} (h : j < i) : (led n i)[j]? = some (100 + (j : Int), true) := by
  rw [led, List.getElem?_append_left (by simpa using h)]
  simp [h]
theorem led_free {n i j : Nat} (h : i ≤ j) (hn : j < n) : (led n i)[j]? = some (0, false) := by
  rw [led, List.getElem?_append_right (by simpa using h)]
  rw [List.getElem?_replicate, if_pos (by simp; omega)]
theorem led_at {n i : Nat} (hi : i ≤ n) {j : Nat} {p : Int × Bool} (h : (led n i)[j]? = some p) : (j < i ∧ p = (100 + (j : Int), true)) ∨ (i ≤ j ∧ p = (0, false)) := by
  by_cases hj : j < i
  · rw [led_held hj] at h; cases h; exact .inl ⟨hj, rfl⟩
  · have hlt := (List.getElem?_eq_some_iff.1 h).1
    rw [led_len hi] at hlt
    rw [led_free (by omega) hlt] at h; cases h; exact .inr ⟨by omega, rfl⟩
theorem led_mem {n i : Nat} (hi : i ≤ n) {p : Int × Bool} (h : p ∈ led n i) : (∃ j, j < i ∧ p = (100 + (j : Int), true)) ∨ p = (0, false) := by
  obtain ⟨j, hj⟩ := List.mem_iff_getElem?.1 h
  rcases led_at hi hj with ⟨h1, h2⟩ | ⟨_, h2⟩
  · exact .inl ⟨j, h1, h2⟩
  · exact .inr h2
theorem led_set {n i : Nat} (h : i < n) : (led n i).set i (100 + (i : Int), true) = led n (i + 1) := by
  refine List.ext_getElem? fun j => ?_
  rw [List.getElem?_set]
  by_cases e : i = j
  · subst e
    rw [if_pos rfl, if_pos (by rw [led_len (by omega)]; exact h), led_held (by omega)]
  · rw [if_neg e]
    by_cases h1 : j < i
    · rw [led_held h1, led_held (by omega)]
    · by_cases h2 : j < n
      · rw [led_free (by omega) h2, led_free (by omega) h2]
      · rw [List.getElem?_eq_none (by rw [led_len (by omega)]; omega), List.getElem?_eq_none (by rw [led_len (by omega)]; omega)]
theorem led_0 (n : Nat) : led n 0 = List.replicate n (0, false) := by simp [led]

abbrev paEnv (f m : Int) (n i : Nat) (x y z t : D) : List D := [.v (.int .u16 f), .v (.int .u8 m), .v (.bool false), .v (.int .i64 n), .ptr ⟨0, 0⟩ 0 0, .v (.int .i64 0), .v (.int .i64 n), .v (.int .i64 i), x, y, z, t, .undef, .undef, .undef, .undef, .undef]
theorem pa_step (f m : Int) (n i : Nat) (hf : 0 ≤ f ∧ f ≤ 65535) (hn : n ≤ 39) (hi : i < n) :
    ex G euphroelaw31_PoolAll.l0 (paEnv f m n i .undef .undef .undef .undef) [[], [.row [.v (pv (f + 1) (led n i))]]] = some (.normal, paEnv f m n (i + 1) (.v (.int .i64 i)) (.ptr ⟨1, 0⟩ 0 0) (.v (.int .u32 (IntKind.u32.wrap (f + 1 + IntKind.u32.wrap i)))) (.v (.int .i64 0)), [[.row [.v (pv (f + 1) (led n (i + 1)))]], [.row [.v (pv (f + 1) (led n (i + 1)))]]]) := by
  have h1 : (i : Int) < (n : Nat) := by omega
  have w : IntKind.i64.wrap ((i : Int) + 1) = ((i + 1 : Nat) : Int) := by rw [wrapS (by omega)]; omega
  have w2 : IntKind.i64.wrap (100 + (i : Int)) = 100 + (i : Int) := wrapS (by omega)
  have w3 : IntKind.u32.wrap f = f := wrap32 (by omega)
  have w4 : IntKind.u32.wrap (f + 1) = f + 1 := wrap32 (by omega)
  have g := give_free (f + 1) (led n i) (100 + (i : Int)) (by rw [led_len (by omega)]; omega) (fun p hp => by
    rcases led_mem (by omega) hp with ⟨j, hj, rfl⟩ | rfl
    · intro e; have := congrArg Prod.fst e; simp at this; omega
    · intro e; have := congrArg Prod.snd e; simp at this) i 0 (led_free (Nat.le_refl _) hi) (fun i' p h2 h3 => by
    rcases led_at (by omega) h3 with ⟨_, rfl⟩ | ⟨h4, _⟩
    · rfl
    · omega)
  rw [led_set hi] at g
  have hb : ∀ a : Int, (a != a) = false := fun a => by simp
  simp -implicitDefEqProofs only [euphroelaw31_PoolAll.l0, go_sem, reduceIte, Nat.reduceAdd, Nat.reduceSub, Nat.reduceMul, Nat.reduceLeDiff, Nat.reduceLT, Nat.reduceEqDiff, Int.reduceToNat, Int.reduceLT, Int.reduceLE, Int.reduceEq, Int.reduceNe, Int.reduceAdd, Int.reduceSub, Int.reduceMul, Int.reduceNeg, Int.reduceBEq, Int.reduceBNe, reduceCtorEq, dreduceIte, h1, w, w2, w3, w4, g, hb]
theorem pa_run (f m : Int) (n : Nat) (hf : 0 ≤ f ∧ f ≤ 65535) (hn : n ≤ 39) : ∀ (k i : Nat), i + k = n →
    ex G (.loop [8, 9, 10, 11] euphroelaw31_PoolAll.l0) (paEnv f m n i .undef .undef .undef .undef) [[.row [.v (pv (f + 1) (led n i))]]] = some (.exit 0, paEnv f m n n .undef .undef .undef .undef, [[.row [.v (pv (f + 1) (led n n))]]])
  | 0, i, hk => by
    have : i = n := by omega
    subst this
    have h1 : ¬ ((i : Nat) : Int) < ((i : Nat) : Int) := by omega
    rw [xq_loop]
    simp -implicitDefEqProofs only [euphroelaw31_PoolAll.l0, go_sem, reduceIte, Nat.reduceAdd, Nat.reduceSub, Nat.reduceMul, Nat.reduceLeDiff, Nat.reduceLT, Nat.reduceEqDiff, Int.reduceToNat, Int.reduceLT, Int.reduceLE, Int.reduceEq, Int.reduceNe, Int.reduceAdd, Int.reduceSub, Int.reduceMul, Int.reduceNeg, Int.reduceBEq, Int.reduceBNe, reduceCtorEq, dreduceIte, h1, lpD]
  | k + 1, i, hk => by
    rw [xq_loop, pa_step f m n i hf hn (by omega)]
    have := pa_run f m n hf hn k (i + 1) (by omega)
    simp -implicitDefEqProofs only [go_sem, reduceIte, Nat.reduceAdd, Nat.reduceSub, Nat.reduceMul, Nat.reduceLeDiff, Nat.reduceLT, Nat.reduceEqDiff, Int.reduceToNat, Int.reduceLT, Int.reduceLE, Int.reduceEq, Int.reduceNe, Int.reduceAdd, Int.reduceSub, Int.reduceMul, Int.reduceNeg, Int.reduceBEq, Int.reduceBNe, reduceCtorEq, dreduceIte, lpD]
    rw [this]
theorem poolAll (f m : Int) (hf : 0 ≤ f ∧ f ≤ 65535) (hm : 0 ≤ m ∧ m ≤ 255) : run G 6 [.v (.int .u16 f), .v (.int .u8 m)] [] = some (.v (.bool true), []) := by
  rw [xq_fn G rfl fn6 _ _ rfl]
  obtain ⟨n, hn⟩ : ∃ n : Nat, m % 40 = (n : Int) := ⟨(m % 40).toNat, by omega⟩
  have hn39 : n ≤ 39 := by omega
  have w0 : IntKind.i64.wrap m = m := wrapS (by omega)
  have w1 : m.tmod 40 = (n : Int) := by rw [Int.tmod_eq_emod_of_nonneg hm.1]; exact hn
  have w3 : IntKind.u32.wrap f = f := wrap32 (by omega)
  have w4 : IntKind.u32.wrap (f + 1) = f + 1 := wrap32 (by omega)
  have hnew := new_ (f + 1) n hn39 (by omega) (by omega)
  rw [← led_0] at hnew
  have L := pa_run f m n hf hn39 n 0 (by omega)
  have L' : ex G (.loop [8, 9, 10, 11] euphroelaw31_PoolAll.l0) [.v (.int .u16 f), .v (.int .u8 m), .v (.bool false), .v (.int .i64 n), .ptr ⟨0, 0⟩ 0 0, .v (.int .i64 0), .v (.int .i64 n), .v (.int .i64 0), .undef, .undef, .undef, .undef, .undef, .undef, .undef, .undef, .undef] [[.row [.v (pv (f + 1) (led n 0))]]] = _ := L
  have hl : (led n n).length = n := led_len (Nat.le_refl _)
  have ne7 : ∀ p ∈ led n n, p ≠ (7, true) := fun p hp => by
    rcases led_mem (Nat.le_refl _) hp with ⟨j, hj, rfl⟩ | rfl
    · intro e; have := congrArg Prod.fst e; simp at this; omega
    · intro e; have := congrArg Prod.snd e; simp at this
  have all : ∀ p ∈ led n n, p.2 = true := fun p hp => by
    obtain ⟨j, hj⟩ := List.mem_iff_getElem?.1 hp
    have hlt := (List.getElem?_eq_some_iff.1 hj).1
    rcases led_at (Nat.le_refl _) hj with ⟨_, rfl⟩ | ⟨h4, _⟩
    · rfl
    · omega
  have g1 := give_full (f + 1) (led n n) 7 (by omega) ne7 all
  have g2 := free_0 (f + 1) (led n n) (by omega) all
  have hb : ∀ a : Int, (a != a) = false := fun a => by simp
  by_cases h0 : n = 0
  · have h0' : ((n : Int) == 0) = true := by simp [h0]
    simp -implicitDefEqProofs only [euphroelaw31_PoolAll.s, go_sem, reduceIte, Nat.reduceAdd, Nat.reduceSub, Nat.reduceMul, Nat.reduceLeDiff, Nat.reduceLT, Nat.reduceEqDiff, Int.reduceToNat, Int.reduceLT, Int.reduceLE, Int.reduceEq, Int.reduceNe, Int.reduceAdd, Int.reduceSub, Int.reduceMul, Int.reduceNeg, Int.reduceBEq, Int.reduceBNe, reduceCtorEq, dreduceIte, w0, w1, w3, w4, hnew, L', g1, g2, hb, h0', alive]
  · have h0' : ((n : Int) == 0) = false := by simp [h0]
    have d1 : (n : Int).tdiv 2 = ((n / 2 : Nat) : Int) := by rw [Int.tdiv_eq_ediv_of_nonneg (by omega)]; omega
    have d2 : IntKind.i64.wrap ((n / 2 : Nat) : Int) = ((n / 2 : Nat) : Int) := wrapS (by omega)
    have d3 : IntKind.i64.wrap (100 + ((n / 2 : Nat) : Int)) = 100 + ((n / 2 : Nat) : Int) := wrapS (by omega)
    have hj : n / 2 < n := by omega
    have g3 := take_some (f + 1) (led n n) (100 + ((n / 2 : Nat) : Int)) (by omega) (n / 2) (led_held hj) (fun i' p h1 h2 => by
      rcases led_at (Nat.le_refl _) h2 with ⟨_, rfl⟩ | ⟨h4, _⟩
      · intro e; have := congrArg Prod.fst e; simp at this; omega
      · omega)
    have mem2 : ∀ p ∈ (led n n).set (n / 2) (0, false), p ≠ (7, true) := fun p hp => by
      rcases List.mem_or_eq_of_mem_set hp with h | rfl
      · exact ne7 p h
      · intro e; have := congrArg Prod.snd e; simp at this
    have g4 := give_free (f + 1) ((led n n).set (n / 2) (0, false)) 7 (by simp; omega) mem2 (n / 2) 0 (by rw [List.getElem?_set, if_pos rfl, if_pos (by omega)]) (fun i' p h1 h2 => by
      rw [List.getElem?_set, if_neg (by omega)] at h2
      rcases led_at (Nat.le_refl _) h2 with ⟨_, rfl⟩ | ⟨h4, _⟩
      · rfl
      · omega)
    simp -implicitDefEqProofs only [euphroelaw31_PoolAll.s, go_sem, reduceIte, Nat.reduceAdd, Nat.reduceSub, Nat.reduceMul, Nat.reduceLeDiff, Nat.reduceLT, Nat.reduceEqDiff, Int.reduceToNat, Int.reduceLT, Int.reduceLE, Int.reduceEq, Int.reduceNe, Int.reduceAdd, Int.reduceSub, Int.reduceMul, Int.reduceNeg, Int.reduceBEq, Int.reduceBNe, reduceCtorEq, dreduceIte, w0, w1, w3, w4, hnew, L', g1, g2, hb, h0', alive, d1, d2, d3, g3, g4, beq_self_eq_true]
end Go.Q
