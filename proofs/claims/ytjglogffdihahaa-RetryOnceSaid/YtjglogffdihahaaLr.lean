import Derived.Test.YtjglogffdihahaaSr
import Derived.Test.YtjglogffdihahaaEq
import Derived.Laws.MakeOwn
import Derived.ProofKit
set_option maxRecDepth 100000
set_option linter.unusedSimpArgs false
namespace Go.Q
open SOp SCode

def fnOf (n : Nat) : Option SFunc := (fns.find? (·.1 == n)).map (·.2.1)
def G : Prg := { fn := fnOf, prim := fun _ => none }
theorem fn4 : G.fn 4 = some euphroelaw24_RetryOnce.s := by rfl
theorem fn5 : G.fn 5 = some euphroelaw24_RetryMoves.s := by rfl
theorem fn15 : G.fn 15 = some retry_Retry_Init.s := by rfl
theorem fn16 : G.fn 16 = some retry_Retry_Sent.s := by rfl
theorem fn17 : G.fn 17 = some retry_Retry_On.s := by rfl
theorem fn18 : G.fn 18 = some retry_Retry_May.s := by rfl
theorem fn19 : G.fn 19 = some retry_Retry_Stop.s := by rfl
theorem fn20 : G.fn 20 = some retry_Retry_More.s := by rfl
theorem fn21 : G.fn 21 = some euphroelaw24_alive.s := by rfl
theorem fn22 : G.fn 22 = some retry_Retry_Tick.s := by rfl
theorem fn23 : G.fn 23 = some retry_Longest.s := by rfl
theorem fn24 : G.fn 24 = some euphroeref24_Tick.s := by rfl
theorem fn25 : G.fn 25 = some euphroeref24_Init.s := by rfl
theorem fn26 : G.fn 26 = some euphroeref24_Sent.s := by rfl
theorem fn27 : G.fn 27 = some retry_Retry_Zero.s := by rfl
theorem fn28 : G.fn 28 = some euphroeref24_Longest.s := by rfl

attribute [local congr] bind_c map_c
theorem exN {G : Prg} {n m : Nat} {c env st r} (h : exec (runN G m) n c env st = some r) : ex G c env st = some r := ex_of (exec_le (le_run G m) (Nat.le_refl n) h)
abbrev rv (c l : Int) : V := .agg [.int .i64 c, .int .i64 l]
abbrev In (x : Int) : Prop := -9223372036854775808 ≤ x ∧ x ≤ 9223372036854775807
theorem wrapS {x : Int} (h : In x) : IntKind.i64.wrap x = x := by rw [IntKind.wrap_i64]; omega

theorem on (c l : Int) (st : St) : run G 17 [.v (rv c l)] st = some (.v (.bool (decide (0 < l))), st) := by
  rw [xq_fn G rfl fn17 _ _ rfl]
  simp -implicitDefEqProofs only [retry_Retry_On.s, go_sem, reduceIte, Nat.reduceAdd, Nat.reduceSub, Nat.reduceMul, Nat.reduceLeDiff, Nat.reduceLT, Nat.reduceEqDiff, Int.reduceToNat, Int.reduceLT, Int.reduceLE, Int.reduceEq, Int.reduceNe, Int.reduceAdd, Int.reduceSub, Int.reduceMul, Int.reduceNeg, Int.reduceBEq, Int.reduceBNe, reduceCtorEq, dreduceIte]
theorem may (c l : Int) (st : St) : run G 18 [.v (rv c l)] st = some (.v (.bool (decide (0 ≤ c) && decide (c ≤ 10) && decide (0 ≤ l) && decide (l ≤ 3))), st) := by
  rw [xq_fn G rfl fn18 _ _ rfl]
  by_cases h1 : 0 ≤ c <;> by_cases h2 : c ≤ 10 <;> by_cases h3 : 0 ≤ l <;> simp -implicitDefEqProofs only [retry_Retry_May.s, go_sem, reduceIte, Nat.reduceAdd, Nat.reduceSub, Nat.reduceMul, Nat.reduceLeDiff, Nat.reduceLT, Nat.reduceEqDiff, Int.reduceToNat, Int.reduceLT, Int.reduceLE, Int.reduceEq, Int.reduceNe, Int.reduceAdd, Int.reduceSub, Int.reduceMul, Int.reduceNeg, Int.reduceBEq, Int.reduceBNe, reduceCtorEq, dreduceIte, h1, h2, h3]
theorem more (c l : Int) (st : St) : run G 20 [.v (rv c l)] st = some (.v (.bool (decide (0 < c))), st) := by
  rw [xq_fn G rfl fn20 _ _ rfl]
  simp -implicitDefEqProofs only [retry_Retry_More.s, go_sem, reduceIte, Nat.reduceAdd, Nat.reduceSub, Nat.reduceMul, Nat.reduceLeDiff, Nat.reduceLT, Nat.reduceEqDiff, Int.reduceToNat, Int.reduceLT, Int.reduceLE, Int.reduceEq, Int.reduceNe, Int.reduceAdd, Int.reduceSub, Int.reduceMul, Int.reduceNeg, Int.reduceBEq, Int.reduceBNe, reduceCtorEq, dreduceIte]
theorem stop (c l : Int) (st : St) : run G 19 [.v (rv c l)] st = some (.v (rv c 0), st) := by
  rw [xq_fn G rfl fn19 _ _ rfl]
  simp -implicitDefEqProofs only [retry_Retry_Stop.s, go_sem, reduceIte, Nat.reduceAdd, Nat.reduceSub, Nat.reduceMul, Nat.reduceLeDiff, Nat.reduceLT, Nat.reduceEqDiff, Int.reduceToNat, Int.reduceLT, Int.reduceLE, Int.reduceEq, Int.reduceNe, Int.reduceAdd, Int.reduceSub, Int.reduceMul, Int.reduceNeg, Int.reduceBEq, Int.reduceBNe, reduceCtorEq, dreduceIte]
theorem zero (c l : Int) (st : St) : run G 27 [.v (rv c l)] st = some (.v (rv 0 3), st) := by
  rw [xq_fn G rfl fn27 _ _ rfl]
  simp -implicitDefEqProofs only [retry_Retry_Zero.s, go_sem, reduceIte, Nat.reduceAdd, Nat.reduceSub, Nat.reduceMul, Nat.reduceLeDiff, Nat.reduceLT, Nat.reduceEqDiff, Int.reduceToNat, Int.reduceLT, Int.reduceLE, Int.reduceEq, Int.reduceNe, Int.reduceAdd, Int.reduceSub, Int.reduceMul, Int.reduceNeg, Int.reduceBEq, Int.reduceBNe, reduceCtorEq, dreduceIte]
theorem sent (c l : Int) (st : St) (h : In c) : run G 16 [.v (rv c l)] st = some (.v (rv (max c 1 - 1) 3), st) := by
  rw [xq_fn G rfl fn16 _ _ rfl]
  have w : IntKind.i64.wrap (max c 1 - 1) = max c 1 - 1 := wrapS (by omega)
  simp -implicitDefEqProofs only [retry_Retry_Sent.s, go_sem, reduceIte, Nat.reduceAdd, Nat.reduceSub, Nat.reduceMul, Nat.reduceLeDiff, Nat.reduceLT, Nat.reduceEqDiff, Int.reduceToNat, Int.reduceLT, Int.reduceLE, Int.reduceEq, Int.reduceNe, Int.reduceAdd, Int.reduceSub, Int.reduceMul, Int.reduceNeg, Int.reduceBEq, Int.reduceBNe, reduceCtorEq, dreduceIte, w]
theorem rsent (c l : Int) (st : St) (h : In c) : run G 26 [.v (rv c l)] st = some (.v (rv (max c 1 - 1) 3), st) := by
  rw [xq_fn G rfl fn26 _ _ rfl]
  by_cases h1 : c ≤ 0
  · have e : max c 1 - 1 = 0 := by omega
    simp -implicitDefEqProofs only [euphroeref24_Sent.s, go_sem, reduceIte, Nat.reduceAdd, Nat.reduceSub, Nat.reduceMul, Nat.reduceLeDiff, Nat.reduceLT, Nat.reduceEqDiff, Int.reduceToNat, Int.reduceLT, Int.reduceLE, Int.reduceEq, Int.reduceNe, Int.reduceAdd, Int.reduceSub, Int.reduceMul, Int.reduceNeg, Int.reduceBEq, Int.reduceBNe, reduceCtorEq, dreduceIte, h1, e]
  · have e : max c 1 - 1 = c - 1 := by omega
    have w : IntKind.i64.wrap (c - 1) = c - 1 := wrapS (by omega)
    simp -implicitDefEqProofs only [euphroeref24_Sent.s, go_sem, reduceIte, Nat.reduceAdd, Nat.reduceSub, Nat.reduceMul, Nat.reduceLeDiff, Nat.reduceLT, Nat.reduceEqDiff, Int.reduceToNat, Int.reduceLT, Int.reduceLE, Int.reduceEq, Int.reduceNe, Int.reduceAdd, Int.reduceSub, Int.reduceMul, Int.reduceNeg, Int.reduceBEq, Int.reduceBNe, reduceCtorEq, dreduceIte, h1, e, w]
theorem init (c l : Int) (t : Bool) (st : St) : run G 15 [.v (rv c l), .v (.bool t)] st = some (.v (rv (if t then 2 else 10) l), st) := by
  rw [xq_fn G rfl fn15 _ _ rfl]
  cases t <;> simp -implicitDefEqProofs only [retry_Retry_Init.s, go_sem, reduceIte, Nat.reduceAdd, Nat.reduceSub, Nat.reduceMul, Nat.reduceLeDiff, Nat.reduceLT, Nat.reduceEqDiff, Int.reduceToNat, Int.reduceLT, Int.reduceLE, Int.reduceEq, Int.reduceNe, Int.reduceAdd, Int.reduceSub, Int.reduceMul, Int.reduceNeg, Int.reduceBEq, Int.reduceBNe, reduceCtorEq, dreduceIte]
theorem rinit (c l : Int) (t : Bool) (st : St) : run G 25 [.v (rv c l), .v (.bool t)] st = some (.v (rv (if t then 2 else 10) l), st) := by
  rw [xq_fn G rfl fn25 _ _ rfl]
  cases t <;> simp -implicitDefEqProofs only [euphroeref24_Init.s, go_sem, reduceIte, Nat.reduceAdd, Nat.reduceSub, Nat.reduceMul, Nat.reduceLeDiff, Nat.reduceLT, Nat.reduceEqDiff, Int.reduceToNat, Int.reduceLT, Int.reduceLE, Int.reduceEq, Int.reduceNe, Int.reduceAdd, Int.reduceSub, Int.reduceMul, Int.reduceNeg, Int.reduceBEq, Int.reduceBNe, reduceCtorEq, dreduceIte]
theorem tick (c l : Int) (st : St) (h : In l) : run G 22 [.v (rv c l)] st = some (.tup [.v (rv c (if 0 < l then l - 1 else l)), .v (.bool (decide (l = 1)))], st) := by
  rw [xq_fn G rfl fn22 _ _ rfl]
  by_cases h1 : 0 < l
  · have w : IntKind.i64.wrap (l - 1) = l - 1 := wrapS (by omega)
    have e : (!decide (0 < l - 1)) = decide (l = 1) := by by_cases h2 : l = 1 <;> simp [h2] <;> omega
    simp -implicitDefEqProofs only [retry_Retry_Tick.s, go_sem, reduceIte, Nat.reduceAdd, Nat.reduceSub, Nat.reduceMul, Nat.reduceLeDiff, Nat.reduceLT, Nat.reduceEqDiff, Int.reduceToNat, Int.reduceLT, Int.reduceLE, Int.reduceEq, Int.reduceNe, Int.reduceAdd, Int.reduceSub, Int.reduceMul, Int.reduceNeg, Int.reduceBEq, Int.reduceBNe, reduceCtorEq, dreduceIte, on, h1, w, e]
  · have : ¬ l = 1 := by omega
    simp -implicitDefEqProofs only [retry_Retry_Tick.s, go_sem, reduceIte, Nat.reduceAdd, Nat.reduceSub, Nat.reduceMul, Nat.reduceLeDiff, Nat.reduceLT, Nat.reduceEqDiff, Int.reduceToNat, Int.reduceLT, Int.reduceLE, Int.reduceEq, Int.reduceNe, Int.reduceAdd, Int.reduceSub, Int.reduceMul, Int.reduceNeg, Int.reduceBEq, Int.reduceBNe, reduceCtorEq, dreduceIte, on, h1, this]
theorem rtick (c l : Int) (st : St) (h : In l) : run G 24 [.v (rv c l)] st = some (.tup [.v (rv c (if 0 < l then l - 1 else l)), .v (.bool (decide (l = 1)))], st) := by
  rw [xq_fn G rfl fn24 _ _ rfl]
  by_cases h1 : 0 < l
  · have h1' : ¬ l ≤ 0 := by omega
    have w : IntKind.i64.wrap (l - 1) = l - 1 := wrapS (by omega)
    have e : (l == 1) = decide (l = 1) := rfl
    simp -implicitDefEqProofs only [euphroeref24_Tick.s, go_sem, reduceIte, Nat.reduceAdd, Nat.reduceSub, Nat.reduceMul, Nat.reduceLeDiff, Nat.reduceLT, Nat.reduceEqDiff, Int.reduceToNat, Int.reduceLT, Int.reduceLE, Int.reduceEq, Int.reduceNe, Int.reduceAdd, Int.reduceSub, Int.reduceMul, Int.reduceNeg, Int.reduceBEq, Int.reduceBNe, reduceCtorEq, dreduceIte, h1, h1', w, e, Ref.mk.injEq]
  · have h1' : l ≤ 0 := by omega
    have : ¬ l = 1 := by omega
    simp -implicitDefEqProofs only [euphroeref24_Tick.s, go_sem, reduceIte, Nat.reduceAdd, Nat.reduceSub, Nat.reduceMul, Nat.reduceLeDiff, Nat.reduceLT, Nat.reduceEqDiff, Int.reduceToNat, Int.reduceLT, Int.reduceLE, Int.reduceEq, Int.reduceNe, Int.reduceAdd, Int.reduceSub, Int.reduceMul, Int.reduceNeg, Int.reduceBEq, Int.reduceBNe, reduceCtorEq, dreduceIte, h1, h1', this]
theorem alive : run G 21 [] [] = some (.v (.bool true), []) := run_of (n := 30) (by kernel_rfl)

theorem upto10 {m : Int} (h0 : 0 ≤ m) (h1 : m ≤ 10) : m = 0 ∨ m = 1 ∨ m = 2 ∨ m = 3 ∨ m = 4 ∨ m = 5 ∨ m = 6 ∨ m = 7 ∨ m = 8 ∨ m = 9 ∨ m = 10 := by omega
theorem longLoop (c m : Int) (h0 : 0 ≤ m) (h1 : m ≤ 10) :
    ex G (.loop [] retry_Longest.l0) [.v (.int .i64 c), .v (.int .i64 0), .v (.int .i64 0), .v (.int .i64 m), .v (.int .i64 0)] [[]] = some (.exit 0, [.v (.int .i64 c), .v (.int .i64 0), .v (.int .i64 (3 * m)), .v (.int .i64 m), .v (.int .i64 m)], [[]]) := by
  rcases upto10 h0 h1 with rfl | rfl | rfl | rfl | rfl | rfl | rfl | rfl | rfl | rfl | rfl <;> exact exN (n := 40) (m := 5) (by kernel_rfl)
theorem long (c : Int) (h : In c) : run G 23 [.v (.int .i64 c)] [] = some (.v (.int .i64 (3 * min (max c 0) 10)), []) := by
  rw [xq_fn G rfl fn23 _ _ rfl]
  simp -implicitDefEqProofs only [retry_Longest.s, go_sem, reduceIte, Nat.reduceAdd, Nat.reduceSub, Nat.reduceMul, Nat.reduceLeDiff, Nat.reduceLT, Nat.reduceEqDiff, Int.reduceToNat, Int.reduceLT, Int.reduceLE, Int.reduceEq, Int.reduceNe, Int.reduceAdd, Int.reduceSub, Int.reduceMul, Int.reduceNeg, Int.reduceBEq, Int.reduceBNe, reduceCtorEq, dreduceIte, longLoop c (min (max c 0) 10) (by omega) (by omega)]
theorem rlongLoop (c m : Int) (h0 : 1 ≤ m) (h1 : m ≤ 10) :
    ex G (.loop [4, 5] euphroeref24_Longest.l0) [.v (.int .i64 c), .v (.int .i64 0), .ptr ⟨0, 0⟩ 0 0, .v (.int .i64 0), .undef, .undef] [[.row [.v (rv (m - 1) 3)]]] = some (.ret, [.v (.int .i64 c), .v (.int .i64 (3 * m)), .ptr ⟨0, 0⟩ 0 0, .v (.int .i64 (3 * m)), .undef, .undef], [[.row [.v (rv 0 1)]]]) := by
  rcases upto10 (by omega) h1 with rfl | rfl | rfl | rfl | rfl | rfl | rfl | rfl | rfl | rfl | rfl
  · omega
  all_goals exact exN (n := 40) (m := 5) (by kernel_rfl)
theorem rlong (c : Int) (h : In c) : run G 28 [.v (.int .i64 c)] [] = some (.v (.int .i64 (3 * min (max c 0) 10)), []) := by
  rw [xq_fn G rfl fn28 _ _ rfl]
  by_cases h1 : c < 1
  · have e : 3 * min (max c 0) 10 = 0 := by omega
    simp -implicitDefEqProofs only [euphroeref24_Longest.s, go_sem, reduceIte, Nat.reduceAdd, Nat.reduceSub, Nat.reduceMul, Nat.reduceLeDiff, Nat.reduceLT, Nat.reduceEqDiff, Int.reduceToNat, Int.reduceLT, Int.reduceLE, Int.reduceEq, Int.reduceNe, Int.reduceAdd, Int.reduceSub, Int.reduceMul, Int.reduceNeg, Int.reduceBEq, Int.reduceBNe, reduceCtorEq, dreduceIte, h1, e]
  · have s1 := rsent (min c 10) 0 [] (by omega)
    have e2 : max (min c 10) 1 = min c 10 := by omega
    have e3 : min (max c 0) 10 = min c 10 := by omega
    rw [e2] at s1
    simp -implicitDefEqProofs only [euphroeref24_Longest.s, go_sem, reduceIte, Nat.reduceAdd, Nat.reduceSub, Nat.reduceMul, Nat.reduceLeDiff, Nat.reduceLT, Nat.reduceEqDiff, Int.reduceToNat, Int.reduceLT, Int.reduceLE, Int.reduceEq, Int.reduceNe, Int.reduceAdd, Int.reduceSub, Int.reduceMul, Int.reduceNeg, Int.reduceBEq, Int.reduceBNe, reduceCtorEq, dreduceIte, h1, s1, rlongLoop c (min c 10) (by omega) (by omega), e3]

theorem moves_a (c l n : Int) (t : Bool) (hc : In c) (hl : In l) (hn : In n) (h0 : 0 ≤ c) (h1 : c ≤ 10) (h2 : 0 ≤ l) (h3 : l ≤ 3) : run G 5 [.v (rv c l), .v (.bool t), .v (.int .i64 n)] [] = some (.v (.bool true), []) := by
  rw [xq_fn G rfl fn5 _ _ rfl]
  have e1 := sent c l [] hc
  have e2 := rsent c l [] hc
  have e3 := tick c l [] hl
  have e4 := rtick c l [] hl
  have e5 := long n hn
  have e6 := rlong n hn
  have e7 := may c l []
  simp only [h0, h1, h2, h3, decide_true, decide_false, Bool.and_true, Bool.and_false, Bool.false_and] at e7
  simp -implicitDefEqProofs only [euphroelaw24_RetryMoves.s, go_sem, reduceIte, Nat.reduceAdd, Nat.reduceSub, Nat.reduceMul, Nat.reduceLeDiff, Nat.reduceLT, Nat.reduceEqDiff, Int.reduceToNat, Int.reduceLT, Int.reduceLE, Int.reduceEq, Int.reduceNe, Int.reduceAdd, Int.reduceSub, Int.reduceMul, Int.reduceNeg, Int.reduceBEq, Int.reduceBNe, reduceCtorEq, dreduceIte, init, rinit, e1, e2, e3, e4, e5, e6, e7, on, more, stop, zero, alive, h0, h1, h2, h3, decide_true, decide_false, Bool.and_true, Bool.and_false, Bool.false_and, beq_self_eq_true]
theorem moves_b (c l n : Int) (t : Bool) (hc : In c) (hl : In l) (hn : In n) (h0 : 0 ≤ c) (h1 : c ≤ 10) (h2 : 0 ≤ l) (h3 : ¬ l ≤ 3) : run G 5 [.v (rv c l), .v (.bool t), .v (.int .i64 n)] [] = some (.v (.bool true), []) := by
  rw [xq_fn G rfl fn5 _ _ rfl]
  have e1 := sent c l [] hc
  have e2 := rsent c l [] hc
  have e3 := tick c l [] hl
  have e4 := rtick c l [] hl
  have e5 := long n hn
  have e6 := rlong n hn
  have e7 := may c l []
  simp only [h0, h1, h2, h3, decide_true, decide_false, Bool.and_true, Bool.and_false, Bool.false_and] at e7
  simp -implicitDefEqProofs only [euphroelaw24_RetryMoves.s, go_sem, reduceIte, Nat.reduceAdd, Nat.reduceSub, Nat.reduceMul, Nat.reduceLeDiff, Nat.reduceLT, Nat.reduceEqDiff, Int.reduceToNat, Int.reduceLT, Int.reduceLE, Int.reduceEq, Int.reduceNe, Int.reduceAdd, Int.reduceSub, Int.reduceMul, Int.reduceNeg, Int.reduceBEq, Int.reduceBNe, reduceCtorEq, dreduceIte, init, rinit, e1, e2, e3, e4, e5, e6, e7, on, more, stop, zero, alive, h0, h1, h2, h3, decide_true, decide_false, Bool.and_true, Bool.and_false, Bool.false_and, beq_self_eq_true]
theorem moves_c (c l n : Int) (t : Bool) (hc : In c) (hl : In l) (hn : In n) (h0 : 0 ≤ c) (h1 : c ≤ 10) (h2 : ¬ 0 ≤ l) : run G 5 [.v (rv c l), .v (.bool t), .v (.int .i64 n)] [] = some (.v (.bool true), []) := by
  rw [xq_fn G rfl fn5 _ _ rfl]
  have e1 := sent c l [] hc
  have e2 := rsent c l [] hc
  have e3 := tick c l [] hl
  have e4 := rtick c l [] hl
  have e5 := long n hn
  have e6 := rlong n hn
  have e7 := may c l []
  simp only [h0, h1, h2, decide_true, decide_false, Bool.and_true, Bool.and_false, Bool.false_and] at e7
  simp -implicitDefEqProofs only [euphroelaw24_RetryMoves.s, go_sem, reduceIte, Nat.reduceAdd, Nat.reduceSub, Nat.reduceMul, Nat.reduceLeDiff, Nat.reduceLT, Nat.reduceEqDiff, Int.reduceToNat, Int.reduceLT, Int.reduceLE, Int.reduceEq, Int.reduceNe, Int.reduceAdd, Int.reduceSub, Int.reduceMul, Int.reduceNeg, Int.reduceBEq, Int.reduceBNe, reduceCtorEq, dreduceIte, init, rinit, e1, e2, e3, e4, e5, e6, e7, on, more, stop, zero, alive, h0, h1, h2, decide_true, decide_false, Bool.and_true, Bool.and_false, Bool.false_and, beq_self_eq_true]
theorem moves_d (c l n : Int) (t : Bool) (hc : In c) (hl : In l) (hn : In n) (h0 : 0 ≤ c) (h1 : ¬ c ≤ 10) : run G 5 [.v (rv c l), .v (.bool t), .v (.int .i64 n)] [] = some (.v (.bool true), []) := by
  rw [xq_fn G rfl fn5 _ _ rfl]
  have e1 := sent c l [] hc
  have e2 := rsent c l [] hc
  have e3 := tick c l [] hl
  have e4 := rtick c l [] hl
  have e5 := long n hn
  have e6 := rlong n hn
  have e7 := may c l []
  simp only [h0, h1, decide_true, decide_false, Bool.and_true, Bool.and_false, Bool.false_and] at e7
  simp -implicitDefEqProofs only [euphroelaw24_RetryMoves.s, go_sem, reduceIte, Nat.reduceAdd, Nat.reduceSub, Nat.reduceMul, Nat.reduceLeDiff, Nat.reduceLT, Nat.reduceEqDiff, Int.reduceToNat, Int.reduceLT, Int.reduceLE, Int.reduceEq, Int.reduceNe, Int.reduceAdd, Int.reduceSub, Int.reduceMul, Int.reduceNeg, Int.reduceBEq, Int.reduceBNe, reduceCtorEq, dreduceIte, init, rinit, e1, e2, e3, e4, e5, e6, e7, on, more, stop, zero, alive, h0, h1, decide_true, decide_false, Bool.and_true, Bool.and_false, Bool.false_and, beq_self_eq_true]
theorem moves_e (c l n : Int) (t : Bool) (hc : In c) (hl : In l) (hn : In n) (h0 : ¬ 0 ≤ c) : run G 5 [.v (rv c l), .v (.bool t), .v (.int .i64 n)] [] = some (.v (.bool true), []) := by
  rw [xq_fn G rfl fn5 _ _ rfl]
  have e1 := sent c l [] hc
  have e2 := rsent c l [] hc
  have e3 := tick c l [] hl
  have e4 := rtick c l [] hl
  have e5 := long n hn
  have e6 := rlong n hn
  have e7 := may c l []
  simp only [h0, decide_true, decide_false, Bool.and_true, Bool.and_false, Bool.false_and] at e7
  simp -implicitDefEqProofs only [euphroelaw24_RetryMoves.s, go_sem, reduceIte, Nat.reduceAdd, Nat.reduceSub, Nat.reduceMul, Nat.reduceLeDiff, Nat.reduceLT, Nat.reduceEqDiff, Int.reduceToNat, Int.reduceLT, Int.reduceLE, Int.reduceEq, Int.reduceNe, Int.reduceAdd, Int.reduceSub, Int.reduceMul, Int.reduceNeg, Int.reduceBEq, Int.reduceBNe, reduceCtorEq, dreduceIte, init, rinit, e1, e2, e3, e4, e5, e6, e7, on, more, stop, zero, alive, h0, decide_true, decide_false, Bool.and_true, Bool.and_false, Bool.false_and, beq_self_eq_true]
theorem moves (c l n : Int) (t : Bool) (hc : In c) (hl : In l) (hn : In n) : run G 5 [.v (rv c l), .v (.bool t), .v (.int .i64 n)] [] = some (.v (.bool true), []) := by
  by_cases h1 : 0 ≤ c
  · by_cases h2 : c ≤ 10
    · by_cases h3 : 0 ≤ l
      · by_cases h4 : l ≤ 3
        · exact moves_a c l n t hc hl hn h1 h2 h3 h4
        · exact moves_b c l n t hc hl hn h1 h2 h3 h4
      · exact moves_c c l n t hc hl hn h1 h2 h3
    · exact moves_d c l n t hc hl hn h1 h2
  · exact moves_e c l n t hc hl hn h1

theorem once1 (c l n : Int) (h0 : 0 ≤ c) (h1 : c ≤ 10) : ex G (.loop [7, 8, 9] euphroelaw24_RetryOnce.l0) [.v (rv c l), .v (.int .u8 n), .ptr ⟨0, 0⟩ 0 0, .v (.bool false), .ptr ⟨0, 1⟩ 0 0, .v (.int .i64 0), .v (.int .i64 0), .undef, .undef, .undef, .undef, .undef, .undef, .undef, .undef, .undef, .undef] [[.row [.v (rv c l)], .row [.v (rv (max c 1 - 1) 3)]]]
    = some (.exit 0, [.v (rv c l), .v (.int .u8 n), .ptr ⟨0, 0⟩ 0 0, .v (.bool false), .ptr ⟨0, 1⟩ 0 0, .v (.int .i64 1), .v (.int .i64 20), .undef, .undef, .undef, .undef, .undef, .undef, .undef, .undef, .undef, .undef], [[.row [.v (rv c l)], .row [.v (rv (max c 1 - 1) 0)]]]) := by
  rcases upto10 h0 h1 with rfl | rfl | rfl | rfl | rfl | rfl | rfl | rfl | rfl | rfl | rfl <;> exact exN (n := 40) (m := 30) (by kernel_rfl)
theorem once2 (c l n m q : Int) (h0 : 1 ≤ m) (h1 : m ≤ 10) : ex G (.loop [14, 15, 16] euphroelaw24_RetryOnce.l1) [.v (rv c l), .v (.int .u8 n), .ptr ⟨0, 0⟩ 0 0, .v (.bool false), .ptr ⟨0, 1⟩ 0 0, .v (.int .i64 1), .v (.int .i64 20), .undef, .undef, .undef, .v (.int .i64 m), .ptr ⟨0, 2⟩ 0 0, .v (.int .i64 (3 * m)), .v (.int .i64 0), .undef, .undef, .undef] [[.row [.v (rv c l)], .row [.v (rv q 0)], .row [.v (rv (m - 1) 3)]]]
    = some (.ret, [.v (rv c l), .v (.int .u8 n), .ptr ⟨0, 0⟩ 0 0, .v (.bool true), .ptr ⟨0, 1⟩ 0 0, .v (.int .i64 1), .v (.int .i64 20), .undef, .undef, .undef, .v (.int .i64 m), .ptr ⟨0, 2⟩ 0 0, .v (.int .i64 (3 * m)), .v (.int .i64 (3 * m - 1)), .undef, .undef, .undef], [[.row [.v (rv c l)], .row [.v (rv q 0)], .row [.v (rv 0 1)]]]) := by
  rcases upto10 (by omega) h1 with rfl | rfl | rfl | rfl | rfl | rfl | rfl | rfl | rfl | rfl | rfl
  · omega
  all_goals exact exN (n := 40) (m := 30) (by kernel_rfl)
theorem once (c l n : Int) (hn0 : 0 ≤ n) (hn1 : n ≤ 255) : run G 4 [.v (rv c l), .v (.int .u8 n)] [] = some (.v (.bool true), []) := by
  rw [xq_fn G rfl fn4 _ _ rfl]
  by_cases hm : 0 ≤ c ∧ c ≤ 10 ∧ 0 ≤ l ∧ l ≤ 3
  · obtain ⟨m1, m2, m3, m4⟩ := hm
    have s1 := sent c l [] (by omega)
    have o1 := once1 c l n m1 m2
    have w1 : n.tmod 10 = n % 10 := Int.tmod_eq_emod_of_nonneg hn0
    have w2 : IntKind.i64.wrap (n % 10) = n % 10 := wrapS (by omega)
    have w3 : IntKind.i64.wrap (n % 10 + 1) = n % 10 + 1 := wrapS (by omega)
    have s2 := sent (n % 10 + 1) 0 [] (by omega)
    have o2 := once2 c l n (n % 10 + 1) (max c 1 - 1) (by omega) (by omega)
    have l1 := long (n % 10 + 1) (by omega)
    have e1 : max (n % 10 + 1) 1 - 1 = n % 10 := by omega
    have e2 : min (max (n % 10 + 1) 0) 10 = n % 10 + 1 := by omega
    have e3 : n % 10 + 1 - 1 = n % 10 := by omega
    rw [e1] at s2
    rw [e2] at l1
    rw [e3] at o2
    have w4 : IntKind.u8.wrap (n % 10) = n % 10 := by rw [IntKind.wrap_u8]; omega
    simp -implicitDefEqProofs only [euphroelaw24_RetryOnce.s, go_sem, reduceIte, Nat.reduceAdd, Nat.reduceSub, Nat.reduceMul, Nat.reduceLeDiff, Nat.reduceLT, Nat.reduceEqDiff, Int.reduceToNat, Int.reduceLT, Int.reduceLE, Int.reduceEq, Int.reduceNe, Int.reduceAdd, Int.reduceSub, Int.reduceMul, Int.reduceNeg, Int.reduceBEq, Int.reduceBNe, reduceCtorEq, dreduceIte, may, m1, m2, m3, m4, s1, o1, w1, w2, w3, s2, l1, o2]
  · have : (decide (0 ≤ c) && decide (c ≤ 10) && decide (0 ≤ l) && decide (l ≤ 3)) = false := by
      by_cases h1 : 0 ≤ c <;> by_cases h2 : c ≤ 10 <;> by_cases h3 : 0 ≤ l <;> by_cases h4 : l ≤ 3 <;> simp [h1, h2, h3, h4] <;> omega
    have hmay := may c l []
    rw [this] at hmay
    simp -implicitDefEqProofs only [euphroelaw24_RetryOnce.s, go_sem, reduceIte, Nat.reduceAdd, Nat.reduceSub, Nat.reduceMul, Nat.reduceLeDiff, Nat.reduceLT, Nat.reduceEqDiff, Int.reduceToNat, Int.reduceLT, Int.reduceLE, Int.reduceEq, Int.reduceNe, Int.reduceAdd, Int.reduceSub, Int.reduceMul, Int.reduceNeg, Int.reduceBEq, Int.reduceBNe, reduceCtorEq, dreduceIte, hmay, alive]
end Go.Q
