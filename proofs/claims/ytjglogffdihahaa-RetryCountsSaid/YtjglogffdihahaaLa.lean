import Derived.Test.YtjglogffdihahaaSa
import Derived.Laws.MakeOwn
import Derived.ProofKit
set_option maxRecDepth 100000
set_option linter.unusedSimpArgs false
namespace Go.Q
open SOp SCode

def fnOf (n : Nat) : Option SFunc := (fns.find? (·.1 == n)).map (·.2.1)
def G : Prg := { fn := fnOf, prim := fun _ => none }
theorem fn15 : G.fn 15 = some retry_Retry_Init.s := by rfl
theorem fn16 : G.fn 16 = some retry_Retry_Sent.s := by rfl
theorem fn17 : G.fn 17 = some retry_Retry_On.s := by rfl
theorem fn18 : G.fn 18 = some retry_Retry_May.s := by rfl
theorem fn19 : G.fn 19 = some retry_Retry_Stop.s := by rfl
theorem fn20 : G.fn 20 = some retry_Retry_More.s := by rfl
theorem fn21 : G.fn 21 = some euphroelaw24_alive.s := by rfl
theorem fn23 : G.fn 23 = some retry_Longest.s := by rfl
theorem fn3 : G.fn 3 = some euphroelaw24_RetryCounts.s := by rfl

attribute [local simp] ite_bind ite_map eo_nil eo_T eo_N eo_W eo_G guardD wantD boolD thenD xq_seq xq_ops xq_ifs blkD xq_block finD endD oneD xq_ret xq_skip xq_exit evOp getT raw rd cp takeO takeD addB getB setB opLoad opStore loadC loadVs cellsOf opFa opBin binI isSh fillD putAt mkAgg mkAgg1 allV cp1 isAggD unCells resList resOf retDs retD opUn asN lenOf opIa vaOf ixOf cellsV opApp elems rdV rdVs toV toVL isRow anyRow pop killE popD lpD rowOf rowAt stElem newElem extD extL eqD putD opCall backD goodD refsBelow opFld

abbrev rv (c l : Int) : V := .agg [.int .i64 c, .int .i64 l]

theorem on (c l : Int) (st : St) : run G 17 [.v (rv c l)] st = some (.v (.bool (decide (0 < l))), st) := by
  rw [xq_fn G rfl fn17 _ _ rfl]
  simp [retry_Retry_On.s]
theorem may (c l : Int) (st : St) : run G 18 [.v (rv c l)] st = some (.v (.bool (decide (0 ≤ c) && decide (c ≤ 10) && decide (0 ≤ l) && decide (l ≤ 3))), st) := by
  rw [xq_fn G rfl fn18 _ _ rfl]
  simp [retry_Retry_May.s]
  by_cases h1 : 0 ≤ c <;> by_cases h2 : c ≤ 10 <;> by_cases h3 : 0 ≤ l <;> simp [h1, h2, h3]
theorem more (c l : Int) (st : St) : run G 20 [.v (rv c l)] st = some (.v (.bool (decide (0 < c))), st) := by
  rw [xq_fn G rfl fn20 _ _ rfl]
  simp [retry_Retry_More.s]
theorem stop (c l : Int) (st : St) : run G 19 [.v (rv c l)] st = some (.v (rv c 0), st) := by
  rw [xq_fn G rfl fn19 _ _ rfl]
  simp [retry_Retry_Stop.s]
theorem sent (c l : Int) (st : St) (h : 0 ≤ c) (h' : c ≤ 10) : run G 16 [.v (rv c l)] st = some (.v (rv (max c 1 - 1) 3), st) := by
  rw [xq_fn G rfl fn16 _ _ rfl]
  simp [retry_Retry_Sent.s, maxD]
  rw [IntKind.wrap_i64]
  split <;> omega
theorem init (c l : Int) (t : Bool) (st : St) : run G 15 [.v (rv c l), .v (.bool t)] st = some (.v (rv (if t then 2 else 10) l), st) := by
  rw [xq_fn G rfl fn15 _ _ rfl]
  cases t <;> simp [retry_Retry_Init.s]

theorem wrapS {x : Int} (h : -9223372036854775808 ≤ x ∧ x ≤ 9223372036854775807) : IntKind.i64.wrap x = x := by rw [IntKind.wrap_i64]; omega

theorem alive : run G 21 [] [] = some (.v (.bool true), []) := run_of (n := 30) (by kernel_rfl)
theorem round (t : Bool) (n : Int) (f m : Int) (hm : m ≤ 30) (c l i : Int) (h0 : 0 ≤ c) (h1 : c ≤ 10) (hi : 0 ≤ i) (e : i < m) :
    ex G euphroelaw24_RetryCounts.l0 [.v (.bool t), .v (.int .u8 n), .v (.bool false), .ptr ⟨0, 0⟩ 0 0, .v (.int .i64 f), .v (.int .i64 m), .v (.int .i64 i)] [[], [.row [.v (rv c l)]]]
      = some (.normal, [.v (.bool t), .v (.int .u8 n), .v (.bool false), .ptr ⟨0, 0⟩ 0 0, .v (.int .i64 f), .v (.int .i64 m), .v (.int .i64 (i + 1))], [[], [.row [.v (rv (max c 1 - 1) 3)]]]) := by
  have s1 := sent c l [] h0 h1
  have h2 : 0 ≤ max c 1 - 1 := by omega
  have h3 : max c 1 - 1 ≤ 10 := by omega
  have h4 : ¬ max c 1 < 1 := by omega
  have w : IntKind.i64.wrap (i + 1) = i + 1 := wrapS (by omega)
  simp [euphroelaw24_RetryCounts.l0, e, s1, on, may, stop, h2, h3, h4, w]
theorem loopS (t : Bool) (n : Int) (f m : Int) (hm : m ≤ 30) : ∀ (k : Nat) (c l i : Int), m - i = k → 0 ≤ c → c ≤ 10 → 0 ≤ i →
    ex G (.loop [] euphroelaw24_RetryCounts.l0) [.v (.bool t), .v (.int .u8 n), .v (.bool false), .ptr ⟨0, 0⟩ 0 0, .v (.int .i64 f), .v (.int .i64 m), .v (.int .i64 i)] [[.row [.v (rv c l)]]]
      = some (.exit 0, [.v (.bool t), .v (.int .u8 n), .v (.bool false), .ptr ⟨0, 0⟩ 0 0, .v (.int .i64 f), .v (.int .i64 m), .v (.int .i64 m)], [[.row [.v (rv (max (c - k) 0) (if k = 0 then l else 3))]]])
  | 0, c, l, i, hk, h0, h1, hi => by
    rw [xq_loop]
    have e : i = m := by omega
    subst e
    simp [euphroelaw24_RetryCounts.l0]
    omega
  | k + 1, c, l, i, hk, h0, h1, hi => by
    rw [xq_loop, round t n f m hm c l i h0 h1 hi (by omega)]
    have := loopS t n f m hm k (max c 1 - 1) 3 (i + 1) (by omega) (by omega) (by omega) (by omega)
    have e : max (max c 1 - 1 - (k : Int)) 0 = max (c - ((k + 1 : Nat) : Int)) 0 := by omega
    rw [e] at this
    have e2 : (if k = 0 then (3 : Int) else 3) = 3 := by split <;> rfl
    rw [e2] at this
    simp only [Option.bind_some, lpD, killE, pop, List.map_cons, List.map_nil, List.length_cons, List.length_nil, popD, List.tail_cons, Nat.add_sub_cancel, refsBelow, Nat.lt_irrefl, Nat.zero_lt_one, decide_true, if_true, Nat.zero_add, Nat.add_one_sub_one, Nat.succ_sub_one]
    rw [this, if_neg (by omega)]
theorem law (t : Bool) (n : Int) (h0 : 0 ≤ n) (h1 : n ≤ 255) : run G 3 [.v (.bool t), .v (.int .u8 n)] [] = some (.v (.bool true), []) := by
  rw [xq_fn G rfl fn3 _ _ rfl]
  have w : IntKind.i64.wrap n = n := wrapS (by omega)
  have hm : n.tmod 30 = n % 30 := Int.tmod_eq_emod_of_nonneg h0
  have L := loopS t n (if t then 2 else 10) (n % 30) (by omega) (n % 30).toNat (if t then 2 else 10) 0 0 (by omega) (by split <;> omega) (by split <;> omega) (by omega)
  simp only [euphroelaw24_RetryCounts.s]
  have hn : ((n % 30).toNat : Int) = n % 30 := by omega
  rw [hn] at L
  have h30 : 0 ≤ n % 30 := by omega
  simp [init, w, hm]
  rw [L]
  cases t <;> simp [more, alive, maxD]
  · rw [w, hm, wrapS (by omega)]; split <;> omega
  · rw [w, hm, wrapS (by omega)]; split <;> omega
end Go.Q
