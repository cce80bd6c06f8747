/- What a negotiation sends may be laid: the law NegoSends. No condition. -/
import Derived.Test.YtmbdamompcdolaaGreatDoorNe
set_option linter.all false
set_option maxRecDepth 100000
namespace Go.Q
open SOp SCode
attribute [local congr] bind_c map_c
theorem n_alive : run G 7 [] [] = some (.v (.bool true), []) := run_of (n := 30) (by kernel_rfl)
theorem n_lrules (r : Rl) : run G 10 [.v (rlv r)] [] = some (.v (rlv r), []) := by
  rw [xq_fn G rfl euphroelaw27_rules.g _ _ rfl]
  simp -implicitDefEqProofs (maxSteps := 2000000) (disch := omega) only [euphroelaw27_rules.s, rlv, go_sem, reduceIte, Nat.reduceAdd, Nat.reduceSub, Nat.reduceMul, Nat.reduceLeDiff, Nat.reduceLT, Nat.reduceEqDiff, Int.reduceToNat, Int.reduceLT, Int.reduceLE, Int.reduceEq, Int.reduceNe, Int.reduceAdd, Int.reduceSub, Int.reduceMul, Int.reduceNeg, Int.reduceBEq, Int.reduceBNe, reduceCtorEq, dreduceIte, oWS, oW8, oW16, oW32, oW64, oLtT, oLtF, oLeT, oLeF, oNLtT, oNLtF, oNLeT, oNLeF, oEqT, oEqF, oNEqT, oNEqF, oBeqT, oBeqF, oBneT, oBneF, Int.natCast_add, List.take_length]
abbrev Stp := Int × Int × Bool × Bool × Ctl
abbrev spv (s : Stp) : V := .agg [.int .u8 s.1, .int .i64 s.2.1, .bool s.2.2.1, .bool s.2.2.2.1, .int .u8 s.2.2.2.2.1, .int .u8 s.2.2.2.2.2.1, .slc 1 (b8 s.2.2.2.2.2.2)]
abbrev okSp (s : Stp) : Prop := (0 ≤ s.1 ∧ s.1 ≤ 255) ∧ In s.2.1 ∧ okC s.2.2.2.2
def sps (l : List Stp) : List V := l.map spv
theorem sps_len (l : List Stp) : (sps l).length = l.length := by simp [sps]
theorem sps_at {l : List Stp} {i : Nat} {x : Stp} (h : l[i]? = some x) : (sps l)[i]? = some (spv x) := by simp [sps, h]
theorem sps_take (l : List Stp) (n : Nat) : (sps l).take n = sps (l.take n) := by simp [sps]
def stepN (n : Ng) (s : Stp) : Ng × Ou := if s.1 % 4 = 0 then doN n s.2.1 else if s.1 % 4 = 1 then ticN n else takN n s.2.2.2.2
def seqN (r : Rl) (l : List Stp) : Nat → Ng
  | 0 => newN r
  | i + 1 => match l[i]? with
    | some s => (stepN (seqN r l i) s).1
    | none => seqN r l i
theorem seqN_succ {r : Rl} {l : List Stp} {i : Nat} (h : i < l.length) : seqN r l (i + 1) = (stepN (seqN r l i) l[i]).1 := by rw [seqN, List.getElem?_eq_getElem h]
theorem stepN_ok (n : Ng) (s : Stp) {k : Nat} (h : InvN k n) (hs : okSp s) (hd : s.2.2.2.2.2.2.length ≤ 1000) : InvN (k + 1) (stepN n s).1 ∧ OutOk n (stepN n s).1 (stepN n s).2 := by
  unfold stepN
  split
  · obtain ⟨a, b⟩ := n_doOk n s.2.1 h; exact ⟨a.up (by omega), b⟩
  split
  · obtain ⟨a, b⟩ := n_tickOk n h; exact ⟨a.up (by omega), b⟩
  · exact n_takeOk n _ h hs.2.2 (by omega)
theorem newN_inv {r : Rl} (h : okR r) : InvN 0 (newN r) := ⟨⟨by show In 0; constructor <;> decide, h⟩, ⟨fun o ho => (by cases ho), Nat.zero_le _⟩, ⟨by simp [newN], by simp [newN]⟩, ⟨by simp [newN], by simp [newN]⟩, ⟨fun o ho => (by cases ho), Nat.zero_le _⟩⟩
theorem seqN_inv {r : Rl} (hr : okR r) (l : List Stp) (hl : ∀ s ∈ l, okSp s) : ∀ i, i ≤ l.length → (∀ j, j < i → ∀ h : j < l.length, (l[j]).2.2.2.2.2.2.length ≤ 1000) → InvN i (seqN r l i)
  | 0, _, _ => newN_inv hr
  | i + 1, hi, hd => by
    rw [seqN_succ (by omega)]
    exact (stepN_ok _ _ (seqN_inv hr l hl i (by omega) (fun j hj => hd j (by omega))) (hl _ (List.getElem_mem _)) (hd i (by omega) (by omega))).1
theorem nqTT : (true == true) = true := rfl
theorem nqTF : (true == false) = false := rfl
theorem nqFT : (false == true) = false := rfl
theorem nqFF : (false == false) = true := rfl
theorem bq (a b : Bool) : (a == b) = true ↔ a = b := by cases a <;> cases b <;> simp
abbrev sdE (r : Rl) (l : List Stp) (m : Nat) (i : Nat) : List D := [.v (rlv r), .v (.slc 7 (sps l)), .ptr ⟨0, 0⟩ 0 0, .v (.bool false), .ptr ⟨0, 1⟩ 0 0, .v (.slc 7 (sps (l.take m))), .v (.int .i64 (m : Nat)), .v (.int .i64 (i : Nat)), .undef, .undef, .undef, .undef, .undef, .undef, .undef, .undef, .undef]
abbrev sdS (r : Rl) (n : Ng) : St := [[.row [.v (rlv r)], .row [.v (nv n)]]]
end Go.Q
