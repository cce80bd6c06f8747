/- A head of lines: what the reference's Head computes. No condition. -/
import Derived.Test.YtaakegacmjnmoaaDoorHd
set_option linter.all false
set_option maxRecDepth 100000
namespace Go.Q
open SOp SCode
attribute [local congr] bind_c map_c
abbrev rhE (b line : List UInt8) (ls : List (List UInt8)) (i : Nat) : List D := [.v (.slc 1 (u8L b)), .nils 1, .v (.int .i64 0), .v (.int .i64 0), accG 1 (sL ls), .v (.str line), .v (.int .i64 i), .undef]
def rhK (b : List UInt8) (o : Option Out) : HdR → Prop
  | .fin => ∃ x4 x5 x6 x7 : D, o = some (.exit 0, [.v (.slc 1 (u8L b)), .nils 1, .v (.int .i64 0), .v (.int .i64 0), x4, x5, x6, x7], [[]])
  | .form => ∃ x4 x5 x6 x7 : D, o = some (.ret, [.v (.slc 1 (u8L b)), .nils 1, .v (.int .i64 0), .v (.int .i64 3), x4, x5, x6, x7], [[]])
  | .done ls n => ∃ x4 x5 x6 x7 : D, o = some (.ret, [.v (.slc 1 (u8L b)), accG 1 (sL ls), .v (.int .i64 n), .v (.int .i64 0), x4, x5, x6, x7], [[]])
theorem getT_take {b : List UInt8} {i : Nat} {c : UInt8} (hx : b[i]? = some c) : bytesOf (List.drop i (List.take (i + 1) (u8L b))) = some [c] := by
  obtain ⟨hi, e⟩ := List.getElem?_eq_some_iff.1 hx
  have : List.drop i (List.take (i + 1) (u8L b)) = u8L [c] := by
    rw [take_succ (by rw [u8L_len]; exact hi), List.drop_append_of_le_length (by simp [u8L_len]; omega)]
    have h1 : List.drop i (List.take i (u8L b)) = [] := List.drop_eq_nil_of_le (by rw [List.length_take]; omega)
    rw [h1]
    simp [u8L, e]
  rw [this, bytesOf_u8L]
theorem u8_cases (c : UInt8) : (txB c = true ∧ ((32 ≤ (c.toNat : Int) ∧ (c.toNat : Int) ≤ 126) ∨ (c.toNat : Int) = 9)) ∨ (txB c = false ∧ ((c.toNat : Int) < 32 ∨ 126 < (c.toNat : Int)) ∧ ¬ (c.toNat : Int) = 9) := by
  rw [txB_eq]
  by_cases h1 : (c.toNat : Int) = 9
  · exact .inl ⟨by rw [decide_eq_true h1]; rfl, .inr h1⟩
  · by_cases h2 : 32 ≤ (c.toNat : Int) ∧ (c.toNat : Int) ≤ 126
    · exact .inl ⟨by rw [decide_eq_true h2]; simp, .inl h2⟩
    · refine .inr ⟨by rw [decide_eq_false h1, decide_eq_false h2]; rfl, by omega, h1⟩
set_option maxHeartbeats 4000000 in
abbrev hdP (q : List (List UInt8) × Int × Int) : D := .tup [.lin 1 (sL q.1), .v (.int .i64 q.2.1), .v (.int .i64 q.2.2)]
end Go.Q
