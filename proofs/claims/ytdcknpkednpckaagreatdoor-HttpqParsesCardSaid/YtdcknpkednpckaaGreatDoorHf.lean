/- The laws WordsHeads, WordsLines, WordsBack, in the machine. No condition. -/
import Derived.Test.YtdcknpkednpckaaGreatDoorHb
import Derived.Test.YtdcknpkednpckaaGreatDoorHe
set_option linter.all false
set_option maxRecDepth 100000
namespace Go.Q
open SOp SCode
attribute [local congr] bind_c map_c
theorem b8_u8 : ∀ (l : List Int), okB l → b8 l = u8L (by8 l)
  | [], _ => rfl
  | x :: l, h => by
    have h1 := h x (by simp)
    have ih := b8_u8 l fun y hy => h y (by simp [hy])
    have e : ((UInt8.ofNat x.toNat).toNat : Int) = x := by
      simp only [UInt8.toNat_ofNat']
      omega
    show V.int .u8 x :: b8 l = cV (UInt8.ofNat x.toNat) :: u8L (by8 l)
    rw [ih, cV, e]
theorem sL_at {ls : List (List UInt8)} {i : Nat} (h : i < ls.length) : (sL ls)[i]? = some (.str ls[i]) := by simp [sL, h]
theorem scan_done {l : List UInt8} {ls : List (List UInt8)} {n : Nat} (h : scan l 0 [] [] 0 = .done ls n) : goodL ls ∧ n = (flt ls).length + 2 ∧ ∃ rest, l = flt ls ++ 13 :: 10 :: rest := by
  rcases hdK l with ⟨ls', rest, g, e⟩ | ⟨ls', line, g, g2, e⟩ | ⟨ls', line, c, rest, g, g2, e, g3, g4⟩
  · rw [e, scan_whole g] at h
    cases h
    exact ⟨g, rfl, rest, e⟩
  · rcases e with e | e
    · rw [e, (scan_begin g g2).1] at h; cases h
    · rw [e, (scan_begin g g2).2] at h; cases h
  · rw [e, scan_wrong g g2 g3 g4] at h; cases h
theorem hdR_cases (b : List UInt8) : (∃ (ls : List (List UInt8)) (n : Nat) (rest : List UInt8), hdR b = (ls, (n : Int), 0) ∧ goodL ls ∧ n = (flt ls).length + 2 ∧ n ≤ 2048 ∧ n ≤ b.length ∧ b = flt ls ++ 13 :: 10 :: rest) ∨ (∃ e : Int, hdR b = ([], 0, e) ∧ (e = 3 ∨ e = 4 ∨ e = 8)) := by
  unfold hdR
  cases hs : scan (b.take 2048) 0 [] [] 0 with
  | form => exact .inr ⟨3, rfl, .inl rfl⟩
  | fin =>
    right
    by_cases h : b.length < 2048
    · exact ⟨4, by simp [h], .inr (.inl rfl)⟩
    · exact ⟨8, by simp [h], .inr (.inr rfl)⟩
  | done ls n =>
    obtain ⟨g, hn, rest, e⟩ := scan_done hs
    have hl : (b.take 2048).length = min 2048 b.length := List.length_take ..
    have h2 := congrArg List.length e
    simp only [List.length_append, List.length_cons] at h2
    refine .inl ⟨ls, n, rest ++ b.drop 2048, rfl, g, hn, by omega, by omega, ?_⟩
    conv => lhs; rw [← List.take_append_drop 2048 b, e]
    simp
end Go.Q
