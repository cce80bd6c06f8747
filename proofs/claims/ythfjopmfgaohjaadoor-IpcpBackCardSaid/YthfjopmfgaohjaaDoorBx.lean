/- What arguments are, as typed lists. No condition. -/
import Derived.Test.YthfjopmfgaohjaaDoorEq
import Derived.Test.YthfjopmfgaohjaaDoorLz
set_option linter.all false
namespace Go.Q
theorem list_of {α : Type} {f : α → V} {p : α → Prop} : ∀ (ys : List V), (∀ y ∈ ys, ∃ a, y = f a ∧ p a) → ∃ l : List α, ys = l.map f ∧ ∀ a ∈ l, p a
  | [], _ => ⟨[], rfl, fun a h => by cases h⟩
  | y :: ys, h => by
    obtain ⟨a, rfl, ha⟩ := h y (List.mem_cons_self ..)
    obtain ⟨l, rfl, hl⟩ := list_of ys fun z hz => h z (List.mem_cons_of_mem _ hz)
    exact ⟨a :: l, rfl, fun b hb => by
      rcases List.mem_cons.1 hb with rfl | hb
      · exact ha
      · exact hl b hb⟩
theorem u8_rng {n : Int} (h : IntKind.u8.min ≤ n ∧ n ≤ IntKind.u8.max) : 0 ≤ n ∧ n ≤ 255 := h
theorem bytes_of {x : V} (h : hasC (.slc false 1 [.int .u8]) x) : ∃ l, x = .slc 1 (b8 l) ∧ okB l ∧ l.length ≤ reachBytes := by
  simp only [hasC, hasCs, lenC, Nat.zero_add] at h
  obtain ⟨ys, rfl, h1, h2⟩ := h
  obtain ⟨l, rfl, hl⟩ := list_of (f := V.int .u8) (p := fun x => 0 ≤ x ∧ x ≤ 255) ys (fun y hy => by
    obtain ⟨cs, rfl, _, _, rfl, ⟨n, rfl, n1, n2⟩, rfl⟩ := h2 y hy
    exact ⟨n, rfl, u8_rng ⟨n1, n2⟩⟩)
  exact ⟨l, rfl, hl, by simpa using h1⟩
theorem opts_of {x : V} (h : hasC (.slc true 32 [.int .u8, .slc false 1 [.int .u8]]) x) : ∃ l, x = .slc 2 (oes l) ∧ okL l ∧ l.length * 32 ≤ reachBytes := by
  rw [hasC] at h
  obtain ⟨ys, rfl, h1, h2⟩ := h
  obtain ⟨l, rfl, hl⟩ := list_of (f := oe) (p := okO) ys (fun y hy => by
    obtain ⟨cs, rfl, h3⟩ := h2 y hy
    rw [hasCs] at h3
    obtain ⟨_, _, rfl, h4, h5⟩ := h3
    rw [hasC] at h4
    obtain ⟨n, rfl, n1, n2⟩ := h4
    rw [hasCs] at h5
    obtain ⟨_, _, rfl, h6, h7⟩ := h5
    obtain ⟨l, rfl, hl, _⟩ := bytes_of h6
    rw [hasCs] at h7
    subst h7
    exact ⟨(n, l), rfl, u8_rng ⟨n1, n2⟩, hl⟩)
  exact ⟨l, by simp [oes, lenC], hl, by simpa using h1⟩
theorem one_of {t : CT} {cs : List V} (h : hasCs [t] cs) : ∃ x, cs = [x] ∧ hasC t x := by
  rw [hasCs] at h
  obtain ⟨x, r, rfl, h1, h2⟩ := h
  rw [hasCs] at h2
  subst h2
  exact ⟨x, rfl, h1⟩
theorem two_of {t u : CT} {cs : List V} (h : hasCs [t, u] cs) : ∃ x y, cs = [x, y] ∧ hasC t x ∧ hasC u y := by
  rw [hasCs] at h
  obtain ⟨x, r, rfl, h1, h2⟩ := h
  obtain ⟨y, rfl, h3⟩ := one_of h2
  exact ⟨x, y, rfl, h1, h3⟩
theorem three_of {t u v : CT} {cs : List V} (h : hasCs [t, u, v] cs) : ∃ x y z, cs = [x, y, z] ∧ hasC t x ∧ hasC u y ∧ hasC v z := by
  rw [hasCs] at h
  obtain ⟨x, r, rfl, h1, h2⟩ := h
  obtain ⟨y, z, rfl, h3, h4⟩ := two_of h2
  exact ⟨x, y, z, rfl, h1, h3, h4⟩
theorem u8_of {x : V} (h : hasC (.int .u8) x) : ∃ n, x = .int .u8 n ∧ 0 ≤ n ∧ n ≤ 255 := by
  rw [hasC] at h
  obtain ⟨n, rfl, n1, n2⟩ := h
  exact ⟨n, rfl, u8_rng ⟨n1, n2⟩⟩
theorem u16_of {x : V} (h : hasC (.int .u16) x) : ∃ n, x = .int .u16 n ∧ 0 ≤ n ∧ n ≤ 65535 := by
  rw [hasC] at h
  obtain ⟨n, rfl, h⟩ := h
  exact ⟨n, rfl, h⟩
theorem u32_of {x : V} (h : hasC (.int .u32) x) : ∃ n, x = .int .u32 n ∧ 0 ≤ n ∧ n ≤ 4294967295 := by
  rw [hasC] at h
  obtain ⟨n, rfl, h⟩ := h
  exact ⟨n, rfl, h⟩
theorem i64_of {x : V} (h : hasC (.int .i64) x) : ∃ n, x = .int .i64 n ∧ -9223372036854775808 ≤ n ∧ n ≤ 9223372036854775807 := by
  rw [hasC] at h
  obtain ⟨n, rfl, h⟩ := h
  exact ⟨n, rfl, h⟩
theorem bool_of {x : V} (h : hasC .bool x) : ∃ b, x = .bool b := by
  rw [hasC] at h
  exact h
theorem reach : reachBytes ≤ 4611686018427387904 := by decide
end Go.Q
