/- The seat of the texts of lines: words.Token: its contract. No condition. -/
import Derived.Test.YtdcknpkednpckaaGreatDoorEpe
import Derived.Test.YtdcknpkednpckaaGreatDoorShv
import Derived.Shelf.Abstract
import Derived.WalkKit
import Derived.Lib.Walk
import Derived.Laws.RangeString
import Derived.Laws.RangeAny
import Derived.Deep.LoopGhost
import Derived.Lib.RuneBytes
import Derived.Scope
import Derived.Test.YtdcknpkednpckaaGreatDoorProg
set_option linter.all false
namespace Go.Proofs.YtdcknpkednpckaaGreatDoor
open Go.RowKit Go.Shelf Go.Q
set_option maxRecDepth 100000
set_option maxHeartbeats 4000000
abbrev sg : ByteArray := ⟨#[45, 95, 46, 123, 125, 47]⟩
theorem lower54 (c q : Int) (w : World) (h0 : 0 ≤ c) (h1 : c ≤ 2147483647) (hq : q = if 65 ≤ c ∧ c ≤ 90 then c + 32 else c) : Calls Tryz.prog 59 #[.int .i32 c] w fun e w' => e = .returned (.int .i32 q) ∧ w' = w := by
  by_cases a : 65 ≤ c
  · by_cases b : c ≤ 90
    · rw [if_pos ⟨a, b⟩] at hq
      subst hq
      have w1 : Value.int .i32 (IntKind.i32.wrap (c + 97)) = Value.int .i32 (c + 97) := by
        rw [show IntKind.i32.wrap (c + 97) = c + 97 by simp only [IntKind.wrap, IntKind.signed, IntKind.bits]; simp; omega]
      have w2 : Value.int .i32 (IntKind.i32.wrap (c + 97 - 65)) = Value.int .i32 (c + 32) := by
        rw [show IntKind.i32.wrap (c + 97 - 65) = c + 32 by simp only [IntKind.wrap, IntKind.signed, IntKind.bits]; simp; omega]
      clear h0 h1
      go_enter Tryz.func59, Tryz.ntmps59
      go_wp2
      go_ret
      exact ⟨rfl, rfl⟩
    · rw [if_neg (fun h => b h.2)] at hq
      subst hq
      have b2 : 90 < q := by omega
      go_enter Tryz.func59, Tryz.ntmps59
      go_wp2
      go_ret
      exact ⟨rfl, rfl⟩
  · rw [if_neg (fun h => a h.1)] at hq
    subst hq
    have a2 : q < 65 := by omega
    go_enter Tryz.func59, Tryz.ntmps59
    go_wp2
    go_ret
    exact ⟨rfl, rfl⟩
theorem sg_lt (i : Nat) (h : i < sg.size) : (sg[i]'h).toNat < 128 := by
  have key : ∀ k, (h : k < sg.size) → (sg[k]'h).toNat < 128 := by decide
  exact key i h
theorem idxRune_err (w : World) : Calls Tryz.prog 80 #[.string sg, .int .i32 65533] w fun e w' => e = .returned (.int .i64 (-1)) ∧ Below w.heap.size w w' := by
  go_enter Tryz.func80, Tryz.ntmps80
  go_wp2
  go_loopg [] 6 (fun g wx => ∃ i : Nat, i + g = 6 ∧ wx = w.iter sg i)
  case atStart => exact ⟨0, by omega, rfl⟩
  case round =>
    obtain ⟨i, hig, rfl⟩ := hrel
    cases gk with
    | zero =>
      obtain rfl : i = 6 := by omega
      have hnx := fun ty => run_next_end (P := Tryz.prog) w sg 6 ty (by decide)
      go_wp2
      go_ret
      exact ⟨rfl, (Below.refl _ w).alloc (Nat.le_refl _) _⟩
    | succ g =>
      have hi : i < sg.size := by show i < 6; omega
      have ha := sg_lt i hi
      have hnx := fun ty => run_next_ascii (P := Tryz.prog) w sg i ty hi ha
      have hne : ¬ (((sg[i]'hi).toNat : Int) = 65533) := by omega
      go_wp2
      go_roundg g
      case measure => omega
      case rel => exact ⟨i + 1, by omega, rfl⟩
theorem enc_shape (r : Int) (h : 128 ≤ r) (hv : Utf8.valid r = true) : ∃ rs : ByteArray, Utf8.encode r = rs ∧ ∃ b0 b1 b2 b3 : UInt8, 128 ≤ b3.toNat ∧ (rs = ⟨#[b0, b3]⟩ ∨ rs = ⟨#[b0, b1, b3]⟩ ∨ rs = ⟨#[b0, b1, b2, b3]⟩) := by
  refine ⟨_, rfl, ?_⟩
  unfold Utf8.encode
  rw [if_pos hv]
  simp only
  generalize hc : r.toNat = c
  have hc1 : 128 ≤ c := by omega
  have hb : ∀ k : Nat, 128 ≤ (UInt8.ofNat (0x80 + k % 64)).toNat := fun k => by
    simp only [UInt8.toNat_ofNat']
    omega
  rw [if_neg (by omega)]
  by_cases h1 : c < 0x800
  · rw [if_pos h1]
    exact ⟨_, 0, 0, _, hb c, .inl rfl⟩
  rw [if_neg h1]
  by_cases h2 : c < 0x10000
  · rw [if_pos h2]
    exact ⟨_, _, 0, _, hb c, .inr (.inl rfl)⟩
  rw [if_neg h2]
  exact ⟨_, _, _, _, hb c, .inr (.inr rfl)⟩
theorem idxHigh (b : UInt8) (h : 128 ≤ b.toNat) : ∀ l : List UInt8, (∀ x ∈ l, x.toNat < 128) → Lib.indexByte l b = -1
  | [], _ => rfl
  | x :: l, hl => by
    have ih := idxHigh b h l fun y hy => hl y (List.mem_cons_of_mem _ hy)
    have hx := hl x (List.mem_cons_self ..)
    have e : (x == b) = false := by
      apply beq_false_of_ne
      intro e
      subst e
      omega
    simp only [Lib.indexByte, e, ih]
    rfl
theorem idxByteHigh (s : ByteArray) (b : UInt8) (w : World) (hb : 128 ≤ b.toNat) (hs : ∀ x ∈ s.data.toList, x.toNat < 128) : Calls Tryz.prog 74 #[.string s, .int .u8 (b.toNat : Int)] w fun e w' => e = .returned (.int .i64 (-1)) ∧ w' = w := by
  refine (Tryz.strings_IndexByte s (b.toNat : Int) w).mono fun e w' ⟨he, hw⟩ => ⟨?_, hw⟩
  rw [he, idxHigh _ (by simpa using hb) _ hs]
theorem idxRune_val (r : Int) (h : 128 ≤ r) (h2 : r ≤ 2147483647) (hne : ¬ r = 65533) (hvr : Lib.validRune r = true) (w : World) : Calls Tryz.prog 80 #[.string sg, .int .i32 r] w fun e w' => e = .returned (.int .i64 (-1)) ∧ Below w.heap.size w w' := by
  have hv : Utf8.valid r = true := by
    simp only [Lib.validRune, decide_eq_true_eq] at hvr
    simp only [Utf8.valid, Bool.or_eq_true, Bool.and_eq_true, decide_eq_true_eq]
    omega
  obtain ⟨rs, hrs, b0, b1, b2, b3, hb, hsh⟩ := enc_shape r h hv
  have e120 : ∀ args w, (callFunc 97 args).run Tryz.prog w = .ok (.enter 97 args) w := enters_of Tryz.func97 (by kernel_rfl) rfl
  have e112 : ∀ args w, (callFunc 74 args).run Tryz.prog w = .ok (.enter 74 args) w := enters_of Tryz.func74 (by kernel_rfl) rfl
  have h3 : ¬ r < 128 := by omega
  have h4 : 0 ≤ r := by omega
  go_enter Tryz.func80, Tryz.ntmps80
  go_wp2_with (first | (go_at_fn 97; refine (Tryz.utf8_ValidRune _ _).mono ?_; rintro e w' ⟨rfl, rfl⟩))
  rcases hsh with rfl | rfl | rfl
  · refine wp_scope_straight ?_
    go_wp2
    go_loopg [9] 0 (fun g vi wx => vi = .int .i64 1 ∧ wx = w')
    case atStart => exact ⟨rfl, rfl⟩
    case round =>
      obtain ⟨rfl, rfl⟩ := hrel
      go_wp2
      refine wp_scope_straight ?_
      have hn : (((sg[1]'(by decide)).toNat : Int) != (((⟨#[b0, b3]⟩ : ByteArray)[1]'(Nat.lt_succ_self 1)).toNat : Int)) = true := by
        show ((95 : Int) != (b3.toNat : Int)) = true
        simp; omega
      go_wp2
      go_region
      go_wp2
      go_region_with (refine (idxByteHigh _ _ _ hb (by decide)).mono ?_; rintro e w' ⟨rfl, rfl⟩)
      go_wp2
      all_goals
        simp only [Exit.noGoto, Exit.inBlock, Exit.then]
        go_ret
        exact ⟨rfl, ⟨rfl, rfl, rfl, Nat.le_refl _, fun _ _ => rfl⟩⟩
  · refine wp_scope_straight ?_
    go_wp2
    go_loopg [9] 0 (fun g vi wx => vi = .int .i64 2 ∧ wx = w')
    case atStart => exact ⟨rfl, rfl⟩
    case round =>
      obtain ⟨rfl, rfl⟩ := hrel
      go_wp2
      refine wp_scope_straight ?_
      have hn : (((sg[2]'(by decide)).toNat : Int) != (((⟨#[b0, b1, b3]⟩ : ByteArray)[2]'(Nat.lt_succ_self 2)).toNat : Int)) = true := by
        show ((46 : Int) != (b3.toNat : Int)) = true
        simp; omega
      go_wp2
      go_region
      go_wp2
      go_region_with (refine (idxByteHigh _ _ _ hb (by decide)).mono ?_; rintro e w' ⟨rfl, rfl⟩)
      go_wp2
      all_goals
        simp only [Exit.noGoto, Exit.inBlock, Exit.then]
        go_ret
        exact ⟨rfl, ⟨rfl, rfl, rfl, Nat.le_refl _, fun _ _ => rfl⟩⟩
  · refine wp_scope_straight ?_
    go_wp2
    go_loopg [9] 0 (fun g vi wx => vi = .int .i64 3 ∧ wx = w')
    case atStart => exact ⟨rfl, rfl⟩
    case round =>
      obtain ⟨rfl, rfl⟩ := hrel
      go_wp2
      refine wp_scope_straight ?_
      have hn : (((sg[3]'(by decide)).toNat : Int) != (((⟨#[b0, b1, b2, b3]⟩ : ByteArray)[3]'(Nat.lt_succ_self 3)).toNat : Int)) = true := by
        show ((123 : Int) != (b3.toNat : Int)) = true
        simp; omega
      go_wp2
      go_region
      go_wp2
      go_region_with (refine (idxByteHigh _ _ _ hb (by decide)).mono ?_; rintro e w' ⟨rfl, rfl⟩)
      go_wp2
      all_goals
        simp only [Exit.noGoto, Exit.inBlock, Exit.then]
        go_ret
        exact ⟨rfl, ⟨rfl, rfl, rfl, Nat.le_refl _, fun _ _ => rfl⟩⟩
theorem idxRune_bad (r : Int) (h : 128 ≤ r) (h2 : r ≤ 2147483647) (hne : ¬ r = 65533) (hvr : Lib.validRune r = false) (w : World) : Calls Tryz.prog 80 #[.string sg, .int .i32 r] w fun e w' => e = .returned (.int .i64 (-1)) ∧ Below w.heap.size w w' := by
  have e120 : ∀ args w, (callFunc 97 args).run Tryz.prog w = .ok (.enter 97 args) w := enters_of Tryz.func97 (by kernel_rfl) rfl
  have h3 : ¬ r < 128 := by omega
  have h4 : 0 ≤ r := by omega
  go_enter Tryz.func80, Tryz.ntmps80
  go_wp2_with (first | (go_at_fn 97; refine (Tryz.utf8_ValidRune _ _).mono ?_; rintro e w' ⟨rfl, rfl⟩))
  go_ret
  exact ⟨rfl, Below.refl _ _⟩
theorem idxRune_high (r : Int) (h : 128 ≤ r) (h2 : r ≤ 2147483647) (w : World) : Calls Tryz.prog 80 #[.string sg, .int .i32 r] w fun e w' => e = .returned (.int .i64 (-1)) ∧ Below w.heap.size w w' := by
  by_cases h0 : r = 65533
  · subst h0; exact idxRune_err w
  · cases hv : Lib.validRune r with
    | true => exact idxRune_val r h h2 h0 hv w
    | false => exact idxRune_bad r h h2 h0 hv w
theorem contains_high (r : Int) (h : 128 ≤ r) (h2 : r ≤ 2147483647) (w : World) : Calls Tryz.prog 60 #[.string sg, .int .i32 r] w fun e w' => e = .returned (.bool false) ∧ Below w.heap.size w w' := by
  have e87 : ∀ args w, (callFunc 80 args).run Tryz.prog w = .ok (.enter 80 args) w := enters_of Tryz.func80 (by kernel_rfl) rfl
  go_enter Tryz.func60, Tryz.ntmps60
  go_wp2_with (go_at_fn 80; refine (idxRune_high _ h h2 _).mono ?_; rintro e w' ⟨rfl, hw⟩)
  go_ret
  exact ⟨rfl, hw⟩
theorem contains_low (r : Int) (b : Bool) (h : 0 ≤ r) (h2 : r < 128) (hb : b = decide (r = 45 ∨ r = 95 ∨ r = 46 ∨ r = 123 ∨ r = 125 ∨ r = 47)) (w : World) : Calls Tryz.prog 60 #[.string sg, .int .i32 r] w fun e w' => e = .returned (.bool b) ∧ w' = w := by
  refine (Tryz.strings_ContainsRune_ascii sg r w h h2).mono fun e w' ⟨he, hw⟩ => ⟨?_, hw⟩
  rw [he, hb]
  have key : ∀ n : Nat, n < 128 → decide (0 ≤ Lib.indexByte sg.data.toList n.toUInt8) = decide ((n : Int) = 45 ∨ (n : Int) = 95 ∨ (n : Int) = 46 ∨ (n : Int) = 123 ∨ (n : Int) = 125 ∨ (n : Int) = 47) := by decide +kernel
  have := key r.toNat (by omega)
  rw [Int.toNat_of_nonneg h] at this
  rw [this]
theorem tokFirst (s : List UInt8) : (s.all tokB = true ∧ ∀ i (h : i < s.length), tokB s[i] = true) ∨ (s.all tokB = false ∧ ∃ j, ∃ h : j < s.length, tokB s[j] = false ∧ ∀ i (h : i < s.length), i < j → tokB s[i] = true) := by
  induction s with
  | nil => exact .inl ⟨rfl, fun i h => by simp at h⟩
  | cons a s ih =>
    cases ha : tokB a with
    | false => exact .inr ⟨by simp [ha], 0, by simp, by simpa using ha, fun i h hi => by omega⟩
    | true =>
      rcases ih with ⟨h1, h2⟩ | ⟨h1, j, hj, h2, h3⟩
      · refine .inl ⟨by simp [ha, h1], fun i h => ?_⟩
        cases i with
        | zero => simpa using ha
        | succ i => exact h2 i (by simpa using h)
      · refine .inr ⟨by simp [h1], j + 1, by simpa using hj, by simpa using h2, fun i h hi => ?_⟩
        cases i with
        | zero => simpa using ha
        | succ i => exact h3 i (by simpa using h) (by omega)
theorem asideT {p : Prop} (h : p) : Aside p := h
def lowZ (c : Int) : Int := if 65 ≤ c ∧ c ≤ 90 then c + 32 else c
theorem tok_lt {b : UInt8} (h : tokB b = true) : b.toNat < 128 := by
  have key : ∀ n : Nat, n < 256 → tokB (UInt8.ofNat n) = true → n < 128 := by decide +kernel
  exact key b.toNat b.toNat_lt (by simpa using h)
theorem tok_low {b : UInt8} (h : tokB b = true) : (97 ≤ lowZ b.toNat ∧ lowZ b.toNat ≤ 122) ∨ (lowZ b.toNat < 97 ∧ 48 ≤ lowZ b.toNat ∧ lowZ b.toNat ≤ 57) ∨ (lowZ b.toNat = 45 ∨ lowZ b.toNat = 95 ∨ lowZ b.toNat = 46 ∨ lowZ b.toNat = 123 ∨ lowZ b.toNat = 125 ∨ lowZ b.toNat = 47) := by
  have key : ∀ n : Nat, n < 256 → tokB (UInt8.ofNat n) = true → (97 ≤ lowZ n ∧ lowZ n ≤ 122) ∨ (lowZ n < 97 ∧ 48 ≤ lowZ n ∧ lowZ n ≤ 57) ∨ (lowZ n = 45 ∨ lowZ n = 95 ∨ lowZ n = 46 ∨ lowZ n = 123 ∨ lowZ n = 125 ∨ lowZ n = 47) := by decide +kernel
  exact key b.toNat b.toNat_lt (by simpa using h)
theorem tok_bad {b : UInt8} (h : tokB b = false) (h2 : b.toNat < 128) : 0 ≤ lowZ b.toNat ∧ lowZ b.toNat < 128 ∧ (lowZ b.toNat < 48 ∨ (57 < lowZ b.toNat ∧ lowZ b.toNat < 97) ∨ 122 < lowZ b.toNat) ∧ decide (lowZ b.toNat = 45 ∨ lowZ b.toNat = 95 ∨ lowZ b.toNat = 46 ∨ lowZ b.toNat = 123 ∨ lowZ b.toNat = 125 ∨ lowZ b.toNat = 47) = false := by
  have key : ∀ n : Nat, n < 128 → tokB (UInt8.ofNat n) = false → 0 ≤ lowZ n ∧ lowZ n < 128 ∧ (lowZ n < 48 ∨ (57 < lowZ n ∧ lowZ n < 97) ∨ 122 < lowZ n) ∧ decide (lowZ n = 45 ∨ lowZ n = 95 ∨ lowZ n = 46 ∨ lowZ n = 123 ∨ lowZ n = 125 ∨ lowZ n = 47) = false := by decide +kernel
  exact key b.toNat h2 (by simpa using h)
theorem token26 (s : ByteArray) (w : World) : Calls Tryz.prog 36 #[.string s] w fun e w' => e = .returned (.bool (decide (1 ≤ s.data.toList.length ∧ s.data.toList.length ≤ 64) && s.data.toList.all tokB)) ∧ Below w.heap.size w w' := by
  have e54 : ∀ args w, (callFunc 59 args).run Tryz.prog w = .ok (.enter 59 args) w := enters_of Tryz.func59 (by kernel_rfl) rfl
  have e56 : ∀ args w, (callFunc 60 args).run Tryz.prog w = .ok (.enter 60 args) w := enters_of Tryz.func60 (by kernel_rfl) rfl
  have hsz : s.data.toList.length = s.size := (Lib.size_eq s).symm
  by_cases h0 : s.size = 0
  · have hs : s = ⟨#[]⟩ := by
      cases s with | mk d => 
      have : d.size = 0 := h0
      rw [Array.eq_empty_of_size_eq_zero this]
    subst hs
    go_enter Tryz.func36, Tryz.ntmps36
    go_wp2
    go_ret
    exact ⟨rfl, Below.refl _ _⟩
  have hne : s.toList.isEmpty = false := by
    rw [Lib.toList_data, List.isEmpty_eq_false_iff]
    intro e
    rw [e] at hsz
    exact h0 hsz.symm
  by_cases h1 : 64 < s.size
  · have h2 : ((64 : Int) < (s.size : Int)) := by omega
    have hr : (decide (1 ≤ s.data.toList.length ∧ s.data.toList.length ≤ 64) && s.data.toList.all tokB) = false := by
      rw [decide_eq_false (by rw [hsz]; omega)]; rfl
    rw [hr]
    clear hsz
    go_enter Tryz.func36, Tryz.ntmps36
    go_wp2
    go_ret
    exact ⟨rfl, Below.refl _ _⟩
  have h2 : ¬ ((64 : Int) < (s.size : Int)) := by omega
  have hr : decide (1 ≤ s.data.toList.length ∧ s.data.toList.length ≤ 64) = true := decide_eq_true (by rw [hsz]; omega)
  rw [hr, Bool.true_and]
  have key : ∀ i (h : i < s.size) (h' : i < s.data.toList.length), s.data.toList[i] = s[i] := fun i h h' => by
    rw [Array.getElem_toList]; rfl
  have fact : (s.data.toList.all tokB = true ∧ ∀ i (h : i < s.size), tokB s[i] = true) ∨ (s.data.toList.all tokB = false ∧ ∃ j, ∃ h : j < s.size, tokB s[j] = false ∧ ∀ i (h : i < s.size), i < j → tokB s[i] = true) := by
    rcases tokFirst s.data.toList with ⟨a, b⟩ | ⟨a, j, hj, b, c⟩
    · exact .inl ⟨a, fun i h => by rw [← key i h (by omega)]; exact b i _⟩
    · exact .inr ⟨a, j, by omega, by rw [← key j (by omega) hj]; exact b, fun i h hi => by rw [← key i h (by omega)]; exact c i _ hi⟩
  clear hr key h1 h0
  rcases fact with ⟨e, hall⟩ | ⟨e, j, hj, hf, hall⟩
  · rw [e]
    have B := asideT (And.intro hall hsz)
    clear e hall hsz
    go_enter Tryz.func36, Tryz.ntmps36
    go_wp2
    go_loopg [4] s.size (fun g v4 wx => ∃ i : Nat, i + g = s.size ∧ wx = w.iter s i)
    case atStart => exact ⟨0, by omega, rfl⟩
    case round =>
      obtain ⟨i, hig, rfl⟩ := hrel
      cases gk with
      | zero =>
        obtain rfl : i = s.size := by omega
        have hnx := fun ty => run_next_end (P := Tryz.prog) w s s.size ty (by omega)
        go_wp2
        go_ret
        exact ⟨rfl, (Below.refl _ w).alloc (Nat.le_refl _) _⟩
      | succ g =>
        have hi : i < s.size := by omega
        have ht := B.out.1 i hi
        have ha : (s[i]'hi).toNat < 128 := tok_lt ht
        have hnx := fun ty => run_next_ascii (P := Tryz.prog) w s i ty hi ha
        have hL := lower54 ((s[i]'hi).toNat : Int) (lowZ ((s[i]'hi).toNat : Int)) (w.iter s (i + 1)) (by omega) (by omega) rfl
        have hq := tok_low ht
        generalize lowZ ((s[i]'hi).toNat : Int) = q at hL hq
        have hL := asideT hL
        have ht := asideT ht
        rcases hq with ⟨q1, q2⟩ | ⟨q1, q2, q3⟩ | hq
        · go_wp2_with (go_at_fn 59; refine hL.out.mono ?_; rintro e w' ⟨rfl, rfl⟩)
          go_roundg g
          case measure => omega
          case rel => exact ⟨i + 1, by omega, rfl⟩
        · have q4 : ¬ 97 ≤ q := by omega
          go_wp2_with (go_at_fn 59; refine hL.out.mono ?_; rintro e w' ⟨rfl, rfl⟩)
          go_roundg g
          case measure => omega
          case rel => exact ⟨i + 1, by omega, rfl⟩
        · have hC := asideT (contains_low q true (by omega) (by omega) (decide_eq_true hq).symm (w.iter s (i + 1)))
          have q4 : 97 ≤ q ∧ ¬ q ≤ 122 ∧ 48 ≤ q ∧ ¬ q ≤ 57 ∨ ¬ 97 ≤ q ∧ 48 ≤ q ∧ ¬ q ≤ 57 ∨ ¬ 97 ≤ q ∧ ¬ 48 ≤ q := by omega
          clear hq
          rcases q4 with ⟨q1, q2, q3, q4⟩ | ⟨q1, q2, q3⟩ | ⟨q1, q2⟩
          all_goals
            go_wp2_with (first | (go_at_fn 59; refine hL.out.mono ?_; rintro e w' ⟨rfl, rfl⟩) | (go_at_fn 60; refine hC.out.mono ?_; rintro e w' ⟨rfl, rfl⟩))
            go_roundg g
            case measure => omega
            case rel => exact ⟨i + 1, by omega, rfl⟩
  · rw [e]
    have B := asideT (And.intro hall hsz)
    clear e hall hsz
    go_enter Tryz.func36, Tryz.ntmps36
    go_wp2
    go_loopg [4] s.size (fun g v4 wx => ∃ i : Nat, i + g = s.size ∧ i ≤ j ∧ wx = w.iter s i)
    case atStart => exact ⟨0, by omega, Nat.zero_le _, rfl⟩
    case round =>
      obtain ⟨i, hig, hij, rfl⟩ := hrel
      have hi : i < s.size := by omega
      rcases Nat.lt_or_eq_of_le hij with hlt | heq
      · cases gk with
        | zero => omega
        | succ g =>
        have ht := B.out.1 i hi hlt
        have ha : (s[i]'hi).toNat < 128 := tok_lt ht
        have hnx := fun ty => run_next_ascii (P := Tryz.prog) w s i ty hi ha
        have hL := lower54 ((s[i]'hi).toNat : Int) (lowZ ((s[i]'hi).toNat : Int)) (w.iter s (i + 1)) (by omega) (by omega) rfl
        have hq := tok_low ht
        generalize lowZ ((s[i]'hi).toNat : Int) = q at hL hq
        have hL := asideT hL
        have ht := asideT ht
        have hf := asideT hf
        rcases hq with ⟨q1, q2⟩ | ⟨q1, q2, q3⟩ | hq
        · go_wp2_with (go_at_fn 59; refine hL.out.mono ?_; rintro e w' ⟨rfl, rfl⟩)
          go_roundg g
          case measure => omega
          case rel => exact ⟨i + 1, by omega, by omega, rfl⟩
        · have q4 : ¬ 97 ≤ q := by omega
          go_wp2_with (go_at_fn 59; refine hL.out.mono ?_; rintro e w' ⟨rfl, rfl⟩)
          go_roundg g
          case measure => omega
          case rel => exact ⟨i + 1, by omega, by omega, rfl⟩
        · have hC := asideT (contains_low q true (by omega) (by omega) (decide_eq_true hq).symm (w.iter s (i + 1)))
          have q4 : 97 ≤ q ∧ ¬ q ≤ 122 ∧ 48 ≤ q ∧ ¬ q ≤ 57 ∨ ¬ 97 ≤ q ∧ 48 ≤ q ∧ ¬ q ≤ 57 ∨ ¬ 97 ≤ q ∧ ¬ 48 ≤ q := by omega
          clear hq
          rcases q4 with ⟨q1, q2, q3, q4⟩ | ⟨q1, q2, q3⟩ | ⟨q1, q2⟩
          all_goals
            go_wp2_with (first | (go_at_fn 59; refine hL.out.mono ?_; rintro e w' ⟨rfl, rfl⟩) | (go_at_fn 60; refine hC.out.mono ?_; rintro e w' ⟨rfl, rfl⟩))
            go_roundg g
            case measure => omega
            case rel => exact ⟨i + 1, by omega, by omega, rfl⟩
      · subst heq
        by_cases ha : (s[i]'hi).toNat < 128
        · obtain ⟨b1, b2, b3, b4⟩ := tok_bad hf ha
          have hnx := fun ty => run_next_ascii (P := Tryz.prog) w s i ty hi ha
          have hL := lower54 ((s[i]'hi).toNat : Int) (lowZ ((s[i]'hi).toNat : Int)) (w.iter s (i + 1)) (by omega) (by omega) rfl
          generalize lowZ ((s[i]'hi).toNat : Int) = q at hL b1 b2 b3 b4
          have hC := asideT (contains_low q false b1 b2 b4.symm (w.iter s (i + 1)))
          have hL := asideT hL
          have hf := asideT hf
          have q4 : 97 ≤ q ∧ ¬ q ≤ 122 ∧ 48 ≤ q ∧ ¬ q ≤ 57 ∨ ¬ 97 ≤ q ∧ 48 ≤ q ∧ ¬ q ≤ 57 ∨ ¬ 97 ≤ q ∧ ¬ 48 ≤ q := by omega
          clear b1 b2 b3 b4
          rcases q4 with ⟨q1, q2, q3, q4⟩ | ⟨q1, q2, q3⟩ | ⟨q1, q2⟩
          all_goals
            go_wp2_with (first | (go_at_fn 59; refine hL.out.mono ?_; rintro e w' ⟨rfl, rfl⟩) | (go_at_fn 60; refine hC.out.mono ?_; rintro e w' ⟨rfl, rfl⟩))
            all_goals first
              | (exfalso; simp only [Bool.not_eq_false', decide_eq_true_eq] at *; omega)
              | (go_ret; exact ⟨rfl, (Below.refl _ w).alloc (Nat.le_refl _) _⟩)
        · have hnx := fun ty => run_next_any (P := Tryz.prog) w s i ty hi
          obtain ⟨d1, d2⟩ := decode_high s i hi (by omega)
          have d3 := decode_le s i
          generalize Utf8.decode s i = dc at *
          have hL := asideT (lower54 (dc.1 : Int) (dc.1 : Int) (w.iter s (i + dc.2)) (by omega) (by omega) (by rw [if_neg (by omega)]))
          have hC := asideT (contains_high (dc.1 : Int) (by omega) (by omega) (w.iter s (i + dc.2)))
          have hf := asideT hf
          have q1 : (97 : Int) ≤ (dc.1 : Int) := by omega
          have q2 : ¬ (dc.1 : Int) ≤ 122 := by omega
          have q3 : (48 : Int) ≤ (dc.1 : Int) := by omega
          have q4 : ¬ (dc.1 : Int) ≤ 57 := by omega
          go_wp2_with (first | (go_at_fn 59; refine hL.out.mono ?_; rintro e w' ⟨rfl, rfl⟩) | (go_at_fn 60; refine hC.out.mono ?_; rintro e w' ⟨rfl, hw⟩))
          all_goals first
            | (exfalso; simp only [Bool.not_eq_false', decide_eq_true_eq] at *; omega)
            | skip
          go_ret
          exact ⟨rfl, ((Below.refl _ w).alloc (Nat.le_refl _) _).trans (hw.mono (by simp [World.iter]))⟩
end Go.Proofs.YtdcknpkednpckaaGreatDoor
