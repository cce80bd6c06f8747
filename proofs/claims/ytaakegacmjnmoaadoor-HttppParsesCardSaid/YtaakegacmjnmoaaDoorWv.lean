/- The seat of the texts of lines: strconv.FormatUint at base 10: its contract. No condition. -/
import Derived.Test.YtaakegacmjnmoaaDoorEpe
import Derived.Test.YtaakegacmjnmoaaDoorShq
import Derived.Lib.AppendIntMem
import Derived.Shelf.Strconv.Itoa3
import Derived.WalkKit
import Derived.BigCall
import Derived.BigGuard
import Derived.Test.YtaakegacmjnmoaaDoorProg
set_option linter.all false
namespace Go.Proofs.YtaakegacmjnmoaaDoor
open Go.Shelf Go.RowKit Go.Sort Go.Lib
set_option maxHeartbeats 6400000
set_option maxRecDepth 100000
theorem fmtUint101 (u : Nat) (hu64 : u < 18446744073709551616) (w : World) (htab : Lib.TabIs Tryd.prog w "internal/strconv.uint64pow10" .u64 Lib.pow10Tab) :
    Calls Tryd.prog 101 #[.int .u64 u, .int .i64 10] w fun e w' => e = .returned (.string ⟨(Lib.decDigits u).toArray⟩) ∧ ∃ k os, w' = grow (w.drewN k) os := by
  have e128 : ∀ args w, (callFunc 128 args).run Tryd.prog w = .ok (.enter 128 args) w := enters_of Tryd.func128 (by kernel_rfl) rfl
  have e129 : ∀ args w, (callFunc 129 args).run Tryd.prog w = .ok (.enter 129 args) w := enters_of Tryd.func129 (by kernel_rfl) rfl
  have e130 : ∀ args w, (callFunc 130 args).run Tryd.prog w = .ok (.enter 130 args) w := enters_of Tryd.func130 (by kernel_rfl) rfl
  by_cases hi : u < 100
  · have hc : (u : Int) < 100 := by omega
    have hw : Value.int .i64 (wrap64 (u : Int)) = Value.int .i64 (u : Int) := by rw [Go.IntWalk.wrap64_in _ (by omega)]
    go_enter Tryd.func101, Tryd.ntmps101
    go_wp2_with (go_at_fn 128; refine (Tryd.internal_strconv_small u hi _).mono ?_; rintro e w' ⟨rfl, rfl⟩)
    go_ret
    exact ⟨rfl, 0, #[], by simp [World.drewN_zero]⟩
  · have hc : ¬ (u : Int) < 100 := by omega
    have hu1 : 1 ≤ u := by omega
    have hnd20 : Lib.nDigits u ≤ 20 := by have := Lib.numDigits_eq u hu1 hu64; split at this <;> omega
    have hal : Tryd.prog.arrayLen 149 = 24 := by kernel_rfl
    have hsl1 : ∀ W, (Instr.sliceAt 149 (.pointer (some ⟨w.heap.size, 0, none⟩)) none (some (.int .i64 (Lib.nDigits u : Int))) none).run Tryd.prog W = .ok (.slice (some ⟨w.heap.size, 0, none⟩) (Lib.nDigits u) 24) W := fun W => by
      rw [run_sliceAt_array_h W 149 ⟨w.heap.size, 0, none⟩ (by kernel_rfl) .i64 (Lib.nDigits u : Int) (by omega) (by rw [hal]; omega)]
      have he : Tryd.prog.elem 149 = 5 := by kernel_rfl
      rw [he, Tryd.sizeOf5, hal]
      simp [slicedAt, Result.andThen, Addr.add]
    have hH0 := Lib.holds_zero0 w 149 (Lib.nDigits u) (by omega)
    have hfmt := Tryd.internal_strconv_formatBase10 w.heap.size 0 24 u (Array.replicate (Lib.nDigits u) 0) (w.alloc (.cells Lib.zeros24 149)) hH0 (by rw [Array.size_replicate]; exact Lib.lt_pow_nDigits u) hu64 (by rw [Array.size_replicate]; omega)
    rw [Array.size_replicate] at hfmt
    have HH0 := Lib.hid hH0
    clear hH0 hal
    go_enter Tryd.func101, Tryd.ntmps101
    go_wp2_with (first
      | (go_at_fn 129; refine (Tryd.internal_strconv_numDigits u hu1 hu64 _ (Lib.tabIs_alloc htab _)).mono ?_; rintro e w' ⟨rfl, rfl⟩))
    go_at_fn 130
    refine hfmt.mono ?_
    rintro e w' ⟨rfl, k, v', dk, rfl, hF⟩
    have hcv : (convert 26 9 (.slice (some ⟨w.heap.size, 0, none⟩) (Lib.nDigits u) 24)).run Tryd.prog ((putRow (fun (b : UInt8) => Value.int .u8 (b.toNat : Int)) (w.alloc (.cells Lib.zeros24 149)) w.heap.size 0 dk).drewN k) = .ok (.string ⟨(Lib.decDigits u).toArray⟩) ((putRow (fun (b : UInt8) => Value.int .u8 (b.toNat : Int)) (w.alloc (.cells Lib.zeros24 149)) w.heap.size 0 dk).drewN k) := by
      have h := run_convert_bytes_back (P := Tryd.prog) ((putRow (fun (b : UInt8) => Value.int .u8 (b.toNat : Int)) (w.alloc (.cells Lib.zeros24 149)) w.heap.size 0 dk).drewN k) 26 9 5 ⟨w.heap.size, 0, none⟩ 24 (Lib.decDigits u) Tryd.underlying26 Tryd.underlying5 Tryd.underlying9 (fun j hj => by
        rw [Lib.row_is_numeral hF j hj, Lib.add_plain, World.cell?_drewN]
        exact cell?_putRow (fun (b : UInt8) => Value.int .u8 (b.toNat : Int)) _ w.heap.size 0 _ dk HH0.out (by rw [hF.size, Array.size_replicate]) j (by rw [hF.size]; rw [Lib.decDigits_length] at hj; exact hj))
      rw [Lib.decDigits_length] at h
      exact h
    go_wp2
    go_ret
    obtain ⟨os, eo⟩ := Lib.fin_at w (.cells Lib.zeros24 149) dk k 0
    exact ⟨rfl, k, os, eo⟩
theorem fmtUint63 (u : Nat) (hu64 : u < 18446744073709551616) (w : World) (htab : Lib.TabIs Tryd.prog w "internal/strconv.uint64pow10" .u64 Lib.pow10Tab) :
    Calls Tryd.prog 63 #[.int .u64 u, .int .i64 10] w fun e w' => e = .returned (.string ⟨(Lib.decDigits u).toArray⟩) ∧ ∃ k os, w' = grow (w.drewN k) os := by
  have e101 : ∀ args w, (callFunc 101 args).run Tryd.prog w = .ok (.enter 101 args) w := enters_of Tryd.func101 (by kernel_rfl) rfl
  go_enter Tryd.func63, Tryd.ntmps63
  go_wp2_with (go_at_fn 101; refine (fmtUint101 u hu64 _ htab).mono ?_; rintro e w' ⟨rfl, k, os, hw⟩)
  go_ret
  exact ⟨rfl, k, os, rfl⟩
end Go.Proofs.YtaakegacmjnmoaaDoor
