/- The seat of the texts of lines: strings.SplitSeq and its iterator: their contracts. No condition. -/
import Derived.Test.YtdcknpkednpckaaGreatDoorEpe
import Derived.Test.YtdcknpkednpckaaGreatDoorEvO
import Derived.Test.YtdcknpkednpckaaGreatDoorEq
import Derived.Test.YtdcknpkednpckaaGreatDoorShv
import Derived.RangeFuncBox
import Derived.RangeFuncLeaves
import Derived.Shelf.Abstract
import Derived.WalkKit
import Derived.OwnWalkIn
import Derived.TacticsInMore
import Derived.LoopNIn
import Derived.LoopIn
import Derived.BigRegionIn
import Derived.Test.YtdcknpkednpckaaGreatDoorProg
set_option linter.all false
namespace Go.Proofs.YtdcknpkednpckaaGreatDoor
open Go.RowKit Go.Shelf Go.Q
attribute [local go_sem] Oper.semAt_some
set_option maxRecDepth 100000
set_option maxHeartbeats 4000000
theorem store1 {P : Program} {w : World} {a : Addr} {v : Value} {m : Mode} (hv : v.oneCell' = true) (hc : (w.cell? a).isSome = true) (hf : w.frozen? a = false) : (store a v m).run P w = .ok () (w.setCell a v) := by
  obtain ⟨u, hu⟩ := Option.isSome_iff_exists.1 hc
  rw [run_store P w a v m hv, hu]
  simp [hf]
theorem splitSeq0 (s t : ByteArray) (w : World) : Calls Tryz.prog 57 #[.string s, .string t, .int .i64 0] w fun e w' =>
    e = .returned (.func (.func 77) #[] #[.pointer (some ⟨w.heap.size + 1, 0, none⟩), .pointer (some ⟨w.heap.size, 0, none⟩), .pointer (some ⟨w.heap.size + 2, 0, none⟩)]) ∧
    w' = ((w.alloc (.cells #[.string s] 9)).alloc (.cells #[.string t] 9)).alloc (.cells #[.int .i64 0] 3) := by
  go_enter Tryz.func57, Tryz.ntmps57
  go_wp2
  go_ret
  exact ⟨rfl, rfl⟩
theorem splitSeq1 (s t : ByteArray) (w : World) : Calls Tryz.prog 34 #[.string s, .string t] w fun e w' =>
    e = .returned (.func (.func 77) #[] #[.pointer (some ⟨w.heap.size + 1, 0, none⟩), .pointer (some ⟨w.heap.size, 0, none⟩), .pointer (some ⟨w.heap.size + 2, 0, none⟩)]) ∧
    w' = ((w.alloc (.cells #[.string s] 9)).alloc (.cells #[.string t] 9)).alloc (.cells #[.int .i64 0] 3) := by
  have e100 : ∀ args w, (callFunc 57 args).run Tryz.prog w = .ok (.enter 57 args) w := enters_of Tryz.func57 (by kernel_rfl) rfl
  go_enter Tryz.func34, Tryz.ntmps34
  go_wp2_with (go_at_fn 57; refine (splitSeq0 _ _ _).mono ?_; rintro e w' ⟨rfl, rfl⟩)
  go_ret
  exact ⟨rfl, rfl⟩
section
variable [Known] [Iters]
def boxLen (W : World) (a : Addr) : Nat := match W.cell? a with
  | some (.string s) => s.size
  | _ => 0
theorem strV8_size (s : List UInt8) : (⟨s.toArray⟩ : ByteArray).size = s.length := by
  show s.toArray.size = s.length
  simp
theorem leftN_take {t : List UInt8} : ∀ (k n : Nat) (s : List UInt8), k < (piecesN n t s).length → (piecesN n t s).getD k [] = match ixS t (leftN t k s) with
    | none => leftN t k s
    | some i => (leftN t k s).take i
  | _, 0, s, h => by simp [piecesN] at h
  | 0, n + 1, s, h => by
    simp only [piecesN, leftN]
    cases ixS t s <;> simp
  | k + 1, n + 1, s, h => by
    simp only [piecesN] at h ⊢
    cases hi : ixS t s with
    | none => rw [hi] at h; simp at h
    | some i =>
      simp only [hi, List.length_cons] at h ⊢
      have := leftN_take (t := t) k n (s.drop (i + t.length)) (by omega)
      simp only [List.getD_cons_succ, leftN, nextS, hi]
      exact this
theorem leftN_more {t : List UInt8} : ∀ (k n : Nat) (s : List UInt8), s.length < n → t ≠ [] → k < (piecesN n t s).length → (ixS t (leftN t k s) = none ↔ k + 1 = (piecesN n t s).length)
  | _, 0, s, h, _, _ => by omega
  | 0, n + 1, s, h, ht, hk => by
    simp only [piecesN, leftN] at hk ⊢
    cases hi : ixS t s with
    | none => simp
    | some i =>
      have hl := ixS_lt t s i hi
      have htl : 0 < t.length := List.length_pos_iff.2 ht
      obtain ⟨m, rfl⟩ : ∃ m, n = m + 1 := ⟨n - 1, by omega⟩
      have := piecesN_pos t m (s.drop (i + t.length))
      simp only [List.length_cons]
      constructor
      · intro h; cases h
      · intro h; omega
  | k + 1, n + 1, s, h, ht, hk => by
    simp only [piecesN] at hk ⊢
    cases hi : ixS t s with
    | none => rw [hi] at hk; simp at hk
    | some i =>
      have hl := ixS_lt t s i hi
      have htl : 0 < t.length := List.length_pos_iff.2 ht
      simp only [hi, List.length_cons] at hk ⊢
      have := leftN_more (t := t) k n (s.drop (i + t.length)) (by rw [List.length_drop]; omega) ht (by omega)
      simp only [leftN, nextS, hi]
      rw [this]; omega
theorem ixS_fit (t : List UInt8) : ∀ (s : List UInt8) (i : Nat), ixS t s = some i → i + t.length ≤ s.length
  | [], i, h => by simp [ixS] at h
  | b :: l, i, h => by
    simp only [ixS] at h
    split at h
    · cases h
      rename_i hp
      have := (List.isPrefixOf_iff_prefix.1 hp).length_le
      simpa using this
    · obtain ⟨j, h1, rfl⟩ := map_some' h
      have := ixS_fit t l j h1
      simp; omega
theorem leftN_len {t : List UInt8} : ∀ (k : Nat) (s : List UInt8), (leftN t k s).length ≤ s.length
  | 0, s => Nat.le_refl _
  | k + 1, s => by
    have h1 := leftN_len (t := t) k (nextS t s)
    have h2 : (nextS t s).length ≤ s.length := by
      unfold nextS
      split
      · exact Nat.le_refl _
      · rw [List.length_drop]; omega
    exact Nat.le_trans h1 h2
theorem w64n (i : Nat) (h : i < 4294967281) : wrap64 (i : Int) = (i : Int) := Go.IntWalk.wrap64_in _ (by omega)
theorem ext_take (l : List UInt8) (i : Nat) : (⟨l.toArray⟩ : ByteArray).extract 0 i = ⟨(l.take i).toArray⟩ := by
  rw [Lib.extract_eq]; simp
theorem ext_drop (l : List UInt8) (i : Nat) : (⟨l.toArray⟩ : ByteArray).extract i l.length = ⟨(l.drop i).toArray⟩ := by
  rw [Lib.extract_eq]
  have : (l.drop i).take (l.length - i) = l.drop i := List.take_of_length_le (by rw [List.length_drop]; omega)
  simp [this]
theorem mkAside {p : Prop} (h : p) : Aside p := h
theorem idxCall {m : Int} {c0 : UInt8} {t0 cur : List UInt8} {wr : World} (hs : cur.length < 4294967281) (hm : wr.cell? ⟨0, 0, none⟩ = some (.int .i64 m)) (r : Int) (hr : r = match ixS (c0 :: t0) cur with
      | none => -1
      | some i => (i : Int)) :
    CallsIn (wideR none) 0 Tryz.prog 73 #[.string ⟨cur.toArray⟩, .string ⟨(c0 :: t0).toArray⟩] wr fun e w' => e = .returned (.int .i64 r) ∧ w' = wr := by
  refine callsR ((Tryz.strings_Index ⟨cur.toArray⟩ ⟨(c0 :: t0).toArray⟩ m wr (by rw [strV8_size]; exact hs) hm).mono fun e w' ⟨he, hw⟩ => ⟨?_, hw⟩)
  rw [he]
  congr 2
  exact (ixS_idx c0 t0 cur).trans hr.symm
theorem iter0 {m : Int} (hm : (0, 0, Value.int .i64 m) ∈ Known.gl) : IterOk0 Tryz.prog 77 := by
  refine ⟨⟨Tryz.f77, Tryz.func77, of_decide_eq_true (by kernel_rfl), by kernel_rfl⟩, ?_⟩
  rintro vs vb vn w L b1 o1 b2 o2 bx t s rfl rfl rfl ht hs hL1 hL2 hLx hgl hc1 hc2
  intro l J Jm Jx W hW aJ aJm aJx hcell hY hset h0
  obtain ⟨hLm, hcm⟩ := hgl _ hm
  have hro : (wideR none).round = none := rfl
  have e111 : ∀ args w, (callFunc 73 args).run Tryz.prog w = .ok (.enter 73 args) w := enters_of Tryz.func73 (by kernel_rfl) rfl
  have keep : ∀ {b o : Nat} {v : Value}, w.cell? ⟨b, o, none⟩ = some v → W.cell? ⟨b, o, none⟩ = some v := fun h => (hW.cell (p := ⟨_, _, none⟩) (World.block_lt_of_cell? w _ h)).trans h
  have k1 := keep hc1
  have k2 := keep hc2
  have k3 := keep hcm
  obtain ⟨c0, t0, rfl⟩ : ∃ c0 t0, t = c0 :: t0 := by
    cases t with
    | nil => exact absurd rfl ht
    | cons c0 t0 => exact ⟨c0, t0, rfl⟩
  have hne1 : b1 ≠ bx.block := fun e => by rw [e, hLx] at hL1; omega
  have hne2 : b2 ≠ bx.block := fun e => by rw [e, hLx] at hL2; omega
  have hne3 : (0 : Nat) ≠ bx.block := fun e => by rw [e, hLx] at hLm; omega
  have htl := strV8_size (c0 :: t0)
  have hpos := piecesN_pos (c0 :: t0) s.length s
  have hmore := fun k => leftN_more (t := c0 :: t0) k (s.length + 1) s (by omega) ht
  have htake := fun k => leftN_take (t := c0 :: t0) k (s.length + 1) s
  clear hc1 hc2 hcm keep hgl ht
  generalize hn : (piecesN (s.length + 1) (c0 :: t0) s).length = n at *
  have B := mkAside (And.intro hcell (And.intro hY (And.intro hset (And.intro hmore (And.intro htake (And.intro hne1 (And.intro hne2 (And.intro hne3 (And.intro hpos h0)))))))))
  have BJ := mkAside (And.intro aJ (And.intro aJm aJx))
  clear hcell hY hset hmore htake hne1 hne2 hne3 aJ aJm aJx hW hpos h0
  refine callsIn_of_wp Tryz.func77 rfl trivial ?_ hro
  simp only [Tryz.ntmps77, List.size_toArray, List.length_cons, List.length_nil, Nat.reduceAdd, Nat.reduceSub, Array.replicate_succ, Array.replicate_zero, List.push_toArray, List.append_toArray, List.nil_append, List.cons_append]
  unfold strV8 at k1
  gi_wp2
  gi_loopw [] (fun wr => ∃ k : Nat, k < n ∧ J k wr ∧ wr.cell? ⟨b1, o1, none⟩ = some (.string ⟨(c0 :: t0).toArray⟩) ∧ wr.cell? ⟨b2, o2, none⟩ = some (.int .i64 0) ∧ wr.cell? ⟨0, 0, none⟩ = some (.int .i64 m)) (fun wr => boxLen wr bx)
  case atStart =>
    obtain ⟨-, -, -, -, -, -, -, -, hpos, h0⟩ := B.out
    exact ⟨0, hpos, h0, k1, k2, k3⟩
  case round =>
    obtain ⟨k, hk, hJ, q1, q2, q3⟩ := hrel
    obtain ⟨hcell, hY, hset, hmore, htake, hne1, hne2, hne3, hpos, -⟩ := B.out
    have hb := hcell k wr hJ hk
    have hle := leftN_len (t := c0 :: t0) k s
    have hmo := hmore k hk
    have hta := htake k hk
    have hY1 := hY k wr hJ hk
    have hset1 := fun W1 h => hset k W1 h
    rw [hta] at hY1
    generalize hcur : leftN (c0 :: t0) k s = cur at *
    have hcl : cur.length < 4294967281 := by omega
    have A := mkAside (And.intro hcur (And.intro hmo (And.intro hY1 (And.intro hset1 hk))))
    have hcl2 := mkAside hle
    clear hcur hmo hta hY1 hset1 hY hset hmore htake hne1 hne2 hne3 hpos hcell hk hle
    unfold strV8 at hb
    cases hi : ixS (c0 :: t0) cur with
    | none =>
      have A2 : Aside (ixS (c0 :: t0) cur = none) := hi
      have C := mkAside (idxCall (m := m) hcl q3 (-1) (by rw [hi]))
      clear hi
      gi_wp2
      refine ⟨trivial, rfl, C.out.mono ?_⟩
      rintro e w' ⟨rfl, rfl⟩
      obtain ⟨hcur, hmo, hY1, hset1, hk⟩ := A.out
      rw [A2.out] at hY1
      obtain ⟨fn, tmps, assign, body, hy, hR⟩ := hY1
      have hR := mkAside hR
      clear hcur hmo hset1 hk
      unfold strV8 at hy
      gi_wp2
      refine ⟨rfl, hR.out.mono ?_⟩
      obtain ⟨hcur, hmo, hY1, hset1, hk⟩ := A.out
      have hn1 : n - 1 = k := by
        have := hmo.1 A2.out
        omega
      clear hcur hmo hset1 hk hY1 hy
      rintro e W3 (⟨rfl, hJ3, hk3⟩ | ⟨rfl, hJx3⟩)
      · rw [← hn1] at hJ3
        have hJ3 := mkAside hJ3
        clear hk3 hn1
        gi_wp2
        go_end0
        exact ⟨⟨_, rfl⟩, .inl hJ3.out⟩
      · have hJx3 := mkAside hJx3
        clear hn1
        gi_wp2
        go_end0
        exact ⟨⟨_, rfl⟩, .inr hJx3.out⟩
    | some i =>
      have hfit := ixS_fit _ _ _ hi
      have A2 : Aside (ixS (c0 :: t0) cur = some i) := hi
      have C := mkAside (idxCall (m := m) hcl q3 i (by rw [hi]))
      have hfit2 : i + (t0.length + 1) ≤ cur.length := by simpa using hfit
      have hi0 : i < 4294967281 := by omega
      have hi1 : (i : Int) ≤ (cur.length : Int) := by omega
      have hi2 : ¬ ((i : Int) < 0) := by omega
      have hfit := mkAside hfit2
      have hwi : Value.int .i64 (wrap64 (i : Int)) = Value.int .i64 (i : Int) := by rw [w64n i hi0]
      have hex := ext_take cur i
      clear hi hfit2
      gi_wp2
      refine ⟨trivial, rfl, C.out.mono ?_⟩
      rintro e w' ⟨rfl, rfl⟩
      obtain ⟨hcur, hmo, hY1, hset1, hk⟩ := A.out
      rw [A2.out] at hY1
      obtain ⟨fn, tmps, assign, body, hy, hR⟩ := hY1
      have hR := mkAside hR
      clear hcur hmo hset1 hk
      unfold strV8 at hy
      gi_wp2
      refine ⟨rfl, hR.out.mono ?_⟩
      obtain ⟨hcur, hmo, hY1, hset1, hk⟩ := A.out
      have hk1 : k + 1 < n := by
        rcases Nat.lt_or_ge (k + 1) n with h | h
        · exact h
        · have h2 := hmo.2 (by omega)
          rw [A2.out] at h2; cases h2
      rintro e W3 (⟨rfl, hJ3, hk3⟩ | ⟨rfl, hJx3⟩)
      · obtain ⟨z1, z2, z3⟩ := hset1 W3 hJ3 hk1
        obtain ⟨hcell, hY, hset, hmore, htake, hne1, hne2, hne3, hpos, -⟩ := B.out
        have z4 := hcell (k + 1) _ z3 hk1
        have hfit2 := hfit.out
        rw [leftN_next, hcur, nextS, A2.out] at z3 z4
        have ej : i + (c0 :: t0).length = i + (t0.length + 1) := by simp
        simp only [ej] at z3 z4
        have y1 : W3.cell? ⟨b1, o1, none⟩ = some (.string ⟨(c0 :: t0).toArray⟩) := (hk3 b1 o1 hL1).trans q1
        have y2 : W3.cell? ⟨b2, o2, none⟩ = some (.int .i64 0) := (hk3 b2 o2 hL2).trans q2
        have y3 : W3.cell? ⟨0, 0, none⟩ = some (.int .i64 m) := (hk3 0 0 hLm).trans q3
        have far : ∀ {b o : Nat} {v u : Value}, b ≠ bx.block → W3.cell? ⟨b, o, none⟩ = some v → (W3.setCell bx u).cell? ⟨b, o, none⟩ = some v := fun hne h => by
          refine (cell_heap (Below.heap_setCell _ _ _ _ hne) _).1.trans h
        let nx : Value := .string ⟨(cur.drop (i + (t0.length + 1))).toArray⟩
        have f1 := far (u := nx) hne1 y1
        have f2 := far (u := nx) hne2 y2
        have f3 := far (u := nx) hne3 y3
        have hj0 : i + (t0.length + 1) < 4294967281 := by omega
        have hj1 : (i : Int) + ((t0.length : Int) + 1) ≤ (cur.length : Int) := by omega
        have hj2 : ¬ ((i : Int) + ((t0.length : Int) + 1) < 0) := by omega
        have hj3 : (0 : Int) ≤ (i : Int) + ((t0.length : Int) + 1) := by omega
        have hjn : ((i : Int) + ((t0.length : Int) + 1)).toNat = i + (t0.length + 1) := by omega
        have hm2 : (cur.drop (i + (t0.length + 1))).length < cur.length := by rw [List.length_drop]; omega
        have s0 := store1 (P := Tryz.prog) (m := .plain) (w := W3) (a := bx) (v := nx) rfl (by rw [z1]; rfl) z2
        have hex2 := ext_drop cur (i + (t0.length + 1))
        have hwj : Value.int .i64 (wrap64 ((i : Int) + ((t0.length : Int) + 1))) = Value.int .i64 ((i : Int) + ((t0.length : Int) + 1)) := by
          have := w64n (i + (t0.length + 1)) hj0
          have e : ((i + (t0.length + 1) : Nat) : Int) = (i : Int) + ((t0.length : Int) + 1) := by omega
          rw [e] at this
          rw [this]
        have D := mkAside (And.intro z3 (And.intro z4 (And.intro f1 (And.intro f2 (And.intro f3 (And.intro hm2 hk1))))))
        clear hcell hY hset hmore htake hne1 hne2 hne3 hpos z3 z4 hfit2 ej y3 far f1 f2 f3 hj0 hm2 hk1 hcur hmo hset1 hk hY1 hy hk3 hJ3
        unfold strV8 at z1
        gi_wp2
        obtain ⟨z3, z4, f1, f2, f3, hm2, hk1⟩ := D.out
        refine ⟨⟨k + 1, hk1, z3, f1, f2, f3⟩, ?_⟩
        have e1 : boxLen (W3.setCell bx (.string ⟨(cur.drop (i + (t0.length + 1))).toArray⟩)) bx = (cur.drop (i + (t0.length + 1))).length := by
          have z4 : (W3.setCell bx (.string ⟨(cur.drop (i + (t0.length + 1))).toArray⟩)).cell? bx = some (.string ⟨(cur.drop (i + (t0.length + 1))).toArray⟩) := z4
          unfold boxLen
          rw [z4]
          exact strV8_size _
        have e2 : boxLen w' bx = cur.length := by
          unfold boxLen
          rw [hb]
          exact strV8_size _
        rw [e1, e2]
        exact hm2
      · have hJx3 := mkAside hJx3
        clear hk1 hcur hmo hset1 hk hY1 hy
        gi_wp2
        refine bodyPost_ret (results_none rfl _ _ _) rfl ?_
        exact ⟨⟨_, rfl⟩, .inr hJx3.out⟩
end
end Go.Proofs.YtdcknpkednpckaaGreatDoor
