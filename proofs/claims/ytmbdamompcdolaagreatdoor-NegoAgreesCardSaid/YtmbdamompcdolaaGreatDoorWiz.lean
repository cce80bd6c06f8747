/- The iterator of slices.All at the seat's options: its contract. No condition. -/
import Derived.Test.YtmbdamompcdolaaGreatDoorEv2
import Derived.Test.YtmbdamompcdolaaGreatDoorEvO
import Derived.Test.YtmbdamompcdolaaGreatDoorEq
import Derived.RangeFuncBox
import Derived.RangeFuncLeaves
import Derived.Shelf.Abstract
import Derived.WalkKit
import Derived.OwnWalkIn
import Derived.TacticsInMore
import Derived.LoopNIn
import Derived.LoopIn
import Derived.BigRegionIn
import Derived.Test.YtmbdamompcdolaaGreatDoorProg
set_option linter.all false
namespace Go.Proofs.YtmbdamompcdolaaGreatDoor
open Go.RowKit Go.Shelf Go.Q
attribute [local go_sem] Oper.semAt_some
set_option maxRecDepth 100000
set_option maxHeartbeats 4000000
theorem store1 {P : Program} {w : World} {a : Addr} {v : Value} {m : Mode} (hv : v.oneCell' = true) (hc : (w.cell? a).isSome = true) (hf : w.frozen? a = false) : (store a v m).run P w = .ok () (w.setCell a v) := by
  obtain ⟨u, hu⟩ := Option.isSome_iff_exists.1 hc
  rw [run_store P w a v m hv, hu]
  simp [hf]
theorem ncell (wr : World) (c : Array Value) (t : TypeId) (i : Nat) : (wr.alloc (.cells c t)).cell? ⟨wr.heap.size, i, none⟩ = c[i]? := World.cell?_alloc_at c t _ i rfl
theorem nfroz (wr : World) (c : Array Value) (t : TypeId) (i : Nat) : (wr.alloc (.cells c t)).frozen? ⟨wr.heap.size, i, none⟩ = false := World.frozen?_alloc_at c t _ i rfl
theorem all_it (L : Nat → Nat) (l Bs Bo b off len cap : Nat) (f : Nat → Nat → Value) (hreach : len ≤ 140737488355328) (h1 : ∀ i j, i < len → j < 2 → (f i j).oneCell' = true) (hL : ∀ i j, i < len → j < 2 → off + i * 2 + j < L b) (J : Nat → World → Prop) (Jx : Unit → World → Prop)
    (W : World) (aJ : AbidesFrom W.heap.size J) (aX : AbidesFrom W.heap.size Jx)
    (hY : ∀ k W1, J k W1 → k < len → YieldAt (wideR none) 0 Tryz.prog l #[.int .i64 k, .agg #[f k 0, f k 1]] W1 fun e W' =>
      (e = .returned (.bool true) ∧ J (k + 1) W' ∧ KeepL L W1 W') ∨ (e = .returned (.bool false) ∧ Jx () W'))
    (hBs : W.cell? ⟨Bs, Bo, none⟩ = some (.slice (some ⟨b, off, none⟩) len cap)) (hc : ∀ i j, i < len → j < 2 → W.cell? ⟨b, off + i * 2 + j, none⟩ = some (f i j)) (h0 : J 0 W) :
    CallsIn (wideR none) 0 Tryz.prog 184 #[.func (.yield l) #[] #[], .pointer (some ⟨Bs, Bo, none⟩)] W fun e W' => (∃ v, e = .returned v) ∧ (J len W' ∨ Jx () W') := by
  have hro : (wideR none).round = none := rfl
  refine callsIn_of_wp Tryz.func184 rfl trivial ?_ hro
  simp only [Tryz.ntmps184, List.size_toArray, List.length_cons, List.length_nil, Nat.reduceAdd, Nat.reduceSub, Array.replicate_succ, Array.replicate_zero, List.push_toArray, List.append_toArray, List.nil_append, List.cons_append]
  gi_wp2
  gi_loopw [7] (fun i wr => ∃ k : Nat, k ≤ len ∧ i = .int .i64 k ∧ J k wr ∧ ∀ i j, i < len → j < 2 → wr.cell? ⟨b, off + i * 2 + j, none⟩ = some (f i j))
    (fun i _ => len - (Go.RowKit.intOf i).toNat)
  case atStart => exact ⟨0, Nat.zero_le _, rfl, h0, hc⟩
  case round =>
    obtain ⟨k, hk, rfl, hJs, hnx⟩ := hrel
    by_cases hlt : k < len
    · have hcx0 := hnx k 0 hlt (by omega)
      have hcx1 := hnx k 1 hlt (by omega)
      rw [Nat.add_zero] at hcx0
      have hB : Below wr.heap.size wr (wr.alloc (.cells #[f k 0, f k 1] 120)) := (Below.refl _ wr).alloc (Nat.le_refl _) _
      have s0 := store1 (P := Tryz.prog) (m := .plain) (w := wr.alloc (.cells #[.int .u8 0, .slice none 0 0] 120)) (h1 k 0 hlt (by omega)) (a := ⟨wr.heap.size, 0, none⟩) (by rw [ncell]; rfl) (nfroz _ _ _ _)
      have s1 := store1 (P := Tryz.prog) (m := .plain) (w := wr.alloc (.cells #[f k 0, .slice none 0 0] 120)) (h1 k 1 hlt (by omega)) (a := ⟨wr.heap.size, 1, none⟩) (by rw [ncell]; rfl) (nfroz _ _ _ _)
      have k0 := ncell wr #[f k 0, f k 1] 120 0
      have k1 := ncell wr #[f k 0, f k 1] 120 1
      obtain ⟨fn, tmps, assign, body, hy, hR⟩ := hY k (wr.alloc (.cells #[f k 0, f k 1] 120)) (aJ k wr _ none hJs (World.grownBy_alloc wr _ none) (fun r e => by cases e)) hlt
      gi_wp2
      refine ⟨rfl, hR.mono ?_⟩
      rintro e W3 (⟨rfl, hJ3, hk3⟩ | ⟨rfl, hJx3⟩)
      · -- the round goes on
        gi_wp2
        go_roundw
        case rel =>
          refine ⟨k + 1, by omega, by simp, hJ3, fun i j hi hj => ?_⟩
          have hc3 := hnx i j hi hj
          rw [hk3 b _ (hL i j hi hj)]
          exact (hB.cell (p := ⟨b, off + i * 2 + j, none⟩) (World.block_lt_of_cell? wr _ hc3)).trans hc3
        case measure => simp [Go.RowKit.intOf]; omega
      · gi_wp2
        refine bodyPost_ret (results_none rfl _ _ _) rfl ?_
        exact ⟨⟨_, rfl⟩, .inr hJx3⟩
    · obtain rfl : k = len := by omega
      gi_wp2
      go_end0
      exact ⟨⟨_, rfl⟩, .inl hJs⟩
theorem all_it_nil (l Bs Bo cap : Nat) (a : Option Addr) (J : Nat → World → Prop) (W : World) (hBs : W.cell? ⟨Bs, Bo, none⟩ = some (.slice a 0 cap)) (h0 : J 0 W) :
    CallsIn (wideR none) 0 Tryz.prog 184 #[.func (.yield l) #[] #[], .pointer (some ⟨Bs, Bo, none⟩)] W fun e W' => (∃ v, e = .returned v) ∧ J 0 W' := by
  have hro : (wideR none).round = none := rfl
  refine callsIn_of_wp Tryz.func184 rfl trivial ?_ hro
  simp only [Tryz.ntmps184, List.size_toArray, List.length_cons, List.length_nil, Nat.reduceAdd, Nat.reduceSub, Array.replicate_succ, Array.replicate_zero, List.push_toArray, List.append_toArray, List.nil_append, List.cons_append]
  gi_wp2
  gi_loopw [7] (fun i wr => i = .int .i64 0 ∧ J 0 wr) (fun _ _ => 0)
  case atStart => exact ⟨rfl, h0⟩
  case round =>
    obtain ⟨rfl, hJs⟩ := hrel
    gi_wp2
    go_end0
    exact ⟨⟨_, rfl⟩, hJs⟩
theorem agg2 {w : World} {L : Nat → Nat} {y : V} {f : Nat → Value} (hy : (cellsV y).length = 2) (hk : ∀ j (hj : j < (cellsV y).length), ((cellsV y)[j]).isCell = true) (hr : ∀ j (hj : j < (cellsV y).length), RelV w L (cellsV y)[j] (f j)) :
    RelV w L y (.agg #[f 0, f 1]) := by
  cases y <;> first | (simp [cellsV] at hy; done) | skip
  rename_i xs
  obtain ⟨a, b, rfl⟩ : ∃ a b, xs = [a, b] := by
    rcases xs with _ | ⟨a, _ | ⟨b, _ | ⟨c, r⟩⟩⟩ <;> simp [cellsV] at hy
    exact ⟨a, b, rfl⟩
  refine .agg _ _ (by simp) (fun i hi => hk i hi) (fun i hi => ?_)
  have hi' : i < 2 := by simpa using hi
  match i, hi' with
  | 0, _ => exact hr 0 (by simp [cellsV])
  | 1, _ => exact hr 1 (by simp [cellsV])
theorem cell_of_load [Known] {w : World} {g : Gh} {st : St} {p d : D} {v : Value} {pl : Nat → Pl} (hS : RelS w g st) (hp : RelD w g pl p v) (h : opLoad st none p = some d) :
    ∃ b o r, v = .pointer (some ⟨b, o, none⟩) ∧ w.cell? ⟨b, o, none⟩ = some r ∧ ∀ pl, RelD w g pl d r := by
  unfold opLoad at h
  split at h <;> first | (cases h; done) | skip
  · rename_i r i off
    obtain ⟨e, h1, h2⟩ := bind_some' h
    unfold Go.Q.rowAt at h1
    split at h1 <;> first | (cases h1; done) | skip
    rename_i xs hb
    obtain ⟨hi, rfl⟩ := List.getElem?_eq_some_iff.1 h1
    cases hp with | ptr _ _ _ _ hlv =>
    have hB := hS.blk r _ hb
    simp only [RelB] at hB
    obtain ⟨hl, hB⟩ := hB.2 i hi
    obtain ⟨hlt, hr⟩ := loadC_one (f := fun j => (w.cell? ⟨g.be r, i * g.sz r + j, none⟩).getD undef) (q := fun j _ => .cell r i j) (fun j hj => by
      obtain ⟨h3, _, v, h4, h5, h6⟩ := hB j hj
      rw [h4]; exact ⟨h3, h6⟩) h2
    obtain ⟨h3, _, v, h4, h5, h6⟩ := hB off hlt
    refine ⟨_, _, v, rfl, h4, fun pl => ?_⟩
    have := hr pl
    rw [h4] at this
    exact this
  · rename_i cs off
    cases hp with | va _ _ _ b o f a1 a2 a3 a4 =>
    rw [loadVs_eq] at h
    obtain ⟨hlt, hr⟩ := loadC_one (f := f) (q := fun j _ => .nil) (fun j hj => by
      simp only [List.getElem_map]
      exact ⟨a3 j (by simpa using hj), .v _ _ _ (a4 j (by simpa using hj))⟩) h
    exact ⟨_, _, _, rfl, a2 off (by simpa using hlt), hr⟩
  · rename_i cs
    cases hp with | v _ _ _ hp =>
    cases hp with | pt _ b o f a1 a2 a3 a4 =>
    rw [loadVs_eq] at h
    obtain ⟨hlt, hr⟩ := loadC_one (f := f) (q := fun j _ => .nil) (fun j hj => by
      simp only [List.getElem_map]
      exact ⟨a3 j (by simpa using hj), .v _ _ _ (a4 j (by simpa using hj))⟩) h
    exact ⟨_, _, _, rfl, by have := a2 0 (by simpa using hlt); simpa using this, hr⟩
theorem allK_of {z : Nat} {e : D} {xs : List (List V)} (h : allK z e = some xs) : (∃ ys, e = .v (.slc z ys) ∧ ys.length ≤ maxB ∧ xs = idxV 0 ys) ∨ (e = .nils z ∧ xs = []) := by
  unfold allK at h
  split at h <;> first | (cases h; done) | skip
  · split at h <;> first | (cases h; done) | skip
    rename_i hz
    obtain ⟨rfl, hm⟩ := hz
    exact .inl ⟨_, rfl, hm, (Option.some.inj h).symm⟩
  · split at h <;> first | (cases h; done) | skip
    rename_i hz
    subst hz
    exact .inr ⟨rfl, (Option.some.inj h).symm⟩
theorem iterAll [Known] : IterOk Tryz.prog 2 184 := by
  intro st cs xs hx
  refine ⟨⟨Tryz.f184, Tryz.func184, of_decide_eq_true (by kernel_rfl), by kernel_rfl⟩, fun vc w g hl hr hS => ?_⟩
  rcases cs with _ | ⟨d, _ | ⟨d2, cs⟩⟩
  · simp [iterK] at hx
  · have hx : (opLoad st none d).bind (allK 2) = some xs := hx
    obtain ⟨e, h1, h2⟩ := bind_some' hx
    obtain ⟨v, rfl⟩ : ∃ v, vc = #[v] := ⟨vc[0]'(by rw [← hl]; simp), by
      apply Array.ext
      · simpa using hl.symm
      · intro i hi hi2
        have : i = 0 := by simp at hi2; exact hi2
        subst this; rfl⟩
    obtain ⟨b, o, r, rfl, hc, hr⟩ := cell_of_load hS (hr 0 (by simp)) h1
    have hc' : ∀ W, Below w.heap.size w W → W.cell? ⟨b, o, none⟩ = some r := fun W hW => (hW.cell (p := ⟨b, o, none⟩) (World.block_lt_of_cell? w _ hc)).trans hc
    have hr := hr (fun _ => .nil)
    have nil : ∀ (a : Option Addr) (cap : Nat), r = .slice a 0 cap → xs = [] → ∃ encs : Nat → Array Value,
        (∀ i (h : i < xs.length), (encs i).toList.length = xs[i].length ∧ ∀ j (h1 : j < xs[i].length) (h2 : j < (encs i).toList.length), RelV w g.L xs[i][j] (encs i).toList[j]) ∧
          SeqAt Tryz.prog 184 #[.pointer (some ⟨b, o, none⟩)] encs xs.length (KeepL g.L) w := fun a cap ea ex => by
      subst ea ex
      refine ⟨fun _ => #[], fun i h => by simp at h, fun l J Jx W hW aJ aX hY h0 => ?_⟩
      exact (all_it_nil l b o cap a J W (hc' W hW) h0).mono fun e W' ⟨he, hj⟩ => ⟨he, .inl hj⟩
    rcases allK_of h2 with ⟨ys, rfl, hmax, rfl⟩ | ⟨rfl, rfl⟩
    · cases hr with | v _ _ _ hr =>
      cases hr with
      | slc0 sz a c => exact nil a c rfl rfl
      | slc sz xs b' o' c f g1 g2 g3 g4 g5 g6 =>
        refine ⟨fun k => #[.int .i64 k, .agg #[f k 0, f k 1]], fun i hi => ?_, fun l J Jx W hW aJ aX hY h0 => ?_⟩
        · have hi' : i < ys.length := by rw [idxV_len] at hi; exact hi
          have e := idxV_at 0 ys i hi hi'
          rw [e]
          refine ⟨rfl, fun j h1 h2 => ?_⟩
          have hj : j < 2 := by simpa using h1
          match j, hj with
          | 0, _ => simp only [Nat.zero_add]; exact .int _ _
          | 1, _ =>
            exact agg2 (g2 i hi') (g5 i hi') (g6 i hi')
        · rw [idxV_len] at hY ⊢
          refine all_it g.L l b o b' o' ys.length c f hmax (fun i j hi hj => (g6 i hi j (by rw [g2 i hi]; exact hj)).one (g5 i hi j (by rw [g2 i hi]; exact hj))) (fun i j hi hj => g3 i j hi hj) J Jx W aJ aX hY (hc' W hW) (fun i j hi hj => ?_) h0
          have h4 := g4 i j hi hj
          exact (hW.cell (p := ⟨b', o' + i * 2 + j, none⟩) (World.block_lt_of_cell? w _ h4)).trans h4
    · cases hr with | nils =>
      exact nil none 0 rfl rfl
  · simp [iterK] at hx
end Go.Proofs.YtmbdamompcdolaaGreatDoor
