/- What lies behind a slice, as pure data: what the abstract machine tells of it holds. No condition. -/
import Derived.Test.YthldpjhmhjhpeaaDoorEvU
set_option linter.unusedVariables false
set_option linter.unusedSimpArgs false
set_option linter.unusedSectionVars false
namespace Go.Q
variable [Known]
section
variable {P : Program} {w : World} {g : Gh}

theorem toV_of1 {d : D} {x : V} (h : toV1 d = some x) : toV d = some x := by cases d <;> first | (cases h; done) | exact h
theorem toVs_at : ∀ {ds : List D} {xs : List V}, toVs ds = some xs → xs.length = ds.length ∧ ∀ i (h : i < ds.length) (h' : i < xs.length), toV1 ds[i] = some xs[i]
  | [], xs, h => by simp only [toVs] at h; cases h; exact ⟨rfl, fun i h => by simp at h⟩
  | d :: r, xs, h => by
    simp only [toVs] at h
    obtain ⟨x, h1, h2⟩ := bind_some' h
    obtain ⟨ys, h3, rfl⟩ := map_some' h2
    obtain ⟨h4, h5⟩ := toVs_at h3
    refine ⟨by simp [h4], fun i hi hi' => ?_⟩
    cases i with
    | zero => exact h1
    | succ i => exact h5 i (by simpa using hi) (by simpa using hi')
theorem toVL_at : ∀ {ds : List D} {xs : List V}, toVL ds = some xs → xs.length = ds.length ∧ ∀ i (h : i < ds.length) (h' : i < xs.length), toV ds[i] = some xs[i]
  | [], xs, h => by simp only [toVL] at h; cases h; exact ⟨rfl, fun i h => by simp at h⟩
  | d :: r, xs, h => by
    simp only [toVL] at h
    obtain ⟨x, h1, h2⟩ := bind_some' h
    obtain ⟨ys, h3, rfl⟩ := map_some' h2
    obtain ⟨h4, h5⟩ := toVL_at h3
    refine ⟨by simp [h4], fun i hi hi' => ?_⟩
    cases i with
    | zero => exact h1
    | succ i => exact h5 i (by simpa using hi) (by simpa using hi')

theorem toV1_rel {pl : Nat → Pl} {d : D} {x : V} {v : Value} (h : RelD w g pl d v) (hx : toV1 d = some x) : RelV w g.L x v ∧ (d.isCell = true → x.isCell = true) := by
  cases d <;> simp only [toV1] at hx <;> first | (cases hx; done) | skip
  · cases hx; exact ⟨h.toV, fun h => h⟩
  · cases hx; cases h; exact ⟨.slc0 _ _ _, fun _ => rfl⟩
  · cases hx; cases h; exact ⟨by assumption, fun _ => rfl⟩
theorem toV_rel {pl : Nat → Pl} {d : D} {x : V} {v : Value} (h : RelD w g pl d v) (hx : toV d = some x) : RelV w g.L x v := by
  cases d <;> simp only [toV] at hx <;> first | (cases hx; done) | skip
  · cases hx; exact h.toV
  · cases hx; cases h; exact .slc0 _ _ _
  · cases hx; cases h; assumption
  · obtain ⟨ys, h1, rfl⟩ := map_some' hx
    obtain ⟨h2, h3⟩ := toVs_at h1
    cases h with | agg _ ds cs hl hk hr =>
    refine .agg _ _ (by rw [h2, hl]) (fun i hi => ?_) (fun i hi => ?_)
    · exact (toV1_rel (hr i (by omega)) (h3 i (by omega) hi)).2 (hk _ _)
    · exact (toV1_rel (hr i (by omega)) (h3 i (by omega) hi)).1
theorem toV1_cell {d : D} {x : V} (hx : toV1 d = some x) (hk : d.isCell = true) : x.isCell = true := by
  cases d <;> simp only [toV1] at hx <;> first | (cases hx; done) | skip
  · cases hx; exact hk
  · cases hx; rfl
  · cases hx; rfl
theorem toV_cell {d : D} {x : V} (hx : toV d = some x) (hk : d.isCell = true) : x.isCell = true := by
  cases d <;> simp only [toV] at hx <;> first | (cases hx; done) | (simp [D.isCell] at hk; done) | skip
  · cases hx; exact hk
  · cases hx; rfl
  · cases hx; rfl
theorem toV_good {d : D} {x : V} (hx : toV d = some x) : goodD d = true := by cases d <;> first | rfl | cases hx
theorem toV_cells {e : D} {x : V} (hx : toV e = some x) (hk : ∀ j (h : j < (cellsOf e).length), (cellsOf e)[j].isCell = true) :
    (cellsV x).length = (cellsOf e).length ∧ ∀ j (h : j < (cellsOf e).length) (h' : j < (cellsV x).length), toV (cellsOf e)[j] = some (cellsV x)[j] ∧ ((cellsV x)[j]).isCell = true := by
  cases e <;> simp only [toV] at hx <;> first | (cases hx; done) | skip
  · cases hx
    simp only [cellsOf_v] at hk ⊢
    exact ⟨by simp, fun j h h' => ⟨by simp [toV], by have := hk j h; simpa [D.isCell] using this⟩⟩
  · cases hx; exact ⟨rfl, fun j h h' => by obtain rfl : j = 0 := by simpa [cellsOf] using h
                                           exact ⟨rfl, rfl⟩⟩
  · cases hx; exact ⟨rfl, fun j h h' => by obtain rfl : j = 0 := by simpa [cellsOf] using h
                                           exact ⟨rfl, rfl⟩⟩
  · rename_i ds
    obtain ⟨ys, h1, rfl⟩ := map_some' hx
    obtain ⟨h2, h3⟩ := toVs_at h1
    refine ⟨h2, fun j h h' => ?_⟩
    have h4 := h3 j h h'
    exact ⟨toV_of1 h4, toV1_cell h4 (hk j h)⟩

structure Els (w : World) (L : Nat → Nat) (sz : Nat) (ys : List V) (f : Nat → Nat → Value) : Prop where
  len : ∀ i (h : i < ys.length), (cellsV ys[i]).length = sz
  cell : ∀ i (h : i < ys.length) j (hj : j < (cellsV ys[i]).length), ((cellsV ys[i])[j]).isCell = true
  rel : ∀ i (h : i < ys.length) j (hj : j < (cellsV ys[i]).length), RelV w L (cellsV ys[i])[j] (f i j)
inductive SrcIs (w : World) (sz n : Nat) (f : Nat → Nat → Value) : Value → Prop
  | str (b : ByteArray) (hs : sz = 1) (hn : b.size = n) (hf : ∀ i (h : i < b.size), f i 0 = .int .u8 b[i].toNat) : SrcIs w sz n f (.string b)
  | sl (ad c) (hc : n ≤ c) (h : n ≠ 0 → ∃ b o, ad = some ⟨b, o, none⟩ ∧ ∀ i j, i < n → j < sz → w.cell? ⟨b, o + i * sz + j, none⟩ = some (f i j)) : SrcIs w sz n f (.slice ad n c)

theorem els_slc {sz : Nat} {ys : List V} {v : Value} (h : RelV w g.L (.slc sz ys) v) : ∃ f, Els w g.L sz ys f ∧ SrcIs w sz ys.length f v := by
  cases h with
  | slc0 _ a c => exact ⟨fun _ _ => undef, ⟨fun i h => by simp at h, fun i h => by simp at h, fun i h => by simp at h⟩, .sl _ _ (Nat.zero_le _) (fun h => by simp at h)⟩
  | slc _ _ b o c f h1 h2 h3 h4 h5 h6 => exact ⟨f, ⟨h2, h5, h6⟩, .sl _ _ h1 (fun _ => ⟨b, o, rfl, h4⟩)⟩

theorem rowOf_some {b : Option Blk} {xs : List D} (h : rowOf b = some xs) : b = some (.row xs) := by
  unfold rowOf at h; split at h <;> cases h; rfl

theorem elems_rel {st : St} {d : D} {v : Value} {sz : Nat} {ys : List V} {pl : Nat → Pl} (hS : RelS w g st) (hx : RelD w g pl d v) (h : elems sz st d = some ys) :
    ∃ f, Els w g.L sz ys f ∧ SrcIs w sz ys.length f v := by
  unfold elems at h
  split at h
  · rename_i s
    split at h <;> cases h
    rename_i hs
    obtain ⟨b, rfl, rfl⟩ := strOf hx
    refine ⟨fun i _ => .int .u8 ((b.data.toList[i]?).getD 0).toNat, ⟨fun i hi => by simp [cellsV, hs], fun i hi j hj => ?_, fun i hi j hj => ?_⟩, .str b hs (by simp) (fun i hi => ?_)⟩
    · simp only [List.getElem_map, cellsV] at hj ⊢
      obtain rfl : j = 0 := by simpa using hj
      rfl
    · simp only [List.getElem_map, cellsV] at hj ⊢
      obtain rfl : j = 0 := by simpa using hj
      have hi' : i < b.data.toList.length := by simpa using hi
      simp only [List.getElem_cons_zero, List.getElem?_eq_getElem hi', Option.getD_some]
      exact .int _ _
    · have hi' : i < b.data.toList.length := by simpa using hi
      simp only [List.getElem?_eq_getElem hi', Option.getD_some]
      rfl
  · rename_i z xs
    split at h <;> cases h
    rename_i hz
    subst hz
    exact els_slc hx.toV
  · obtain ⟨x, h1, h2⟩ := bind_some' h
    unfold slcOf at h2
    split at h2 <;> first | (cases h2; done) | skip
    split at h2 <;> cases h2
    rename_i z xs hz
    subst hz
    cases d <;> simp only [rdV] at h1 <;> first | (cases h1; done) | skip
    · cases h1; exact els_slc hx.toV
    · cases h1; cases hx; exact els_slc (.slc0 _ _ _)
    · cases h1; cases hx; exact els_slc (by assumption)
    · rename_i r z' off len fl n1 n2
      unfold rowV at h1
      split at h1 <;> first | (cases h1; done) | skip
      rename_i xs' hb
      split at h1 <;> first | (cases h1; done) | skip
      rename_i hle
      obtain ⟨ys', h3, h4⟩ := map_some' h1
      cases h4
      obtain ⟨h5, h6⟩ := toVL_at h3
      have hlen : ys.length = len := by rw [h5]; simp; omega
      cases hx with | own _ _ _ _ _ _ c ad hlv hc hzr ha =>
      have hB := hS.blk r _ hb
      simp only [RelB] at hB
      have hBn := hB.1
      replace hB := hB.2
      have cellAt : ∀ i, i < ys.length → off + i < xs'.length := fun i hi => by omega
      have key : ∀ i (hi : i < ys.length), toV (xs'[off + i]'(cellAt i hi)) = some ys[i] := fun i hi => by
        have := h6 i (by simp; omega) hi
        simpa using this
      have tc : ∀ i (hi : i < ys.length), _ := fun i hi => toV_cells (key i hi) (fun j hj => ((hB _ (cellAt i hi)).2 j hj).1)
      refine ⟨fun i j => (w.cell? ⟨g.be r, (off + i) * g.sz r + j, none⟩).getD undef, ⟨fun i hi => ?_, fun i hi j hj => ?_, fun i hi j hj => ?_⟩, ?_⟩
      · rw [(tc i hi).1, (hB _ (cellAt i hi)).1, hzr]
      · exact ((tc i hi).2 j (by rw [← (tc i hi).1]; exact hj) hj).2
      · have hj' : j < (cellsOf (xs'[off + i]'(cellAt i hi))).length := by rw [← (tc i hi).1]; exact hj
        obtain ⟨_, _, v, h7, h8, h9⟩ := (hB _ (cellAt i hi)).2 j hj'
        simp only [h7, Option.getD_some]
        exact toV_rel h9 ((tc i hi).2 j hj' hj).1
      · rw [hlen]
        refine .sl _ _ hc.1 (fun hn => ⟨_, _, congrArg some (ha hn), fun i j hi hj => ?_⟩)
        have hi' : i < ys.length := by omega
        have hj' : j < (cellsOf (xs'[off + i]'(cellAt i hi'))).length := by rw [(hB _ (cellAt i hi')).1, hzr]; exact hj
        obtain ⟨_, _, v, h7, h8, h9⟩ := (hB _ (cellAt i hi')).2 j hj'
        simp only [h7, Option.getD_some]
        rw [← h7]; congr 2
        rw [hzr, Nat.add_mul]
    · rename_i r k off len n1 n2
      unfold arrV at h1
      split at h1 <;> first | (cases h1; done) | skip
      rename_i e hb
      split at h1 <;> first | (cases h1; done) | skip
      rename_i hle
      obtain ⟨ys', h3, h4⟩ := map_some' h1
      cases h4
      obtain ⟨h5, h6⟩ := toVL_at h3
      have hlen : ys.length = len := by rw [h5]; simp; omega
      cases hx with | arr _ _ _ _ _ c ad hlv hc ha =>
      unfold rowAt at hb
      split at hb <;> first | (cases hb; done) | skip
      rename_i xs' hb'
      obtain ⟨hk, rfl⟩ := List.getElem?_eq_some_iff.1 hb
      have hB := hS.blk r _ hb'
      simp only [RelB] at hB
      have hBn := hB.1
      replace hB := hB.2
      obtain ⟨hl, hB⟩ := hB k hk
      have cellAt : ∀ i, i < ys.length → off + i < (cellsOf xs'[k]).length := fun i hi => by omega
      have key : ∀ i (hi : i < ys.length), toV ((cellsOf xs'[k])[off + i]'(cellAt i hi)) = some ys[i] := fun i hi => by
        have := h6 i (by simp; omega) hi
        simpa using this
      have hone : ∀ i (hi : i < ys.length), cellsV ys[i] = [ys[i]] ∧ ys[i].isCell = true := fun i hi => by
        obtain ⟨h7, _, v, h8, h9, h10⟩ := hB _ (cellAt i hi)
        have h11 := key i hi
        have : ys[i].isCell = true := toV_cell h11 h7
        exact ⟨by cases hy : ys[i] <;> first | rfl | (rw [hy] at this; simp [V.isCell] at this; done), this⟩
      refine ⟨fun i j => (w.cell? ⟨g.be r, k * g.sz r + (off + i), none⟩).getD undef, ⟨fun i hi => ?_, fun i hi j hj => ?_, fun i hi j hj => ?_⟩, ?_⟩
      · rw [(hone i hi).1]; rfl
      · simp only [(hone i hi).1] at hj ⊢
        obtain rfl : j = 0 := by simpa using hj
        exact (hone i hi).2
      · simp only [(hone i hi).1] at hj ⊢
        obtain rfl : j = 0 := by simpa using hj
        obtain ⟨h7, _, v, h8, h9, h10⟩ := hB _ (cellAt i hi)
        simp only [h8, Option.getD_some, List.getElem_cons_zero]
        exact toV_rel h10 (key i hi)
      · rw [hlen]
        refine .sl _ _ hc (fun hn => ⟨_, _, congrArg some (ha hn), fun i j hi hj => ?_⟩)
        obtain rfl : j = 0 := by omega
        obtain ⟨h7, _, v, h8, h9, h10⟩ := hB _ (cellAt i (by omega))
        simp only [h8, Option.getD_some]
        rw [← h8]; congr 2
        omega
    · rename_i ds
      simp only [toV] at h1
      obtain ⟨ys', _, h4⟩ := map_some' h1
      cases h4
end
end Go.Q
