/- Fields, loads, literals, what is behind a slice: what the abstract machine tells of them holds. No condition. -/
import Derived.Test.YtmbdamompcdolaaDoorEvR
set_option linter.unusedVariables false
set_option linter.unusedSimpArgs false
set_option linter.unusedSectionVars false
namespace Go.Q
variable [Known]
section
variable {P : Program} {w : World} {g : Gh}

/-! ### Cells read one by one, or as a struct -/
theorem loadC_one {cs : List D} {off : Nat} {d : D} {f : Nat → Value} {q : Nat → Nat → Pl} (hc : ∀ i (h : i < cs.length), cs[i].isCell = true ∧ RelD w g (q i) cs[i] (f i)) (h : loadC cs off none = some d) :
    off < cs.length ∧ ∀ pl, RelD w g pl d (f off) := by
  obtain ⟨x, h1, rfl⟩ := map_some' h
  obtain ⟨hlt, rfl⟩ := List.getElem?_eq_some_iff.1 h1
  exact ⟨hlt, fun pl => (hc off hlt).2.cp⟩
theorem loadC_agg {cs : List D} {off n : Nat} {d : D} {f : Nat → Value} {q : Nat → Nat → Pl} (hc : ∀ i (h : i < cs.length), cs[i].isCell = true ∧ RelD w g (q i) cs[i] (f i)) (h : loadC cs off (some n) = some d) :
    off + n ≤ cs.length ∧ ∀ (vs : Array Value), vs.size = n → (∀ i (hi : i < vs.size), vs[i] = f (off + i)) → ∀ pl, RelD w g pl d (.agg vs) := by
  simp only [loadC] at h
  split at h <;> cases h
  rename_i hle
  refine ⟨hle, fun vs hs hv pl => ?_⟩
  have hlen : (((cs.drop off).take n).map cp1).length = n := by simp; omega
  refine mkAgg_rel (by rw [hlen, hs]) (fun i hi => ?_) (fun i hi => ?_)
  · rw [hlen] at hi
    simp only [List.getElem_map, List.getElem_take, List.getElem_drop]
    exact ((hc (off + i) (by omega)).2.cp1 (pl' := fun _ => .nil) (hc (off + i) (by omega)).1).2
  · rw [hlen] at hi
    simp only [List.getElem_map, List.getElem_take, List.getElem_drop, hv i (by omega)]
    exact ((hc (off + i) (by omega)).2.cp1 (hc (off + i) (by omega)).1).1

theorem osz_true {t : TypeId} {s : Option Nat} (h : osz P t s = true) : (∃ d n, P.underlying t = some d ∧ d.isRow = true ∧ szT P t = some n ∧ s = some n) ∨ (∃ d, P.underlying t = some d ∧ d.isRow = false ∧ s = none ∧ szT P t = some 1) := by
  unfold osz at h
  split at h
  · rename_i hu
    obtain ⟨d, h1, h2⟩ := of_uAgg_true P hu
    simp at h
    obtain ⟨h3, rfl⟩ := h
    obtain ⟨n, hn⟩ := Option.isSome_iff_exists.1 h3
    exact .inl ⟨d, n, h1, h2, hn, hn⟩
  · rename_i hu
    obtain ⟨d, h1, h2⟩ := of_uAgg_false P hu
    simp at h
    exact .inr ⟨d, h1, h2, h.1, h.2⟩
  · cases h

theorem isAgg_run {t : TypeId} {d : TypeDesc} (hu : P.underlying t = some d) : (isAgg t).run P w = .ok d.isRow w := by
  unfold isAgg
  rw [Sem.run_bind, run_underlying hu w]
  cases d <;> rfl
theorem sizeOf_run {t : TypeId} {n : Nat} (h : szT P t = some n) : (sizeOf t).run P w = .ok n w := by
  obtain ⟨i, hi, rfl⟩ := of_szT P h
  simp [sizeOf, typeInfo, hi]

/-- a part of a struct's value -/
theorem part_ok {x d : D} {v : Value} {t : TypeId} {off : Nat} {s : Option Nat} {pl : Nat → Pl} (hx : RelD w g pl x v) (hg : isAggD x = true) (h : loadC (cellsOf x) off s = some d) (ho : osz P t s = true) :
    ∃ cs r, v = .agg cs ∧ (part t cs off).run P w = .ok r w ∧ ∀ pl, RelD w g pl d r := by
  have hgood : goodD x = true := by cases x <;> first | rfl | (simp [isAggD] at hg; done)
  have hv : ∃ cs, v = .agg cs := by
    cases hx <;> first | (simp [isAggD] at hg; done) | skip
    case v x hx => cases hx <;> first | (simp [isAggD] at hg; done) | exact ⟨_, rfl⟩
    case agg => exact ⟨_, rfl⟩
  obtain ⟨cs, rfl⟩ := hv
  obtain ⟨hl, hcell⟩ := hx.cells hgood
  have hl' : (cellsOf x).length = cs.size := hl
  have hc : ∀ i (h : i < (cellsOf x).length), (cellsOf x)[i].isCell = true ∧ RelD w g (fun _ => pl i) (cellsOf x)[i] (cs.getD i undef) := fun i hi => by
    have := hcell i hi
    have e : cs.getD i undef = cs[i]'(hl' ▸ hi) := by simp [Array.getD, hl' ▸ hi]
    rw [e]; exact this
  refine ⟨cs, ?_⟩
  rcases osz_true ho with ⟨d', n, h1, h2, h3, rfl⟩ | ⟨d', h1, h2, rfl, h3⟩
  · obtain ⟨hle, hr⟩ := loadC_agg hc h
    refine ⟨.agg (cs.extract off (off + n)), rfl, by simp [part, Sem.run_bind, isAgg_run h1, h2, sizeOf_run h3], fun pl => hr _ (by simp; omega) (fun i hi => ?_) pl⟩
    have hi' : i < n := by simp at hi; omega
    have hlt : off + i < cs.size := by omega
    simp [Array.getD, hlt]
  · obtain ⟨hlt, hr⟩ := loadC_one hc h
    have hlt' : off < cs.size := hl' ▸ hlt
    refine ⟨cs[off], rfl, by simp [part, Sem.run_bind, isAgg_run h1, h2, hlt'], fun pl => ?_⟩
    have := hr pl
    simpa [Array.getD, hlt'] using this

theorem fld_ok {x d : D} {v : Value} {t : TypeId} {fs : Array Field} {k off : Nat} {s : Option Nat} {q : Field} {pl : Nat → Pl} (hx : RelD w g pl x v) (h : opFld off s x = some d)
    (hu : uStruct P t = some fs) (hq : fs[k]? = some q) (ho : q.offset = off) (hs : osz P q.type s = true) : ∃ r, (Instr.field t v k).run P w = .ok r w ∧ ∀ pl, RelD w g pl d r := by
  unfold opFld at h
  split at h <;> first | (cases h; done) | skip
  rename_i hg
  obtain ⟨cs, r, rfl, h1, h2⟩ := part_ok hx hg h hs
  have hu := of_uStruct P hu
  exact ⟨r, by simp [Instr.field, run_underlying hu, hq, asAgg, ho, h1], h2⟩

theorem idxA_ok {x i d : D} {v u : Value} {t e : TypeId} {len sz : Nat} {s : Option Nat} {pl pl' : Nat → Pl} (hx : RelD w g pl x v) (hi : RelD w g pl' i u) (h : opIdxA len sz s i x = some d)
    (hu : uArr P t = some (len, e)) (hz : szT P e = some sz) (hs : osz P e s = true) : ∃ r, (Instr.index t v u).run P w = .ok r w ∧ ∀ pl, RelD w g pl d r := by
  obtain ⟨n, h1, h2⟩ := bind_some' h
  obtain ⟨kk, j, rfl, h5, h6, rfl, h7⟩ := ix_ok hi h1
  unfold opFld at h2
  split at h2 <;> first | (cases h2; done) | skip
  rename_i hg
  obtain ⟨cs, r, rfl, h3, h4⟩ := part_ok hx hg h2 hs
  have hu := of_uArr P hu
  exact ⟨r, by simp [Instr.index, asIntOf, run_underlying hu, h5, h6, Sem.run_bind, sizeOf_run hz, h3], h4⟩

/-! ### Loads -/
theorem load_run_agg {t : TypeId} {b o n : Nat} {d : TypeDesc} {f : Nat → Value} (hu : P.underlying t = some d) (hd : d.isRow = true) (hz : szT P t = some n) (hc : ∀ j, j < n → w.cell? ⟨b, o + j, none⟩ = some (f j)) :
    (Instr.loadAt t (.pointer (some ⟨b, o, none⟩))).run P w = .ok (.agg ((List.range n).map f).toArray) w := by
  refine run_loadAt_mid w b o t ((List.range n).map f) d (fun j v hv => ?_) hu hd (by simpa [szT] using hz)
  obtain ⟨hj, hv⟩ := List.getElem?_eq_some_iff.1 hv
  simp at hj hv
  rw [hc j hj, hv]
theorem load_run_one {t : TypeId} {b o : Nat} {d : TypeDesc} {v : Value} (hu : P.underlying t = some d) (hd : d.isRow = false) (hc : w.cell? ⟨b, o, none⟩ = some v) :
    (Instr.loadAt t (.pointer (some ⟨b, o, none⟩))).run P w = .ok v w := by
  simp [Instr.loadAt, Instr.sureAddr, loadVar, Sem.run_bind, isAgg_run hu, hd, hc]

theorem loadAt_ok {cs : List D} {b o off : Nat} {s : Option Nat} {d : D} {f : Nat → Value} {q : Nat → Nat → Pl} {t : TypeId} (hc : ∀ i (h : i < cs.length), cs[i].isCell = true ∧ RelD w g (q i) cs[i] (f i))
    (hm : ∀ i, i < cs.length → w.cell? ⟨b, o + i, none⟩ = some (f i)) (h : loadC cs off s = some d) (ho : osz P t s = true) :
    ∃ r, (Instr.loadAt t (.pointer (some ⟨b, o + off, none⟩))).run P w = .ok r w ∧ ∀ pl, RelD w g pl d r := by
  rcases osz_true ho with ⟨d', n, h1, h2, h3, rfl⟩ | ⟨d', h1, h2, rfl, h3⟩
  · obtain ⟨hle, hr⟩ := loadC_agg hc h
    refine ⟨_, load_run_agg (f := fun j => f (off + j)) h1 h2 h3 (fun j hj => by rw [Nat.add_assoc]; exact hm _ (by omega)), fun pl => hr _ (by simp) (fun i hi => by simp) pl⟩
  · obtain ⟨hlt, hr⟩ := loadC_one hc h
    exact ⟨_, load_run_one h1 h2 (hm _ hlt), hr⟩

/-- cells of pure data -/
theorem loadVs_eq (cs : List V) (off : Nat) (s : Option Nat) : loadVs cs off s = loadC (cs.map .v) off s := by
  cases s with
  | none => simp only [loadVs, loadC, List.getElem?_map, Option.map_map]; congr
  | some n =>
    simp only [loadVs, loadC, List.length_map]
    split
    · have : (((cs.map D.v).drop off).take n).map cp1 = (((cs.drop off).take n)).map .v := by
        rw [← List.map_drop, ← List.map_take, List.map_map]; rfl
      rw [this, mkAgg_map]
    · rfl

theorem load_ok {st : St} {p d : D} {v : Value} {s : Option Nat} {t : TypeId} {pl : Nat → Pl} (hS : RelS w g st) (hp : RelD w g pl p v) (h : opLoad st s p = some d) (ho : osz P t s = true) :
    ∃ r, (Instr.loadAt t v).run P w = .ok r w ∧ ∀ pl, RelD w g pl d r := by
  unfold opLoad at h
  split at h <;> first | (cases h; done) | skip
  · rename_i r i off
    obtain ⟨e, h1, h2⟩ := bind_some' h
    unfold rowAt at h1
    split at h1 <;> first | (cases h1; done) | skip
    rename_i xs hb
    obtain ⟨hi, rfl⟩ := List.getElem?_eq_some_iff.1 h1
    cases hp with | ptr _ _ _ _ hlv =>
    have hB := hS.blk r _ hb
    simp only [RelB] at hB
    have hBn := hB.1
    replace hB := hB.2
    obtain ⟨hl, hB⟩ := hB i hi
    refine loadAt_ok (f := fun j => (w.cell? ⟨g.be r, i * g.sz r + j, none⟩).getD undef) (q := fun j _ => .cell r i j) (fun j hj => ?_) (fun j hj => ?_) h2 ho
    · obtain ⟨h3, _, v, h4, h5, h6⟩ := hB j hj
      rw [h4]; exact ⟨h3, h6⟩
    · obtain ⟨h3, _, v, h4, h5, h6⟩ := hB j hj
      rw [h4]; rfl
  · rename_i cs off
    cases hp with | va _ _ _ b o f a1 a2 a3 a4 =>
    rw [loadVs_eq] at h
    refine loadAt_ok (f := f) (q := fun j _ => .nil) (fun j hj => ?_) (fun j hj => a2 j (by simpa using hj)) h ho
    simp only [List.getElem_map]
    exact ⟨a3 j (by simpa using hj), .v _ _ _ (a4 j (by simpa using hj))⟩
  · rename_i cs
    replace hp := hp.toV
    cases hp with | pt _ b o f a1 a2 a3 a4 =>
    rw [loadVs_eq] at h
    have := loadAt_ok (P := P) (g := g) (t := t) (b := b) (o := o) (off := 0) (f := f) (q := fun j _ => .nil) (fun j hj => ?_) (fun j hj => a2 j (by simpa using hj)) h ho
    · exact this
    · simp only [List.getElem_map]
      exact ⟨a3 j (by simpa using hj), .v _ _ _ (a4 j (by simpa using hj))⟩
end
end Go.Q
set_option linter.unusedVariables false
set_option linter.unusedSimpArgs false
set_option linter.unusedSectionVars false
namespace Go.Q
variable [Known]
section
variable {P : Program} {w : World} {g : Gh}

theorem toV_of1 {d : D} {x : V} (h : toV1 d = some x) : toV d = some x := by cases d <;> first | (cases h; done) | exact h
theorem toVs_at : ∀ {ds : List D} {xs : List V}, toVs ds = some xs → xs.length = ds.length ∧ ∀ i (h : i < ds.length) (h' : i < xs.length), toV1 ds[i] = some xs[i]
  | [], xs, h => by simp only [toVs] at h; cases h; exact ⟨rfl, fun i h => by simp at h⟩
  | d :: r, xs, h => by
    simp only [toVs] at h
    obtain ⟨x, h1, h2⟩ := bind_some' h
    obtain ⟨ys, h3, rfl⟩ := map_some' h2
    obtain ⟨h4, h5⟩ := toVs_at h3
    refine ⟨by simp [h4], fun i hi hi' => ?_⟩
    cases i with
    | zero => exact h1
    | succ i => exact h5 i (by simpa using hi) (by simpa using hi')
theorem toVL_at : ∀ {ds : List D} {xs : List V}, toVL ds = some xs → xs.length = ds.length ∧ ∀ i (h : i < ds.length) (h' : i < xs.length), toV ds[i] = some xs[i]
  | [], xs, h => by simp only [toVL] at h; cases h; exact ⟨rfl, fun i h => by simp at h⟩
  | d :: r, xs, h => by
    simp only [toVL] at h
    obtain ⟨x, h1, h2⟩ := bind_some' h
    obtain ⟨ys, h3, rfl⟩ := map_some' h2
    obtain ⟨h4, h5⟩ := toVL_at h3
    refine ⟨by simp [h4], fun i hi hi' => ?_⟩
    cases i with
    | zero => exact h1
    | succ i => exact h5 i (by simpa using hi) (by simpa using hi')

theorem toV1_rel {pl : Nat → Pl} {d : D} {x : V} {v : Value} (h : RelD w g pl d v) (hx : toV1 d = some x) : RelV w g.L x v ∧ (d.isCell = true → x.isCell = true) := by
  cases d <;> simp only [toV1] at hx <;> first | (cases hx; done) | skip
  · cases hx; exact ⟨h.toV, fun h => h⟩
  · cases hx; cases h; exact ⟨.slc0 _ _ _, fun _ => rfl⟩
  · cases hx; cases h; exact ⟨by assumption, fun _ => rfl⟩
theorem toV_rel {pl : Nat → Pl} {d : D} {x : V} {v : Value} (h : RelD w g pl d v) (hx : toV d = some x) : RelV w g.L x v := by
  cases d <;> simp only [toV] at hx <;> first | (cases hx; done) | skip
  · cases hx; exact h.toV
  · cases hx; cases h; exact .slc0 _ _ _
  · cases hx; cases h; assumption
  · obtain ⟨ys, h1, rfl⟩ := map_some' hx
    obtain ⟨h2, h3⟩ := toVs_at h1
    cases h with | agg _ ds cs hl hk hr =>
    refine .agg _ _ (by rw [h2, hl]) (fun i hi => ?_) (fun i hi => ?_)
    · exact (toV1_rel (hr i (by omega)) (h3 i (by omega) hi)).2 (hk _ _)
    · exact (toV1_rel (hr i (by omega)) (h3 i (by omega) hi)).1
theorem toV1_cell {d : D} {x : V} (hx : toV1 d = some x) (hk : d.isCell = true) : x.isCell = true := by
  cases d <;> simp only [toV1] at hx <;> first | (cases hx; done) | skip
  · cases hx; exact hk
  · cases hx; rfl
  · cases hx; rfl
theorem toV_cell {d : D} {x : V} (hx : toV d = some x) (hk : d.isCell = true) : x.isCell = true := by
  cases d <;> simp only [toV] at hx <;> first | (cases hx; done) | (simp [D.isCell] at hk; done) | skip
  · cases hx; exact hk
  · cases hx; rfl
  · cases hx; rfl
theorem toV_good {d : D} {x : V} (hx : toV d = some x) : goodD d = true := by cases d <;> first | rfl | cases hx
theorem toV_cells {e : D} {x : V} (hx : toV e = some x) (hk : ∀ j (h : j < (cellsOf e).length), (cellsOf e)[j].isCell = true) :
    (cellsV x).length = (cellsOf e).length ∧ ∀ j (h : j < (cellsOf e).length) (h' : j < (cellsV x).length), toV (cellsOf e)[j] = some (cellsV x)[j] ∧ ((cellsV x)[j]).isCell = true := by
  cases e <;> simp only [toV] at hx <;> first | (cases hx; done) | skip
  · cases hx
    simp only [cellsOf_v] at hk ⊢
    exact ⟨by simp, fun j h h' => ⟨by simp [toV], by have := hk j h; simpa [D.isCell] using this⟩⟩
  · cases hx; exact ⟨rfl, fun j h h' => by obtain rfl : j = 0 := by simpa [cellsOf] using h
                                           exact ⟨rfl, rfl⟩⟩
  · cases hx; exact ⟨rfl, fun j h h' => by obtain rfl : j = 0 := by simpa [cellsOf] using h
                                           exact ⟨rfl, rfl⟩⟩
  · rename_i ds
    obtain ⟨ys, h1, rfl⟩ := map_some' hx
    obtain ⟨h2, h3⟩ := toVs_at h1
    refine ⟨h2, fun j h h' => ?_⟩
    have h4 := h3 j h h'
    exact ⟨toV_of1 h4, toV1_cell h4 (hk j h)⟩

structure Els (w : World) (L : Nat → Nat) (sz : Nat) (ys : List V) (f : Nat → Nat → Value) : Prop where
  len : ∀ i (h : i < ys.length), (cellsV ys[i]).length = sz
  cell : ∀ i (h : i < ys.length) j (hj : j < (cellsV ys[i]).length), ((cellsV ys[i])[j]).isCell = true
  rel : ∀ i (h : i < ys.length) j (hj : j < (cellsV ys[i]).length), RelV w L (cellsV ys[i])[j] (f i j)
inductive SrcIs (w : World) (sz n : Nat) (f : Nat → Nat → Value) : Value → Prop
  | str (b : ByteArray) (hs : sz = 1) (hn : b.size = n) (hf : ∀ i (h : i < b.size), f i 0 = .int .u8 b[i].toNat) : SrcIs w sz n f (.string b)
  | sl (ad c) (hc : n ≤ c) (h : n ≠ 0 → ∃ b o, ad = some ⟨b, o, none⟩ ∧ ∀ i j, i < n → j < sz → w.cell? ⟨b, o + i * sz + j, none⟩ = some (f i j)) : SrcIs w sz n f (.slice ad n c)

theorem els_slc {sz : Nat} {ys : List V} {v : Value} (h : RelV w g.L (.slc sz ys) v) : ∃ f, Els w g.L sz ys f ∧ SrcIs w sz ys.length f v := by
  cases h with
  | slc0 _ a c => exact ⟨fun _ _ => undef, ⟨fun i h => by simp at h, fun i h => by simp at h, fun i h => by simp at h⟩, .sl _ _ (Nat.zero_le _) (fun h => by simp at h)⟩
  | slc _ _ b o c f h1 h2 h3 h4 h5 h6 => exact ⟨f, ⟨h2, h5, h6⟩, .sl _ _ h1 (fun _ => ⟨b, o, rfl, h4⟩)⟩

theorem rowOf_some {b : Option Blk} {xs : List D} (h : rowOf b = some xs) : b = some (.row xs) := by
  unfold rowOf at h; split at h <;> cases h; rfl

theorem elems_rel {st : St} {d : D} {v : Value} {sz : Nat} {ys : List V} {pl : Nat → Pl} (hS : RelS w g st) (hx : RelD w g pl d v) (h : elems sz st d = some ys) :
    ∃ f, Els w g.L sz ys f ∧ SrcIs w sz ys.length f v := by
  unfold elems at h
  split at h
  · rename_i s
    split at h <;> cases h
    rename_i hs
    obtain ⟨b, rfl, rfl⟩ := strOf hx
    refine ⟨fun i _ => .int .u8 ((b.data.toList[i]?).getD 0).toNat, ⟨fun i hi => by simp [cellsV, hs], fun i hi j hj => ?_, fun i hi j hj => ?_⟩, .str b hs (by simp) (fun i hi => ?_)⟩
    · simp only [List.getElem_map, cellsV] at hj ⊢
      obtain rfl : j = 0 := by simpa using hj
      rfl
    · simp only [List.getElem_map, cellsV] at hj ⊢
      obtain rfl : j = 0 := by simpa using hj
      have hi' : i < b.data.toList.length := by simpa using hi
      simp only [List.getElem_cons_zero, List.getElem?_eq_getElem hi', Option.getD_some]
      exact .int _ _
    · have hi' : i < b.data.toList.length := by simpa using hi
      simp only [List.getElem?_eq_getElem hi', Option.getD_some]
      rfl
  · rename_i z xs
    split at h <;> cases h
    rename_i hz
    subst hz
    exact els_slc hx.toV
  · obtain ⟨x, h1, h2⟩ := bind_some' h
    unfold slcOf at h2
    split at h2 <;> first | (cases h2; done) | skip
    split at h2 <;> cases h2
    rename_i z xs hz
    subst hz
    cases d <;> simp only [rdV] at h1 <;> first | (cases h1; done) | skip
    · cases h1; exact els_slc hx.toV
    · cases h1; cases hx; exact els_slc (.slc0 _ _ _)
    · cases h1; cases hx; exact els_slc (by assumption)
    · rename_i r z' off len fl n1 n2
      unfold rowV at h1
      split at h1 <;> first | (cases h1; done) | skip
      rename_i xs' hb
      split at h1 <;> first | (cases h1; done) | skip
      rename_i hle
      obtain ⟨ys', h3, h4⟩ := map_some' h1
      cases h4
      obtain ⟨h5, h6⟩ := toVL_at h3
      have hlen : ys.length = len := by rw [h5]; simp; omega
      cases hx with | own _ _ _ _ _ _ c ad hlv hc hzr ha =>
      have hB := hS.blk r _ hb
      simp only [RelB] at hB
      have hBn := hB.1
      replace hB := hB.2
      have cellAt : ∀ i, i < ys.length → off + i < xs'.length := fun i hi => by omega
      have key : ∀ i (hi : i < ys.length), toV (xs'[off + i]'(cellAt i hi)) = some ys[i] := fun i hi => by
        have := h6 i (by simp; omega) hi
        simpa using this
      have tc : ∀ i (hi : i < ys.length), _ := fun i hi => toV_cells (key i hi) (fun j hj => ((hB _ (cellAt i hi)).2 j hj).1)
      refine ⟨fun i j => (w.cell? ⟨g.be r, (off + i) * g.sz r + j, none⟩).getD undef, ⟨fun i hi => ?_, fun i hi j hj => ?_, fun i hi j hj => ?_⟩, ?_⟩
      · rw [(tc i hi).1, (hB _ (cellAt i hi)).1, hzr]
      · exact ((tc i hi).2 j (by rw [← (tc i hi).1]; exact hj) hj).2
      · have hj' : j < (cellsOf (xs'[off + i]'(cellAt i hi))).length := by rw [← (tc i hi).1]; exact hj
        obtain ⟨_, _, v, h7, h8, h9⟩ := (hB _ (cellAt i hi)).2 j hj'
        simp only [h7, Option.getD_some]
        exact toV_rel h9 ((tc i hi).2 j hj' hj).1
      · rw [hlen]
        refine .sl _ _ hc.1 (fun hn => ⟨_, _, congrArg some (ha hn), fun i j hi hj => ?_⟩)
        have hi' : i < ys.length := by omega
        have hj' : j < (cellsOf (xs'[off + i]'(cellAt i hi'))).length := by rw [(hB _ (cellAt i hi')).1, hzr]; exact hj
        obtain ⟨_, _, v, h7, h8, h9⟩ := (hB _ (cellAt i hi')).2 j hj'
        simp only [h7, Option.getD_some]
        rw [← h7]; congr 2
        rw [hzr, Nat.add_mul]
    · rename_i r k off len n1 n2
      unfold arrV at h1
      split at h1 <;> first | (cases h1; done) | skip
      rename_i e hb
      split at h1 <;> first | (cases h1; done) | skip
      rename_i hle
      obtain ⟨ys', h3, h4⟩ := map_some' h1
      cases h4
      obtain ⟨h5, h6⟩ := toVL_at h3
      have hlen : ys.length = len := by rw [h5]; simp; omega
      cases hx with | arr _ _ _ _ _ c ad hlv hc ha =>
      unfold rowAt at hb
      split at hb <;> first | (cases hb; done) | skip
      rename_i xs' hb'
      obtain ⟨hk, rfl⟩ := List.getElem?_eq_some_iff.1 hb
      have hB := hS.blk r _ hb'
      simp only [RelB] at hB
      have hBn := hB.1
      replace hB := hB.2
      obtain ⟨hl, hB⟩ := hB k hk
      have cellAt : ∀ i, i < ys.length → off + i < (cellsOf xs'[k]).length := fun i hi => by omega
      have key : ∀ i (hi : i < ys.length), toV ((cellsOf xs'[k])[off + i]'(cellAt i hi)) = some ys[i] := fun i hi => by
        have := h6 i (by simp; omega) hi
        simpa using this
      have hone : ∀ i (hi : i < ys.length), cellsV ys[i] = [ys[i]] ∧ ys[i].isCell = true := fun i hi => by
        obtain ⟨h7, _, v, h8, h9, h10⟩ := hB _ (cellAt i hi)
        have h11 := key i hi
        have : ys[i].isCell = true := toV_cell h11 h7
        exact ⟨by cases hy : ys[i] <;> first | rfl | (rw [hy] at this; simp [V.isCell] at this; done), this⟩
      refine ⟨fun i j => (w.cell? ⟨g.be r, k * g.sz r + (off + i), none⟩).getD undef, ⟨fun i hi => ?_, fun i hi j hj => ?_, fun i hi j hj => ?_⟩, ?_⟩
      · rw [(hone i hi).1]; rfl
      · simp only [(hone i hi).1] at hj ⊢
        obtain rfl : j = 0 := by simpa using hj
        exact (hone i hi).2
      · simp only [(hone i hi).1] at hj ⊢
        obtain rfl : j = 0 := by simpa using hj
        obtain ⟨h7, _, v, h8, h9, h10⟩ := hB _ (cellAt i hi)
        simp only [h8, Option.getD_some, List.getElem_cons_zero]
        exact toV_rel h10 (key i hi)
      · rw [hlen]
        refine .sl _ _ hc (fun hn => ⟨_, _, congrArg some (ha hn), fun i j hi hj => ?_⟩)
        obtain rfl : j = 0 := by omega
        obtain ⟨h7, _, v, h8, h9, h10⟩ := hB _ (cellAt i (by omega))
        simp only [h8, Option.getD_some]
        rw [← h8]; congr 2
        omega
    · rename_i ds
      simp only [toV] at h1
      obtain ⟨ys', _, h4⟩ := map_some' h1
      cases h4
end
end Go.Q
