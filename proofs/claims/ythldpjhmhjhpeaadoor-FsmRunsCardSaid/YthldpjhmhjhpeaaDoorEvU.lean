/- Fields, loads, literals, what is behind a slice: what the abstract machine tells of them holds. No condition. -/
import Derived.Test.YthldpjhmhjhpeaaDoorEvR
set_option linter.unusedVariables false
set_option linter.unusedSimpArgs false
set_option linter.unusedSectionVars false
namespace Go.Q
variable [Known]
section
variable {P : Program} {w : World} {g : Gh}

/-! ### Cells read one by one, or as a struct -/
theorem loadC_one {cs : List D} {off : Nat} {d : D} {f : Nat → Value} {q : Nat → Nat → Pl} (hc : ∀ i (h : i < cs.length), cs[i].isCell = true ∧ RelD w g (q i) cs[i] (f i)) (h : loadC cs off none = some d) :
    off < cs.length ∧ ∀ pl, RelD w g pl d (f off) := by
  obtain ⟨x, h1, rfl⟩ := map_some' h
  obtain ⟨hlt, rfl⟩ := List.getElem?_eq_some_iff.1 h1
  exact ⟨hlt, fun pl => (hc off hlt).2.cp⟩
theorem loadC_agg {cs : List D} {off n : Nat} {d : D} {f : Nat → Value} {q : Nat → Nat → Pl} (hc : ∀ i (h : i < cs.length), cs[i].isCell = true ∧ RelD w g (q i) cs[i] (f i)) (h : loadC cs off (some n) = some d) :
    off + n ≤ cs.length ∧ ∀ (vs : Array Value), vs.size = n → (∀ i (hi : i < vs.size), vs[i] = f (off + i)) → ∀ pl, RelD w g pl d (.agg vs) := by
  simp only [loadC] at h
  split at h <;> cases h
  rename_i hle
  refine ⟨hle, fun vs hs hv pl => ?_⟩
  have hlen : (((cs.drop off).take n).map cp1).length = n := by simp; omega
  refine mkAgg_rel (by rw [hlen, hs]) (fun i hi => ?_) (fun i hi => ?_)
  · rw [hlen] at hi
    simp only [List.getElem_map, List.getElem_take, List.getElem_drop]
    exact ((hc (off + i) (by omega)).2.cp1 (pl' := fun _ => .nil) (hc (off + i) (by omega)).1).2
  · rw [hlen] at hi
    simp only [List.getElem_map, List.getElem_take, List.getElem_drop, hv i (by omega)]
    exact ((hc (off + i) (by omega)).2.cp1 (hc (off + i) (by omega)).1).1

theorem osz_true {t : TypeId} {s : Option Nat} (h : osz P t s = true) : (∃ d n, P.underlying t = some d ∧ d.isRow = true ∧ szT P t = some n ∧ s = some n) ∨ (∃ d, P.underlying t = some d ∧ d.isRow = false ∧ s = none ∧ szT P t = some 1) := by
  unfold osz at h
  split at h
  · rename_i hu
    obtain ⟨d, h1, h2⟩ := of_uAgg_true P hu
    simp at h
    obtain ⟨h3, rfl⟩ := h
    obtain ⟨n, hn⟩ := Option.isSome_iff_exists.1 h3
    exact .inl ⟨d, n, h1, h2, hn, hn⟩
  · rename_i hu
    obtain ⟨d, h1, h2⟩ := of_uAgg_false P hu
    simp at h
    exact .inr ⟨d, h1, h2, h.1, h.2⟩
  · cases h

theorem isAgg_run {t : TypeId} {d : TypeDesc} (hu : P.underlying t = some d) : (isAgg t).run P w = .ok d.isRow w := by
  unfold isAgg
  rw [Sem.run_bind, run_underlying hu w]
  cases d <;> rfl
theorem sizeOf_run {t : TypeId} {n : Nat} (h : szT P t = some n) : (sizeOf t).run P w = .ok n w := by
  obtain ⟨i, hi, rfl⟩ := of_szT P h
  simp [sizeOf, typeInfo, hi]

/-- a part of a struct's value -/
theorem part_ok {x d : D} {v : Value} {t : TypeId} {off : Nat} {s : Option Nat} {pl : Nat → Pl} (hx : RelD w g pl x v) (hg : isAggD x = true) (h : loadC (cellsOf x) off s = some d) (ho : osz P t s = true) :
    ∃ cs r, v = .agg cs ∧ (part t cs off).run P w = .ok r w ∧ ∀ pl, RelD w g pl d r := by
  have hgood : goodD x = true := by cases x <;> first | rfl | (simp [isAggD] at hg; done)
  have hv : ∃ cs, v = .agg cs := by
    cases hx <;> first | (simp [isAggD] at hg; done) | skip
    case v x hx => cases hx <;> first | (simp [isAggD] at hg; done) | exact ⟨_, rfl⟩
    case agg => exact ⟨_, rfl⟩
  obtain ⟨cs, rfl⟩ := hv
  obtain ⟨hl, hcell⟩ := hx.cells hgood
  have hl' : (cellsOf x).length = cs.size := hl
  have hc : ∀ i (h : i < (cellsOf x).length), (cellsOf x)[i].isCell = true ∧ RelD w g (fun _ => pl i) (cellsOf x)[i] (cs.getD i undef) := fun i hi => by
    have := hcell i hi
    have e : cs.getD i undef = cs[i]'(hl' ▸ hi) := by simp [Array.getD, hl' ▸ hi]
    rw [e]; exact this
  refine ⟨cs, ?_⟩
  rcases osz_true ho with ⟨d', n, h1, h2, h3, rfl⟩ | ⟨d', h1, h2, rfl, h3⟩
  · obtain ⟨hle, hr⟩ := loadC_agg hc h
    refine ⟨.agg (cs.extract off (off + n)), rfl, by simp [part, Sem.run_bind, isAgg_run h1, h2, sizeOf_run h3], fun pl => hr _ (by simp; omega) (fun i hi => ?_) pl⟩
    have hi' : i < n := by simp at hi; omega
    have hlt : off + i < cs.size := by omega
    simp [Array.getD, hlt]
  · obtain ⟨hlt, hr⟩ := loadC_one hc h
    have hlt' : off < cs.size := hl' ▸ hlt
    refine ⟨cs[off], rfl, by simp [part, Sem.run_bind, isAgg_run h1, h2, hlt'], fun pl => ?_⟩
    have := hr pl
    simpa [Array.getD, hlt'] using this

theorem fld_ok {x d : D} {v : Value} {t : TypeId} {fs : Array Field} {k off : Nat} {s : Option Nat} {q : Field} {pl : Nat → Pl} (hx : RelD w g pl x v) (h : opFld off s x = some d)
    (hu : uStruct P t = some fs) (hq : fs[k]? = some q) (ho : q.offset = off) (hs : osz P q.type s = true) : ∃ r, (Instr.field t v k).run P w = .ok r w ∧ ∀ pl, RelD w g pl d r := by
  unfold opFld at h
  split at h <;> first | (cases h; done) | skip
  rename_i hg
  obtain ⟨cs, r, rfl, h1, h2⟩ := part_ok hx hg h hs
  have hu := of_uStruct P hu
  exact ⟨r, by simp [Instr.field, run_underlying hu, hq, asAgg, ho, h1], h2⟩

theorem idxA_ok {x i d : D} {v u : Value} {t e : TypeId} {len sz : Nat} {s : Option Nat} {pl pl' : Nat → Pl} (hx : RelD w g pl x v) (hi : RelD w g pl' i u) (h : opIdxA len sz s i x = some d)
    (hu : uArr P t = some (len, e)) (hz : szT P e = some sz) (hs : osz P e s = true) : ∃ r, (Instr.index t v u).run P w = .ok r w ∧ ∀ pl, RelD w g pl d r := by
  obtain ⟨n, h1, h2⟩ := bind_some' h
  obtain ⟨kk, j, rfl, h5, h6, rfl, h7⟩ := ix_ok hi h1
  unfold opFld at h2
  split at h2 <;> first | (cases h2; done) | skip
  rename_i hg
  obtain ⟨cs, r, rfl, h3, h4⟩ := part_ok hx hg h2 hs
  have hu := of_uArr P hu
  exact ⟨r, by simp [Instr.index, asIntOf, run_underlying hu, h5, h6, Sem.run_bind, sizeOf_run hz, h3], h4⟩

/-! ### Loads -/
theorem load_run_agg {t : TypeId} {b o n : Nat} {d : TypeDesc} {f : Nat → Value} (hu : P.underlying t = some d) (hd : d.isRow = true) (hz : szT P t = some n) (hc : ∀ j, j < n → w.cell? ⟨b, o + j, none⟩ = some (f j)) :
    (Instr.loadAt t (.pointer (some ⟨b, o, none⟩))).run P w = .ok (.agg ((List.range n).map f).toArray) w := by
  refine run_loadAt_mid w b o t ((List.range n).map f) d (fun j v hv => ?_) hu hd (by simpa [szT] using hz)
  obtain ⟨hj, hv⟩ := List.getElem?_eq_some_iff.1 hv
  simp at hj hv
  rw [hc j hj, hv]
theorem load_run_one {t : TypeId} {b o : Nat} {d : TypeDesc} {v : Value} (hu : P.underlying t = some d) (hd : d.isRow = false) (hc : w.cell? ⟨b, o, none⟩ = some v) :
    (Instr.loadAt t (.pointer (some ⟨b, o, none⟩))).run P w = .ok v w := by
  simp [Instr.loadAt, Instr.sureAddr, loadVar, Sem.run_bind, isAgg_run hu, hd, hc]

theorem loadAt_ok {cs : List D} {b o off : Nat} {s : Option Nat} {d : D} {f : Nat → Value} {q : Nat → Nat → Pl} {t : TypeId} (hc : ∀ i (h : i < cs.length), cs[i].isCell = true ∧ RelD w g (q i) cs[i] (f i))
    (hm : ∀ i, i < cs.length → w.cell? ⟨b, o + i, none⟩ = some (f i)) (h : loadC cs off s = some d) (ho : osz P t s = true) :
    ∃ r, (Instr.loadAt t (.pointer (some ⟨b, o + off, none⟩))).run P w = .ok r w ∧ ∀ pl, RelD w g pl d r := by
  rcases osz_true ho with ⟨d', n, h1, h2, h3, rfl⟩ | ⟨d', h1, h2, rfl, h3⟩
  · obtain ⟨hle, hr⟩ := loadC_agg hc h
    refine ⟨_, load_run_agg (f := fun j => f (off + j)) h1 h2 h3 (fun j hj => by rw [Nat.add_assoc]; exact hm _ (by omega)), fun pl => hr _ (by simp) (fun i hi => by simp) pl⟩
  · obtain ⟨hlt, hr⟩ := loadC_one hc h
    exact ⟨_, load_run_one h1 h2 (hm _ hlt), hr⟩

/-- cells of pure data -/
theorem loadVs_eq (cs : List V) (off : Nat) (s : Option Nat) : loadVs cs off s = loadC (cs.map .v) off s := by
  cases s with
  | none => simp only [loadVs, loadC, List.getElem?_map, Option.map_map]; congr
  | some n =>
    simp only [loadVs, loadC, List.length_map]
    split
    · have : (((cs.map D.v).drop off).take n).map cp1 = (((cs.drop off).take n)).map .v := by
        rw [← List.map_drop, ← List.map_take, List.map_map]; rfl
      rw [this, mkAgg_map]
    · rfl

theorem load_ok {st : St} {p d : D} {v : Value} {s : Option Nat} {t : TypeId} {pl : Nat → Pl} (hS : RelS w g st) (hp : RelD w g pl p v) (h : opLoad st s p = some d) (ho : osz P t s = true) :
    ∃ r, (Instr.loadAt t v).run P w = .ok r w ∧ ∀ pl, RelD w g pl d r := by
  unfold opLoad at h
  split at h <;> first | (cases h; done) | skip
  · rename_i r i off
    obtain ⟨e, h1, h2⟩ := bind_some' h
    unfold rowAt at h1
    split at h1 <;> first | (cases h1; done) | skip
    rename_i xs hb
    obtain ⟨hi, rfl⟩ := List.getElem?_eq_some_iff.1 h1
    cases hp with | ptr _ _ _ _ hlv =>
    have hB := hS.blk r _ hb
    simp only [RelB] at hB
    have hBn := hB.1
    replace hB := hB.2
    obtain ⟨hl, hB⟩ := hB i hi
    refine loadAt_ok (f := fun j => (w.cell? ⟨g.be r, i * g.sz r + j, none⟩).getD undef) (q := fun j _ => .cell r i j) (fun j hj => ?_) (fun j hj => ?_) h2 ho
    · obtain ⟨h3, _, v, h4, h5, h6⟩ := hB j hj
      rw [h4]; exact ⟨h3, h6⟩
    · obtain ⟨h3, _, v, h4, h5, h6⟩ := hB j hj
      rw [h4]; rfl
  · rename_i cs off
    cases hp with | va _ _ _ b o f a1 a2 a3 a4 =>
    rw [loadVs_eq] at h
    refine loadAt_ok (f := f) (q := fun j _ => .nil) (fun j hj => ?_) (fun j hj => a2 j (by simpa using hj)) h ho
    simp only [List.getElem_map]
    exact ⟨a3 j (by simpa using hj), .v _ _ _ (a4 j (by simpa using hj))⟩
  · rename_i cs
    replace hp := hp.toV
    cases hp with | pt _ b o f a1 a2 a3 a4 =>
    rw [loadVs_eq] at h
    have := loadAt_ok (P := P) (g := g) (t := t) (b := b) (o := o) (off := 0) (f := f) (q := fun j _ => .nil) (fun j hj => ?_) (fun j hj => a2 j (by simpa using hj)) h ho
    · exact this
    · simp only [List.getElem_map]
      exact ⟨a3 j (by simpa using hj), .v _ _ _ (a4 j (by simpa using hj))⟩
end
end Go.Q
