/- append. No condition. -/
import Derived.Test.YtmbdamompcdolaaDoorEvI
import Derived.Deep.Upon
set_option linter.unusedVariables false
set_option linter.unusedSimpArgs false
set_option linter.unusedSectionVars false
namespace Go.Q
variable [Known]
section
variable {P : Program} {w : World} {g : Gh} {μ : List Nat} {τ : List (Option Nat)} {env ts : List D} {st : St} {a : Act} {o : Oper}

def Els2 (n : Nat) (fx f : Nat → Nat → Value) (i j : Nat) : Value := if i < n then fx i j else f (i - n) j
theorem Els.append {L : Nat → Nat} {sz : Nat} {xs ys : List V} {fx f : Nat → Nat → Value} (h : Els w L sz xs fx) (k : Els w L sz ys f) : Els w L sz (xs ++ ys) (Els2 xs.length fx f) where
  len := fun i hi => by
    rw [List.getElem_append]; split
    · exact h.len _ _
    · exact k.len _ _
  cell := fun i hi j hj => by
    by_cases h1 : i < xs.length
    · simp only [List.getElem_append_left h1] at hj ⊢
      exact h.cell i h1 j hj
    · simp only [List.getElem_append_right (Nat.le_of_not_lt h1)] at hj ⊢
      exact k.cell _ _ j hj
  rel := fun i hi j hj => by
    by_cases h1 : i < xs.length
    · simp only [List.getElem_append_left h1, Els2, h1, if_true] at hj ⊢
      exact h.rel i h1 j hj
    · simp only [List.getElem_append_right (Nat.le_of_not_lt h1), Els2, h1, if_false] at hj ⊢
      exact k.rel _ _ j hj

theorem mul_at {n i j sz : Nat} (hi : i < n) (hj : j < sz) : i * sz + j < n * sz := by
  have : (i + 1) * sz ≤ n * sz := Nat.mul_le_mul_right _ (by omega)
  rw [Nat.add_mul] at this; omega

theorem Els.mono {L L' : Nat → Nat} {w' : World} {sz : Nat} {ys : List V} {f : Nat → Nat → Value} (h : Els w L sz ys f) (hm : ∀ x v, RelV w L x v → RelV w' L' x v) : Els w' L' sz ys f :=
  ⟨h.len, h.cell, fun i hi j hj => hm _ _ (h.rel i hi j hj)⟩

theorem cellL_one {L : Nat → Nat} {sz : Nat} {ys : List V} {f : Nat → Nat → Value} (E : Els w L sz ys f) : ∀ u ∈ cellL ys.length sz f, u.oneCell' = true := by
  intro u hu
  simp only [cellL, List.mem_map, List.mem_range] at hu
  obtain ⟨k, hk, rfl⟩ := hu
  have hsz : 0 < sz := Nat.pos_of_ne_zero fun e => by rw [e, Nat.mul_zero] at hk; omega
  have hi : k / sz < ys.length := Nat.div_lt_of_lt_mul (by rw [Nat.mul_comm]; exact hk)
  have hj : k % sz < (cellsV ys[k / sz]).length := by rw [E.len _ hi]; exact Nat.mod_lt _ hsz
  exact (E.rel _ hi _ hj).one (E.cell _ hi _ hj)
theorem cellL_src {n sz b o : Nat} {f : Nat → Nat → Value} (h : ∀ i j, i < n → j < sz → w.cell? ⟨b, o + i * sz + j, none⟩ = some (f i j)) : ∀ k u, (cellL n sz f)[k]? = some u → w.cell? ((⟨b, o, none⟩ : Addr).add k) = some u := by
  intro k u hu
  have hk : k < n * sz := by
    have := (List.getElem?_eq_some_iff.1 hu).1
    rwa [cellL_len] at this
  have hsz : 0 < sz := Nat.pos_of_ne_zero fun e => by rw [e, Nat.mul_zero] at hk; omega
  have hi : k / sz < n := Nat.div_lt_of_lt_mul (by rw [Nat.mul_comm]; exact hk)
  have hj := Nat.mod_lt k hsz
  have e : k / sz * sz + k % sz = k := by rw [Nat.mul_comm]; exact Nat.div_add_mod k sz
  have h1 := cellL_at f hi hj
  rw [e, hu] at h1
  rw [add_at, Option.some.inj h1, ← h _ _ hi hj, Nat.add_assoc, e]

theorem src_of {u : TypeId} {sz : Nat} {ys : List V} {f : Nat → Nat → Value} {v : Value} (E : Els w g.L sz ys f) (S : SrcIs w sz ys.length f v) (hu : (uStr P u || (uSlc P u).isSome) = true) :
    Src P sz u v ys.length (cellL ys.length sz f) w := by
  have kind : (∃ e', P.underlying u = some (.slice e')) ∨ P.underlying u = some .string := by
    simp only [Bool.or_eq_true] at hu
    rcases hu with hu | hu
    · exact .inr (of_uStr P hu)
    · obtain ⟨e, he⟩ := Option.isSome_iff_exists.1 hu
      exact .inl ⟨e, of_uSlc P he⟩
  have hone := cellL_one E
  cases S with
  | str b hs hn hf =>
    subst hs
    have e : cellL ys.length 1 f = byteCells b := by
      refine List.ext_getElem (by rw [cellL_len, byteCells_length, hn, Nat.mul_one]) fun k h1 h2 => ?_
      rw [byteCells_length] at h2
      have := cellL_at (n := ys.length) (sz := 1) (i := k) (j := 0) f (by omega) (by omega)
      rw [Nat.mul_one, Nat.add_zero, List.getElem?_eq_getElem h1] at this
      rw [Option.some.inj this, hf k h2]
      simp [byteCells]
      rfl
    rw [e] at hone ⊢
    rw [← hn]
    exact ⟨kind, fun _ => rfl, firstCells_string b w, firstCells_string b w.drew, by rw [byteCells_length, Nat.mul_one], hone⟩
  | sl ad c hc hcell =>
    cases ad with
    | none =>
      have h0 : ys.length = 0 := Classical.byContradiction fun h => by obtain ⟨_, _, h1, _⟩ := hcell h; cases h1
      rw [h0] at hone ⊢
      have e : cellL 0 sz f = [] := by simp [cellL]
      rw [e] at hone ⊢
      exact ⟨kind, fun _ => rfl, run_firstCells_none w sz 0 0 c, run_firstCells_none w.drew sz 0 0 c, by simp, hone⟩
    | some ad =>
      have hnews : ∀ k u, (cellL ys.length sz f)[k]? = some u → w.cell? (ad.add k) = some u := by
        intro k u hk
        have h0 : ys.length ≠ 0 := fun e => by rw [e] at hk; simp [cellL] at hk
        obtain ⟨b, o, h1, h2⟩ := hcell h0
        cases h1
        exact cellL_src h2 k u hk
      exact ⟨kind, fun _ => rfl, run_firstCells_some w sz _ ad _ c _ (cellL_len _ _ _) hnews, run_firstCells_some w.drew sz _ ad _ c _ (cellL_len _ _ _) hnews, cellL_len _ _ _, hone⟩

theorem tape_setCells (g : Nat) : ∀ (vs : List Value) (o : Nat) (w : World), (w.setCells g o vs).tape = w.tape ∧ (w.setCells g o vs).heap.size = w.heap.size
  | [], o, w => ⟨rfl, rfl⟩
  | v :: r, o, w => by
    rw [World.setCells]
    obtain ⟨h1, h2⟩ := tape_setCells g r (o + 1) (w.setCell ⟨g, o, none⟩ v)
    rw [h1, h2]
    unfold World.setCell
    constructor
    · split <;> rfl
    · split <;> simp

/-- into the room behind it -/
theorem room_core {sz b off cap : Nat} {xs ys : List V} {f : Nat → Nat → Value} {tmps : Array Value} (h : RelA w g μ τ env ts st tmps) (hx : RelV w g.L (.slc sz xs) (.slice (some ⟨b, off, none⟩) xs.length cap))
    (ho : g.own b = some (.tmp τ.length 0)) (hL : g.L b = off + xs.length * sz) (hs : ∀ j, j < off + cap * sz → (w.cell? ⟨b, j, none⟩).isSome = true ∧ w.frozen? ⟨b, j, none⟩ = false)
    (E : Els w g.L sz ys f) (hroom : xs.length + ys.length ≤ cap) :
    Post w g μ τ tmps (.lin sz (xs ++ ys), env, ts, st) (.slice (some ⟨b, off, none⟩) (xs.length + ys.length) cap) (w.setCells b (off + xs.length * sz) (cellL ys.length sz f)) := by
  obtain ⟨hM, hbs⟩ := h.s.own b _ ho
  obtain ⟨ht, hsz⟩ := tape_setCells b (cellL ys.length sz f) (off + xs.length * sz) w
  generalize hw' : w.setCells b (off + xs.length * sz) (cellL ys.length sz f) = w' at ht hsz ⊢
  have e1 : (xs.length + ys.length) * sz = xs.length * sz + ys.length * sz := Nat.add_mul _ _ _
  have hcapz : (xs.length + ys.length) * sz ≤ cap * sz := Nat.mul_le_mul_right _ hroom
  let g' : Gh := { g with L := fun x => if x = b then off + (xs.length + ys.length) * sz else g.L x }
  have hLb : g'.L b = off + (xs.length + ys.length) * sz := by simp [g']
  have hLo : ∀ x, x ≠ b → g'.L x = g.L x := fun x hx => by simp [g', hx]
  have hout : ∀ b' o', (b' = b → o' < g.L b ∨ off + (xs.length + ys.length) * sz ≤ o') → w'.cell? ⟨b', o', none⟩ = w.cell? ⟨b', o', none⟩ := fun b' o' hh => by
    rw [← hw']
    refine World.cell?_setCells_out b _ _ w _ fun h1 _ => ?_
    rw [cellL_len]
    rcases hh h1 with h2 | h2
    · left; show o' < _; omega
    · right; show _ ≤ o'; omega
  have hfr : ∀ x, w'.frozen? x = w.frozen? x := fun x => by rw [← hw']; exact World.frozen?_setCells b _ _ w x
  have hsome : ∀ x, (w.cell? x).isSome = true → (w'.cell? x).isSome = true := fun x hx => by rw [← hw']; exact World.isSome_setCells b _ _ w x hx
  have hsz9 : w.heap.size ≤ w'.heap.size := by rw [← hw']; exact Nat.le_of_eq (tape_setCells _ _ _ _).2.symm
  have hheap : ∀ i, i < w.heap.size → i ≠ b → w'.heap[i]? = w.heap[i]? := fun i h1 h2 => by rw [← hw']; exact World.heap_setCells_other w b _ _ h1 h2
  have keeps : Keeps w w' g g' := ⟨fun b' o' hh => hout b' o' (fun e => .inl (e ▸ hh)), fun b' => by
    by_cases e : b' = b
    · subst e; rw [hLb, hL]; omega
    · rw [hLo _ e]; exact Nat.le_refl _⟩
  have kpl : ∀ pl : Nat → Pl, (∀ k, pl k ≠ .tmp τ.length 0) → KeepsPl w w' g g' pl := fun pl hpl b' k hb => by
    have hne : b' ≠ b := fun e => by rw [e, ho] at hb; exact hpl k (Option.some.inj hb).symm
    exact ⟨hb, hLo _ hne, fun o' => ⟨hsome _, fun hh => by rw [hfr]; exact hh⟩⟩
  have mono : ∀ {pl : Nat → Pl} {d : D} {v : Value}, (∀ k, pl k ≠ .tmp τ.length 0) → RelD w g pl d v → RelD w' g' pl d v := fun hpl hd =>
    hd.mono keeps h.s.nil (kpl _ hpl) (fun r hr => ⟨hr, rfl, rfl, rfl⟩)
  have hbe : ∀ r, g.live r → g.be r ≠ b := fun r hr e => by
    have := (h.s.be r hr).2.2.1
    rw [e, ho] at this; cases this
  have hS : RelS w' g' st := by
    refine ⟨h.s.live, fun r bl hb => ?_, fun r hr => ?_, h.s.inj, fun b' p hb => ?_, h.s.nil, fun b' hb => ?_, gl_keep keeps.cell keeps.L hsz9 (fun i hi hm => ⟨hm, hheap i hi (fun e => hm (by rw [e]; exact (h.s.own b _ ho).1))⟩) h.s.gl⟩
    · have hr : g.live r := (h.s.live r).2 ⟨_, hb⟩
      have hB := h.s.blk r bl hb
      cases bl with
      | mp es =>
        obtain ⟨arr, clock, h8, h9, h10⟩ := hB
        refine ⟨arr, clock, by show w'.heap[g.be r]? = _; rw [hheap _ (h.s.be r hr).2.2.2 (hbe r hr)]; exact h8, h9, fun i hi hi' => ?_⟩
        obtain ⟨h11, h12, h13⟩ := h10 i hi hi'
        exact ⟨h11, h12, mono (fun k => by simp) h13⟩
      | row zs =>
        simp only [RelB] at hB ⊢
        refine ⟨hB.1, fun i hi => ?_⟩
        obtain ⟨h2, h3⟩ := hB.2 i hi
        refine ⟨h2, fun j hj => ?_⟩
        obtain ⟨h4, h5, v, h6, h7, h8⟩ := h3 j hj
        refine ⟨h4, h5, v, ?_, by rw [hfr]; exact h7, mono (fun k => by simp) h8⟩
        show w'.cell? ⟨g.be r, i * g.sz r + j, none⟩ = some v
        rw [hout _ _ (fun e => absurd e (hbe r hr))]; exact h6
    · obtain ⟨h1, h2, h3, h4⟩ := h.s.be r hr
      exact ⟨h1, by show g'.L (g.be r) = 0; rw [hLo _ (hbe r hr)]; exact h2, h3, by rw [hsz]; exact h4⟩
    · obtain ⟨h1, h2⟩ := h.s.own b' p hb
      exact ⟨h1, by rw [hsz]; exact h2⟩
    · rw [hsz] at hb
      obtain ⟨h1, h2⟩ := h.s.fresh b' hb
      exact ⟨by rw [hLo _ (by omega)]; exact h1, h2⟩
  have hext : Ext w w' g g' := ⟨by rw [← hw']; exact World.os_setCells _ _ _ _, ht, by rw [← hw']; exact World.output_setCells _ _ _ _, by omega, keeps.cell, keeps.L, fun b' hb hm => by
    have hne : b' ≠ b := fun e => hm (e ▸ hM)
    exact ⟨hheap b' hb hne, hLo _ hne, hm⟩, fun r hr => ⟨hr, rfl, rfl, rfl⟩⟩
  obtain ⟨fx, Ex, Sx⟩ := els_slc hx
  have hcx : xs.length ≠ 0 → ∀ i j, i < xs.length → j < sz → w.cell? ⟨b, off + i * sz + j, none⟩ = some (fx i j) := fun h0 => by
    cases Sx with | sl _ _ _ hcell =>
    obtain ⟨b', o', h1, h2⟩ := hcell h0
    cases h1; exact h2
  have EE := (Ex.append E).mono (w' := w') (L' := g'.L) (fun x v hh => hh.mono keeps.cell keeps.L)
  refine ⟨g', hext, ⟨hS, fun i t hi => mono (fun k => by simp) (h.e i t hi), fun j t hj => mono (fun k => ?_) (h.t j t hj)⟩, .lin _ sz _ _ ?_ ?_⟩
  · have := idxOf_lt hj
    intro e
    have := (Pl.tmp.inj e).1
    omega
  · have := RelV.slc sz (xs ++ ys) b off cap (Els2 xs.length fx f) (w := w') (L := g'.L) (by simpa using hroom) EE.len (fun i j hi hj => ?_) (fun i j hi hj => ?_) EE.cell EE.rel
    · rw [List.length_append] at this; exact this
    · rw [List.length_append] at hi
      have := mul_at hi hj
      rw [hLb]; omega
    · rw [List.length_append] at hi
      by_cases h1 : i < xs.length
      · have h2 := mul_at h1 hj
        rw [hout _ _ (fun _ => .inl (by omega)), hcx (by omega) i j h1 hj]
        simp [Els2, h1]
      · have h3 : i - xs.length < ys.length := by omega
        have h4 := cellL_at f h3 hj
        obtain ⟨h5, h6⟩ := List.getElem?_eq_some_iff.1 h4
        have h7 := World.cell?_setCells_in b (cellL ys.length sz f) (off + xs.length * sz) w (fun q hq => by
          rw [cellL_len] at hq
          exact (hs _ (by omega)).1) _ h5
        rw [hw', h6] at h7
        have e2 : i * sz = xs.length * sz + (i - xs.length) * sz := by rw [← Nat.add_mul]; congr 1; omega
        have e3 : off + i * sz + j = off + xs.length * sz + ((i - xs.length) * sz + j) := by omega
        rw [e3, h7]
        simp [Els2, h1]
  · refine .inr ⟨b, off, rfl, ho, hLb, hroom, fun j hj => ⟨hsome _ (hs j hj).1, by rw [hfr]; exact (hs j hj).2⟩⟩
end
end Go.Q

namespace Go.Q
variable [Known]
section
variable {P : Program} {w : World} {g : Gh} {μ : List Nat} {τ : List (Option Nat)} {env ts : List D} {st : St} {a : Act} {o : Oper}

/-- into a new row -/
theorem grow_core {sz cap : Nat} {base : Option Addr} {xs ys : List V} {f : Nat → Nat → Value} {tmps : Array Value} {e u ty t : TypeId} {inf : TypeInfo} {zv v : Value} (h : RelA w g μ τ env ts st tmps) (hx : RelV w g.L (.slc sz xs) (.slice base xs.length cap))
    (E : Els w g.L sz ys f) (S : Src P sz u v ys.length (cellL ys.length sz f) w) (hcap : xs.length ≤ cap) (hroom : cap < xs.length + ys.length) (ht : P.underlying t = some (.slice e)) (hi : P.info? e = some inf)
    (hs : inf.size = sz) (hzv : inf.zero = some zv) (hz : zv.cells.size = sz) (hb0 : inf.bytes ≠ 0) (hby : (xs.length + ys.length) * inf.bytes ≤ maxB) :
    ∃ r w', (Builtin.append_ #[t, u] ty #[.slice base xs.length cap, v]).run P w = .ok r w' ∧ Post w g μ τ tmps (.lin sz (xs ++ ys), env, ts, st) r w' := by
  subst hs
  obtain ⟨fx, Ex, Sx⟩ := els_slc hx
  have hold : (Builtin.firstCells inf.size xs.length (.slice base xs.length cap)).run P w.drew = .ok (cellL xs.length inf.size fx).toArray w.drew := by
    cases Sx with | sl _ _ hc hcell =>
    cases base with
    | none =>
      have h0 : xs.length = 0 := Classical.byContradiction fun h => by obtain ⟨_, _, h1, _⟩ := hcell h; cases h1
      rw [h0]
      have e : cellL 0 inf.size fx = [] := by simp [cellL]
      rw [e]
      exact run_firstCells_none w.drew inf.size 0 0 cap
    | some ad =>
      refine run_firstCells_some w.drew inf.size _ ad _ cap _ (cellL_len _ _ _) fun k u' hk => ?_
      have h0 : xs.length ≠ 0 := fun e => by rw [e] at hk; simp [cellL] at hk
      obtain ⟨b, o, h1, h2⟩ := hcell h0
      cases h1
      exact cellL_src (w := w.drew) h2 k u' hk
  have h63 : ((xs.length + ys.length : Nat) : Int) ≤ 9223372036854775807 := by
    have h5 : (xs.length + ys.length) * 1 ≤ (xs.length + ys.length) * inf.bytes := Nat.mul_le_mul_left _ (by omega)
    have : maxB = 140737488355328 := rfl
    omega
  refine ⟨_, _, run_append_grow_src w t u ty e inf zv ht hi hzv base xs.length cap _ hold v ys.length _ S hroom h63 (growslice_fits hroom hby), ?_⟩
  have hge := grownCap_ge w (xs.length + ys.length) cap e
  have e1 : (xs.length + ys.length) * inf.size = xs.length * inf.size + ys.length * inf.size := Nat.add_mul _ _ _
  have hlen : (cellL xs.length inf.size fx ++ cellL ys.length inf.size f).length = (xs.length + ys.length) * inf.size := by rw [List.length_append, cellL_len, cellL_len, e1]
  have hsize : ((cellL xs.length inf.size fx ++ cellL ys.length inf.size f).toArray ++ Builtin.zeroCells zv.cells (grownCap w (xs.length + ys.length) cap e - (xs.length + ys.length))).size = grownCap w (xs.length + ys.length) cap e * inf.size := by
    rw [Array.size_append, List.size_toArray, hlen, size_zeroCells, hz, ← Nat.add_mul]
    congr 1; omega
  have := new_lin (sz := inf.size) (c := grownCap w (xs.length + ys.length) cap e) (ob := .cells ((cellL xs.length inf.size fx ++ cellL ys.length inf.size f).toArray ++ Builtin.zeroCells zv.cells (grownCap w (xs.length + ys.length) cap e - (xs.length + ys.length))) e) 1 h (Ex.append E) (by rw [List.length_append]; exact hge)
    (fun i j hi' hj => by
      rw [List.length_append] at hi'
      show (w.drew.alloc _).cell? ⟨w.drew.heap.size, _, none⟩ = _
      have h1 := mul_at hi' hj
      rw [World.cell?_alloc_new, Array.getElem?_append_left (by rw [List.size_toArray, hlen]; exact h1), List.getElem?_toArray]
      by_cases h2 : i < xs.length
      · rw [List.getElem?_append_left (by rw [cellL_len]; exact mul_at h2 hj), cellL_at fx h2 hj]
        simp [Els2, h2]
      · have h3 : i - xs.length < ys.length := by omega
        have e2 : i * inf.size = xs.length * inf.size + (i - xs.length) * inf.size := by rw [← Nat.add_mul]; congr 1; omega
        rw [List.getElem?_append_right (by rw [cellL_len]; omega), cellL_len]
        have e3 : i * inf.size + j - xs.length * inf.size = (i - xs.length) * inf.size + j := by omega
        rw [e3, cellL_at f h3 hj]
        simp [Els2, h2])
    (fun j hj => by
      show ((w.drew.alloc _).cell? ⟨w.drew.heap.size, _, none⟩).isSome = true ∧ (w.drew.alloc _).frozen? ⟨w.drew.heap.size, _, none⟩ = false
      rw [World.cell?_alloc_new, World.frozen?_alloc_new]
      refine ⟨?_, rfl⟩
      rw [Array.getElem?_eq_getElem (by rw [hsize]; exact hj)]
      rfl)
  rw [List.length_append] at this
  exact this

theorem app_core {sz cap : Nat} {base : Option Addr} {xs ys : List V} {f : Nat → Nat → Value} {tmps : Array Value} {e u ty t : TypeId} {inf : TypeInfo} {zv v : Value} (h : RelA w g μ τ env ts st tmps) (hx : RelD w g (.tmp τ.length) (.lin sz xs) (.slice base xs.length cap))
    (E : Els w g.L sz ys f) (S : Src P sz u v ys.length (cellL ys.length sz f) w) (hcap : xs.length ≤ cap) (ht : P.underlying t = some (.slice e)) (hi : P.info? e = some inf)
    (hs : inf.size = sz) (hzv : inf.zero = some zv) (hz : zv.cells.size = sz) (hb0 : inf.bytes ≠ 0) (hby : (xs.length + ys.length) * inf.bytes ≤ maxB) :
    ∃ r w', (Builtin.append_ #[t, u] ty #[.slice base xs.length cap, v]).run P w = .ok r w' ∧ Post w g μ τ tmps (.lin sz (xs ++ ys), env, ts, st) r w' := by
  have hx' := hx
  cases hx with | lin _ _ _ _ hv hsp =>
  by_cases h0 : ys.length = 0
  · have : ys = [] := List.length_eq_zero_iff.1 h0
    subst this
    have e' : cellL ([] : List V).length sz f = [] := by simp [cellL]
    rw [e'] at S
    refine ⟨_, _, run_append_nothing w t u ty e inf ht hi base xs.length cap hcap v (hs.symm ▸ S), g, Ext.refl w g, h, ?_⟩
    rw [List.append_nil]; exact hx'
  · by_cases hroom : xs.length + ys.length ≤ cap
    · rcases hsp with hsp | ⟨b, off, h1, h2, h3, h4, h5⟩
      · omega
      · subst h1
        subst hs
        have e1 : (xs.length + ys.length) * inf.size = xs.length * inf.size + ys.length * inf.size := Nat.add_mul _ _ _
        have hcapz : (xs.length + ys.length) * inf.size ≤ cap * inf.size := Nat.mul_le_mul_right _ hroom
        exact ⟨_, _, run_append_room_src w t u ty e inf ht hi b off xs.length cap v ys.length _ S hroom (fun j hj => by rw [cellL_len] at hj; exact (h5 _ (by omega)).1) (fun j hj => by rw [cellL_len] at hj; exact (h5 _ (by omega)).2),
          room_core h hv h2 h3 h5 E hroom⟩
    · exact grow_core h hv E S hcap (by omega) ht hi hs hzv hz hb0 hby

theorem builtinOf_eq {c : Call} {b : Builtin} (h : builtinOf c = some b) : c.callee = .builtin b := by
  unfold builtinOf at h; split at h <;> cases h; assumption

theorem app_ok (h : RelA w g μ τ env ts st a.tmps) (hts : ts.length = τ.length) {c : Call} {x y : Operand} {t u e : TypeId} {x' y' : Opd} {sz bytes : Nat} {q : Rg} {R : Run} {inf : TypeInfo} {zv : Value} (hop : o.op = .call c)
    (hb : builtinOf c = some .append) (ha : c.args.toList = [x, y]) (hat : c.argTypes.toList = [t, u]) (hx : chkO μ τ x x' = true) (hy : chkO μ τ y y' = true) (ht : uSlc P t = some e) (hi : P.info? e = some inf)
    (hs : inf.size = sz) (hby : inf.bytes = bytes) (hb0 : bytes ≠ 0) (hzv : inf.zero = some zv) (hz : zv.cells.size = sz) (hu : (uStr P u || (uSlc P u).isSome) = true)
    (he : evOp R env ts st (.app sz bytes x' y') = some q) : OpRes P o a w (Post w g μ τ a.tmps q) := by
  simp only [evOp] at he
  obtain ⟨ys, h1, h2⟩ := bind_some' he
  obtain ⟨d, h3, rfl⟩ := map_some' h2
  obtain ⟨f, E, S⟩ := elems_rel h.s (rd_rel h hy (fun _ => .nil)) h1
  have Sr := src_of (P := P) E S hu
  obtain ⟨fm, k1, k2, k3, k4⟩ := take_rel h hts hx
  have hargs : c.args = #[x, y] := by rw [← ha]
  have hargT : c.argTypes = #[t, u] := by rw [← hat]
  have run : ∀ r w', (Builtin.append_ #[t, u] o.type #[a.eval x, a.eval y]).run P w = .ok r w' → (execOp a.eval o).run P w = .ok (.value r) w' := fun r w' hr => by
    simp only [execOp, hop, resolve, builtinOf_eq hb, hargs, hargT]
    simp only [Sem.run_bind, Sem.run_pure, Result.andThen_ok, invoke, builtin, List.map_toArray, List.map_cons, List.map_nil]
    rw [hr]
    rfl
  have fin : ∀ (base : Option Addr) (xs : List V) (cap : Nat), a.eval x = .slice base xs.length cap → RelD w (g.mv fm) (.tmp τ.length) (.lin sz xs) (.slice base xs.length cap) → xs.length ≤ cap → (xs.length + ys.length) * bytes ≤ maxB →
      OpRes P o a w (Post w g μ τ a.tmps (.lin sz (xs ++ ys), (takeO env ts x').2.1, (takeO env ts x').2.2, st)) := fun base xs cap hv hd hc hmax => by
    obtain ⟨r, w', hr, g', p1, p2, p3⟩ := app_core (ty := o.type) k1 hd (g := g.mv fm) E Sr hc (of_uSlc P ht) hi hs hzv hz (by rw [hby]; exact hb0) (by rw [hby]; exact hmax)
    exact res_ok (run r w' (by rw [hv]; exact hr)) ⟨g', (Ext.mv fm).trans p1, p2, p3⟩
  unfold opApp at h3
  split at h3 <;> first | (cases h3; done) | skip
  · rename_i z hd
    split at h3 <;> cases h3
    rename_i hmax
    rw [hd] at k2
    generalize hv : a.eval x = v at k2
    cases k2
    exact fin none [] 0 hv (.lin _ _ _ _ (.slc0 _ _ _) (.inl rfl)) (Nat.le_refl _) (by simpa using hmax)
  · rename_i z xs hd
    split at h3 <;> cases h3
    rename_i hcond
    obtain ⟨rfl, hmax⟩ := hcond
    rw [hd] at k2
    have hv' : RelV w (g.mv fm).L (.slc z xs) (a.eval x) := by cases k2; assumption
    obtain ⟨ad, cap, hv, hc⟩ := slc_shape hv'
    exact fin ad xs cap hv (hv ▸ k2) hc hmax
end
end Go.Q
