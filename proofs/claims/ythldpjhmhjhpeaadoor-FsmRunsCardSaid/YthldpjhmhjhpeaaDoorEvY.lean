/- Memory that only grows: what holds goes on holding; new blocks, of the store and of pure data. No condition. -/
import Derived.Test.YthldpjhmhjhpeaaDoorEvX
set_option linter.unusedVariables false
set_option linter.unusedSimpArgs false
set_option linter.unusedSectionVars false
namespace Go.Q
variable [Known]

structure Grow (w w' : World) (g g' : Gh) : Prop where
  os : w'.os = w.os
  tape : w'.tape = w.tape
  output : w'.output = w.output
  size : w.heap.size ≤ w'.heap.size
  heap : ∀ b, b < w.heap.size → w'.heap[b]? = w.heap[b]?
  L : ∀ b, b < w.heap.size → g'.L b = g.L b
  M : ∀ b, b < w.heap.size → (g'.M b ↔ g.M b)
  own : ∀ b, b < w.heap.size → g'.own b = g.own b
  refs : ∀ r, g.live r → KeepsRef g g' r
  own' : ∀ b p, w.heap.size ≤ b → g'.own b = some p → g'.M b ∧ b < w'.heap.size ∧ p ≠ .nil
  fresh : ∀ b, w'.heap.size ≤ b → g'.L b = 0 ∧ ¬ g'.M b

theorem cell_heap {w w' : World} {b : Nat} (h : w'.heap[b]? = w.heap[b]?) (o : Nat) : w'.cell? ⟨b, o, none⟩ = w.cell? ⟨b, o, none⟩ ∧ w'.frozen? ⟨b, o, none⟩ = w.frozen? ⟨b, o, none⟩ := by
  unfold World.cell? World.frozen?
  simp only [h, and_self]

section
variable {w w' : World} {g g' : Gh} {st : St}
theorem Grow.keeps (h : Grow w w' g g') (hS : RelS w g st) : Keeps w w' g g' where
  cell := fun b o ho => by
    by_cases hb : b < w.heap.size
    · exact (cell_heap (h.heap b hb) o).1
    · have := (hS.fresh b (by omega)).1; omega
  L := fun b => by
    by_cases hb : b < w.heap.size
    · exact Nat.le_of_eq (h.L b hb).symm
    · rw [(hS.fresh b (by omega)).1]; exact Nat.zero_le _
theorem Grow.pl (h : Grow w w' g g') (hS : RelS w g st) (pl : Nat → Pl) : KeepsPl w w' g g' pl := fun b k hb => by
  have hlt := (hS.own b _ hb).2
  refine ⟨by rw [h.own b hlt]; exact hb, h.L b hlt, fun o => ?_⟩
  obtain ⟨h1, h2⟩ := cell_heap (h.heap b hlt) o
  rw [h1, h2]; exact ⟨id, id⟩
theorem Grow.relD (h : Grow w w' g g') (hS : RelS w g st) {pl : Nat → Pl} {d : D} {v : Value} (hd : RelD w g pl d v) : RelD w' g' pl d v :=
  hd.mono (h.keeps hS) hS.nil (h.pl hS pl) h.refs
theorem Grow.ext (h : Grow w w' g g') (hS : RelS w g st) : Ext w w' g g' where
  os := h.os
  tape := h.tape
  output := h.output
  size := h.size
  cell := (h.keeps hS).cell
  L := (h.keeps hS).L
  old := fun b hb hm => ⟨h.heap b hb, h.L b hb, fun hm' => hm ((h.M b hb).1 hm')⟩
  refs := h.refs
theorem Grow.blk (h : Grow w w' g g') (hS : RelS w g st) {r : Ref} {b : Blk} (hr : g.live r) (hb : RelB w g r b) : RelB w' g' r b := by
  obtain ⟨h1, h2, h3, h3'⟩ := h.refs r hr
  obtain ⟨h4, h5, h6, h7⟩ := hS.be r hr
  cases b with
  | mp es =>
    obtain ⟨arr, clock, h8, h9, h10⟩ := hb
    refine ⟨arr, clock, by rw [h2, h.heap _ h7]; exact h8, h9, fun i hi hi' => ?_⟩
    obtain ⟨h11, h12, h13⟩ := h10 i hi hi'
    exact ⟨h11, h12, h.relD hS h13⟩
  | row xs =>
    simp only [RelB] at hb ⊢
    refine ⟨by rw [hb.1, h3'], fun i hi => ?_⟩
    obtain ⟨h8, h9⟩ := hb.2 i hi
    refine ⟨by rw [h8, h3], fun j hj => ?_⟩
    obtain ⟨h10, h11, v, h12, h13, h14⟩ := h9 j hj
    obtain ⟨e1, e2⟩ := cell_heap (h.heap _ h7) (i * g.sz r + j)
    exact ⟨h10, h11, v, by rw [h2, h3, e1]; exact h12, by rw [h2, h3, e2]; exact h13, h.relD hS h14⟩
/-- the store is as it was -/
theorem Grow.relS (h : Grow w w' g g') (hS : RelS w g st) (hl : ∀ r, g'.live r ↔ g.live r) : RelS w' g' st where
  live := fun r => (hl r).trans (hS.live r)
  blk := fun r b hb => h.blk hS ((hS.live r).2 ⟨b, hb⟩) (hS.blk r b hb)
  be := fun r hr => by
    have hr := (hl r).1 hr
    obtain ⟨h1, h2, h3⟩ := h.refs r hr
    obtain ⟨h4, h5, h6, h7⟩ := hS.be r hr
    rw [h2]
    exact ⟨(h.M _ h7).2 h4, by rw [h.L _ h7]; exact h5, by rw [h.own _ h7]; exact h6, Nat.lt_of_lt_of_le h7 h.size⟩
  inj := fun r r' hr hr' e => by
    have hr := (hl r).1 hr
    have hr' := (hl r').1 hr'
    rw [(h.refs r hr).2.1, (h.refs r' hr').2.1] at e
    exact hS.inj r r' hr hr' e
  own := fun b p hb => by
    by_cases hlt : b < w.heap.size
    · rw [h.own b hlt] at hb
      exact ⟨(h.M b hlt).2 (hS.own b p hb).1, Nat.lt_of_lt_of_le hlt h.size⟩
    · obtain ⟨h1, h2, _⟩ := h.own' b p (by omega) hb
      exact ⟨h1, h2⟩
  nil := fun b hb => by
    by_cases hlt : b < w.heap.size
    · rw [h.own b hlt] at hb; exact hS.nil b hb
    · exact (h.own' b _ (by omega) hb).2.2 rfl
  fresh := h.fresh
  gl := gl_keep (h.keeps hS).cell (h.keeps hS).L hS.gl
theorem Grow.relA (h : Grow w w' g g') {μ τ env ts tmps} (hA : RelA w g μ τ env ts st tmps) (hl : ∀ r, g'.live r ↔ g.live r) : RelA w' g' μ τ env ts st tmps where
  s := h.relS hA.s hl
  e := fun i t hi => h.relD hA.s (hA.e i t hi)
  t := fun j t hj => h.relD hA.s (hA.t j t hj)

/-! ### A new block of pure data -/
/-- what is known of it: below L it is never written; its spare room is a place's, if there is one -/
noncomputable def Gh.new (g : Gh) (b L : Nat) (p : Option Pl) : Gh :=
  { g with L := fun x => if x = b then L else g.L x, M := fun x => g.M x ∨ (x = b ∧ p.isSome = true), own := fun x => if x = b then p else g.own x }
theorem Gh.grow_new {o : Obj} {L : Nat} {p : Option Pl} (hS : RelS w g st) (hp : p ≠ some .nil) (n : Nat) :
    Grow w ((w.drewN n).alloc o) g (g.new w.heap.size L p) where
  os := rfl
  tape := rfl
  output := rfl
  size := by simp [World.alloc, World.drewN]
  heap := fun b hb => by
    simp only [World.alloc, World.drewN]
    rw [Array.getElem?_push_lt hb, Array.getElem?_eq_getElem hb]
  L := fun b hb => by simp only [Gh.new]; rw [if_neg (by omega)]
  M := fun b hb => by
    simp only [Gh.new]
    constructor
    · rintro (h | ⟨h, _⟩)
      · exact h
      · omega
    · exact .inl
  own := fun b hb => by simp only [Gh.new]; rw [if_neg (by omega)]
  refs := fun r hr => ⟨hr, rfl, rfl, rfl⟩
  own' := fun b q hb h => by
    simp only [Gh.new] at h ⊢
    split at h
    · rename_i e
      subst e
      exact ⟨.inr ⟨rfl, by rw [h]; rfl⟩, by simp, fun hq => hp (by rw [h, hq])⟩
    · have := (hS.own b q h).2; omega
  fresh := fun b hb => by
    simp at hb
    simp only [Gh.new]
    rw [if_neg (by omega)]
    obtain ⟨h1, h2⟩ := hS.fresh b (by omega)
    refine ⟨h1, ?_⟩
    rintro (h | ⟨h, _⟩)
    · exact h2 h
    · omega
theorem Gh.new_live (L b : Nat) (p : Option Pl) (r : Ref) : (g.new b L p).live r ↔ g.live r := Iff.rfl

/-- the cells of elements, one behind the other -/
def cellL (n sz : Nat) (f : Nat → Nat → Value) : List Value := (List.range (n * sz)).map fun k => f (k / sz) (k % sz)
theorem cellL_len (n sz : Nat) (f) : (cellL n sz f).length = n * sz := by simp [cellL]
theorem cellL_at {n sz i j : Nat} (f : Nat → Nat → Value) (hi : i < n) (hj : j < sz) : (cellL n sz f)[i * sz + j]? = some (f i j) := by
  have h1 : i * sz + j < n * sz := by
    have : (i + 1) * sz ≤ n * sz := Nat.mul_le_mul_right _ (by omega)
    rw [Nat.add_mul] at this; omega
  have h2 : (i * sz + j) / sz = i := by
    rw [Nat.mul_comm, Nat.mul_add_div (by omega)]; rw [Nat.div_eq_of_lt hj]; rfl
  have h3 : (i * sz + j) % sz = j := by
    rw [Nat.mul_comm, Nat.mul_add_mod]; exact Nat.mod_eq_of_lt hj
  simp [cellL, h1, h2, h3]

/-- a slice over a block whose first cells are those of elements -/
theorem Els.slc {L : Nat → Nat} {L' : Nat → Nat} {sz b : Nat} {ys : List V} {f : Nat → Nat → Value} {c : Nat} (h : Els w L sz ys f) (hm : ∀ x v, RelV w L x v → RelV w' L' x v)
    (hL : ys.length * sz ≤ L' b) (hc : ys.length ≤ c) (hv : ∀ i j, i < ys.length → j < sz → w'.cell? ⟨b, i * sz + j, none⟩ = some (f i j)) : RelV w' L' (.slc sz ys) (.slice (some ⟨b, 0, none⟩) ys.length c) := by
  refine .slc sz ys b 0 c f hc h.len (fun i j hi hj => ?_) (fun i j hi hj => ?_) h.cell (fun i hi j hj => hm _ _ (h.rel i hi j hj))
  · have : (i + 1) * sz ≤ ys.length * sz := Nat.mul_le_mul_right _ (by omega)
    rw [Nat.add_mul] at this; omega
  · rw [Nat.zero_add]; exact hv i j hi hj
end
end Go.Q
