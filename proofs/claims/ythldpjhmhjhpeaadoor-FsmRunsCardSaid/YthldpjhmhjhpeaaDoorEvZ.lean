/- New blocks of the store. No condition. -/
import Derived.Test.YthldpjhmhjhpeaaDoorEvY
set_option linter.unusedVariables false
set_option linter.unusedSimpArgs false
set_option linter.unusedSectionVars false
namespace Go.Q
variable [Known]

/-! ### The store -/
theorem getB_cons (fr : List Blk) (st : St) (r : Ref) : getB (fr :: st) r = if r.lvl = st.length then fr[r.k]? else getB st r := rfl
theorem getB_addB (st : St) (b : Blk) (r : Ref) : getB (addB st b).1 r = if r = (addB st b).2 then some b else getB st r := by
  cases st with
  | nil =>
    show getB [[b]] r = if r = ⟨0, 0⟩ then some b else getB [] r
    obtain ⟨l, k⟩ := r
    rw [getB_cons]
    by_cases h1 : l = 0
    · subst h1
      cases k with
      | zero => simp
      | succ k => simp [getB]
    · have h2 : ¬ (⟨l, k⟩ : Ref) = ⟨0, 0⟩ := fun e => h1 (congrArg Ref.lvl e)
      rw [if_neg h2]
      simp [getB, h1]
  | cons fr st =>
    show getB ((fr ++ [b]) :: st) r = if r = ⟨st.length, fr.length⟩ then some b else getB (fr :: st) r
    obtain ⟨l, k⟩ := r
    rw [getB_cons, getB_cons]
    by_cases h1 : l = st.length
    · subst h1
      simp only [if_true]
      by_cases h2 : k = fr.length
      · subst h2; simp
      · have h4 : ¬ (⟨st.length, k⟩ : Ref) = ⟨st.length, fr.length⟩ := fun e => h2 (congrArg Ref.k e)
        rw [if_neg h4]
        by_cases h3 : k < fr.length
        · rw [List.getElem?_append_left h3]
        · rw [List.getElem?_append_right (by omega), List.getElem?_eq_none (by simp; omega), List.getElem?_eq_none (by omega)]
    · have h2 : ¬ (⟨l, k⟩ : Ref) = ⟨st.length, fr.length⟩ := fun e => h1 (congrArg Ref.lvl e)
      simp only [h1, if_false, h2]
theorem addB_none (st : St) (b : Blk) : getB st (addB st b).2 = none := by
  cases st with
  | nil => rfl
  | cons fr st => simp [addB, getB]
theorem addBot_lvl : ∀ (st : St) (b : Blk), (addBot st b).2.lvl = 0 ∧ (st ≠ [] → (addBot st b).1.length = st.length)
  | [], b => ⟨rfl, fun h => absurd rfl h⟩
  | [fr], b => ⟨rfl, fun _ => rfl⟩
  | fr :: f2 :: st2, b => by
    have := addBot_lvl (f2 :: st2) b
    simp only [addBot]
    exact ⟨this.1, fun _ => by simp [this.2 (by simp)]⟩
theorem addBot_none : ∀ (st : St) (b : Blk), getB st (addBot st b).2 = none
  | [], b => rfl
  | [fr], b => by simp [addBot, getB]
  | fr :: f2 :: st2, b => by
    have h1 := (addBot_lvl (f2 :: st2) b).1
    have ih := addBot_none (f2 :: st2) b
    show getB (fr :: f2 :: st2) (addBot (f2 :: st2) b).2 = none
    rw [getB_cons, if_neg (by rw [h1]; simp)]
    exact ih
theorem getB_addBot : ∀ (st : St) (b : Blk) (r : Ref), getB (addBot st b).1 r = if r = (addBot st b).2 then some b else getB st r
  | [], b, r => getB_addB [] b r
  | [fr], b, r => getB_addB [fr] b r
  | fr :: f2 :: st2, b, r => by
    have h1 := addBot_lvl (f2 :: st2) b
    have ih := getB_addBot (f2 :: st2) b r
    have e : (addBot (fr :: f2 :: st2) b).1 = fr :: (addBot (f2 :: st2) b).1 := rfl
    have e2 : (addBot (fr :: f2 :: st2) b).2 = (addBot (f2 :: st2) b).2 := rfl
    rw [e, e2]
    have h2 := h1.2 (by simp)
    by_cases hr : r.lvl = (f2 :: st2).length
    · have h3 : r ≠ (addBot (f2 :: st2) b).2 := fun hh => by rw [hh, h1.1] at hr; simp at hr
      rw [if_neg h3]
      show (if r.lvl = (addBot (f2 :: st2) b).1.length then _ else _) = (if r.lvl = (f2 :: st2).length then _ else _)
      rw [h2, if_pos hr, if_pos hr]
    · show (if r.lvl = (addBot (f2 :: st2) b).1.length then _ else _) = (if _ then _ else if r.lvl = (f2 :: st2).length then _ else _)
      rw [h2, if_neg hr, if_neg hr]
      exact ih

section
variable {P : Program} {w : World} {g : Gh} {st : St}
/-- a new block of the store -/
noncomputable def Gh.blk (g : Gh) (r0 : Ref) (b z m : Nat) : Gh :=
  open Classical in
  { g with L := fun x => if x = b then 0 else g.L x, M := fun x => g.M x ∨ x = b, own := fun x => if x = b then none else g.own x,
           be := fun r => if r = r0 then b else g.be r, sz := fun r => if r = r0 then z else g.sz r, n := fun r => if r = r0 then m else g.n r, live := fun r => g.live r ∨ r = r0 }
theorem Gh.grow_blk {o : Obj} {r0 : Ref} (z m : Nat) (hS : RelS w g st) (hr : getB st r0 = none) : Grow w (w.alloc o) g (g.blk r0 w.heap.size z m) where
  os := rfl
  tape := rfl
  output := rfl
  size := by simp
  heap := fun b hb => by
    simp only [World.alloc]
    rw [Array.getElem?_push_lt hb, Array.getElem?_eq_getElem hb]
  L := fun b hb => by simp only [Gh.blk]; rw [if_neg (by omega)]
  M := fun b hb => by
    simp only [Gh.blk]
    constructor
    · rintro (h | h)
      · exact h
      · omega
    · exact .inl
  own := fun b hb => by simp only [Gh.blk]; rw [if_neg (by omega)]
  refs := fun r hl => by
    have hne : r ≠ r0 := fun e => by
      obtain ⟨b, hb⟩ := (hS.live r).1 hl
      rw [e, hr] at hb; cases hb
    exact ⟨.inl hl, by simp only [Gh.blk]; rw [if_neg hne], by simp only [Gh.blk]; rw [if_neg hne], by simp only [Gh.blk]; rw [if_neg hne]⟩
  own' := fun b q hb h => by
    simp only [Gh.blk] at h
    split at h
    · cases h
    · have := (hS.own b q h).2; omega
  fresh := fun b hb => by
    simp at hb
    simp only [Gh.blk]
    rw [if_neg (by omega)]
    obtain ⟨h1, h2⟩ := hS.fresh b (by omega)
    refine ⟨h1, ?_⟩
    rintro (h | h)
    · exact h2 h
    · omega

/-- the store with one block more -/
theorem RelS.new_blk {cs : Array Value} {E : TypeId} {r0 : Ref} {z : Nat} {xs : List D} {st' : St} {f : Pl → Pl} (hS : RelS w g st) (hr : getB st r0 = none)
    (hst : ∀ r, getB st' r = if r = r0 then some (.row xs) else getB st r)
    (hf0 : f .nil = .nil) (hf1 : ∀ p, f p = .nil → p = .nil) (hfc : ∀ r i j, f (.cell r i j) = .cell r i j)
    (hx : ∀ i (h : i < xs.length), (cellsOf xs[i]).length = z ∧ ∀ j (hj : j < (cellsOf xs[i]).length), ((cellsOf xs[i])[j]).isCell = true ∧ refsBelow (r0.lvl + 1) ((cellsOf xs[i])[j]) = true ∧
      ∃ v pl, cs[i * z + j]? = some v ∧ RelD w g pl (cellsOf xs[i])[j] v ∧ f (pl 0) = .cell r0 i j) :
    RelS (w.alloc (.cells cs E)) ((g.blk r0 w.heap.size z xs.length).mv f) st' := by
  have hG := Gh.grow_blk (o := .cells cs E) z xs.length hS hr
  have hlive : ∀ r, (g.blk r0 w.heap.size z xs.length).live r ↔ ∃ b, getB st' r = some b := fun r => by
    rw [hst]
    by_cases e : r = r0
    · subst e; simp [Gh.blk]
    · rw [if_neg e]; simp only [Gh.blk, e, or_false]; exact hS.live r
  have hbe0 : (g.blk r0 w.heap.size z xs.length).be r0 = w.heap.size := by simp [Gh.blk]
  have hsz0 : (g.blk r0 w.heap.size z xs.length).sz r0 = z := by simp [Gh.blk]
  have base : RelS (w.alloc (.cells cs E)) (g.blk r0 w.heap.size z xs.length) [] ∨ True := .inr trivial
  have old : ∀ r, g.live r → r ≠ r0 := fun r hl e => by
    obtain ⟨b, hb⟩ := (hS.live r).1 hl
    rw [e, hr] at hb; cases hb
  have hbe : ∀ r, (g.blk r0 w.heap.size z xs.length).live r → (r = r0 ∧ (g.blk r0 w.heap.size z xs.length).be r = w.heap.size) ∨ (g.live r ∧ (g.blk r0 w.heap.size z xs.length).be r = g.be r ∧ g.be r < w.heap.size) := fun r hl => by
    rcases hl with hl | rfl
    · exact .inr ⟨hl, (hG.refs r hl).2.1, (hS.be r hl).2.2.2⟩
    · exact .inl ⟨rfl, hbe0⟩
  have mvlive : ∀ r, ((g.blk r0 w.heap.size z xs.length).mv f).live r ↔ (g.blk r0 w.heap.size z xs.length).live r := fun r => Iff.rfl
  refine ⟨hlive, fun r b hb => ?_, fun r hl => ?_, fun r r' hl hl' e => ?_, fun b p hb => ?_, fun b hb => ?_, hG.fresh, gl_keep (hG.keeps hS).cell (hG.keeps hS).L hS.gl⟩
  · rw [hst] at hb
    by_cases e : r = r0
    · subst e
      rw [if_pos rfl] at hb
      cases hb
      simp only [RelB]
      refine ⟨by show _ = (g.blk r w.heap.size z xs.length).n r; simp [Gh.blk], fun i hi => ?_⟩
      obtain ⟨h1, h2⟩ := hx i hi
      refine ⟨by show _ = (g.blk r w.heap.size z xs.length).sz r; rw [hsz0]; exact h1, fun j hj => ?_⟩
      obtain ⟨h3, h4, v, pl, h5, h6, h7⟩ := h2 j hj
      have e1 : ((g.blk r w.heap.size z xs.length).mv f).be r = w.heap.size := hbe0
      have e2 : ((g.blk r w.heap.size z xs.length).mv f).sz r = z := hsz0
      refine ⟨h3, h4, v, ?_, ?_, ?_⟩
      · rw [e1, e2, World.cell?_alloc_new]; exact h5
      · rw [e1, e2, World.frozen?_alloc_new]
      · have h8 := (hG.relD hS (h6.place h3 (pl' := fun _ => pl 0) rfl)).mv (f := f) (pl' := fun _ => .cell r i j) (fun _ => h7) hf0
        exact h8
    · rw [if_neg e] at hb
      have h1 := hG.blk hS ((hS.live r).2 ⟨b, hb⟩) (hS.blk r b hb)
      cases b with
      | mp es =>
        obtain ⟨arr, clock, h8, h9, h10⟩ := h1
        refine ⟨arr, clock, h8, h9, fun i hi hi' => ?_⟩
        obtain ⟨h11, h12, h13⟩ := h10 i hi hi'
        exact ⟨h11, h12, h13.mv (fun _ => hfc r i 0) hf0⟩
      | row ys =>
        simp only [RelB] at h1 ⊢
        refine ⟨h1.1, fun i hi => ?_⟩
        obtain ⟨h2, h3⟩ := h1.2 i hi
        refine ⟨h2, fun j hj => ?_⟩
        obtain ⟨h4, h5, v, h6, h7, h8⟩ := h3 j hj
        exact ⟨h4, h5, v, h6, h7, h8.mv (fun _ => hfc r i j) hf0⟩
  · have hl : (g.blk r0 w.heap.size z xs.length).live r := hl
    show (g.blk r0 w.heap.size z xs.length).M ((g.blk r0 w.heap.size z xs.length).be r) ∧ (g.blk r0 w.heap.size z xs.length).L ((g.blk r0 w.heap.size z xs.length).be r) = 0 ∧ ((g.blk r0 w.heap.size z xs.length).own ((g.blk r0 w.heap.size z xs.length).be r)).map f = none ∧ (g.blk r0 w.heap.size z xs.length).be r < (w.alloc (.cells cs E)).heap.size
    rcases hbe r hl with ⟨rfl, e⟩ | ⟨h1, e, h2⟩
    · rw [e]
      exact ⟨.inr rfl, by simp [Gh.blk], by simp [Gh.blk], by simp⟩
    · obtain ⟨h3, h4, h5, h6⟩ := hS.be r h1
      rw [e]
      refine ⟨.inl h3, ?_, ?_, by simp; omega⟩
      · rw [hG.L _ h2]; exact h4
      · rw [hG.own _ h2, h5]; rfl
  · have e : (g.blk r0 w.heap.size z xs.length).be r = (g.blk r0 w.heap.size z xs.length).be r' := e
    rcases hbe r hl with ⟨rfl, e1⟩ | ⟨h1, e1, h2⟩ <;> rcases hbe r' hl' with ⟨rfl, e2⟩ | ⟨h3, e2, h4⟩
    · rfl
    · omega
    · omega
    · exact hS.inj r r' h1 h3 (by rw [← e1, ← e2]; exact e)
  · simp only [Gh.mv, Option.map_eq_some_iff] at hb
    obtain ⟨q, hq, rfl⟩ := hb
    by_cases hlt : b < w.heap.size
    · rw [hG.own b hlt] at hq
      exact ⟨.inl (hS.own b q hq).1, by have := (hS.own b q hq).2; simp; omega⟩
    · have := hG.own' b q (by omega) hq
      exact ⟨this.1, this.2.1⟩
  · simp only [Gh.mv, Option.map_eq_some_iff] at hb
    obtain ⟨q, hq, h1⟩ := hb
    have := hf1 q h1
    subst this
    by_cases hlt : b < w.heap.size
    · rw [hG.own b hlt] at hq
      exact hS.nil b hq
    · exact (hG.own' b _ (by omega) hq).2.2 rfl
end
end Go.Q
