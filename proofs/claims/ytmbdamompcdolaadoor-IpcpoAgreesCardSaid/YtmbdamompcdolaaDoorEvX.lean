/- A right that is taken; memory that only grows: what holds goes on holding. No condition. -/
import Derived.Test.YtmbdamompcdolaaDoorEvU
import Derived.Laws.NewBlocks
import Derived.Deep.Draws
set_option linter.unusedVariables false
set_option linter.unusedSimpArgs false
set_option linter.unusedSectionVars false
namespace Go.Q
variable [Known]

theorem getT_set : ∀ (l : List D) (i j : Nat) (d : D), getT (l.set i d) j = if i = j ∧ i < l.length then d else getT l j
  | [], i, j, d => by simp [getT]
  | x :: l, 0, 0, d => by simp [getT]
  | x :: l, 0, j + 1, d => by simp [getT]
  | x :: l, i + 1, 0, d => by simp [getT]
  | x :: l, i + 1, j + 1, d => by simp [getT, getT_set l i j d]
theorem getT_nil {l : List D} {i : Nat} (h : l.length ≤ i) : getT l i = .undef := by
  induction l generalizing i with
  | nil => rfl
  | cons x l ih => cases i with
    | zero => simp at h
    | succ i => exact ih (by simpa using h)
theorem getT_lt {l : List D} {i : Nat} (h : getT l i ≠ .undef) : i < l.length := Nat.lt_of_not_le fun hn => h (getT_nil hn)

theorem idxOf_lt {α : Type} [BEq α] [LawfulBEq α] {l : List α} {x : α} {j : Nat} (h : l.idxOf? x = some j) : j < l.length := by
  simp only [List.idxOf?, List.findIdx?_eq_some_iff_getElem] at h
  exact h.1

section
variable {w : World} {g : Gh} {μ : List Nat} {τ : List (Option Nat)} {env ts : List D} {st : St} {a : Act}

theorem RelS.mv {f : Pl → Pl} (h : RelS w g st) (hn : f .nil = .nil) (hn' : ∀ p, f p = .nil → p = .nil) (hc : ∀ r i j, f (.cell r i j) = .cell r i j) : RelS w (g.mv f) st where
  live := h.live
  blk := fun r b hb => by
    have := h.blk r b hb
    cases b with
    | row xs =>
      simp only [RelB] at this ⊢
      refine ⟨this.1, fun i hi => ?_⟩
      obtain ⟨h1, h2⟩ := this.2 i hi
      refine ⟨h1, fun j hj => ?_⟩
      obtain ⟨h3, h4, v, h5, h6, h7⟩ := h2 j hj
      exact ⟨h3, h4, v, h5, h6, h7.mv (fun _ => hc r i j) hn⟩
    | mp es =>
      obtain ⟨arr, clock, h8, h9, h10⟩ := this
      refine ⟨arr, clock, h8, h9, fun i hi hi' => ?_⟩
      obtain ⟨h11, h12, h13⟩ := h10 i hi hi'
      exact ⟨h11, h12, h13.mv (fun _ => hc r i 0) hn⟩
  be := fun r hr => by
    obtain ⟨h1, h2, h3, h4⟩ := h.be r hr
    exact ⟨h1, h2, by simp [Gh.mv, h3], h4⟩
  inj := h.inj
  own := fun b p hb => by
    simp only [Gh.mv, Option.map_eq_some_iff] at hb
    obtain ⟨q, hq, rfl⟩ := hb
    exact h.own b q hq
  nil := fun b hb => by
    simp only [Gh.mv, Option.map_eq_some_iff] at hb
    obtain ⟨q, hq, h1⟩ := hb
    exact h.nil b (hn' q h1 ▸ hq)
  fresh := h.fresh
  gl := h.gl

theorem Ext.mv (f : Pl → Pl) : Ext w w g (g.mv f) := ⟨rfl, rfl, rfl, Nat.le_refl _, fun _ _ _ => rfl, fun _ => Nat.le_refl _, fun _ _ h => ⟨rfl, rfl, h⟩, fun r h => ⟨h, rfl, rfl, rfl⟩⟩

theorem take_rel (h : RelA w g μ τ env ts st a.tmps) (hts : ts.length = τ.length) {x : Operand} {y : Opd} (hc : chkO μ τ x y = true) :
    ∃ f, RelA w (g.mv f) μ τ (takeO env ts y).2.1 (takeO env ts y).2.2 st a.tmps ∧ RelD w (g.mv f) (.tmp τ.length) (takeO env ts y).1 (a.eval x) ∧ (takeO env ts y).2.2.length = ts.length ∧ (takeO env ts y).2.1.length = env.length := by
  -- what is no right is copied
  have plain : (takeO env ts y) = (cp (raw env ts y), env, ts) → ∃ f, RelA w (g.mv f) μ τ (takeO env ts y).2.1 (takeO env ts y).2.2 st a.tmps ∧ RelD w (g.mv f) (.tmp τ.length) (takeO env ts y).1 (a.eval x) ∧ (takeO env ts y).2.2.length = ts.length ∧ (takeO env ts y).2.1.length = env.length := by
    intro e
    rw [e]
    have hg : g.mv id = g := by simp [Gh.mv]
    refine ⟨id, ?_, ?_, rfl, rfl⟩
    · rw [hg]; exact h
    · rw [hg]; exact rd_rel h hc _
  cases y with
  | c d =>
    refine plain ?_
    simp only [takeO, raw]
    cases d <;> rfl
  | x i =>
    cases hr : getT env i with
    | lin z xs =>
      have hlt : i < env.length := getT_lt (by rw [hr]; simp)
      have e : takeO env ts (.x i) = (.lin z xs, env.set i (.v (.slc z xs)), ts) := by simp only [takeO, raw, hr, takeD]
      rw [e]
      unfold chkO at hc
      split at hc <;> first | (rename_i hq; cases hq; done) | (cases hc; done) | skip
      rename_i t i' hq
      cases hq
      simp at hc
      have hx := h.e i t hc
      rw [hr] at hx
      let f : Pl → Pl := fun p => if p = .env i then .tmp τ.length 0 else p
      have fe : ∀ j, j ≠ i → f (.env j) = .env j := fun j hj => by simp [f, hj]
      have ft : ∀ j k, f (.tmp j k) = .tmp j k := fun j k => by simp [f]
      refine ⟨f, ⟨h.s.mv (by simp [f]) (fun p hp => by simp only [f] at hp; split at hp <;> first | exact hp | (cases hp; done)) (fun r i j => by simp [f]), fun j t' hj => ?_, fun j t' hj => ?_⟩, ?_, rfl, by simp⟩
      · rw [getT_set]
        by_cases hij : i = j
        · subst hij
          rw [if_pos ⟨rfl, hlt⟩]
          rw [hc] at hj
          cases hj
          exact .v _ _ _ (RelV.mv (by cases hx; assumption))
        · rw [if_neg (fun hh => hij hh.1)]
          exact (h.e j t' hj).mv (fun _ => fe j (fun hh => hij hh.symm)) (by simp [f])
      · exact (h.t j t' hj).mv (fun k => ft _ _) (by simp [f])
      · cases hx with | lin _ _ _ v hv hs =>
        have hx' : RelD w g (fun _ => .env i) (.lin z xs) (a.eval (.tmp t)) := .lin _ z xs _ hv hs
        have := hx'.mv (f := f) (pl' := fun _ => .tmp τ.length 0) (fun _ => by simp [f]) (by simp [f])
        exact this.place rfl rfl
    | tup ds => exact plain (by simp only [takeO, raw, hr, takeD])
    | _ => exact plain (by simp only [takeO, raw, hr, takeD])
  | t j =>
    have move : ∀ (d d' : D), getT ts j = d → takeO env ts (.t j) = (d, env, ts.set j d') → d ≠ .undef → (∀ pl v f, RelD w g pl d v → ∀ pl', RelD w (g.mv f) pl' d' v) →
        ∃ f, RelA w (g.mv f) μ τ (takeO env ts (.t j)).2.1 (takeO env ts (.t j)).2.2 st a.tmps ∧ RelD w (g.mv f) (.tmp τ.length) (takeO env ts (.t j)).1 (a.eval x) ∧ (takeO env ts (.t j)).2.2.length = ts.length ∧ (takeO env ts (.t j)).2.1.length = env.length := by
      intro d d' hr e hnu hd'
      have hlt : j < ts.length := getT_lt (by rw [hr]; exact hnu)
      rw [e]
      unfold chkO at hc
      split at hc <;> first | (rename_i hq; cases hq; done) | (cases hc; done) | skip
      rename_i t j' hq
      cases hq
      simp at hc
      have hx := h.t j t hc
      rw [hr] at hx
      let m := τ.length - 1 - j
      let f : Pl → Pl := fun p => match p with | .tmp b k => if b = m then .tmp τ.length k else .tmp b k | p => p
      refine ⟨f, ⟨h.s.mv rfl (fun p hp => by cases p <;> simp only [f] at hp <;> first | rfl | (cases hp; done) | (split at hp <;> cases hp)) (fun r i j => rfl), fun i t' hi => ?_, fun j' t' hj => ?_⟩, ?_, by simp, rfl⟩
      · exact (h.e i t' hi).mv (fun _ => rfl) rfl
      · rw [getT_set]
        have hl' := idxOf_lt hj
        by_cases hij : j = j'
        · subst hij
          rw [if_pos ⟨rfl, hlt⟩]
          have : t' = t := by
            have h1 := idxOf_lt hc
            simp only [List.idxOf?, List.findIdx?_eq_some_iff_getElem] at hc hj
            obtain ⟨_, h2, _⟩ := hc
            obtain ⟨_, h3, _⟩ := hj
            simp at h2 h3
            have := h2.symm.trans h3
            simpa using this.symm
          subst this
          exact hd' _ _ f hx _
        · rw [if_neg (fun hh => hij hh.1)]
          have hne : τ.length - 1 - j' ≠ m := by
            have h1 := idxOf_lt hc
            show τ.length - 1 - j' ≠ τ.length - 1 - j
            omega
          exact (h.t j' t' hj).mv (fun k => by simp [f, hne]) rfl
      · have hx' : RelD w g (.tmp m) d (a.eval (.tmp t)) := hx
        exact hx'.mv (fun k => by simp [f]) rfl
    cases hr : getT ts j with
    | lin z xs => exact move (.lin z xs) (.v (.slc z xs)) hr (by simp only [takeO, raw, hr, takeD]) (by simp) (fun pl v f hx pl' => by cases hx; exact .v _ _ _ (RelV.mv (by assumption)))
    | tup ds => exact move (.tup ds) .undef hr (by simp only [takeO, raw, hr, takeD]) (by simp) (fun pl v f hx pl' => .undef _ _)
    | _ => exact plain (by simp only [takeO, raw, hr, takeD])
end
end Go.Q
set_option linter.unusedVariables false
set_option linter.unusedSimpArgs false
set_option linter.unusedSectionVars false
namespace Go.Q
variable [Known]

structure Grow (w w' : World) (g g' : Gh) : Prop where
  os : w'.os = w.os
  tape : w'.tape = w.tape
  output : w'.output = w.output
  size : w.heap.size ≤ w'.heap.size
  heap : ∀ b, b < w.heap.size → w'.heap[b]? = w.heap[b]?
  L : ∀ b, b < w.heap.size → g'.L b = g.L b
  M : ∀ b, b < w.heap.size → (g'.M b ↔ g.M b)
  own : ∀ b, b < w.heap.size → g'.own b = g.own b
  refs : ∀ r, g.live r → KeepsRef g g' r
  own' : ∀ b p, w.heap.size ≤ b → g'.own b = some p → g'.M b ∧ b < w'.heap.size ∧ p ≠ .nil
  fresh : ∀ b, w'.heap.size ≤ b → g'.L b = 0 ∧ ¬ g'.M b

theorem cell_heap {w w' : World} {b : Nat} (h : w'.heap[b]? = w.heap[b]?) (o : Nat) : w'.cell? ⟨b, o, none⟩ = w.cell? ⟨b, o, none⟩ ∧ w'.frozen? ⟨b, o, none⟩ = w.frozen? ⟨b, o, none⟩ := by
  unfold World.cell? World.frozen?
  simp only [h, and_self]

section
variable {w w' : World} {g g' : Gh} {st : St}
theorem Grow.keeps (h : Grow w w' g g') (hS : RelS w g st) : Keeps w w' g g' where
  cell := fun b o ho => by
    by_cases hb : b < w.heap.size
    · exact (cell_heap (h.heap b hb) o).1
    · have := (hS.fresh b (by omega)).1; omega
  L := fun b => by
    by_cases hb : b < w.heap.size
    · exact Nat.le_of_eq (h.L b hb).symm
    · rw [(hS.fresh b (by omega)).1]; exact Nat.zero_le _
theorem Grow.pl (h : Grow w w' g g') (hS : RelS w g st) (pl : Nat → Pl) : KeepsPl w w' g g' pl := fun b k hb => by
  have hlt := (hS.own b _ hb).2
  refine ⟨by rw [h.own b hlt]; exact hb, h.L b hlt, fun o => ?_⟩
  obtain ⟨h1, h2⟩ := cell_heap (h.heap b hlt) o
  rw [h1, h2]; exact ⟨id, id⟩
theorem Grow.relD (h : Grow w w' g g') (hS : RelS w g st) {pl : Nat → Pl} {d : D} {v : Value} (hd : RelD w g pl d v) : RelD w' g' pl d v :=
  hd.mono (h.keeps hS) hS.nil (h.pl hS pl) h.refs
theorem Grow.ext (h : Grow w w' g g') (hS : RelS w g st) : Ext w w' g g' where
  os := h.os
  tape := h.tape
  output := h.output
  size := h.size
  cell := (h.keeps hS).cell
  L := (h.keeps hS).L
  old := fun b hb hm => ⟨h.heap b hb, h.L b hb, fun hm' => hm ((h.M b hb).1 hm')⟩
  refs := h.refs
theorem Grow.blk (h : Grow w w' g g') (hS : RelS w g st) {r : Ref} {b : Blk} (hr : g.live r) (hb : RelB w g r b) : RelB w' g' r b := by
  obtain ⟨h1, h2, h3, h3'⟩ := h.refs r hr
  obtain ⟨h4, h5, h6, h7⟩ := hS.be r hr
  cases b with
  | mp es =>
    obtain ⟨arr, clock, h8, h9, h10⟩ := hb
    refine ⟨arr, clock, by rw [h2, h.heap _ h7]; exact h8, h9, fun i hi hi' => ?_⟩
    obtain ⟨h11, h12, h13⟩ := h10 i hi hi'
    exact ⟨h11, h12, h.relD hS h13⟩
  | row xs =>
    simp only [RelB] at hb ⊢
    refine ⟨by rw [hb.1, h3'], fun i hi => ?_⟩
    obtain ⟨h8, h9⟩ := hb.2 i hi
    refine ⟨by rw [h8, h3], fun j hj => ?_⟩
    obtain ⟨h10, h11, v, h12, h13, h14⟩ := h9 j hj
    obtain ⟨e1, e2⟩ := cell_heap (h.heap _ h7) (i * g.sz r + j)
    exact ⟨h10, h11, v, by rw [h2, h3, e1]; exact h12, by rw [h2, h3, e2]; exact h13, h.relD hS h14⟩
/-- the store is as it was -/
theorem Grow.relS (h : Grow w w' g g') (hS : RelS w g st) (hl : ∀ r, g'.live r ↔ g.live r) : RelS w' g' st where
  live := fun r => (hl r).trans (hS.live r)
  blk := fun r b hb => h.blk hS ((hS.live r).2 ⟨b, hb⟩) (hS.blk r b hb)
  be := fun r hr => by
    have hr := (hl r).1 hr
    obtain ⟨h1, h2, h3⟩ := h.refs r hr
    obtain ⟨h4, h5, h6, h7⟩ := hS.be r hr
    rw [h2]
    exact ⟨(h.M _ h7).2 h4, by rw [h.L _ h7]; exact h5, by rw [h.own _ h7]; exact h6, Nat.lt_of_lt_of_le h7 h.size⟩
  inj := fun r r' hr hr' e => by
    have hr := (hl r).1 hr
    have hr' := (hl r').1 hr'
    rw [(h.refs r hr).2.1, (h.refs r' hr').2.1] at e
    exact hS.inj r r' hr hr' e
  own := fun b p hb => by
    by_cases hlt : b < w.heap.size
    · rw [h.own b hlt] at hb
      exact ⟨(h.M b hlt).2 (hS.own b p hb).1, Nat.lt_of_lt_of_le hlt h.size⟩
    · obtain ⟨h1, h2, _⟩ := h.own' b p (by omega) hb
      exact ⟨h1, h2⟩
  nil := fun b hb => by
    by_cases hlt : b < w.heap.size
    · rw [h.own b hlt] at hb; exact hS.nil b hb
    · exact (h.own' b _ (by omega) hb).2.2 rfl
  fresh := h.fresh
  gl := gl_keep (h.keeps hS).cell (h.keeps hS).L h.size (fun b hb hm => ⟨fun hh => hm ((h.M b hb).1 hh), h.heap b hb⟩) hS.gl
theorem Grow.relA (h : Grow w w' g g') {μ τ env ts tmps} (hA : RelA w g μ τ env ts st tmps) (hl : ∀ r, g'.live r ↔ g.live r) : RelA w' g' μ τ env ts st tmps where
  s := h.relS hA.s hl
  e := fun i t hi => h.relD hA.s (hA.e i t hi)
  t := fun j t hj => h.relD hA.s (hA.t j t hj)

/-! ### A new block of pure data -/
/-- what is known of it: below L it is never written; its spare room is a place's, if there is one -/
noncomputable def Gh.new (g : Gh) (b L : Nat) (p : Option Pl) : Gh :=
  { g with L := fun x => if x = b then L else g.L x, M := fun x => g.M x ∨ (x = b ∧ p.isSome = true), own := fun x => if x = b then p else g.own x }
theorem Gh.grow_new {o : Obj} {L : Nat} {p : Option Pl} (hS : RelS w g st) (hp : p ≠ some .nil) (n : Nat) :
    Grow w ((w.drewN n).alloc o) g (g.new w.heap.size L p) where
  os := rfl
  tape := rfl
  output := rfl
  size := by simp [World.alloc, World.drewN]
  heap := fun b hb => by
    simp only [World.alloc, World.drewN]
    rw [Array.getElem?_push_lt hb, Array.getElem?_eq_getElem hb]
  L := fun b hb => by simp only [Gh.new]; rw [if_neg (by omega)]
  M := fun b hb => by
    simp only [Gh.new]
    constructor
    · rintro (h | ⟨h, _⟩)
      · exact h
      · omega
    · exact .inl
  own := fun b hb => by simp only [Gh.new]; rw [if_neg (by omega)]
  refs := fun r hr => ⟨hr, rfl, rfl, rfl⟩
  own' := fun b q hb h => by
    simp only [Gh.new] at h ⊢
    split at h
    · rename_i e
      subst e
      exact ⟨.inr ⟨rfl, by rw [h]; rfl⟩, by simp, fun hq => hp (by rw [h, hq])⟩
    · have := (hS.own b q h).2; omega
  fresh := fun b hb => by
    simp at hb
    simp only [Gh.new]
    rw [if_neg (by omega)]
    obtain ⟨h1, h2⟩ := hS.fresh b (by omega)
    refine ⟨h1, ?_⟩
    rintro (h | ⟨h, _⟩)
    · exact h2 h
    · omega
theorem Gh.new_live (L b : Nat) (p : Option Pl) (r : Ref) : (g.new b L p).live r ↔ g.live r := Iff.rfl

/-- the cells of elements, one behind the other -/
def cellL (n sz : Nat) (f : Nat → Nat → Value) : List Value := (List.range (n * sz)).map fun k => f (k / sz) (k % sz)
theorem cellL_len (n sz : Nat) (f) : (cellL n sz f).length = n * sz := by simp [cellL]
theorem cellL_at {n sz i j : Nat} (f : Nat → Nat → Value) (hi : i < n) (hj : j < sz) : (cellL n sz f)[i * sz + j]? = some (f i j) := by
  have h1 : i * sz + j < n * sz := by
    have : (i + 1) * sz ≤ n * sz := Nat.mul_le_mul_right _ (by omega)
    rw [Nat.add_mul] at this; omega
  have h2 : (i * sz + j) / sz = i := by
    rw [Nat.mul_comm, Nat.mul_add_div (by omega)]; rw [Nat.div_eq_of_lt hj]; rfl
  have h3 : (i * sz + j) % sz = j := by
    rw [Nat.mul_comm, Nat.mul_add_mod]; exact Nat.mod_eq_of_lt hj
  simp [cellL, h1, h2, h3]

/-- a slice over a block whose first cells are those of elements -/
theorem Els.slc {L : Nat → Nat} {L' : Nat → Nat} {sz b : Nat} {ys : List V} {f : Nat → Nat → Value} {c : Nat} (h : Els w L sz ys f) (hm : ∀ x v, RelV w L x v → RelV w' L' x v)
    (hL : ys.length * sz ≤ L' b) (hc : ys.length ≤ c) (hv : ∀ i j, i < ys.length → j < sz → w'.cell? ⟨b, i * sz + j, none⟩ = some (f i j)) : RelV w' L' (.slc sz ys) (.slice (some ⟨b, 0, none⟩) ys.length c) := by
  refine .slc sz ys b 0 c f hc h.len (fun i j hi hj => ?_) (fun i j hi hj => ?_) h.cell (fun i hi j hj => hm _ _ (h.rel i hi j hj))
  · have : (i + 1) * sz ≤ ys.length * sz := Nat.mul_le_mul_right _ (by omega)
    rw [Nat.add_mul] at this; omega
  · rw [Nat.zero_add]; exact hv i j hi hj
end
end Go.Q
set_option linter.unusedVariables false
set_option linter.unusedSimpArgs false
set_option linter.unusedSectionVars false
namespace Go.Q
variable [Known]

/-! ### The store -/
theorem getB_cons (fr : List Blk) (st : St) (r : Ref) : getB (fr :: st) r = if r.lvl = st.length then fr[r.k]? else getB st r := rfl
theorem getB_addB (st : St) (b : Blk) (r : Ref) : getB (addB st b).1 r = if r = (addB st b).2 then some b else getB st r := by
  cases st with
  | nil =>
    show getB [[b]] r = if r = ⟨0, 0⟩ then some b else getB [] r
    obtain ⟨l, k⟩ := r
    rw [getB_cons]
    by_cases h1 : l = 0
    · subst h1
      cases k with
      | zero => simp
      | succ k => simp [getB]
    · have h2 : ¬ (⟨l, k⟩ : Ref) = ⟨0, 0⟩ := fun e => h1 (congrArg Ref.lvl e)
      rw [if_neg h2]
      simp [getB, h1]
  | cons fr st =>
    show getB ((fr ++ [b]) :: st) r = if r = ⟨st.length, fr.length⟩ then some b else getB (fr :: st) r
    obtain ⟨l, k⟩ := r
    rw [getB_cons, getB_cons]
    by_cases h1 : l = st.length
    · subst h1
      simp only [if_true]
      by_cases h2 : k = fr.length
      · subst h2; simp
      · have h4 : ¬ (⟨st.length, k⟩ : Ref) = ⟨st.length, fr.length⟩ := fun e => h2 (congrArg Ref.k e)
        rw [if_neg h4]
        by_cases h3 : k < fr.length
        · rw [List.getElem?_append_left h3]
        · rw [List.getElem?_append_right (by omega), List.getElem?_eq_none (by simp; omega), List.getElem?_eq_none (by omega)]
    · have h2 : ¬ (⟨l, k⟩ : Ref) = ⟨st.length, fr.length⟩ := fun e => h1 (congrArg Ref.lvl e)
      simp only [h1, if_false, h2]
theorem addB_none (st : St) (b : Blk) : getB st (addB st b).2 = none := by
  cases st with
  | nil => rfl
  | cons fr st => simp [addB, getB]
theorem addBot_lvl : ∀ (st : St) (b : Blk), (addBot st b).2.lvl = 0 ∧ (st ≠ [] → (addBot st b).1.length = st.length)
  | [], b => ⟨rfl, fun h => absurd rfl h⟩
  | [fr], b => ⟨rfl, fun _ => rfl⟩
  | fr :: f2 :: st2, b => by
    have := addBot_lvl (f2 :: st2) b
    simp only [addBot]
    exact ⟨this.1, fun _ => by simp [this.2 (by simp)]⟩
theorem addBot_none : ∀ (st : St) (b : Blk), getB st (addBot st b).2 = none
  | [], b => rfl
  | [fr], b => by simp [addBot, getB]
  | fr :: f2 :: st2, b => by
    have h1 := (addBot_lvl (f2 :: st2) b).1
    have ih := addBot_none (f2 :: st2) b
    show getB (fr :: f2 :: st2) (addBot (f2 :: st2) b).2 = none
    rw [getB_cons, if_neg (by rw [h1]; simp)]
    exact ih
theorem getB_addBot : ∀ (st : St) (b : Blk) (r : Ref), getB (addBot st b).1 r = if r = (addBot st b).2 then some b else getB st r
  | [], b, r => getB_addB [] b r
  | [fr], b, r => getB_addB [fr] b r
  | fr :: f2 :: st2, b, r => by
    have h1 := addBot_lvl (f2 :: st2) b
    have ih := getB_addBot (f2 :: st2) b r
    have e : (addBot (fr :: f2 :: st2) b).1 = fr :: (addBot (f2 :: st2) b).1 := rfl
    have e2 : (addBot (fr :: f2 :: st2) b).2 = (addBot (f2 :: st2) b).2 := rfl
    rw [e, e2]
    have h2 := h1.2 (by simp)
    by_cases hr : r.lvl = (f2 :: st2).length
    · have h3 : r ≠ (addBot (f2 :: st2) b).2 := fun hh => by rw [hh, h1.1] at hr; simp at hr
      rw [if_neg h3]
      show (if r.lvl = (addBot (f2 :: st2) b).1.length then _ else _) = (if r.lvl = (f2 :: st2).length then _ else _)
      rw [h2, if_pos hr, if_pos hr]
    · show (if r.lvl = (addBot (f2 :: st2) b).1.length then _ else _) = (if _ then _ else if r.lvl = (f2 :: st2).length then _ else _)
      rw [h2, if_neg hr, if_neg hr]
      exact ih

section
variable {P : Program} {w : World} {g : Gh} {st : St}
/-- a new block of the store -/
noncomputable def Gh.blk (g : Gh) (r0 : Ref) (b z m : Nat) : Gh :=
  open Classical in
  { g with L := fun x => if x = b then 0 else g.L x, M := fun x => g.M x ∨ x = b, own := fun x => if x = b then none else g.own x,
           be := fun r => if r = r0 then b else g.be r, sz := fun r => if r = r0 then z else g.sz r, n := fun r => if r = r0 then m else g.n r, live := fun r => g.live r ∨ r = r0 }
theorem Gh.grow_blk {o : Obj} {r0 : Ref} (z m : Nat) (hS : RelS w g st) (hr : getB st r0 = none) : Grow w (w.alloc o) g (g.blk r0 w.heap.size z m) where
  os := rfl
  tape := rfl
  output := rfl
  size := by simp
  heap := fun b hb => by
    simp only [World.alloc]
    rw [Array.getElem?_push_lt hb, Array.getElem?_eq_getElem hb]
  L := fun b hb => by simp only [Gh.blk]; rw [if_neg (by omega)]
  M := fun b hb => by
    simp only [Gh.blk]
    constructor
    · rintro (h | h)
      · exact h
      · omega
    · exact .inl
  own := fun b hb => by simp only [Gh.blk]; rw [if_neg (by omega)]
  refs := fun r hl => by
    have hne : r ≠ r0 := fun e => by
      obtain ⟨b, hb⟩ := (hS.live r).1 hl
      rw [e, hr] at hb; cases hb
    exact ⟨.inl hl, by simp only [Gh.blk]; rw [if_neg hne], by simp only [Gh.blk]; rw [if_neg hne], by simp only [Gh.blk]; rw [if_neg hne]⟩
  own' := fun b q hb h => by
    simp only [Gh.blk] at h
    split at h
    · cases h
    · have := (hS.own b q h).2; omega
  fresh := fun b hb => by
    simp at hb
    simp only [Gh.blk]
    rw [if_neg (by omega)]
    obtain ⟨h1, h2⟩ := hS.fresh b (by omega)
    refine ⟨h1, ?_⟩
    rintro (h | h)
    · exact h2 h
    · omega

/-- the store with one block more -/
theorem RelS.new_blk {cs : Array Value} {E : TypeId} {r0 : Ref} {z : Nat} {xs : List D} {st' : St} {f : Pl → Pl} (hS : RelS w g st) (hr : getB st r0 = none)
    (hst : ∀ r, getB st' r = if r = r0 then some (.row xs) else getB st r)
    (hf0 : f .nil = .nil) (hf1 : ∀ p, f p = .nil → p = .nil) (hfc : ∀ r i j, f (.cell r i j) = .cell r i j)
    (hx : ∀ i (h : i < xs.length), (cellsOf xs[i]).length = z ∧ ∀ j (hj : j < (cellsOf xs[i]).length), ((cellsOf xs[i])[j]).isCell = true ∧ refsBelow (r0.lvl + 1) ((cellsOf xs[i])[j]) = true ∧
      ∃ v pl, cs[i * z + j]? = some v ∧ RelD w g pl (cellsOf xs[i])[j] v ∧ f (pl 0) = .cell r0 i j) :
    RelS (w.alloc (.cells cs E)) ((g.blk r0 w.heap.size z xs.length).mv f) st' := by
  have hG := Gh.grow_blk (o := .cells cs E) z xs.length hS hr
  have hlive : ∀ r, (g.blk r0 w.heap.size z xs.length).live r ↔ ∃ b, getB st' r = some b := fun r => by
    rw [hst]
    by_cases e : r = r0
    · subst e; simp [Gh.blk]
    · rw [if_neg e]; simp only [Gh.blk, e, or_false]; exact hS.live r
  have hbe0 : (g.blk r0 w.heap.size z xs.length).be r0 = w.heap.size := by simp [Gh.blk]
  have hsz0 : (g.blk r0 w.heap.size z xs.length).sz r0 = z := by simp [Gh.blk]
  have base : RelS (w.alloc (.cells cs E)) (g.blk r0 w.heap.size z xs.length) [] ∨ True := .inr trivial
  have old : ∀ r, g.live r → r ≠ r0 := fun r hl e => by
    obtain ⟨b, hb⟩ := (hS.live r).1 hl
    rw [e, hr] at hb; cases hb
  have hbe : ∀ r, (g.blk r0 w.heap.size z xs.length).live r → (r = r0 ∧ (g.blk r0 w.heap.size z xs.length).be r = w.heap.size) ∨ (g.live r ∧ (g.blk r0 w.heap.size z xs.length).be r = g.be r ∧ g.be r < w.heap.size) := fun r hl => by
    rcases hl with hl | rfl
    · exact .inr ⟨hl, (hG.refs r hl).2.1, (hS.be r hl).2.2.2⟩
    · exact .inl ⟨rfl, hbe0⟩
  have mvlive : ∀ r, ((g.blk r0 w.heap.size z xs.length).mv f).live r ↔ (g.blk r0 w.heap.size z xs.length).live r := fun r => Iff.rfl
  refine ⟨hlive, fun r b hb => ?_, fun r hl => ?_, fun r r' hl hl' e => ?_, fun b p hb => ?_, fun b hb => ?_, hG.fresh, gl_keep (hG.keeps hS).cell (hG.keeps hS).L hG.size (fun b hb hm => ⟨fun hh => hm ((hG.M b hb).1 hh), hG.heap b hb⟩) hS.gl⟩
  · rw [hst] at hb
    by_cases e : r = r0
    · subst e
      rw [if_pos rfl] at hb
      cases hb
      simp only [RelB]
      refine ⟨by show _ = (g.blk r w.heap.size z xs.length).n r; simp [Gh.blk], fun i hi => ?_⟩
      obtain ⟨h1, h2⟩ := hx i hi
      refine ⟨by show _ = (g.blk r w.heap.size z xs.length).sz r; rw [hsz0]; exact h1, fun j hj => ?_⟩
      obtain ⟨h3, h4, v, pl, h5, h6, h7⟩ := h2 j hj
      have e1 : ((g.blk r w.heap.size z xs.length).mv f).be r = w.heap.size := hbe0
      have e2 : ((g.blk r w.heap.size z xs.length).mv f).sz r = z := hsz0
      refine ⟨h3, h4, v, ?_, ?_, ?_⟩
      · rw [e1, e2, World.cell?_alloc_new]; exact h5
      · rw [e1, e2, World.frozen?_alloc_new]
      · have h8 := (hG.relD hS (h6.place h3 (pl' := fun _ => pl 0) rfl)).mv (f := f) (pl' := fun _ => .cell r i j) (fun _ => h7) hf0
        exact h8
    · rw [if_neg e] at hb
      have h1 := hG.blk hS ((hS.live r).2 ⟨b, hb⟩) (hS.blk r b hb)
      cases b with
      | mp es =>
        obtain ⟨arr, clock, h8, h9, h10⟩ := h1
        refine ⟨arr, clock, h8, h9, fun i hi hi' => ?_⟩
        obtain ⟨h11, h12, h13⟩ := h10 i hi hi'
        exact ⟨h11, h12, h13.mv (fun _ => hfc r i 0) hf0⟩
      | row ys =>
        simp only [RelB] at h1 ⊢
        refine ⟨h1.1, fun i hi => ?_⟩
        obtain ⟨h2, h3⟩ := h1.2 i hi
        refine ⟨h2, fun j hj => ?_⟩
        obtain ⟨h4, h5, v, h6, h7, h8⟩ := h3 j hj
        exact ⟨h4, h5, v, h6, h7, h8.mv (fun _ => hfc r i j) hf0⟩
  · have hl : (g.blk r0 w.heap.size z xs.length).live r := hl
    show (g.blk r0 w.heap.size z xs.length).M ((g.blk r0 w.heap.size z xs.length).be r) ∧ (g.blk r0 w.heap.size z xs.length).L ((g.blk r0 w.heap.size z xs.length).be r) = 0 ∧ ((g.blk r0 w.heap.size z xs.length).own ((g.blk r0 w.heap.size z xs.length).be r)).map f = none ∧ (g.blk r0 w.heap.size z xs.length).be r < (w.alloc (.cells cs E)).heap.size
    rcases hbe r hl with ⟨rfl, e⟩ | ⟨h1, e, h2⟩
    · rw [e]
      exact ⟨.inr rfl, by simp [Gh.blk], by simp [Gh.blk], by simp⟩
    · obtain ⟨h3, h4, h5, h6⟩ := hS.be r h1
      rw [e]
      refine ⟨.inl h3, ?_, ?_, by simp; omega⟩
      · rw [hG.L _ h2]; exact h4
      · rw [hG.own _ h2, h5]; rfl
  · have e : (g.blk r0 w.heap.size z xs.length).be r = (g.blk r0 w.heap.size z xs.length).be r' := e
    rcases hbe r hl with ⟨rfl, e1⟩ | ⟨h1, e1, h2⟩ <;> rcases hbe r' hl' with ⟨rfl, e2⟩ | ⟨h3, e2, h4⟩
    · rfl
    · omega
    · omega
    · exact hS.inj r r' h1 h3 (by rw [← e1, ← e2]; exact e)
  · simp only [Gh.mv, Option.map_eq_some_iff] at hb
    obtain ⟨q, hq, rfl⟩ := hb
    by_cases hlt : b < w.heap.size
    · rw [hG.own b hlt] at hq
      exact ⟨.inl (hS.own b q hq).1, by have := (hS.own b q hq).2; simp; omega⟩
    · have := hG.own' b q (by omega) hq
      exact ⟨this.1, this.2.1⟩
  · simp only [Gh.mv, Option.map_eq_some_iff] at hb
    obtain ⟨q, hq, h1⟩ := hb
    have := hf1 q h1
    subst this
    by_cases hlt : b < w.heap.size
    · rw [hG.own b hlt] at hq
      exact hS.nil b hq
    · exact (hG.own' b _ (by omega) hq).2.2 rfl
end
end Go.Q
