/- A right that is taken; memory that only grows: what holds goes on holding. No condition. -/
import Derived.Test.YthfjopmfgaohjaaDoorEvO
import Derived.Laws.NewBlocks
import Derived.Deep.Draws
import Derived.Laws.IdiomStrings
import Derived.Laws.BytesArg
import Derived.Deep.Upon
set_option linter.all false
namespace Go.Q
variable [Known]

theorem getT_set : ∀ (l : List D) (i j : Nat) (d : D), getT (l.set i d) j = if i = j ∧ i < l.length then d else getT l j
  | [], i, j, d => by simp [getT]
  | x :: l, 0, 0, d => by simp [getT]
  | x :: l, 0, j + 1, d => by simp [getT]
  | x :: l, i + 1, 0, d => by simp [getT]
  | x :: l, i + 1, j + 1, d => by simp [getT, getT_set l i j d]
theorem getT_nil {l : List D} {i : Nat} (h : l.length ≤ i) : getT l i = .undef := by
  induction l generalizing i with
  | nil => rfl
  | cons x l ih => cases i with
    | zero => simp at h
    | succ i => exact ih (by simpa using h)
theorem getT_lt {l : List D} {i : Nat} (h : getT l i ≠ .undef) : i < l.length := Nat.lt_of_not_le fun hn => h (getT_nil hn)

theorem idxOf_lt {α : Type} [BEq α] [LawfulBEq α] {l : List α} {x : α} {j : Nat} (h : l.idxOf? x = some j) : j < l.length := by
  simp only [List.idxOf?, List.findIdx?_eq_some_iff_getElem] at h
  exact h.1

section
variable {w : World} {g : Gh} {μ : List Nat} {τ : List (Option Nat)} {env ts : List D} {st : St} {a : Act}

theorem RelS.mv {f : Pl → Pl} (h : RelS w g st) (hn : f .nil = .nil) (hn' : ∀ p, f p = .nil → p = .nil) (hc : ∀ r i j, f (.cell r i j) = .cell r i j) : RelS w (g.mv f) st where
  live := h.live
  blk := fun r b hb => by
    have := h.blk r b hb
    cases b with
    | it s pos => exact this
    | dead => trivial
    | row xs =>
      simp only [RelB] at this ⊢
      refine ⟨this.1, fun i hi => ?_⟩
      obtain ⟨h1, h2⟩ := this.2 i hi
      refine ⟨h1, fun j hj => ?_⟩
      obtain ⟨h3, h4, v, h5, h6, h7⟩ := h2 j hj
      exact ⟨h3, h4, v, h5, h6, h7.mv (fun _ => hc r i j) hn⟩
    | mp es =>
      obtain ⟨arr, clock, h8, h9, h10⟩ := this
      refine ⟨arr, clock, h8, h9, fun i hi hi' => ?_⟩
      obtain ⟨h11, h12, h13⟩ := h10 i hi hi'
      exact ⟨h11, h12, h13.mv (fun _ => hc r i 0) hn⟩
  be := fun r hr => by
    obtain ⟨h1, h2, h3, h4⟩ := h.be r hr
    exact ⟨h1, h2, by simp [Gh.mv, h3], h4⟩
  inj := h.inj
  own := fun b p hb => by
    simp only [Gh.mv, Option.map_eq_some_iff] at hb
    obtain ⟨q, hq, rfl⟩ := hb
    exact h.own b q hq
  nil := fun b hb => by
    simp only [Gh.mv, Option.map_eq_some_iff] at hb
    obtain ⟨q, hq, h1⟩ := hb
    exact h.nil b (hn' q h1 ▸ hq)
  fresh := h.fresh
  gl := h.gl

theorem Ext.mv (f : Pl → Pl) : Ext w w g (g.mv f) := ⟨rfl, rfl, rfl, Nat.le_refl _, fun _ _ _ => rfl, fun _ => Nat.le_refl _, fun _ _ h => ⟨rfl, rfl, h⟩, fun r h => ⟨h, rfl, rfl, rfl, rfl⟩⟩

theorem take_rel (h : RelA w g μ τ env ts st a.tmps) (hts : ts.length = τ.length) {x : Operand} {y : Opd} (hc : chkO μ τ x y = true) :
    ∃ f, RelA w (g.mv f) μ τ (takeO env ts y).2.1 (takeO env ts y).2.2 st a.tmps ∧ RelD w (g.mv f) (.tmp τ.length) (takeO env ts y).1 (a.eval x) ∧ (takeO env ts y).2.2.length = ts.length ∧ (takeO env ts y).2.1.length = env.length := by
  have plain : (takeO env ts y) = (cp (raw env ts y), env, ts) → ∃ f, RelA w (g.mv f) μ τ (takeO env ts y).2.1 (takeO env ts y).2.2 st a.tmps ∧ RelD w (g.mv f) (.tmp τ.length) (takeO env ts y).1 (a.eval x) ∧ (takeO env ts y).2.2.length = ts.length ∧ (takeO env ts y).2.1.length = env.length := by
    intro e
    rw [e]
    have hg : g.mv id = g := by simp [Gh.mv]
    refine ⟨id, ?_, ?_, rfl, rfl⟩
    · rw [hg]; exact h
    · rw [hg]; exact rd_rel h hc _
  cases y with
  | c d =>
    refine plain ?_
    simp only [takeO, raw]
    cases d <;> rfl
  | x i =>
    cases hr : getT env i with
    | lin z xs =>
      have hlt : i < env.length := getT_lt (by rw [hr]; simp)
      have e : takeO env ts (.x i) = (.lin z xs, env.set i (.v (.slc z xs)), ts) := by simp only [takeO, raw, hr, takeD]
      rw [e]
      unfold chkO at hc
      split at hc <;> first | (rename_i hq; cases hq; done) | (cases hc; done) | skip
      rename_i t i' hq
      cases hq
      simp at hc
      have hx := h.e i t hc
      rw [hr] at hx
      let f : Pl → Pl := fun p => if p = .env i then .tmp τ.length 0 else p
      have fe : ∀ j, j ≠ i → f (.env j) = .env j := fun j hj => by simp [f, hj]
      have ft : ∀ j k, f (.tmp j k) = .tmp j k := fun j k => by simp [f]
      refine ⟨f, ⟨h.s.mv (by simp [f]) (fun p hp => by simp only [f] at hp; split at hp <;> first | exact hp | (cases hp; done)) (fun r i j => by simp [f]), fun j t' hj => ?_, fun j t' hj => ?_⟩, ?_, rfl, by simp⟩
      · rw [getT_set]
        by_cases hij : i = j
        · subst hij
          rw [if_pos ⟨rfl, hlt⟩]
          rw [hc] at hj
          cases hj
          exact .v _ _ _ (RelV.mv (by cases hx; assumption))
        · rw [if_neg (fun hh => hij hh.1)]
          exact (h.e j t' hj).mv (fun _ => fe j (fun hh => hij hh.symm)) (by simp [f])
      · exact (h.t j t' hj).mv (fun k => ft _ _) (by simp [f])
      · cases hx with | lin _ _ _ v hv hs =>
        have hx' : RelD w g (fun _ => .env i) (.lin z xs) (a.eval (.tmp t)) := .lin _ z xs _ hv hs
        have := hx'.mv (f := f) (pl' := fun _ => .tmp τ.length 0) (fun _ => by simp [f]) (by simp [f])
        exact this.place rfl rfl
    | tup ds => exact plain (by simp only [takeO, raw, hr, takeD])
    | _ => exact plain (by simp only [takeO, raw, hr, takeD])
  | t j =>
    have move : ∀ (d d' : D), getT ts j = d → takeO env ts (.t j) = (d, env, ts.set j d') → d ≠ .undef → (∀ pl v f, RelD w g pl d v → ∀ pl', RelD w (g.mv f) pl' d' v) →
        ∃ f, RelA w (g.mv f) μ τ (takeO env ts (.t j)).2.1 (takeO env ts (.t j)).2.2 st a.tmps ∧ RelD w (g.mv f) (.tmp τ.length) (takeO env ts (.t j)).1 (a.eval x) ∧ (takeO env ts (.t j)).2.2.length = ts.length ∧ (takeO env ts (.t j)).2.1.length = env.length := by
      intro d d' hr e hnu hd'
      have hlt : j < ts.length := getT_lt (by rw [hr]; exact hnu)
      rw [e]
      unfold chkO at hc
      split at hc <;> first | (rename_i hq; cases hq; done) | (cases hc; done) | skip
      rename_i t j' hq
      cases hq
      simp at hc
      have hx := h.t j t hc
      rw [hr] at hx
      let m := τ.length - 1 - j
      let f : Pl → Pl := fun p => match p with | .tmp b k => if b = m then .tmp τ.length k else .tmp b k | p => p
      refine ⟨f, ⟨h.s.mv rfl (fun p hp => by cases p <;> simp only [f] at hp <;> first | rfl | (cases hp; done) | (split at hp <;> cases hp)) (fun r i j => rfl), fun i t' hi => ?_, fun j' t' hj => ?_⟩, ?_, by simp, rfl⟩
      · exact (h.e i t' hi).mv (fun _ => rfl) rfl
      · rw [getT_set]
        have hl' := idxOf_lt hj
        by_cases hij : j = j'
        · subst hij
          rw [if_pos ⟨rfl, hlt⟩]
          have : t' = t := by
            have h1 := idxOf_lt hc
            simp only [List.idxOf?, List.findIdx?_eq_some_iff_getElem] at hc hj
            obtain ⟨_, h2, _⟩ := hc
            obtain ⟨_, h3, _⟩ := hj
            simp at h2 h3
            have := h2.symm.trans h3
            simpa using this.symm
          subst this
          exact hd' _ _ f hx _
        · rw [if_neg (fun hh => hij hh.1)]
          have hne : τ.length - 1 - j' ≠ m := by
            have h1 := idxOf_lt hc
            show τ.length - 1 - j' ≠ τ.length - 1 - j
            omega
          exact (h.t j' t' hj).mv (fun k => by simp [f, hne]) rfl
      · have hx' : RelD w g (.tmp m) d (a.eval (.tmp t)) := hx
        exact hx'.mv (fun k => by simp [f]) rfl
    cases hr : getT ts j with
    | lin z xs => exact move (.lin z xs) (.v (.slc z xs)) hr (by simp only [takeO, raw, hr, takeD]) (by simp) (fun pl v f hx pl' => by cases hx; exact .v _ _ _ (RelV.mv (by assumption)))
    | tup ds => exact move (.tup ds) .undef hr (by simp only [takeO, raw, hr, takeD]) (by simp) (fun pl v f hx pl' => .undef _ _)
    | _ => exact plain (by simp only [takeO, raw, hr, takeD])
end
end Go.Q
namespace Go.Q
variable [Known]

structure Grow (w w' : World) (g g' : Gh) : Prop where
  os : w'.os = w.os
  tape : w'.tape = w.tape
  output : w'.output = w.output
  size : w.heap.size ≤ w'.heap.size
  heap : ∀ b, b < w.heap.size → w'.heap[b]? = w.heap[b]?
  L : ∀ b, b < w.heap.size → g'.L b = g.L b
  M : ∀ b, b < w.heap.size → (g'.M b ↔ g.M b)
  own : ∀ b, b < w.heap.size → g'.own b = g.own b
  refs : ∀ r, g.live r → KeepsRef g g' r
  own' : ∀ b p, w.heap.size ≤ b → g'.own b = some p → g'.M b ∧ b < w'.heap.size ∧ p ≠ .nil
  fresh : ∀ b, w'.heap.size ≤ b → g'.L b = 0 ∧ ¬ g'.M b

theorem cell_heap {w w' : World} {b : Nat} (h : w'.heap[b]? = w.heap[b]?) (o : Nat) : w'.cell? ⟨b, o, none⟩ = w.cell? ⟨b, o, none⟩ ∧ w'.frozen? ⟨b, o, none⟩ = w.frozen? ⟨b, o, none⟩ := by
  unfold World.cell? World.frozen?
  simp only [h, and_self]

section
variable {w w' : World} {g g' : Gh} {st : St}
theorem Grow.keeps (h : Grow w w' g g') (hS : RelS w g st) : Keeps w w' g g' where
  cell := fun b o ho => by
    by_cases hb : b < w.heap.size
    · exact (cell_heap (h.heap b hb) o).1
    · have := (hS.fresh b (by omega)).1; omega
  L := fun b => by
    by_cases hb : b < w.heap.size
    · exact Nat.le_of_eq (h.L b hb).symm
    · rw [(hS.fresh b (by omega)).1]; exact Nat.zero_le _
theorem Grow.pl (h : Grow w w' g g') (hS : RelS w g st) (pl : Nat → Pl) : KeepsPl w w' g g' pl := fun b k hb => by
  have hlt := (hS.own b _ hb).2
  refine ⟨by rw [h.own b hlt]; exact hb, h.L b hlt, fun o => ?_⟩
  obtain ⟨h1, h2⟩ := cell_heap (h.heap b hlt) o
  rw [h1, h2]; exact ⟨id, id⟩
theorem Grow.relD (h : Grow w w' g g') (hS : RelS w g st) {pl : Nat → Pl} {d : D} {v : Value} (hd : RelD w g pl d v) : RelD w' g' pl d v :=
  hd.mono (h.keeps hS) hS.nil (h.pl hS pl) h.refs
theorem Grow.ext (h : Grow w w' g g') (hS : RelS w g st) : Ext w w' g g' where
  os := h.os
  tape := h.tape
  output := h.output
  size := h.size
  cell := (h.keeps hS).cell
  L := (h.keeps hS).L
  old := fun b hb hm => ⟨h.heap b hb, h.L b hb, fun hm' => hm ((h.M b hb).1 hm')⟩
  refs := h.refs
theorem Grow.blk (h : Grow w w' g g') (hS : RelS w g st) {r : Ref} {b : Blk} (hr : g.live r) (hb : RelB w g r b) : RelB w' g' r b := by
  obtain ⟨h1, h2, h3, h3', h3c⟩ := h.refs r hr
  obtain ⟨h4, h5, h6, h7⟩ := hS.be r hr
  cases b with
  | dead => trivial
  | it s pos => exact ⟨by rw [h2, h.heap _ h7]; exact hb.1, by rw [h3]; exact hb.2.1, by rw [h3']; exact hb.2.2⟩
  | mp es =>
    obtain ⟨arr, clock, h8, h9, h10⟩ := hb
    refine ⟨arr, clock, by rw [h2, h.heap _ h7]; exact h8, h9, fun i hi hi' => ?_⟩
    obtain ⟨h11, h12, h13⟩ := h10 i hi hi'
    exact ⟨h11, h12, h.relD hS h13⟩
  | row xs =>
    simp only [RelB] at hb ⊢
    refine ⟨⟨by rw [hb.1.1, h3'], fun j hj => by
      obtain ⟨e1, e2⟩ := cell_heap (h.heap _ h7) j
      rw [h3c] at hj
      rw [h2, e1, e2]
      exact hb.1.2 j hj⟩, fun i hi => ?_⟩
    obtain ⟨h8, h9⟩ := hb.2 i hi
    refine ⟨by rw [h8, h3], fun j hj => ?_⟩
    obtain ⟨h10, h11, v, h12, h13, h14⟩ := h9 j hj
    obtain ⟨e1, e2⟩ := cell_heap (h.heap _ h7) (i * g.sz r + j)
    exact ⟨h10, h11, v, by rw [h2, h3, e1]; exact h12, by rw [h2, h3, e2]; exact h13, h.relD hS h14⟩
theorem Grow.relS (h : Grow w w' g g') (hS : RelS w g st) (hl : ∀ r, g'.live r ↔ g.live r) : RelS w' g' st where
  live := fun r => (hl r).trans (hS.live r)
  blk := fun r b hb => h.blk hS ((hS.live r).2 ⟨b, hb⟩) (hS.blk r b hb)
  be := fun r hr => by
    have hr := (hl r).1 hr
    obtain ⟨h1, h2, h3⟩ := h.refs r hr
    obtain ⟨h4, h5, h6, h7⟩ := hS.be r hr
    rw [h2]
    exact ⟨(h.M _ h7).2 h4, by rw [h.L _ h7]; exact h5, by rw [h.own _ h7]; exact h6, Nat.lt_of_lt_of_le h7 h.size⟩
  inj := fun r r' hr hr' e => by
    have hr := (hl r).1 hr
    have hr' := (hl r').1 hr'
    rw [(h.refs r hr).2.1, (h.refs r' hr').2.1] at e
    exact hS.inj r r' hr hr' e
  own := fun b p hb => by
    by_cases hlt : b < w.heap.size
    · rw [h.own b hlt] at hb
      exact ⟨(h.M b hlt).2 (hS.own b p hb).1, Nat.lt_of_lt_of_le hlt h.size⟩
    · obtain ⟨h1, h2, _⟩ := h.own' b p (by omega) hb
      exact ⟨h1, h2⟩
  nil := fun b hb => by
    by_cases hlt : b < w.heap.size
    · rw [h.own b hlt] at hb; exact hS.nil b hb
    · exact (h.own' b _ (by omega) hb).2.2 rfl
  fresh := h.fresh
  gl := gl_keep (h.keeps hS).cell (h.keeps hS).L h.size (fun b hb hm => ⟨fun hh => hm ((h.M b hb).1 hh), h.heap b hb⟩) hS.gl
theorem Grow.relA (h : Grow w w' g g') {μ τ env ts tmps} (hA : RelA w g μ τ env ts st tmps) (hl : ∀ r, g'.live r ↔ g.live r) : RelA w' g' μ τ env ts st tmps where
  s := h.relS hA.s hl
  e := fun i t hi => h.relD hA.s (hA.e i t hi)
  t := fun j t hj => h.relD hA.s (hA.t j t hj)

noncomputable def Gh.new (g : Gh) (b L : Nat) (p : Option Pl) : Gh :=
  { g with L := fun x => if x = b then L else g.L x, M := fun x => g.M x ∨ (x = b ∧ p.isSome = true), own := fun x => if x = b then p else g.own x }
theorem Gh.grow_new {o : Obj} {L : Nat} {p : Option Pl} (hS : RelS w g st) (hp : p ≠ some .nil) (n : Nat) :
    Grow w ((w.drewN n).alloc o) g (g.new w.heap.size L p) where
  os := rfl
  tape := rfl
  output := rfl
  size := by simp [World.alloc, World.drewN]
  heap := fun b hb => by
    simp only [World.alloc, World.drewN]
    rw [Array.getElem?_push_lt hb, Array.getElem?_eq_getElem hb]
  L := fun b hb => by simp only [Gh.new]; rw [if_neg (by omega)]
  M := fun b hb => by
    simp only [Gh.new]
    constructor
    · rintro (h | ⟨h, _⟩)
      · exact h
      · omega
    · exact .inl
  own := fun b hb => by simp only [Gh.new]; rw [if_neg (by omega)]
  refs := fun r hr => ⟨hr, rfl, rfl, rfl, rfl⟩
  own' := fun b q hb h => by
    simp only [Gh.new] at h ⊢
    split at h
    · rename_i e
      subst e
      exact ⟨.inr ⟨rfl, by rw [h]; rfl⟩, by simp, fun hq => hp (by rw [h, hq])⟩
    · have := (hS.own b q h).2; omega
  fresh := fun b hb => by
    simp at hb
    simp only [Gh.new]
    rw [if_neg (by omega)]
    obtain ⟨h1, h2⟩ := hS.fresh b (by omega)
    refine ⟨h1, ?_⟩
    rintro (h | ⟨h, _⟩)
    · exact h2 h
    · omega
theorem Gh.new_live (L b : Nat) (p : Option Pl) (r : Ref) : (g.new b L p).live r ↔ g.live r := Iff.rfl

def cellL (n sz : Nat) (f : Nat → Nat → Value) : List Value := (List.range (n * sz)).map fun k => f (k / sz) (k % sz)
theorem cellL_len (n sz : Nat) (f) : (cellL n sz f).length = n * sz := by simp [cellL]
theorem cellL_at {n sz i j : Nat} (f : Nat → Nat → Value) (hi : i < n) (hj : j < sz) : (cellL n sz f)[i * sz + j]? = some (f i j) := by
  have h1 : i * sz + j < n * sz := by
    have : (i + 1) * sz ≤ n * sz := Nat.mul_le_mul_right _ (by omega)
    rw [Nat.add_mul] at this; omega
  have h2 : (i * sz + j) / sz = i := by
    rw [Nat.mul_comm, Nat.mul_add_div (by omega)]; rw [Nat.div_eq_of_lt hj]; rfl
  have h3 : (i * sz + j) % sz = j := by
    rw [Nat.mul_comm, Nat.mul_add_mod]; exact Nat.mod_eq_of_lt hj
  simp [cellL, h1, h2, h3]

theorem Els.slc {L : Nat → Nat} {L' : Nat → Nat} {sz b : Nat} {ys : List V} {f : Nat → Nat → Value} {c : Nat} (h : Els w L sz ys f) (hm : ∀ x v, RelV w L x v → RelV w' L' x v)
    (hL : ys.length * sz ≤ L' b) (hc : ys.length ≤ c) (hv : ∀ i j, i < ys.length → j < sz → w'.cell? ⟨b, i * sz + j, none⟩ = some (f i j)) : RelV w' L' (.slc sz ys) (.slice (some ⟨b, 0, none⟩) ys.length c) := by
  refine .slc sz ys b 0 c f hc h.len (fun i j hi hj => ?_) (fun i j hi hj => ?_) h.cell (fun i hi j hj => hm _ _ (h.rel i hi j hj))
  · have : (i + 1) * sz ≤ ys.length * sz := Nat.mul_le_mul_right _ (by omega)
    rw [Nat.add_mul] at this; omega
  · rw [Nat.zero_add]; exact hv i j hi hj
end
end Go.Q
namespace Go.Q
variable [Known]

theorem getB_cons (fr : List Blk) (st : St) (r : Ref) : getB (fr :: st) r = if r.lvl = st.length then fr[r.k]? else getB st r := rfl
theorem getB_addB (st : St) (b : Blk) (r : Ref) : getB (addB st b).1 r = if r = (addB st b).2 then some b else getB st r := by
  cases st with
  | nil =>
    show getB [[b]] r = if r = ⟨0, 0⟩ then some b else getB [] r
    obtain ⟨l, k⟩ := r
    rw [getB_cons]
    by_cases h1 : l = 0
    · subst h1
      cases k with
      | zero => simp
      | succ k => simp [getB]
    · have h2 : ¬ (⟨l, k⟩ : Ref) = ⟨0, 0⟩ := fun e => h1 (congrArg Ref.lvl e)
      rw [if_neg h2]
      simp [getB, h1]
  | cons fr st =>
    show getB ((fr ++ [b]) :: st) r = if r = ⟨st.length, fr.length⟩ then some b else getB (fr :: st) r
    obtain ⟨l, k⟩ := r
    rw [getB_cons, getB_cons]
    by_cases h1 : l = st.length
    · subst h1
      simp only [if_true]
      by_cases h2 : k = fr.length
      · subst h2; simp
      · have h4 : ¬ (⟨st.length, k⟩ : Ref) = ⟨st.length, fr.length⟩ := fun e => h2 (congrArg Ref.k e)
        rw [if_neg h4]
        by_cases h3 : k < fr.length
        · rw [List.getElem?_append_left h3]
        · rw [List.getElem?_append_right (by omega), List.getElem?_eq_none (by simp; omega), List.getElem?_eq_none (by omega)]
    · have h2 : ¬ (⟨l, k⟩ : Ref) = ⟨st.length, fr.length⟩ := fun e => h1 (congrArg Ref.lvl e)
      simp only [h1, if_false, h2]
theorem addB_none (st : St) (b : Blk) : getB st (addB st b).2 = none := by
  cases st with
  | nil => rfl
  | cons fr st => simp [addB, getB]
theorem addBot_lvl : ∀ (st : St) (b : Blk), (addBot st b).2.lvl = 0 ∧ (st ≠ [] → (addBot st b).1.length = st.length)
  | [], b => ⟨rfl, fun h => absurd rfl h⟩
  | [fr], b => ⟨rfl, fun _ => rfl⟩
  | fr :: f2 :: st2, b => by
    have := addBot_lvl (f2 :: st2) b
    simp only [addBot]
    exact ⟨this.1, fun _ => by simp [this.2 (by simp)]⟩
theorem addBot_none : ∀ (st : St) (b : Blk), getB st (addBot st b).2 = none
  | [], b => rfl
  | [fr], b => by simp [addBot, getB]
  | fr :: f2 :: st2, b => by
    have h1 := (addBot_lvl (f2 :: st2) b).1
    have ih := addBot_none (f2 :: st2) b
    show getB (fr :: f2 :: st2) (addBot (f2 :: st2) b).2 = none
    rw [getB_cons, if_neg (by rw [h1]; simp)]
    exact ih
theorem getB_addBot : ∀ (st : St) (b : Blk) (r : Ref), getB (addBot st b).1 r = if r = (addBot st b).2 then some b else getB st r
  | [], b, r => getB_addB [] b r
  | [fr], b, r => getB_addB [fr] b r
  | fr :: f2 :: st2, b, r => by
    have h1 := addBot_lvl (f2 :: st2) b
    have ih := getB_addBot (f2 :: st2) b r
    have e : (addBot (fr :: f2 :: st2) b).1 = fr :: (addBot (f2 :: st2) b).1 := rfl
    have e2 : (addBot (fr :: f2 :: st2) b).2 = (addBot (f2 :: st2) b).2 := rfl
    rw [e, e2]
    have h2 := h1.2 (by simp)
    by_cases hr : r.lvl = (f2 :: st2).length
    · have h3 : r ≠ (addBot (f2 :: st2) b).2 := fun hh => by rw [hh, h1.1] at hr; simp at hr
      rw [if_neg h3]
      show (if r.lvl = (addBot (f2 :: st2) b).1.length then _ else _) = (if r.lvl = (f2 :: st2).length then _ else _)
      rw [h2, if_pos hr, if_pos hr]
    · show (if r.lvl = (addBot (f2 :: st2) b).1.length then _ else _) = (if _ then _ else if r.lvl = (f2 :: st2).length then _ else _)
      rw [h2, if_neg hr, if_neg hr]
      exact ih

section
variable {P : Program} {w : World} {g : Gh} {st : St}
theorem addAt_some : ∀ {st : St} {l : Nat} {b : Blk} {q : St × Ref}, addAt st l b = some q → getB st q.2 = none ∧ (∀ r, getB q.1 r = if r = q.2 then some b else getB st r) ∧ q.2.lvl = l ∧ q.1.length = st.length
  | [], _, _, _, h => by cases h
  | fr :: st, l, b, q, h => by
    unfold addAt at h
    split at h
    · rename_i e
      cases h
      exact ⟨addB_none (fr :: st) b, getB_addB (fr :: st) b, e.symm, rfl⟩
    · rename_i e
      obtain ⟨q0, h1, rfl⟩ := map_some' h
      obtain ⟨k1, k2, k3, k4⟩ := addAt_some h1
      refine ⟨?_, fun r => ?_, k3, by simp [k4]⟩
      · rw [getB_cons, if_neg (by show ¬ q0.2.lvl = st.length; omega)]; exact k1
      · show getB (fr :: q0.1) r = if r = q0.2 then some b else getB (fr :: st) r
        rw [getB_cons, getB_cons, k4]
        by_cases hr : r.lvl = st.length
        · rw [if_pos hr, if_pos hr, if_neg (fun hh => by rw [hh] at hr; omega)]
        · rw [if_neg hr, if_neg hr]; exact k2 r
noncomputable def Gh.blk (g : Gh) (r0 : Ref) (b z m : Nat) (k : Nat := 0) : Gh :=
  open Classical in
  { g with L := fun x => if x = b then 0 else g.L x, M := fun x => g.M x ∨ x = b, own := fun x => if x = b then none else g.own x,
           be := fun r => if r = r0 then b else g.be r, sz := fun r => if r = r0 then z else g.sz r, n := fun r => if r = r0 then m else g.n r, cp := fun r => if r = r0 then k else g.cp r, live := fun r => g.live r ∨ r = r0 }
theorem Gh.grow_blk {o : Obj} {r0 : Ref} (z m : Nat) (hS : RelS w g st) (hr : getB st r0 = none) (k : Nat := 0) : Grow w (w.alloc o) g (g.blk r0 w.heap.size z m k) where
  os := rfl
  tape := rfl
  output := rfl
  size := by simp
  heap := fun b hb => by
    simp only [World.alloc]
    rw [Array.getElem?_push_lt hb, Array.getElem?_eq_getElem hb]
  L := fun b hb => by simp only [Gh.blk]; rw [if_neg (by omega)]
  M := fun b hb => by
    simp only [Gh.blk]
    constructor
    · rintro (h | h)
      · exact h
      · omega
    · exact .inl
  own := fun b hb => by simp only [Gh.blk]; rw [if_neg (by omega)]
  refs := fun r hl => by
    have hne : r ≠ r0 := fun e => by
      obtain ⟨b, hb⟩ := (hS.live r).1 hl
      rw [e, hr] at hb; cases hb
    exact ⟨.inl hl, by simp only [Gh.blk]; rw [if_neg hne], by simp only [Gh.blk]; rw [if_neg hne], by simp only [Gh.blk]; rw [if_neg hne], by simp only [Gh.blk]; rw [if_neg hne]⟩
  own' := fun b q hb h => by
    simp only [Gh.blk] at h
    split at h
    · cases h
    · have := (hS.own b q h).2; omega
  fresh := fun b hb => by
    simp at hb
    simp only [Gh.blk]
    rw [if_neg (by omega)]
    obtain ⟨h1, h2⟩ := hS.fresh b (by omega)
    refine ⟨h1, ?_⟩
    rintro (h | h)
    · exact h2 h
    · omega

theorem RelS.new_blk {cs : Array Value} {E : TypeId} {r0 : Ref} {z : Nat} {xs : List D} {st' : St} {f : Pl → Pl} (hS : RelS w g st) (hr : getB st r0 = none)
    (hst : ∀ r, getB st' r = if r = r0 then some (.row xs) else getB st r)
    (hf0 : f .nil = .nil) (hf1 : ∀ p, f p = .nil → p = .nil) (hfc : ∀ r i j, f (.cell r i j) = .cell r i j)
    (hx : ∀ i (h : i < xs.length), (cellsOf xs[i]).length = z ∧ ∀ j (hj : j < (cellsOf xs[i]).length), ((cellsOf xs[i])[j]).isCell = true ∧ refsBelow (r0.lvl + 1) ((cellsOf xs[i])[j]) = true ∧
      ∃ v pl, cs[i * z + j]? = some v ∧ RelD w g pl (cellsOf xs[i])[j] v ∧ f (pl 0) = .cell r0 i j) :
    RelS (w.alloc (.cells cs E)) ((g.blk r0 w.heap.size z xs.length).mv f) st' := by
  have hG := Gh.grow_blk (o := .cells cs E) z xs.length hS hr
  have hlive : ∀ r, (g.blk r0 w.heap.size z xs.length).live r ↔ ∃ b, getB st' r = some b := fun r => by
    rw [hst]
    by_cases e : r = r0
    · subst e; simp [Gh.blk]
    · rw [if_neg e]; simp only [Gh.blk, e, or_false]; exact hS.live r
  have hbe0 : (g.blk r0 w.heap.size z xs.length).be r0 = w.heap.size := by simp [Gh.blk]
  have hsz0 : (g.blk r0 w.heap.size z xs.length).sz r0 = z := by simp [Gh.blk]
  have base : RelS (w.alloc (.cells cs E)) (g.blk r0 w.heap.size z xs.length) [] ∨ True := .inr trivial
  have old : ∀ r, g.live r → r ≠ r0 := fun r hl e => by
    obtain ⟨b, hb⟩ := (hS.live r).1 hl
    rw [e, hr] at hb; cases hb
  have hbe : ∀ r, (g.blk r0 w.heap.size z xs.length).live r → (r = r0 ∧ (g.blk r0 w.heap.size z xs.length).be r = w.heap.size) ∨ (g.live r ∧ (g.blk r0 w.heap.size z xs.length).be r = g.be r ∧ g.be r < w.heap.size) := fun r hl => by
    rcases hl with hl | rfl
    · exact .inr ⟨hl, (hG.refs r hl).2.1, (hS.be r hl).2.2.2⟩
    · exact .inl ⟨rfl, hbe0⟩
  have mvlive : ∀ r, ((g.blk r0 w.heap.size z xs.length).mv f).live r ↔ (g.blk r0 w.heap.size z xs.length).live r := fun r => Iff.rfl
  refine ⟨hlive, fun r b hb => ?_, fun r hl => ?_, fun r r' hl hl' e => ?_, fun b p hb => ?_, fun b hb => ?_, hG.fresh, gl_keep (hG.keeps hS).cell (hG.keeps hS).L hG.size (fun b hb hm => ⟨fun hh => hm ((hG.M b hb).1 hh), hG.heap b hb⟩) hS.gl⟩
  · rw [hst] at hb
    by_cases e : r = r0
    · subst e
      rw [if_pos rfl] at hb
      cases hb
      simp only [RelB]
      refine ⟨⟨by show _ = (g.blk r w.heap.size z xs.length).n r; simp [Gh.blk], fun j hj => by
        have h9 : (g.blk r w.heap.size z xs.length).cp r = 0 := by simp [Gh.blk]
        have hj : j < (g.blk r w.heap.size z xs.length).cp r := hj
        omega⟩, fun i hi => ?_⟩
      obtain ⟨h1, h2⟩ := hx i hi
      refine ⟨by show _ = (g.blk r w.heap.size z xs.length).sz r; rw [hsz0]; exact h1, fun j hj => ?_⟩
      obtain ⟨h3, h4, v, pl, h5, h6, h7⟩ := h2 j hj
      have e1 : ((g.blk r w.heap.size z xs.length).mv f).be r = w.heap.size := hbe0
      have e2 : ((g.blk r w.heap.size z xs.length).mv f).sz r = z := hsz0
      refine ⟨h3, h4, v, ?_, ?_, ?_⟩
      · rw [e1, e2, World.cell?_alloc_new]; exact h5
      · rw [e1, e2, World.frozen?_alloc_new]
      · have h8 := (hG.relD hS (h6.place h3 (pl' := fun _ => pl 0) rfl)).mv (f := f) (pl' := fun _ => .cell r i j) (fun _ => h7) hf0
        exact h8
    · rw [if_neg e] at hb
      have h1 := hG.blk hS ((hS.live r).2 ⟨b, hb⟩) (hS.blk r b hb)
      cases b with
      | dead => trivial
      | it s pos => exact h1
      | mp es =>
        obtain ⟨arr, clock, h8, h9, h10⟩ := h1
        refine ⟨arr, clock, h8, h9, fun i hi hi' => ?_⟩
        obtain ⟨h11, h12, h13⟩ := h10 i hi hi'
        exact ⟨h11, h12, h13.mv (fun _ => hfc r i 0) hf0⟩
      | row ys =>
        simp only [RelB] at h1 ⊢
        refine ⟨h1.1, fun i hi => ?_⟩
        obtain ⟨h2, h3⟩ := h1.2 i hi
        refine ⟨h2, fun j hj => ?_⟩
        obtain ⟨h4, h5, v, h6, h7, h8⟩ := h3 j hj
        exact ⟨h4, h5, v, h6, h7, h8.mv (fun _ => hfc r i j) hf0⟩
  · have hl : (g.blk r0 w.heap.size z xs.length).live r := hl
    show (g.blk r0 w.heap.size z xs.length).M ((g.blk r0 w.heap.size z xs.length).be r) ∧ (g.blk r0 w.heap.size z xs.length).L ((g.blk r0 w.heap.size z xs.length).be r) = 0 ∧ ((g.blk r0 w.heap.size z xs.length).own ((g.blk r0 w.heap.size z xs.length).be r)).map f = none ∧ (g.blk r0 w.heap.size z xs.length).be r < (w.alloc (.cells cs E)).heap.size
    rcases hbe r hl with ⟨rfl, e⟩ | ⟨h1, e, h2⟩
    · rw [e]
      exact ⟨.inr rfl, by simp [Gh.blk], by simp [Gh.blk], by simp⟩
    · obtain ⟨h3, h4, h5, h6⟩ := hS.be r h1
      rw [e]
      refine ⟨.inl h3, ?_, ?_, by simp; omega⟩
      · rw [hG.L _ h2]; exact h4
      · rw [hG.own _ h2, h5]; rfl
  · have e : (g.blk r0 w.heap.size z xs.length).be r = (g.blk r0 w.heap.size z xs.length).be r' := e
    rcases hbe r hl with ⟨rfl, e1⟩ | ⟨h1, e1, h2⟩ <;> rcases hbe r' hl' with ⟨rfl, e2⟩ | ⟨h3, e2, h4⟩
    · exact .inl rfl
    · omega
    · omega
    · rw [hst, hst, if_neg (old r h1), if_neg (old r' h3)]
      exact hS.inj r r' h1 h3 (by rw [← e1, ← e2]; exact e)
  · simp only [Gh.mv, Option.map_eq_some_iff] at hb
    obtain ⟨q, hq, rfl⟩ := hb
    by_cases hlt : b < w.heap.size
    · rw [hG.own b hlt] at hq
      exact ⟨.inl (hS.own b q hq).1, by have := (hS.own b q hq).2; simp; omega⟩
    · have := hG.own' b q (by omega) hq
      exact ⟨this.1, this.2.1⟩
  · simp only [Gh.mv, Option.map_eq_some_iff] at hb
    obtain ⟨q, hq, h1⟩ := hb
    have := hf1 q h1
    subst this
    by_cases hlt : b < w.heap.size
    · rw [hG.own b hlt] at hq
      exact hS.nil b hq
    · exact (hG.own' b _ (by omega) hq).2.2 rfl
end
end Go.Q
namespace Go.Q
variable [Known]
section
variable {P : Program} {w : World} {g : Gh}

theorem foldl_put (off : Nat) : ∀ (l : List Value) (k : Nat) (cells : Array Value),
    ((l.zipIdx k).foldl (fun cs (q : Value × Nat) => cs.setIfInBounds (off + q.2) q.1) cells).size = cells.size ∧
    ∀ i, ((l.zipIdx k).foldl (fun cs (q : Value × Nat) => cs.setIfInBounds (off + q.2) q.1) cells)[i]? =
      if off + k ≤ i ∧ i < off + k + l.length ∧ i < cells.size then l[i - (off + k)]? else cells[i]?
  | [], k, cells => ⟨rfl, fun i => by rw [if_neg (by simp; omega)]; rfl⟩
  | v :: l, k, cells => by
    obtain ⟨h1, h2⟩ := foldl_put off l (k + 1) (cells.setIfInBounds (off + k) v)
    simp only [List.zipIdx_cons, List.foldl_cons]
    refine ⟨by rw [h1]; simp, fun i => ?_⟩
    rw [h2 i]
    simp only [Array.size_setIfInBounds, List.length_cons]
    by_cases hi : i = off + k
    · subst hi
      rw [if_neg (by omega)]
      by_cases hlt : off + k < cells.size
      · rw [if_pos (by omega)]
        simp [Array.getElem?_setIfInBounds, hlt]
      · rw [if_neg (by omega)]
        simp [Array.getElem?_setIfInBounds, hlt]
    · by_cases hc : off + (k + 1) ≤ i ∧ i < off + (k + 1) + l.length ∧ i < cells.size
      · rw [if_pos hc, if_pos (by omega)]
        obtain ⟨m, hm⟩ : ∃ m, i - (off + k) = m + 1 := ⟨i - (off + k) - 1, by omega⟩
        rw [hm, List.getElem?_cons_succ]
        congr 1
        omega
      · rw [if_neg hc, if_neg (by omega)]
        rw [Array.getElem?_setIfInBounds_ne (by omega)]

def RelCs (w : World) (g : Gh) (cs : List D) (vs : Array Value) : Prop :=
  cs.length = vs.size ∧ ∀ i (h : i < cs.length), cs[i].isCell = true ∧ ∃ v, vs[i]? = some v ∧ ∀ pl, RelD w g pl cs[i] v
inductive RelPs (w : World) (g : Gh) (pl : Nat → Option (Nat × Nat)) : List (Nat × Nat × D) → List (Nat × Value) → Prop
  | nil : RelPs w g pl [] []
  | cons (i off sz d v ds vs) (hp : pl i = some (off, sz)) (h : ∀ p, RelD w g p d v) (hr : RelPs w g pl ds vs) : RelPs w g pl ((off, sz, d) :: ds) ((i, v) :: vs)

theorem putAt_len (cs new : List D) (off : Nat) (h : off + new.length ≤ cs.length) : (putAt cs off new).length = cs.length := by
  simp [putAt]; omega
theorem putAt_get (cs new : List D) (off : Nat) (h : off + new.length ≤ cs.length) (i : Nat) :
    (putAt cs off new)[i]? = if off ≤ i ∧ i < off + new.length then new[i - off]? else cs[i]? := by
  simp only [putAt]
  by_cases h1 : i < off
  · rw [if_neg (by omega), List.append_assoc, List.getElem?_append_left (by simp; omega), List.getElem?_take_of_lt h1]
  · by_cases h2 : i < off + new.length
    · rw [if_pos (by omega), List.getElem?_append_left (by simp; omega), List.getElem?_append_right (by simp; omega)]
      congr 1
      simp; omega
    · rw [if_neg (by omega), List.getElem?_append_right (by simp; omega), List.getElem?_drop]
      congr 1
      simp; omega

theorem fill_ok {pl : Nat → Option (Nat × Nat)} {ps : List (Nat × Nat × D)} {vs : List (Nat × Value)} (hps : RelPs w g pl ps vs) : ∀ {cs cs' : List D} {cells : Array Value}, RelCs w g cs cells → fillD cs ps = some cs' →
    ∃ cells', Instr.fill pl cells vs = some cells' ∧ RelCs w g cs' cells' := by
  induction hps with
  | nil =>
    intro cs cs' cells hc h
    simp only [fillD] at h; cases h
    exact ⟨cells, rfl, hc⟩
  | cons i off sz d v ds vs hp hd hr ih =>
    intro cs cs' cells hc h
    simp only [fillD] at h
    split at h <;> first | (cases h; done) | skip
    rename_i hcond
    obtain ⟨h1, h2, h3⟩ := hcond
    obtain ⟨hl, hcell⟩ := (hd (fun _ => .nil)).cells h3
    have hsz : v.cells.size = sz := by rw [← hl]; exact h1
    obtain ⟨hcl, hcc⟩ := hc
    have hnew : RelCs w g (putAt cs off (cellsOf d)) (v.cells.zipIdx.foldl (fun cs (q : Value × Nat) => cs.setIfInBounds (off + q.2) q.1) cells) := by
      have e : v.cells.zipIdx.foldl (fun cs (q : Value × Nat) => cs.setIfInBounds (off + q.2) q.1) cells = (v.cells.toList.zipIdx 0).foldl (fun cs (q : Value × Nat) => cs.setIfInBounds (off + q.2) q.1) cells := by
        rw [← Array.foldl_toList]; simp
      rw [e]
      obtain ⟨f1, f2⟩ := foldl_put off v.cells.toList 0 cells
      refine ⟨by rw [putAt_len _ _ _ (by omega), f1]; exact hcl, fun j hj => ?_⟩
      have hj' : j < cs.length := by rwa [putAt_len _ _ _ (by omega)] at hj
      have hg := putAt_get cs (cellsOf d) off (by omega) j
      rw [f2 j]
      by_cases hin : off ≤ j ∧ j < off + (cellsOf d).length
      · rw [if_pos hin] at hg
        rw [if_pos (by simp; omega)]
        have hk : j - off < (cellsOf d).length := by omega
        obtain ⟨hc1, hc2⟩ := hcell (j - off) hk
        have hget : (putAt cs off (cellsOf d))[j] = (cellsOf d)[j - off] := by
          rw [List.getElem?_eq_getElem hj, List.getElem?_eq_getElem hk] at hg; exact Option.some.inj hg
        rw [hget]
        refine ⟨hc1, _, by rw [Nat.add_zero, List.getElem?_eq_getElem (by simp; omega)], fun p => ?_⟩
        obtain ⟨_, h5⟩ := (hd p).cells h3
        have := (h5 (j - off) hk).2
        obtain ⟨_, h6⟩ := (hd (fun _ => p 0)).cells h3
        have h7 := (h6 (j - off) hk).2.place hc1 (pl' := p) rfl
        simpa using h7
      · rw [if_neg hin] at hg
        rw [if_neg (by simp; omega)]
        have hget : (putAt cs off (cellsOf d))[j] = cs[j] := by
          rw [List.getElem?_eq_getElem hj, List.getElem?_eq_getElem hj'] at hg; exact Option.some.inj hg
        rw [hget]
        exact hcc j hj'
    obtain ⟨cells', h6, h7⟩ := ih hnew h
    refine ⟨cells', ?_, h7⟩
    simp only [Instr.fill, hp]
    rw [if_neg]
    · exact h6
    · simp only [hsz, ne_eq, not_true_eq_false, decide_false, Bool.false_or, decide_eq_true_eq]
      omega

theorem mkAgg_free {cs : List D} {vs : Array Value} (h : RelCs w g cs vs) (pl : Nat → Pl) : RelD w g pl (mkAgg cs) (.agg vs) := by
  obtain ⟨h1, h2⟩ := h
  refine mkAgg_rel h1 (fun i hi => (h2 i hi).1) (fun i hi => ?_)
  obtain ⟨v, h3, h4⟩ := (h2 i hi).2
  obtain ⟨_, rfl⟩ := Array.getElem?_eq_some_iff.1 h3
  exact h4 _

theorem chkZ_rel : ∀ {vs : List Value} {ds : List D}, chkZ vs ds = true → RelCs w g ds vs.toArray
  | [], [], _ => ⟨rfl, fun i h => by simp at h⟩
  | [], _ :: _, h => by simp [chkZ] at h
  | _ :: _, [], h => by simp [chkZ] at h
  | v :: vs, d :: ds, h => by
    simp only [chkZ, Bool.and_eq_true] at h
    obtain ⟨h1, h2⟩ := chkZ_rel h.2
    refine ⟨by simpa using h1, fun i hi => ?_⟩
    cases i with
    | zero =>
      refine ⟨?_, v, rfl, fun pl => chkC_rel h.1 pl⟩
      have := h.1
      unfold chkC at this
      split at this <;> first | rfl | cases this
    | succ i =>
      obtain ⟨h3, v', h4, h5⟩ := h2 i (by simpa using hi)
      exact ⟨h3, v', by simpa using h4, h5⟩

theorem ps_rel {μ τ env ts st} {a : Act} (h : RelA w g μ τ env ts st a.tmps) {pl : Nat → Option (Nat × Nat)} : ∀ {xs : List (Nat × Operand)} {ys : List (Nat × Nat × Opd)}, chkPs μ τ pl xs ys = true →
    RelPs w g pl (ys.map fun p => (p.1, p.2.1, rd env ts p.2.2)) (xs.map fun (i, x) => (i, a.eval x))
  | [], [], _ => .nil
  | [], _ :: _, h => by simp [chkPs] at h
  | _ :: _, [], h => by simp [chkPs] at h
  | (i, x) :: xs, (o, s, y) :: ys, hc => by
    simp only [chkPs, Bool.and_eq_true] at hc
    obtain ⟨⟨h1, h2⟩, h3⟩ := hc
    obtain ⟨q, hq, h1⟩ := of_orF h1
    simp at h1
    refine .cons i o s _ _ _ _ (by rw [hq, ← h1.1, ← h1.2]) (fun p => rd_rel h h2 p) (ps_rel h h3)

theorem mapM_run {α β : Type} (F : α → Sem β) (k : α → β) (w : World) : ∀ (l : List α), (∀ x ∈ l, (F x).run P w = .ok (k x) w) → (l.mapM F).run P w = .ok (l.map k) w
  | [], _ => rfl
  | x :: l, h => by
    rw [List.mapM_cons, Sem.run_bind, h x (by simp), Result.andThen_ok, Sem.run_bind, mapM_run F k w l (fun y hy => h y (by simp [hy]))]
    rfl
theorem fields_run {fs : Array Field} (h : fieldsOk P fs = true) (w : World) : (fs.mapM (m := Sem) fun f => do pure (f.offset, ← sizeOf f.type)).run P w = .ok (fs.map fun f => (f.offset, (szT P f.type).getD 0)) w := by
  rw [Array.mapM_eq_mapM_toList, Sem.run_map, mapM_run _ (fun f => (f.offset, (szT P f.type).getD 0)) w]
  · simp only [Result.andThen_ok]; congr 1; apply Array.ext'; simp
  · intro f hf
    simp only [fieldsOk, List.all_eq_true] at h
    obtain ⟨i, hi⟩ := Option.isSome_iff_exists.1 (h f hf)
    have hs : szT P f.type = some i.size := by simp [szT, hi]
    rw [Sem.run_bind, sizeOf_run hs, hs]
    rfl

theorem build_ok {μ τ env ts st} {a : Act} (h : RelA w g μ τ env ts st a.tmps) {t : TypeId} {parts : Array (Nat × Operand)} {zs : List D} {ps : List (Nat × Nat × Opd)} {cs : List D} {zv : Value}
    (hz : zeroT P t = some zv) (hzs : chkZ zv.cells.toList zs = true) (hc : fillD zs (ps.map fun p => (p.1, p.2.1, rd env ts p.2.2)) = some cs)
    (hp : (∃ fs, uStruct P t = some fs ∧ fieldsOk P fs = true ∧ chkPs μ τ (plStruct P fs) parts.toList ps = true) ∨
      (∃ q s, uArr P t = some q ∧ szT P q.2 = some s ∧ chkPs μ τ (fun i => some (i * s, s)) parts.toList ps = true)) :
    ∃ r, (Instr.build t (parts.map fun (i, x) => (i, a.eval x))).run P w = .ok r w ∧ ∀ pl, RelD w g pl (mkAgg cs) r := by
  obtain ⟨inf, hi, hzv⟩ := of_zeroT P hz
  have hZ := chkZ_rel (w := w) (g := g) hzs
  have el : (parts.map fun (i, x) => (i, a.eval x)).toList = parts.toList.map fun (i, x) => (i, a.eval x) := by simp
  rcases hp with ⟨fs, h1, h2, h3⟩ | ⟨q, s, h1, h2, h3⟩
  · obtain ⟨cells', h4, h5⟩ := fill_ok (ps_rel h h3) hZ hc
    have hu := of_uStruct P h1
    refine ⟨.agg cells', ?_, mkAgg_free h5⟩
    have e : (fun i => (fs.map fun f => (f.offset, (szT P f.type).getD 0))[i]?) = plStruct P fs := by
      funext i
      simp only [plStruct, Array.getElem?_map]
      cases hf : fs[i]? with
      | none => rfl
      | some f =>
        have : (P.info? f.type).isSome = true := by
          simp only [fieldsOk, List.all_eq_true] at h2
          exact h2 f (by simpa using Array.mem_of_getElem? hf)
        obtain ⟨inf', hi'⟩ := Option.isSome_iff_exists.1 this
        simp [szT, hi']
    simp only [Instr.build, Sem.run_bind, zeroValue, typeInfo, run_program, Result.andThen_ok, hi, Sem.run_pure, hzv, run_underlying hu, fields_run h2, el]
    rw [e]
    simp only [Array.toArray_toList] at h4
    rw [h4]
    rfl
  · obtain ⟨cells', h4, h5⟩ := fill_ok (ps_rel h h3) hZ hc
    have hu := of_uArr P h1
    refine ⟨.agg cells', ?_, mkAgg_free h5⟩
    simp only [Instr.build, Sem.run_bind, zeroValue, typeInfo, run_program, Result.andThen_ok, hi, Sem.run_pure, hzv, run_underlying hu, sizeOf_run h2, el]
    simp only [Array.toArray_toList] at h4
    rw [h4]
    rfl
end
end Go.Q
namespace Go.Q
variable [Known]
section
variable {P : Program} {w : World} {g : Gh} {μ : List Nat} {τ : List (Option Nat)} {env ts : List D} {st : St} {a : Act} {o : Oper}

theorem res_ok {v : Value} {w' : World} {Po : Value → World → Prop} (hr : (execOp a.eval o).run P w = .ok (.value v) w') (hp : Po v w') : OpRes P o a w Po := by
  unfold OpRes; rw [hr]; exact hp
theorem res_skip {w' : World} {Po : Value → World → Prop} (hr : (execOp a.eval o).run P w = .ok .skip w') (hp : Po undef w') : OpRes P o a w Po := by
  unfold OpRes; rw [hr]; exact hp
theorem run_v {s : Sem Value} {v : Value} {w' : World} (h : s.run P w = .ok v w') : ((do pure (.value (← s)) : Sem Next)).run P w = .ok (.value v) w' := by
  rw [Sem.run_bind, h]; rfl
theorem run_u {s : Sem Unit} {w' : World} (h : s.run P w = .ok () w') : ((do s; pure .skip : Sem Next)).run P w = .ok .skip w' := by
  rw [Sem.run_bind, h]; rfl

theorem RelA.mvA {f : Pl → Pl} (h : RelA w g μ τ env ts st a.tmps) (hS : RelS w (g.mv f) st) (hn : f .nil = .nil) (he : ∀ i, f (.env i) = .env i) (ht : ∀ j k, j < τ.length → f (.tmp j k) = .tmp j k) : RelA w (g.mv f) μ τ env ts st a.tmps where
  s := hS
  e := fun i t hi => (h.e i t hi).mv (fun _ => he i) hn
  t := fun j t hj => (h.t j t hj).mv (fun k => ht _ k (by have := idxOf_lt hj; omega)) hn

theorem getB_lvl : ∀ {st : St} {r : Ref} {b : Blk}, getB st r = some b → r.lvl < st.length
  | [], r, b, h => by simp [getB] at h
  | fr :: st, r, b, h => by
    rw [getB_cons] at h
    split at h
    · rename_i e; simp [e]
    · have := getB_lvl h; simp; omega
theorem refsBelows_of {n : Nat} : ∀ {ds : List D}, (∀ i (h : i < ds.length), refsBelow n ds[i] = true) → refsBelows n ds = true
  | [], _ => rfl
  | d :: r, h => by
    simp only [refsBelows, Bool.and_eq_true]
    exact ⟨h 0 (by simp), refsBelows_of fun i hi => h (i + 1) (by simpa using hi)⟩
theorem refsBelows_at {n : Nat} : ∀ {ds : List D}, refsBelows n ds = true → ∀ i (h : i < ds.length), refsBelow n ds[i] = true
  | [], _, i, h => by simp at h
  | d :: r, hr, i, h => by
    simp only [refsBelows, Bool.and_eq_true] at hr
    cases i with
    | zero => exact hr.1
    | succ i => exact refsBelows_at hr.2 i (by simpa using h)
theorem RelD.refs {pl : Nat → Pl} {d : D} {v : Value} {n : Nat} (h : RelD w g pl d v) (hn : ∀ r, g.live r → r.lvl < n) : refsBelow n d = true := by
  induction h with
  | v => rfl
  | nils => rfl
  | lin => rfl
  | own pl r z off len x c ad hl => simp only [refsBelow, decide_eq_true_eq]; exact hn r hl
  | arr pl r i off len c ad hl => simp only [refsBelow, decide_eq_true_eq]; exact hn r hl
  | ptr pl r i off hl => simp only [refsBelow, decide_eq_true_eq]; exact hn r hl
  | va => rfl
  | map pl r hl => simp only [refsBelow, decide_eq_true_eq]; exact hn r hl
  | clo pl f fs cs vf vc h1 h2 _ _ ih1 ih2 => simp only [refsBelow, Bool.and_eq_true]; exact ⟨refsBelows_of ih1, refsBelows_of ih2⟩
  | ifc pl t d v h ih => exact ih
  | agg pl ds cs hl hk hr ih => exact refsBelows_of ih
  | tup pl ds cs hl hr ih => exact refsBelows_of ih
  | undef => rfl
theorem refs_cells {n : Nat} {d : D} (h : refsBelow n d = true) : ∀ j (hj : j < (cellsOf d).length), refsBelow n (cellsOf d)[j] = true := by
  intro j hj
  cases d with
  | v x => simp only [cellsOf_v, List.getElem_map]; rfl
  | agg ds => exact refsBelows_at h j hj
  | _ =>
    obtain rfl : j = 0 := by simpa [cellsOf] using hj
    exact h

theorem box_core {d : D} {v : Value} {E : TypeId} {st' : St} {r0 : Ref} {env' ts' : List D} (h : RelA w g μ τ env' ts' st a.tmps) (hd : RelD w g (.tmp τ.length) d v) (hg : goodD d = true)
    (hr0 : getB st r0 = none) (hst : ∀ r, getB st' r = if r = r0 then some (.row [d]) else getB st r) (hb : refsBelow (r0.lvl + 1) d = true) :
    Post w g μ τ a.tmps (.ptr r0 0 0, env', ts', st') (.pointer (some ⟨w.heap.size, 0, none⟩)) (w.alloc (.cells v.cells E)) := by
  let f : Pl → Pl := fun p => match p with | .tmp b k => if b = τ.length then .cell r0 0 k else .tmp b k | p => p
  obtain ⟨hl, hc⟩ := hd.cells hg
  have hG := Gh.grow_blk (o := .cells v.cells E) (cellsOf d).length 1 h.s hr0
  have hS : RelS (w.alloc (.cells v.cells E)) ((g.blk r0 w.heap.size (cellsOf d).length 1).mv f) st' := by
    refine RelS.new_blk h.s hr0 hst rfl (fun p hp => by cases p <;> simp only [f] at hp <;> first | rfl | (cases hp; done) | (split at hp <;> cases hp)) (fun r i j => rfl) (fun i hi => ?_)
    obtain rfl : i = 0 := by simpa using hi
    refine ⟨rfl, fun j hj => ?_⟩
    obtain ⟨h1, h2⟩ := hc j hj
    refine ⟨h1, refs_cells hb j hj, v.cells[j]'(hl ▸ hj), _, ?_, h2, by simp [f]⟩
    rw [Nat.zero_mul, Nat.zero_add]
    exact Array.getElem?_eq_getElem _
  refine ⟨_, (hG.ext h.s).trans (Ext.mv f), ⟨hS, fun i t hi => ?_, fun j t hj => ?_⟩, ?_⟩
  · exact (hG.relD h.s (h.e i t hi)).mv (fun _ => rfl) rfl
  · have := idxOf_lt hj
    exact (hG.relD h.s (h.t j t hj)).mv (fun k => by
      have hne : ¬ τ.length - 1 - j = τ.length := by omega
      simp [f, hne]) rfl
  · have e1 : ((g.blk r0 w.heap.size (cellsOf d).length 1).mv f).be r0 = w.heap.size := by simp [Gh.blk, Gh.mv]
    have := RelD.ptr (w := w.alloc (.cells v.cells E)) (g := (g.blk r0 w.heap.size (cellsOf d).length 1).mv f) (.tmp τ.length) r0 0 0 (.inr rfl)
    rw [e1] at this
    simpa using this

theorem newVar_run (t : TypeId) (v : Value) : (newVar t v).run P w = .ok ⟨w.heap.size, 0, none⟩ (w.alloc (.cells v.cells t)) := rfl

theorem typeInfo_run {t : TypeId} {inf : TypeInfo} (hi : P.info? t = some inf) : (typeInfo t).run P w = .ok inf w := by
  simp only [typeInfo, Sem.run_bind, run_program, Result.andThen_ok, hi, Sem.run_pure]
theorem zeroV_run {t : TypeId} {zv : Value} (hz : zeroT P t = some zv) : (zeroValue t).run P w = .ok zv w := by
  obtain ⟨inf, hi, hzv⟩ := of_zeroT P hz
  simp only [zeroValue, Sem.run_bind, typeInfo_run hi, Result.andThen_ok, hzv, Sem.run_pure]

theorem box_ok (h : RelA w g μ τ env ts st a.tmps) (hts : ts.length = τ.length) {t : TypeId} {x : Operand} {esc : Bool} {y : Opd} {q : Rg} {R : Run} (hop : o.op = .box t x) (hc : chkO μ τ x y = true)
    (he : evOp R env ts st (.box esc y) = some q) (hlv : ∀ r, g.live r → r.lvl < st.length) : OpRes P o a w (Post w g μ τ a.tmps q) := by
  obtain ⟨f, h1, h2, h3, h4⟩ := take_rel h hts hc
  have run : (execOp a.eval o).run P w = .ok (.value (.pointer (some ⟨w.heap.size, 0, none⟩))) (w.alloc (.cells (a.eval x).cells t)) := by
    simp only [execOp, hop, Instr.box]
    exact run_v (by rw [Sem.run_bind, newVar_run]; rfl)
  have hext : Ext w w g (g.mv f) := Ext.mv f
  simp only [evOp] at he
  split at he <;> first | (cases he; done) | skip
  rename_i hg
  have hg : goodD (takeO env ts y).1 = true := by simpa using hg
  split at he
  · split at he <;> first | (cases he; done) | skip
    rename_i hb
    cases he
    obtain ⟨g', k1, k2, k3⟩ := box_core (E := t) h1 h2 hg (addBot_none st _) (getB_addBot st _) (by rw [(addBot_lvl st _).1]; simpa using hb)
    exact res_ok run ⟨g', hext.trans k1, k2, k3⟩
  · cases he
    have hl : ∀ r, g.live r → r.lvl < (addB st (.row [(takeO env ts y).1])).2.lvl + 1 := fun r hr => by
      have := hlv r hr
      cases st with
      | nil => simp at this
      | cons fr st => exact this
    obtain ⟨g', k1, k2, k3⟩ := box_core (E := t) h1 h2 hg (addB_none st _) (getB_addB st _) (h2.refs hl)
    exact res_ok run ⟨g', hext.trans k1, k2, k3⟩

theorem chkC_refs {v : Value} {d : D} (h : chkC v d = true) (n : Nat) : refsBelow n d = true := by
  unfold chkC at h
  split at h <;> first | rfl | cases h
theorem chkZ_refs : ∀ {vs : List Value} {ds : List D}, chkZ vs ds = true → ∀ n i (h : i < ds.length), refsBelow n ds[i] = true
  | [], [], _, n, i, h => by simp at h
  | [], _ :: _, h, _, _, _ => by simp [chkZ] at h
  | _ :: _, [], h, _, _, _ => by simp [chkZ] at h
  | v :: vs, d :: ds, h, n, i, hi => by
    simp only [chkZ, Bool.and_eq_true] at h
    cases i with
    | zero => exact chkC_refs h.1 n
    | succ i => exact chkZ_refs h.2 n i (by simpa using hi)

theorem zeros_core {z : D} {zv : Value} {n : Nat} {C : Array Value} {E : TypeId} {st' : St} {r0 : Ref} (h : RelA w g μ τ env ts st a.tmps) (hz : chkZ zv.cells.toList (cellsOf z) = true)
    (hC : ∀ i j, i < n → j < zv.cells.size → C[i * zv.cells.size + j]? = zv.cells[j]?)
    (hr0 : getB st r0 = none) (hst : ∀ r, getB st' r = if r = r0 then some (.row (List.replicate n z)) else getB st r) :
    ∃ g', Ext w (w.alloc (.cells C E)) g g' ∧ RelA (w.alloc (.cells C E)) g' μ τ env ts st' a.tmps ∧ g'.live r0 ∧ g'.be r0 = w.heap.size ∧ g'.sz r0 = (cellsOf z).length ∧ g'.n r0 = n := by
  have hZ := chkZ_rel (w := w) (g := g) hz
  have hlen : (cellsOf z).length = zv.cells.size := by simpa using hZ.1
  have hG := Gh.grow_blk (o := .cells C E) (cellsOf z).length n h.s hr0
  have hmv : (g.blk r0 w.heap.size (cellsOf z).length n).mv id = g.blk r0 w.heap.size (cellsOf z).length n := by simp [Gh.mv]
  have hS : RelS (w.alloc (.cells C E)) ((g.blk r0 w.heap.size (cellsOf z).length n).mv id) st' := by
    have hN : (List.replicate n z).length = n := by simp
    have := RelS.new_blk (cs := C) (E := E) (z := (cellsOf z).length) (f := id) h.s hr0 hst rfl (fun p hp => hp) (fun r i j => rfl) ?_
    rw [hN] at this; exact this
    intro i hi
    have hi' : i < n := by simpa using hi
    have e : (List.replicate n z)[i] = z := by simp
    rw [e]
    refine ⟨rfl, fun j hj => ?_⟩
    obtain ⟨h1, v, h2, h3⟩ := hZ.2 j hj
    refine ⟨h1, chkZ_refs hz _ j hj, v, fun _ => .cell r0 i j, ?_, h3 _, rfl⟩
    rw [hlen, hC i j hi' (by omega)]
    simpa using h2
  rw [hmv] at hS
  exact ⟨_, hG.ext h.s, ⟨hS, fun i t hi => hG.relD h.s (h.e i t hi), fun j t hj => hG.relD h.s (h.t j t hj)⟩, .inr rfl, by simp [Gh.blk], by simp [Gh.blk], by simp [Gh.blk]⟩

theorem alloc_ok (h : RelA w g μ τ env ts st a.tmps) {t : TypeId} {esc : Bool} {z : D} {q : Rg} {R : Run} (hop : o.op = .alloc t) {zv : Value} (hz : zeroT P t = some zv) (hzs : chkZ zv.cells.toList (cellsOf z) = true)
    (he : evOp R env ts st (.alloc esc z) = some q) : OpRes P o a w (Post w g μ τ a.tmps q) := by
  have run : (execOp a.eval o).run P w = .ok (.value (.pointer (some ⟨w.heap.size, 0, none⟩))) (w.alloc (.cells zv.cells t)) := by
    simp only [execOp, hop]
    refine run_v ?_
    simp only [Instr.alloc, Sem.run_bind, zeroV_run hz, Result.andThen_ok, newVar_run]
    rfl
  have core : ∀ (st' : St) (r0 : Ref), getB st r0 = none → (∀ r, getB st' r = if r = r0 then some (.row [z]) else getB st r) →
      Post w g μ τ a.tmps (.ptr r0 0 0, env, ts, st') (.pointer (some ⟨w.heap.size, 0, none⟩)) (w.alloc (.cells zv.cells t)) := by
    intro st' r0 hr0 hst
    obtain ⟨g', k1, k2, k3, k4, k5⟩ := zeros_core (n := 1) (C := zv.cells) (E := t) h hzs (fun i j hi hj => by
      obtain rfl : i = 0 := by omega
      rw [Nat.zero_mul, Nat.zero_add]) hr0 hst
    refine ⟨g', k1, k2, ?_⟩
    have := RelD.ptr (w := w.alloc (.cells zv.cells t)) (g := g') (.tmp τ.length) r0 0 0 k3
    rw [k4] at this
    simpa using this
  simp only [evOp] at he
  split at he
  · split at he <;> cases he
    exact res_ok run (core _ _ (addBot_none st _) (getB_addBot st _))
  · cases he; exact res_ok run (core _ _ (addB_none st _) (getB_addB st _))
end
end Go.Q
namespace Go.Q
variable [Known]
section
variable {P : Program} {w : World} {g : Gh} {μ : List Nat} {τ : List (Option Nat)} {env ts : List D} {st : St} {a : Act} {o : Oper}

theorem drewN_zero (w : World) : w.drewN 0 = w := rfl

theorem new_lin {sz c : Nat} {ys : List V} {f : Nat → Nat → Value} {ob : Obj} {tmps : Array Value} (n : Nat) (h : RelA w g μ τ env ts st tmps) (E : Els w g.L sz ys f) (hc : ys.length ≤ c)
    (hC : ∀ i j, i < ys.length → j < sz → ((w.drewN n).alloc ob).cell? ⟨w.heap.size, i * sz + j, none⟩ = some (f i j))
    (hs : ∀ j, j < c * sz → (((w.drewN n).alloc ob).cell? ⟨w.heap.size, j, none⟩).isSome = true ∧ ((w.drewN n).alloc ob).frozen? ⟨w.heap.size, j, none⟩ = false) :
    Post w g μ τ tmps (.lin sz ys, env, ts, st) (.slice (some ⟨w.heap.size, 0, none⟩) ys.length c) ((w.drewN n).alloc ob) := by
  have hG := Gh.grow_new (o := ob) (L := ys.length * sz) (p := some (.tmp τ.length 0)) h.s (by simp) n
  refine ⟨_, hG.ext h.s, hG.relA h (fun r => Iff.rfl), ?_⟩
  refine .lin _ sz ys _ (E.slc (fun x v hx => hx.mono (hG.keeps h.s).cell (hG.keeps h.s).L) (by simp [Gh.new]) hc hC) ?_
  exact .inr ⟨w.heap.size, 0, rfl, by simp [Gh.new], by simp [Gh.new], hc, fun j hj => hs j (by omega)⟩

theorem relV_cells {x : V} {v : Value} (h : RelV w g.L x v) : ∃ hl : (cellsV x).length = v.cells.size, ∀ i (hi : i < (cellsV x).length), ((cellsV x)[i]).isCell = true ∧ RelV w g.L (cellsV x)[i] (v.cells[i]'(hl ▸ hi)) := by
  obtain ⟨hl, h2⟩ := (RelD.v (g := g) (fun _ => .nil) x v h).cells rfl
  rw [cellsOf_v] at hl
  refine ⟨by simpa using hl, fun i hi => ?_⟩
  obtain ⟨h3, h4⟩ := h2 i (by rw [cellsOf_v]; simpa using hi)
  simp only [cellsOf_v, List.getElem_map] at h3 h4
  exact ⟨by simpa [D.isCell] using h3, h4.toV⟩
theorem chkL_at : ∀ {xs : List Operand} {ys : List Opd}, chkL μ τ xs ys = true → xs.length = ys.length ∧ ∀ i (h : i < xs.length) (h' : i < ys.length), chkO μ τ xs[i] ys[i] = true
  | [], [], _ => ⟨rfl, fun i h => by simp at h⟩
  | [], _ :: _, h => by simp [chkL] at h
  | _ :: _, [], h => by simp [chkL] at h
  | x :: xs, y :: ys, h => by
    simp only [chkL, Bool.and_eq_true] at h
    obtain ⟨h1, h2⟩ := chkL_at h.2
    refine ⟨by simp [h1], fun i hi hi' => ?_⟩
    cases i with
    | zero => exact h.1
    | succ i => exact h2 i (by simpa using hi) (by simpa using hi')
theorem rdVs_at : ∀ {ds : List D} {xs : List V}, rdVs st ds = some xs → xs.length = ds.length ∧ ∀ i (h : i < ds.length) (h' : i < xs.length), rdV st ds[i] = some xs[i]
  | [], xs, h => by simp only [rdVs] at h; cases h; exact ⟨rfl, fun i h => by simp at h⟩
  | d :: r, xs, h => by
    simp only [rdVs] at h
    obtain ⟨x, h1, h2⟩ := bind_some' h
    obtain ⟨ys, h3, rfl⟩ := map_some' h2
    obtain ⟨h4, h5⟩ := rdVs_at h3
    refine ⟨by simp [h4], fun i hi hi' => ?_⟩
    cases i with
    | zero => exact h1
    | succ i => exact h5 i (by simpa using hi) (by simpa using hi')
theorem anyRow_at : ∀ {ds : List D}, anyRow ds = false → ∀ i (h : i < ds.length), isRow ds[i] = false
  | [], _, i, h => by simp at h
  | d :: r, hr, i, h => by
    simp only [anyRow, Bool.or_eq_false_iff] at hr
    cases i with
    | zero => exact hr.1
    | succ i => exact anyRow_at hr.2 i (by simpa using h)
theorem rdV_plain {d : D} {x : V} (h : rdV st d = some x) (hr : isRow d = false) : toV d = some x := by
  cases d <;> first | exact h | (simp [isRow] at hr; done)
theorem szs_at {sz : Nat} : ∀ {ys : List V}, szs sz ys = true → ∀ i (h : i < ys.length), (cellsV ys[i]).length = sz
  | [], _, i, h => by simp at h
  | y :: r, hr, i, h => by
    simp only [szs, Bool.and_eq_true, decide_eq_true_eq] at hr
    cases i with
    | zero => exact hr.1
    | succ i => exact szs_at hr.2 i (by simpa using h)

theorem fill_rows (sz : Nat) : ∀ (vs : List (Nat × Value)) (k : Nat) (cells : Array Value), vs.map (·.1) = List.range' k vs.length → (∀ i (h : i < vs.length), (vs[i].2).cells.size = sz) → (k + vs.length) * sz ≤ cells.size →
    ∃ cells', Instr.fill (fun i => some (i * sz, sz)) cells vs = some cells' ∧ cells'.size = cells.size ∧ (∀ q, q < k * sz → cells'[q]? = cells[q]?) ∧
      ∀ i (h : i < vs.length) j, j < sz → cells'[(k + i) * sz + j]? = (vs[i].2).cells[j]?
  | [], k, cells, _, _, _ => ⟨cells, rfl, rfl, fun _ _ => rfl, fun i h => by simp at h⟩
  | (i0, v) :: vs, k, cells, hk, hz, hle => by
    simp only [List.map_cons, List.length_cons, List.range'_succ, List.cons.injEq] at hk
    obtain ⟨rfl, hk⟩ := hk
    have hv : v.cells.size = sz := hz 0 (by simp)
    have e1 : (i0 + (vs.length + 1)) * sz = i0 * sz + (vs.length + 1) * sz := Nat.add_mul _ _ _
    have e2 : (vs.length + 1) * sz = vs.length * sz + sz := by rw [Nat.add_mul, Nat.one_mul]
    have e3 : (i0 + 1) * sz = i0 * sz + sz := by rw [Nat.add_mul, Nat.one_mul]
    have e4 : (i0 + 1 + vs.length) * sz = i0 * sz + sz + vs.length * sz := by rw [Nat.add_mul, e3]
    simp only [List.length_cons] at hle
    have e : v.cells.zipIdx.foldl (fun cs (q : Value × Nat) => cs.setIfInBounds (i0 * sz + q.2) q.1) cells = (v.cells.toList.zipIdx 0).foldl (fun cs (q : Value × Nat) => cs.setIfInBounds (i0 * sz + q.2) q.1) cells := by
      rw [← Array.foldl_toList]; simp
    obtain ⟨f1, f2⟩ := foldl_put (i0 * sz) v.cells.toList 0 cells
    obtain ⟨cells', h1, h2, h3, h4⟩ := fill_rows sz vs (i0 + 1) ((v.cells.toList.zipIdx 0).foldl (fun cs (q : Value × Nat) => cs.setIfInBounds (i0 * sz + q.2) q.1) cells) hk
      (fun i hi => hz (i + 1) (by simpa using hi)) (by rw [f1]; omega)
    refine ⟨cells', ?_, by rw [h2, f1], fun q hq => ?_, fun i hi j hj => ?_⟩
    · simp only [Instr.fill]
      rw [if_neg]
      · rw [e]; exact h1
      · simp only [hv, ne_eq, not_true_eq_false, decide_false, Bool.false_or, decide_eq_true_eq]
        omega
    · rw [h3 q (by omega), f2 q, if_neg (by omega)]
    · cases i with
      | zero =>
        simp only [Nat.add_zero, List.getElem_cons_zero]
        rw [h3 _ (by omega), f2, if_pos (by simp; omega)]
        simp
      | succ i =>
        have := h4 i (by simpa using hi) j hj
        simp only [List.getElem_cons_succ]
        rw [← this]
        congr 3
        omega

theorem lit_run {t e : TypeId} {n sz : Nat} {parts : Array (Nat × Operand)} (hop : o.op = .buildSlice t n parts)
    (hu : uSlc P t = some e) (hz : szT P e = some sz) (hzero : (zeroT P e).isSome = true) (hp : parts.toList.map (·.1) = List.range n) (hn : n * sz ≤ 16777216)
    (hcs : ∀ i (hi : i < parts.toList.length), (a.eval (parts.toList[i]).2).cells.size = sz) : ∃ cells' : Array Value, (execOp a.eval o).run P w = .ok (.value (.slice (some ⟨w.heap.size, 0, none⟩) n n)) (w.alloc (.cells cells' e)) ∧
      cells'.size = n * sz ∧ parts.toList.length = n ∧ ∀ i (hi : i < parts.toList.length) j, j < sz → cells'[i * sz + j]? = (a.eval (parts.toList[i]).2).cells[j]? := by
  have hpl : parts.toList.length = n := by
    have := congrArg List.length hp
    simpa using this
  let vs : List (Nat × Value) := parts.toList.map fun p => (p.1, a.eval p.2)
  have hvl : vs.length = n := by simp [vs, hpl]
  have hvat : ∀ i (hi : i < vs.length), vs[i].2 = a.eval (parts.toList[i]'(by simpa [vs] using hi)).2 := fun i hi => by simp [vs]
  obtain ⟨zv, hzv⟩ := Option.isSome_iff_exists.1 hzero
  let z0 : Array Value := if n * sz = 0 then #[] else zv.cells
  obtain ⟨cells', f1, f2, f3, f4⟩ := fill_rows sz vs 0 ((Array.range (n * sz)).map (z0[· % z0.size]!)) (by
      rw [hvl, ← List.range_eq_range', ← hp]; simp [vs]) (fun i hi => by
      rw [hvat i hi]
      exact hcs i (by omega)) (by simp [hvl])
  refine ⟨cells', ?_, by rw [f2]; simp, hpl, fun i hi j hj => ?_⟩
  · simp only [execOp, hop]
    refine run_v ?_
    have hu' := of_uSlc P hu
    have hnn : ¬ n * sz > 2 ^ 24 := by simp; omega
    have el : (parts.map fun (x : Nat × Operand) => (x.1, a.eval x.2)).toList = vs := by simp [vs]
    simp only [Instr.buildSlice, Sem.run_bind, run_underlying hu', Result.andThen_ok, sizeOf_run hz, hnn, if_false, el]
    by_cases h0 : n * sz = 0
    · rw [show z0 = #[] from if_pos h0] at f1
      rw [if_pos h0]
      simp only [Sem.run_bind, Result.andThen_ok, Sem.run_pure]
      rw [f1]
      rfl
    · rw [show z0 = zv.cells from if_neg h0] at f1
      rw [if_neg h0]
      simp only [Sem.run_bind, zeroV_run hzv, Result.andThen_ok, Sem.run_pure]
      rw [f1]
      rfl
  · have h9 := f4 i (by omega) j hj
    rw [Nat.zero_add] at h9
    rw [h9, hvat i (by omega)]
theorem lit_core (h : RelA w g μ τ env ts st a.tmps) {t e : TypeId} {n sz : Nat} {parts : Array (Nat × Operand)} {ys : List Opd} {q : Rg} {R : Run} (hop : o.op = .buildSlice t n parts)
    (hu : uSlc P t = some e) (hz : szT P e = some sz) (hzero : (zeroT P e).isSome = true) (hp : parts.toList.map (·.1) = List.range n) (hn : n * sz ≤ 16777216) (hc : chkL μ τ (parts.toList.map (·.2)) ys = true)
    (he : evOp R env ts st (.lit sz ys) = some q) : ∃ (xs : List V) (cells' : Array Value), q = (.lin sz xs, env, ts, st) ∧ (execOp a.eval o).run P w = .ok (.value (.slice (some ⟨w.heap.size, 0, none⟩) n n)) (w.alloc (.cells cells' e)) ∧
      xs.length = n ∧ cells'.size = n * sz ∧ Els w g.L sz xs (fun i j => ((cells'[i * sz + j]?).getD undef)) ∧ (∀ i j, i < xs.length → j < sz → cells'[i * sz + j]? = some ((cells'[i * sz + j]?).getD undef)) := by
  simp only [evOp] at he
  split at he <;> first | (cases he; done) | skip
  rename_i hrow
  obtain ⟨xs, h1, h2⟩ := bind_some' he
  split at h2 <;> cases h2
  rename_i hszs
  obtain ⟨hl, hr⟩ := rdVs_at h1
  obtain ⟨hl2, hr2⟩ := chkL_at hc
  simp only [List.length_map] at hl hl2
  have hpl : parts.toList.length = n := by
    have := congrArg List.length hp
    simpa using this
  have hxn : xs.length = n := by omega
  have hel : ∀ i (hi : i < xs.length) (hi' : i < parts.toList.length), RelV w g.L xs[i] (a.eval (parts.toList[i]).2) := fun i hi hi' => by
    have h3 := hr i (by simp; omega) hi
    have h4 := hr2 i (by simpa using hi') (by omega)
    have h5 := anyRow_at (by simpa using hrow) i (by simp; omega)
    simp only [List.getElem_map] at h3 h4 h5
    exact toV_rel (rd_rel h h4 (fun _ => .nil)) (rdV_plain h3 h5)
  let vs : List (Nat × Value) := parts.toList.map fun p => (p.1, a.eval p.2)
  have hvl : vs.length = n := by simp [vs, hpl]
  have hvat : ∀ i (hi : i < vs.length), vs[i].2 = a.eval (parts.toList[i]'(by simpa [vs] using hi)).2 := fun i hi => by simp [vs]
  obtain ⟨zv, hzv⟩ := Option.isSome_iff_exists.1 hzero
  let z0 : Array Value := if n * sz = 0 then #[] else zv.cells
  obtain ⟨cells', f1, f2, f3, f4⟩ := fill_rows sz vs 0 ((Array.range (n * sz)).map (z0[· % z0.size]!)) (by
      rw [hvl, ← List.range_eq_range', ← hp]; simp [vs]) (fun i hi => by
      have hi2 : i < parts.toList.length := by omega
      have := hel i (by omega) hi2
      obtain ⟨h6, _⟩ := relV_cells this
      rw [hvat i hi, ← h6]
      exact szs_at hszs i (by omega)) (by simp [hvl])
  have run : (execOp a.eval o).run P w = .ok (.value (.slice (some ⟨w.heap.size, 0, none⟩) n n)) (w.alloc (.cells cells' e)) := by
    simp only [execOp, hop]
    refine run_v ?_
    have hu' := of_uSlc P hu
    have hnn : ¬ n * sz > 2 ^ 24 := by simp; omega
    have el : (parts.map fun (x : Nat × Operand) => (x.1, a.eval x.2)).toList = vs := by simp [vs]
    simp only [Instr.buildSlice, Sem.run_bind, run_underlying hu', Result.andThen_ok, sizeOf_run hz, hnn, if_false, el]
    by_cases h0 : n * sz = 0
    · rw [show z0 = #[] from if_pos h0] at f1
      rw [if_pos h0]
      simp only [Sem.run_bind, Result.andThen_ok, Sem.run_pure]
      rw [f1]
      rfl
    · rw [show z0 = zv.cells from if_neg h0] at f1
      rw [if_neg h0]
      simp only [Sem.run_bind, zeroV_run hzv, Result.andThen_ok, Sem.run_pure]
      rw [f1]
      rfl
  refine ⟨xs, cells', rfl, run, hxn, by rw [f2]; simp, ⟨fun i hi => szs_at hszs i hi, fun i hi j hj => ?_, fun i hi j hj => ?_⟩, fun i j hi hj => ?_⟩
  · exact ((relV_cells (hel i hi (by omega))).2 j hj).1
  · obtain ⟨h6, h7⟩ := relV_cells (hel i hi (by omega))
    have h8 := (h7 j hj).2
    have hj' : j < sz := by rw [← szs_at hszs i hi]; exact hj
    have h9 := f4 i (by omega) j hj'
    rw [Nat.zero_add] at h9
    simp only [h9, hvat]
    rw [Array.getElem?_eq_getElem (by omega)]
    exact h8
  · have h9 := f4 i (by omega) j hj
    rw [Nat.zero_add] at h9
    obtain ⟨h6, _⟩ := relV_cells (hel i hi (by omega))
    rw [h9, hvat, Array.getElem?_eq_getElem (by rw [← h6, szs_at hszs i hi]; exact hj)]
    rfl
theorem lit_ok (h : RelA w g μ τ env ts st a.tmps) {t e : TypeId} {n sz : Nat} {parts : Array (Nat × Operand)} {ys : List Opd} {q : Rg} {R : Run} (hop : o.op = .buildSlice t n parts)
    (hu : uSlc P t = some e) (hz : szT P e = some sz) (hzero : (zeroT P e).isSome = true) (hp : parts.toList.map (·.1) = List.range n) (hn : n * sz ≤ 16777216) (hc : chkL μ τ (parts.toList.map (·.2)) ys = true)
    (he : evOp R env ts st (.lit sz ys) = some q) : OpRes P o a w (Post w g μ τ a.tmps q) := by
  obtain ⟨xs, cells', rfl, run, hxn, hsz, E, hat⟩ := lit_core h hop hu hz hzero hp hn hc he
  refine res_ok run ?_
  have hlin := new_lin (ob := .cells cells' e) (f := fun i j => ((cells'[i * sz + j]?).getD undef)) (c := n) (sz := sz) 0 h (ys := xs) E (by omega) (fun i j hi hj => ?_) (fun j hj => ?_)
  · rw [hxn] at hlin; exact hlin
  · rw [drewN_zero, World.cell?_alloc_new]
    exact hat i j hi hj
  · rw [drewN_zero, World.cell?_alloc_new, World.frozen?_alloc_new]
    refine ⟨?_, rfl⟩
    rw [Array.getElem?_eq_getElem (by rw [hsz]; exact hj)]
    rfl
end
end Go.Q
namespace Go.Q
variable [Known]
section
variable {P : Program} {w : World} {g : Gh} {μ : List Nat} {τ : List (Option Nat)} {env ts : List D} {st : St} {a : Act} {o : Oper}

theorem madeCells_at {z : Array Value} {n i j sz : Nat} (hz : z.size = sz) (hi : i < n) (hj : j < sz) : (madeCells z (n * sz))[i * sz + j]? = z[j]? := by
  have h1 : i * sz + j < n * sz := by
    have : (i + 1) * sz ≤ n * sz := Nat.mul_le_mul_right _ (by omega)
    rw [Nat.add_mul] at this; omega
  have h3 : (i * sz + j) % sz = j := by
    rw [Nat.mul_comm, Nat.mul_add_mod]; exact Nat.mod_eq_of_lt hj
  subst hz
  simp [madeCells, h1, h3, hj]

theorem make_ok (h : RelA w g μ τ env ts st a.tmps) {t e : TypeId} {n c : Operand} {n' c' : Opd} {sz bytes : Nat} {z : D} {zv : Value} {q : Rg} {R : Run} {inf : TypeInfo} (hop : o.op = .makeSlice t n c)
    (hn : chkO μ τ n n' = true) (hc : chkO μ τ c c' = true) (hu : uSlc P t = some e) (hi : P.info? e = some inf) (hs : inf.size = sz) (hb : inf.bytes = bytes) (hb0 : bytes ≠ 0) (hzv : inf.zero = some zv)
    (hz : chkZ zv.cells.toList (cellsOf z) = true)
    (he : evOp R env ts st (.make sz bytes z n' c') = some q) : OpRes P o a w (Post w g μ τ a.tmps q) := by
  simp only [evOp] at he
  obtain ⟨x, h1, h2⟩ := bind_some' he
  obtain ⟨y, h3, h4⟩ := bind_some' h2
  obtain ⟨k1, _, e1⟩ := asN_rel (rd_rel h hn (fun _ => .nil)) h1
  obtain ⟨k2, _, e2⟩ := asN_rel (rd_rel h hc (fun _ => .nil)) h3
  have hlen : (cellsOf z).length = zv.cells.size := by simpa using (chkZ_rel (w := w) (g := g) hz).1
  have run : 0 ≤ x → x ≤ y → y * bytes ≤ maxB → (execOp a.eval o).run P w = .ok (.value (.slice (some ⟨w.heap.size, 0, none⟩) x.toNat y.toNat)) (w.alloc (.cells (madeCells zv.cells (y.toNat * inf.size)) e)) := by
    intro h0 hxy hby
    have hby2 : (inf.bytes : Int) * y ≤ 281474976710656 := by
      rw [hb, Int.mul_comm]
      have : (maxB : Int) = 140737488355328 := rfl
      omega
    have h63 : y ≤ 9223372036854775807 := by
      have h5 : y * 1 ≤ y * (bytes : Int) := Int.mul_le_mul_of_nonneg_left (by omega) (by omega)
      have : (maxB : Int) = 140737488355328 := rfl
      omega
    simp only [execOp, hop, e1, e2]
    exact run_v (run_make w t e inf zv (of_uSlc P hu) hi hzv k1 k2 x y h0 hxy hby2 h63)
  unfold makeD at h4
  split at h4
  · rename_i hcond
    obtain ⟨c1, c2, c3, c4⟩ := hcond
    subst c2
    cases h4
    refine res_ok (run c1 (Int.le_refl _) c3) ?_
    have hsz : zv.cells.size = inf.size := by omega
    obtain ⟨g', k1, k2, k3, k4, k5, k6⟩ := zeros_core (n := y.toNat) (C := madeCells zv.cells (y.toNat * inf.size)) (E := e) h hz (fun i j hi hj => by rw [hsz] at hj ⊢; exact madeCells_at hsz hi hj) (addB_none st _) (getB_addB st _)
    refine ⟨g', k1, k2, ?_⟩
    exact RelD.own _ _ _ _ _ _ _ _ k3 ⟨Nat.le_refl _, fun _ => by rw [k6]; omega, fun h => by cases h⟩ (by rw [k5, c4]) (fun _ => by rw [k4, Nat.zero_mul])
  · split at h4 <;> cases h4
    rename_i hcond
    obtain ⟨rfl, c2, c3⟩ := hcond
    refine res_ok (run (Int.le_refl _) c2 c3) ?_
    subst hs
    exact new_lin (ys := []) (f := fun _ _ => undef) (ob := .cells (madeCells zv.cells (y.toNat * inf.size)) e) 0 h ⟨fun i h => by simp at h, fun i h => by simp at h, fun i h => by simp at h⟩ (Nat.zero_le _) (fun i j hi => by simp at hi) (fun j hj => by
      rw [drewN_zero, World.cell?_alloc_new, World.frozen?_alloc_new]
      refine ⟨?_, rfl⟩
      rw [Array.getElem?_eq_getElem (by rw [size_madeCells]; exact hj)]
      rfl)
theorem z8_row : ∀ {ys : List Opd}, ys.all isZ8 = true → anyRow (ys.map (rd env ts)) = false ∧ rdVs st (ys.map (rd env ts)) = some (List.replicate ys.length (.int .u8 0))
  | [], _ => ⟨rfl, rfl⟩
  | y :: ys, h => by
    obtain ⟨h1, h2⟩ := (Bool.and_eq_true _ _).mp (show (isZ8 y && ys.all isZ8) = true from h)
    obtain ⟨i1, i2⟩ := z8_row (ys := ys) h2
    unfold isZ8 at h1
    split at h1 <;> first | (cases h1; done) | skip
    refine ⟨?_, ?_⟩
    · simp only [List.map_cons, anyRow, i1, Bool.or_false]; rfl
    · simp only [List.map_cons, rdVs, i2, List.length_cons, List.replicate_succ]; rfl
theorem constN_eq {n : Operand} {k : Nat} (h : constN n k = true) : n = .const (.int .i64 k) := by
  unfold constN at h
  split at h <;> first | (cases h; done) | skip
  have := beq_iff_eq.1 h
  subst this; rfl
theorem mkl_ok (h : RelA w g μ τ env ts st a.tmps) {t e : TypeId} {n c : Operand} {ys : List Opd} {q : Rg} {R : Run} {inf : TypeInfo} (hop : o.op = .makeSlice t n c)
    (hn : constN n ys.length = true) (hc : constN c ys.length = true) (hu : uSlc P t = some e) (hi : P.info? e = some inf) (hs : inf.size = 1) (hb : inf.bytes = 1) (hzv : zero8 inf.zero = true)
    (hN : ys.length ≤ 16777216) (hy : ys.all isZ8 = true) (he : evOp R env ts st (.lit 1 ys) = some q) : OpRes P o a w (Post w g μ τ a.tmps q) := by
  obtain ⟨z1, z2⟩ := z8_row (env := env) (ts := ts) (st := st) hy
  simp only [evOp, z1, z2, Bool.false_eq_true, if_false, Option.bind_some] at he
  generalize hm : ys.length = N at *
  have hz : inf.zero = some (.int .u8 0) := by
    unfold zero8 at hzv
    split at hzv <;> first | (cases hzv; done) | assumption
  split at he <;> cases he
  have run : (execOp a.eval o).run P w = .ok (.value (.slice (some ⟨w.heap.size, 0, none⟩) N N)) (w.alloc (.cells (madeCells (Value.int .u8 0).cells (N * inf.size)) e)) := by
    simp only [execOp, hop, constN_eq hn, constN_eq hc]
    exact run_v (run_make w t e inf (.int .u8 0) (of_uSlc P hu) hi hz .i64 .i64 (N : Int) (N : Int) (by omega) (Int.le_refl _) (by rw [hb]; omega) (by omega))
  refine res_ok run ?_
  have hlen : (List.replicate N (V.int .u8 0)).length = N := by simp
  have hlin := new_lin (ob := .cells (madeCells (Value.int .u8 0).cells (N * inf.size)) e) (f := fun _ _ => Value.int .u8 0) (c := N) (sz := 1) 0 h (ys := List.replicate N (V.int .u8 0))
    ⟨fun i hi => by simp [cellsV], fun i hi j hj => by
      simp only [List.getElem_replicate, cellsV] at hj ⊢
      obtain rfl : j = 0 := by simpa using hj
      rfl, fun i hi j hj => by
      simp only [List.getElem_replicate, cellsV] at hj ⊢
      obtain rfl : j = 0 := by simpa using hj
      exact .int _ _⟩ (by omega) (fun i j hi hj => ?_) (fun j hj => ?_)
  · rw [hlen] at hlin; exact hlin
  · rw [drewN_zero, World.cell?_alloc_new, hs]
    rw [hlen] at hi
    rw [madeCells_at (z := (Value.int .u8 0).cells) (sz := 1) rfl hi hj]
    obtain rfl : j = 0 := by omega
    rfl
  · rw [drewN_zero, World.cell?_alloc_new, World.frozen?_alloc_new]
    refine ⟨?_, rfl⟩
    rw [Array.getElem?_eq_getElem (by rw [size_madeCells, hs]; exact hj)]
    rfl

theorem s2b_ok (h : RelA w g μ τ env ts st a.tmps) {s t e : TypeId} {x : Operand} {y : Opd} {q : Rg} {R : Run} (hop : o.op = .convert s t x)
    (hc : chkO μ τ x y = true) (hs : uStr P s = true) (hu : uSlc P t = some e) (hi : uInt P e = some .u8)
    (he : evOp R env ts st (.s2b y) = some q) : OpRes P o a w (Post w g μ τ a.tmps q) := by
  simp only [evOp] at he
  obtain ⟨l, h1, rfl⟩ := map_some' he
  unfold strD at h1
  split at h1 <;> cases h1
  rename_i hd
  have hr := rd_rel h hc (fun _ => .nil)
  rw [hd] at hr
  obtain ⟨f, E, S⟩ := elems_rel (st := st) (sz := 1) (ys := l.map fun b => .int .u8 b.toNat) h.s hr (by simp [elems])
  obtain ⟨b, e1, e2⟩ := strOf hr
  rw [e1] at S
  cases S with | str _ _ hn hf =>
  refine res_ok (v := .slice (some ⟨w.heap.size, 0, none⟩) b.size (grownCap w b.size 0 e)) (by
    simp only [execOp, hop, e1]
    exact run_v (run_bytes_of_string w s t e b (of_uStr P hs) (of_uSlc P hu) (of_uInt P hi))) ?_
  have hsize : (bytesRow b (grownCap w b.size 0 e)).size = grownCap w b.size 0 e := by
    have := grownCap_ge w b.size 0 e
    simp only [bytesRow, Array.size_append, Array.size_map, Array.size_replicate]
    have h5 : b.data.size = b.size := rfl
    omega
  have := new_lin (c := grownCap w b.size 0 e) (ob := .cells (bytesRow b (grownCap w b.size 0 e)) e ((bytesRow b (grownCap w b.size 0 e)).size, (bytesRow b (grownCap w b.size 0 e)).size + 1)) 1 h E (by rw [← hn]; exact grownCap_ge _ _ _ _) (fun i j hi hj => by
    obtain rfl : j = 0 := by omega
    have hi' : i < b.data.size := by have h5 : b.data.size = b.size := rfl; omega
    show (w.drew.alloc _).cell? ⟨w.drew.heap.size, _, none⟩ = _
    rw [World.cell?_alloc_mark, Nat.mul_one, Nat.add_zero, bytesRow_at b _ i hi', hf i hi']
    rfl) (fun j hj => by
    show ((w.drew.alloc _).cell? ⟨w.drew.heap.size, _, none⟩).isSome = true ∧ (w.drew.alloc _).frozen? ⟨w.drew.heap.size, _, none⟩ = false
    rw [World.cell?_alloc_mark, World.frozen?_alloc_mark]
    refine ⟨by rw [Array.getElem?_eq_getElem (by omega)]; rfl, ?_⟩
    have : ¬ (bytesRow b (grownCap w b.size 0 e)).size ≤ j := by omega
    simp [this])
  rw [← hn] at this
  exact this

theorem bytesOf_at : ∀ {ys : List V} {s : List UInt8}, bytesOf ys = some s → s.length = ys.length ∧ ∀ i (h : i < ys.length) (h' : i < s.length), ys[i] = .int .u8 (s[i].toNat : Int)
  | [], s, h => by simp only [bytesOf] at h; cases h; exact ⟨rfl, fun i h => by simp at h⟩
  | y :: r, s, h => by
    unfold bytesOf at h
    split at h <;> first | (cases h; done) | skip
    · rename_i hh; cases hh
    · rename_i n r' hh
      cases hh
      split at h <;> first | (cases h; done) | skip
      rename_i hn
      obtain ⟨s', h1, rfl⟩ := map_some' h
      obtain ⟨h2, h3⟩ := bytesOf_at h1
      refine ⟨by simp [h2], fun i hi hi' => ?_⟩
      cases i with
      | zero =>
        simp only [List.getElem_cons_zero]
        congr 1
        have : n.toNat < 256 := by omega
        simp only [UInt8.toNat_ofNat']
        omega
      | succ i => exact h3 i (by simpa using hi) (by simpa using hi')

theorem b2s_ok (h : RelA w g μ τ env ts st a.tmps) {s t e : TypeId} {x : Operand} {y : Opd} {q : Rg} {R : Run} (hop : o.op = .convert s t x)
    (hc : chkO μ τ x y = true) (ht : uStr P t = true) (hu : uSlc P s = some e) (hi : uInt P e = some .u8)
    (he : evOp R env ts st (.b2s y) = some q) : OpRes P o a w (Post w g μ τ a.tmps q) := by
  simp only [evOp] at he
  obtain ⟨l, h1, rfl⟩ := map_some' he
  obtain ⟨ys, h2, h3⟩ := bind_some' h1
  have hr := rd_rel h hc (fun _ => .nil)
  have hel : elems 1 st (rd env ts y) = some ys := by
    obtain ⟨x', h4, h5⟩ := bind_some' h2
    generalize rd env ts y = d at h2 h4
    cases d <;> first | exact h2 | skip
    rename_i x''
    cases x'' <;> first | exact h2 | skip
    simp only [rdV] at h4
    cases h4
    simp [slcOf] at h5
  obtain ⟨f, E, S⟩ := elems_rel h.s hr hel
  obtain ⟨h6, h7⟩ := bytesOf_at h3
  have hf : ∀ i (hi : i < ys.length), f i 0 = .int .u8 ((l[i]'(by omega)).toNat : Int) := fun i hi => by
    have h8 := E.rel i hi 0
    rw [h7 i hi (by omega)] at h8
    have := h8 (by simp [cellsV])
    simp only [cellsV, List.getElem_cons_zero] at this
    exact intOf (RelD.v (g := g) (fun _ => .nil) _ _ this)
  have res : ∀ v, a.eval x = v → (convert s t v).run P w = .ok (.string ⟨l.toArray⟩) w → OpRes P o a w (Post w g μ τ a.tmps (.v (.str l), env, ts, st)) := fun v hv hrun => by
    refine res_val h (v := .string ⟨l.toArray⟩) (by simp only [execOp, hop, hv]; exact run_v hrun) (.v _ _ _ ?_)
    have := RelV.str (w := w) (L := g.L) ⟨l.toArray⟩
    simpa using this
  generalize hv : a.eval x = v at S hr
  cases S with
  | str b _ _ _ =>
    exfalso
    obtain ⟨x', h4, h5⟩ := bind_some' h2
    generalize rd env ts y = d at h4 hr
    cases hr with
    | v _ _ _ hx => simp only [rdV] at h4; cases h4; cases hx; simp [slcOf] at h5
    | lin _ _ _ _ hx hs => exact hs.elim
    | undef => simp [rdV, toV] at h4
  | sl ad c hcn hcell =>
    refine res _ hv ?_
    by_cases h0 : ys.length = 0
    · have : l = [] := List.length_eq_zero_iff.1 (by omega)
      subst this
      cases ad with
      | none => exact run_convert_bytes_nil w s e (of_uSlc P hu) (of_uInt P hi) _ _ t (of_uStr P ht)
      | some ad =>
        have := run_convert_bytes_back w s t e ad c [] (of_uSlc P hu) (of_uInt P hi) (of_uStr P ht) (fun j hj => by simp at hj)
        rw [h0]; exact this
    · obtain ⟨b, off, rfl, h9⟩ := hcell h0
      have := run_convert_bytes_back w s t e ⟨b, off, none⟩ c l (of_uSlc P hu) (of_uInt P hi) (of_uStr P ht) (fun j hj => by
        have := h9 j 0 (by omega) (by omega)
        rw [add_at, Nat.mul_one, Nat.add_zero] at *
        rw [this, hf j (by omega)])
      rw [h6] at this
      exact this
end
end Go.Q
namespace Go.Q
variable [Known]
section
variable {P : Program} {w : World} {g : Gh} {μ : List Nat} {τ : List (Option Nat)} {env ts : List D} {st : St} {a : Act} {o : Oper}

def Els2 (n : Nat) (fx f : Nat → Nat → Value) (i j : Nat) : Value := if i < n then fx i j else f (i - n) j
theorem Els.append {L : Nat → Nat} {sz : Nat} {xs ys : List V} {fx f : Nat → Nat → Value} (h : Els w L sz xs fx) (k : Els w L sz ys f) : Els w L sz (xs ++ ys) (Els2 xs.length fx f) where
  len := fun i hi => by
    rw [List.getElem_append]; split
    · exact h.len _ _
    · exact k.len _ _
  cell := fun i hi j hj => by
    by_cases h1 : i < xs.length
    · simp only [List.getElem_append_left h1] at hj ⊢
      exact h.cell i h1 j hj
    · simp only [List.getElem_append_right (Nat.le_of_not_lt h1)] at hj ⊢
      exact k.cell _ _ j hj
  rel := fun i hi j hj => by
    by_cases h1 : i < xs.length
    · simp only [List.getElem_append_left h1, Els2, h1, if_true] at hj ⊢
      exact h.rel i h1 j hj
    · simp only [List.getElem_append_right (Nat.le_of_not_lt h1), Els2, h1, if_false] at hj ⊢
      exact k.rel _ _ j hj

theorem mul_at {n i j sz : Nat} (hi : i < n) (hj : j < sz) : i * sz + j < n * sz := by
  have : (i + 1) * sz ≤ n * sz := Nat.mul_le_mul_right _ (by omega)
  rw [Nat.add_mul] at this; omega

theorem Els.mono {L L' : Nat → Nat} {w' : World} {sz : Nat} {ys : List V} {f : Nat → Nat → Value} (h : Els w L sz ys f) (hm : ∀ x v, RelV w L x v → RelV w' L' x v) : Els w' L' sz ys f :=
  ⟨h.len, h.cell, fun i hi j hj => hm _ _ (h.rel i hi j hj)⟩

theorem cellL_one {L : Nat → Nat} {sz : Nat} {ys : List V} {f : Nat → Nat → Value} (E : Els w L sz ys f) : ∀ u ∈ cellL ys.length sz f, u.oneCell' = true := by
  intro u hu
  simp only [cellL, List.mem_map, List.mem_range] at hu
  obtain ⟨k, hk, rfl⟩ := hu
  have hsz : 0 < sz := Nat.pos_of_ne_zero fun e => by rw [e, Nat.mul_zero] at hk; omega
  have hi : k / sz < ys.length := Nat.div_lt_of_lt_mul (by rw [Nat.mul_comm]; exact hk)
  have hj : k % sz < (cellsV ys[k / sz]).length := by rw [E.len _ hi]; exact Nat.mod_lt _ hsz
  exact (E.rel _ hi _ hj).one (E.cell _ hi _ hj)
theorem cellL_src {n sz b o : Nat} {f : Nat → Nat → Value} (h : ∀ i j, i < n → j < sz → w.cell? ⟨b, o + i * sz + j, none⟩ = some (f i j)) : ∀ k u, (cellL n sz f)[k]? = some u → w.cell? ((⟨b, o, none⟩ : Addr).add k) = some u := by
  intro k u hu
  have hk : k < n * sz := by
    have := (List.getElem?_eq_some_iff.1 hu).1
    rwa [cellL_len] at this
  have hsz : 0 < sz := Nat.pos_of_ne_zero fun e => by rw [e, Nat.mul_zero] at hk; omega
  have hi : k / sz < n := Nat.div_lt_of_lt_mul (by rw [Nat.mul_comm]; exact hk)
  have hj := Nat.mod_lt k hsz
  have e : k / sz * sz + k % sz = k := by rw [Nat.mul_comm]; exact Nat.div_add_mod k sz
  have h1 := cellL_at f hi hj
  rw [e, hu] at h1
  rw [add_at, Option.some.inj h1, ← h _ _ hi hj, Nat.add_assoc, e]

theorem src_of {u : TypeId} {sz : Nat} {ys : List V} {f : Nat → Nat → Value} {v : Value} (E : Els w g.L sz ys f) (S : SrcIs w sz ys.length f v) (hu : (uStr P u || (uSlc P u).isSome) = true) :
    Src P sz u v ys.length (cellL ys.length sz f) w := by
  have kind : (∃ e', P.underlying u = some (.slice e')) ∨ P.underlying u = some .string := by
    simp only [Bool.or_eq_true] at hu
    rcases hu with hu | hu
    · exact .inr (of_uStr P hu)
    · obtain ⟨e, he⟩ := Option.isSome_iff_exists.1 hu
      exact .inl ⟨e, of_uSlc P he⟩
  have hone := cellL_one E
  cases S with
  | str b hs hn hf =>
    subst hs
    have e : cellL ys.length 1 f = byteCells b := by
      refine List.ext_getElem (by rw [cellL_len, byteCells_length, hn, Nat.mul_one]) fun k h1 h2 => ?_
      rw [byteCells_length] at h2
      have := cellL_at (n := ys.length) (sz := 1) (i := k) (j := 0) f (by omega) (by omega)
      rw [Nat.mul_one, Nat.add_zero, List.getElem?_eq_getElem h1] at this
      rw [Option.some.inj this, hf k h2]
      simp [byteCells]
      rfl
    rw [e] at hone ⊢
    rw [← hn]
    exact ⟨kind, fun _ => rfl, firstCells_string b w, firstCells_string b w.drew, by rw [byteCells_length, Nat.mul_one], hone⟩
  | sl ad c hc hcell =>
    cases ad with
    | none =>
      have h0 : ys.length = 0 := Classical.byContradiction fun h => by obtain ⟨_, _, h1, _⟩ := hcell h; cases h1
      rw [h0] at hone ⊢
      have e : cellL 0 sz f = [] := by simp [cellL]
      rw [e] at hone ⊢
      exact ⟨kind, fun _ => rfl, run_firstCells_none w sz 0 0 c, run_firstCells_none w.drew sz 0 0 c, by simp, hone⟩
    | some ad =>
      have hnews : ∀ k u, (cellL ys.length sz f)[k]? = some u → w.cell? (ad.add k) = some u := by
        intro k u hk
        have h0 : ys.length ≠ 0 := fun e => by rw [e] at hk; simp [cellL] at hk
        obtain ⟨b, o, h1, h2⟩ := hcell h0
        cases h1
        exact cellL_src h2 k u hk
      exact ⟨kind, fun _ => rfl, run_firstCells_some w sz _ ad _ c _ (cellL_len _ _ _) hnews, run_firstCells_some w.drew sz _ ad _ c _ (cellL_len _ _ _) hnews, cellL_len _ _ _, hone⟩

theorem tape_setCells (g : Nat) : ∀ (vs : List Value) (o : Nat) (w : World), (w.setCells g o vs).tape = w.tape ∧ (w.setCells g o vs).heap.size = w.heap.size
  | [], o, w => ⟨rfl, rfl⟩
  | v :: r, o, w => by
    rw [World.setCells]
    obtain ⟨h1, h2⟩ := tape_setCells g r (o + 1) (w.setCell ⟨g, o, none⟩ v)
    rw [h1, h2]
    unfold World.setCell
    constructor
    · split <;> rfl
    · split <;> simp

theorem room_core {sz b off cap : Nat} {xs ys : List V} {f : Nat → Nat → Value} {tmps : Array Value} (h : RelA w g μ τ env ts st tmps) (hx : RelV w g.L (.slc sz xs) (.slice (some ⟨b, off, none⟩) xs.length cap))
    (ho : g.own b = some (.tmp τ.length 0)) (hL : g.L b = off + xs.length * sz) (hs : ∀ j, j < off + cap * sz → (w.cell? ⟨b, j, none⟩).isSome = true ∧ w.frozen? ⟨b, j, none⟩ = false)
    (E : Els w g.L sz ys f) (hroom : xs.length + ys.length ≤ cap) :
    Post w g μ τ tmps (.lin sz (xs ++ ys), env, ts, st) (.slice (some ⟨b, off, none⟩) (xs.length + ys.length) cap) (w.setCells b (off + xs.length * sz) (cellL ys.length sz f)) := by
  obtain ⟨hM, hbs⟩ := h.s.own b _ ho
  obtain ⟨ht, hsz⟩ := tape_setCells b (cellL ys.length sz f) (off + xs.length * sz) w
  generalize hw' : w.setCells b (off + xs.length * sz) (cellL ys.length sz f) = w' at ht hsz ⊢
  have e1 : (xs.length + ys.length) * sz = xs.length * sz + ys.length * sz := Nat.add_mul _ _ _
  have hcapz : (xs.length + ys.length) * sz ≤ cap * sz := Nat.mul_le_mul_right _ hroom
  let g' : Gh := { g with L := fun x => if x = b then off + (xs.length + ys.length) * sz else g.L x }
  have hLb : g'.L b = off + (xs.length + ys.length) * sz := by simp [g']
  have hLo : ∀ x, x ≠ b → g'.L x = g.L x := fun x hx => by simp [g', hx]
  have hout : ∀ b' o', (b' = b → o' < g.L b ∨ off + (xs.length + ys.length) * sz ≤ o') → w'.cell? ⟨b', o', none⟩ = w.cell? ⟨b', o', none⟩ := fun b' o' hh => by
    rw [← hw']
    refine World.cell?_setCells_out b _ _ w _ fun h1 _ => ?_
    rw [cellL_len]
    rcases hh h1 with h2 | h2
    · left; show o' < _; omega
    · right; show _ ≤ o'; omega
  have hfr : ∀ x, w'.frozen? x = w.frozen? x := fun x => by rw [← hw']; exact World.frozen?_setCells b _ _ w x
  have hsome : ∀ x, (w.cell? x).isSome = true → (w'.cell? x).isSome = true := fun x hx => by rw [← hw']; exact World.isSome_setCells b _ _ w x hx
  have hsz9 : w.heap.size ≤ w'.heap.size := by rw [← hw']; exact Nat.le_of_eq (tape_setCells _ _ _ _).2.symm
  have hheap : ∀ i, i < w.heap.size → i ≠ b → w'.heap[i]? = w.heap[i]? := fun i h1 h2 => by rw [← hw']; exact World.heap_setCells_other w b _ _ h1 h2
  have keeps : Keeps w w' g g' := ⟨fun b' o' hh => hout b' o' (fun e => .inl (e ▸ hh)), fun b' => by
    by_cases e : b' = b
    · subst e; rw [hLb, hL]; omega
    · rw [hLo _ e]; exact Nat.le_refl _⟩
  have kpl : ∀ pl : Nat → Pl, (∀ k, pl k ≠ .tmp τ.length 0) → KeepsPl w w' g g' pl := fun pl hpl b' k hb => by
    have hne : b' ≠ b := fun e => by rw [e, ho] at hb; exact hpl k (Option.some.inj hb).symm
    exact ⟨hb, hLo _ hne, fun o' => ⟨hsome _, fun hh => by rw [hfr]; exact hh⟩⟩
  have mono : ∀ {pl : Nat → Pl} {d : D} {v : Value}, (∀ k, pl k ≠ .tmp τ.length 0) → RelD w g pl d v → RelD w' g' pl d v := fun hpl hd =>
    hd.mono keeps h.s.nil (kpl _ hpl) (fun r hr => ⟨hr, rfl, rfl, rfl, rfl⟩)
  have hbe : ∀ r, g.live r → g.be r ≠ b := fun r hr e => by
    have := (h.s.be r hr).2.2.1
    rw [e, ho] at this; cases this
  have hS : RelS w' g' st := by
    refine ⟨h.s.live, fun r bl hb => ?_, fun r hr => ?_, h.s.inj, fun b' p hb => ?_, h.s.nil, fun b' hb => ?_, gl_keep keeps.cell keeps.L hsz9 (fun i hi hm => ⟨hm, hheap i hi (fun e => hm (by rw [e]; exact (h.s.own b _ ho).1))⟩) h.s.gl⟩
    · have hr : g.live r := (h.s.live r).2 ⟨_, hb⟩
      have hB := h.s.blk r bl hb
      cases bl with
      | dead => trivial
      | it s pos => exact ⟨by show w'.heap[g.be r]? = _; rw [hheap _ (h.s.be r hr).2.2.2 (hbe r hr)]; exact hB.1, hB.2⟩
      | mp es =>
        obtain ⟨arr, clock, h8, h9, h10⟩ := hB
        refine ⟨arr, clock, by show w'.heap[g.be r]? = _; rw [hheap _ (h.s.be r hr).2.2.2 (hbe r hr)]; exact h8, h9, fun i hi hi' => ?_⟩
        obtain ⟨h11, h12, h13⟩ := h10 i hi hi'
        exact ⟨h11, h12, mono (fun k => by simp) h13⟩
      | row zs =>
        simp only [RelB] at hB ⊢
        refine ⟨⟨hB.1.1, fun j hj => ⟨hsome _ (hB.1.2 j hj).1, by rw [hfr]; exact (hB.1.2 j hj).2⟩⟩, fun i hi => ?_⟩
        obtain ⟨h2, h3⟩ := hB.2 i hi
        refine ⟨h2, fun j hj => ?_⟩
        obtain ⟨h4, h5, v, h6, h7, h8⟩ := h3 j hj
        refine ⟨h4, h5, v, ?_, by rw [hfr]; exact h7, mono (fun k => by simp) h8⟩
        show w'.cell? ⟨g.be r, i * g.sz r + j, none⟩ = some v
        rw [hout _ _ (fun e => absurd e (hbe r hr))]; exact h6
    · obtain ⟨h1, h2, h3, h4⟩ := h.s.be r hr
      exact ⟨h1, by show g'.L (g.be r) = 0; rw [hLo _ (hbe r hr)]; exact h2, h3, by rw [hsz]; exact h4⟩
    · obtain ⟨h1, h2⟩ := h.s.own b' p hb
      exact ⟨h1, by rw [hsz]; exact h2⟩
    · rw [hsz] at hb
      obtain ⟨h1, h2⟩ := h.s.fresh b' hb
      exact ⟨by rw [hLo _ (by omega)]; exact h1, h2⟩
  have hext : Ext w w' g g' := ⟨by rw [← hw']; exact World.os_setCells _ _ _ _, ht, by rw [← hw']; exact World.output_setCells _ _ _ _, by omega, keeps.cell, keeps.L, fun b' hb hm => by
    have hne : b' ≠ b := fun e => hm (e ▸ hM)
    exact ⟨hheap b' hb hne, hLo _ hne, hm⟩, fun r hr => ⟨hr, rfl, rfl, rfl, rfl⟩⟩
  obtain ⟨fx, Ex, Sx⟩ := els_slc hx
  have hcx : xs.length ≠ 0 → ∀ i j, i < xs.length → j < sz → w.cell? ⟨b, off + i * sz + j, none⟩ = some (fx i j) := fun h0 => by
    cases Sx with | sl _ _ _ hcell =>
    obtain ⟨b', o', h1, h2⟩ := hcell h0
    cases h1; exact h2
  have EE := (Ex.append E).mono (w' := w') (L' := g'.L) (fun x v hh => hh.mono keeps.cell keeps.L)
  refine ⟨g', hext, ⟨hS, fun i t hi => mono (fun k => by simp) (h.e i t hi), fun j t hj => mono (fun k => ?_) (h.t j t hj)⟩, .lin _ sz _ _ ?_ ?_⟩
  · have := idxOf_lt hj
    intro e
    have := (Pl.tmp.inj e).1
    omega
  · have := RelV.slc sz (xs ++ ys) b off cap (Els2 xs.length fx f) (w := w') (L := g'.L) (by simpa using hroom) EE.len (fun i j hi hj => ?_) (fun i j hi hj => ?_) EE.cell EE.rel
    · rw [List.length_append] at this; exact this
    · rw [List.length_append] at hi
      have := mul_at hi hj
      rw [hLb]; omega
    · rw [List.length_append] at hi
      by_cases h1 : i < xs.length
      · have h2 := mul_at h1 hj
        rw [hout _ _ (fun _ => .inl (by omega)), hcx (by omega) i j h1 hj]
        simp [Els2, h1]
      · have h3 : i - xs.length < ys.length := by omega
        have h4 := cellL_at f h3 hj
        obtain ⟨h5, h6⟩ := List.getElem?_eq_some_iff.1 h4
        have h7 := World.cell?_setCells_in b (cellL ys.length sz f) (off + xs.length * sz) w (fun q hq => by
          rw [cellL_len] at hq
          exact (hs _ (by omega)).1) _ h5
        rw [hw', h6] at h7
        have e2 : i * sz = xs.length * sz + (i - xs.length) * sz := by rw [← Nat.add_mul]; congr 1; omega
        have e3 : off + i * sz + j = off + xs.length * sz + ((i - xs.length) * sz + j) := by omega
        rw [e3, h7]
        simp [Els2, h1]
  · refine .inr ⟨b, off, rfl, ho, hLb, hroom, fun j hj => ⟨hsome _ (hs j hj).1, by rw [hfr]; exact (hs j hj).2⟩⟩
end
end Go.Q

namespace Go.Q
variable [Known]
section
variable {P : Program} {w : World} {g : Gh} {μ : List Nat} {τ : List (Option Nat)} {env ts : List D} {st : St} {a : Act} {o : Oper}

theorem grow_core {sz cap : Nat} {base : Option Addr} {xs ys : List V} {f : Nat → Nat → Value} {tmps : Array Value} {e u ty t : TypeId} {inf : TypeInfo} {zv v : Value} (h : RelA w g μ τ env ts st tmps) (hx : RelV w g.L (.slc sz xs) (.slice base xs.length cap))
    (E : Els w g.L sz ys f) (S : Src P sz u v ys.length (cellL ys.length sz f) w) (hcap : xs.length ≤ cap) (hroom : cap < xs.length + ys.length) (ht : P.underlying t = some (.slice e)) (hi : P.info? e = some inf)
    (hs : inf.size = sz) (hzv : inf.zero = some zv) (hz : zv.cells.size = sz) (hb0 : inf.bytes ≠ 0) (hby : (xs.length + ys.length) * inf.bytes ≤ maxB) :
    ∃ r w', (Builtin.append_ #[t, u] ty #[.slice base xs.length cap, v]).run P w = .ok r w' ∧ Post w g μ τ tmps (.lin sz (xs ++ ys), env, ts, st) r w' := by
  subst hs
  obtain ⟨fx, Ex, Sx⟩ := els_slc hx
  have hold : (Builtin.firstCells inf.size xs.length (.slice base xs.length cap)).run P w.drew = .ok (cellL xs.length inf.size fx).toArray w.drew := by
    cases Sx with | sl _ _ hc hcell =>
    cases base with
    | none =>
      have h0 : xs.length = 0 := Classical.byContradiction fun h => by obtain ⟨_, _, h1, _⟩ := hcell h; cases h1
      rw [h0]
      have e : cellL 0 inf.size fx = [] := by simp [cellL]
      rw [e]
      exact run_firstCells_none w.drew inf.size 0 0 cap
    | some ad =>
      refine run_firstCells_some w.drew inf.size _ ad _ cap _ (cellL_len _ _ _) fun k u' hk => ?_
      have h0 : xs.length ≠ 0 := fun e => by rw [e] at hk; simp [cellL] at hk
      obtain ⟨b, o, h1, h2⟩ := hcell h0
      cases h1
      exact cellL_src (w := w.drew) h2 k u' hk
  have h63 : ((xs.length + ys.length : Nat) : Int) ≤ 9223372036854775807 := by
    have h5 : (xs.length + ys.length) * 1 ≤ (xs.length + ys.length) * inf.bytes := Nat.mul_le_mul_left _ (by omega)
    have : maxB = 140737488355328 := rfl
    omega
  refine ⟨_, _, run_append_grow_src w t u ty e inf zv ht hi hzv base xs.length cap _ hold v ys.length _ S hroom h63 (growslice_fits hroom hby), ?_⟩
  have hge := grownCap_ge w (xs.length + ys.length) cap e
  have e1 : (xs.length + ys.length) * inf.size = xs.length * inf.size + ys.length * inf.size := Nat.add_mul _ _ _
  have hlen : (cellL xs.length inf.size fx ++ cellL ys.length inf.size f).length = (xs.length + ys.length) * inf.size := by rw [List.length_append, cellL_len, cellL_len, e1]
  have hsize : ((cellL xs.length inf.size fx ++ cellL ys.length inf.size f).toArray ++ Builtin.zeroCells zv.cells (grownCap w (xs.length + ys.length) cap e - (xs.length + ys.length))).size = grownCap w (xs.length + ys.length) cap e * inf.size := by
    rw [Array.size_append, List.size_toArray, hlen, size_zeroCells, hz, ← Nat.add_mul]
    congr 1; omega
  have := new_lin (sz := inf.size) (c := grownCap w (xs.length + ys.length) cap e) (ob := .cells ((cellL xs.length inf.size fx ++ cellL ys.length inf.size f).toArray ++ Builtin.zeroCells zv.cells (grownCap w (xs.length + ys.length) cap e - (xs.length + ys.length))) e) 1 h (Ex.append E) (by rw [List.length_append]; exact hge)
    (fun i j hi' hj => by
      rw [List.length_append] at hi'
      show (w.drew.alloc _).cell? ⟨w.drew.heap.size, _, none⟩ = _
      have h1 := mul_at hi' hj
      rw [World.cell?_alloc_new, Array.getElem?_append_left (by rw [List.size_toArray, hlen]; exact h1), List.getElem?_toArray]
      by_cases h2 : i < xs.length
      · rw [List.getElem?_append_left (by rw [cellL_len]; exact mul_at h2 hj), cellL_at fx h2 hj]
        simp [Els2, h2]
      · have h3 : i - xs.length < ys.length := by omega
        have e2 : i * inf.size = xs.length * inf.size + (i - xs.length) * inf.size := by rw [← Nat.add_mul]; congr 1; omega
        rw [List.getElem?_append_right (by rw [cellL_len]; omega), cellL_len]
        have e3 : i * inf.size + j - xs.length * inf.size = (i - xs.length) * inf.size + j := by omega
        rw [e3, cellL_at f h3 hj]
        simp [Els2, h2])
    (fun j hj => by
      show ((w.drew.alloc _).cell? ⟨w.drew.heap.size, _, none⟩).isSome = true ∧ (w.drew.alloc _).frozen? ⟨w.drew.heap.size, _, none⟩ = false
      rw [World.cell?_alloc_new, World.frozen?_alloc_new]
      refine ⟨?_, rfl⟩
      rw [Array.getElem?_eq_getElem (by rw [hsize]; exact hj)]
      rfl)
  rw [List.length_append] at this
  exact this

theorem app_core {sz cap : Nat} {base : Option Addr} {xs ys : List V} {f : Nat → Nat → Value} {tmps : Array Value} {e u ty t : TypeId} {inf : TypeInfo} {zv v : Value} (h : RelA w g μ τ env ts st tmps) (hx : RelD w g (.tmp τ.length) (.lin sz xs) (.slice base xs.length cap))
    (E : Els w g.L sz ys f) (S : Src P sz u v ys.length (cellL ys.length sz f) w) (hcap : xs.length ≤ cap) (ht : P.underlying t = some (.slice e)) (hi : P.info? e = some inf)
    (hs : inf.size = sz) (hzv : inf.zero = some zv) (hz : zv.cells.size = sz) (hb0 : inf.bytes ≠ 0) (hby : (xs.length + ys.length) * inf.bytes ≤ maxB) :
    ∃ r w', (Builtin.append_ #[t, u] ty #[.slice base xs.length cap, v]).run P w = .ok r w' ∧ Post w g μ τ tmps (.lin sz (xs ++ ys), env, ts, st) r w' := by
  have hx' := hx
  cases hx with | lin _ _ _ _ hv hsp =>
  by_cases h0 : ys.length = 0
  · have : ys = [] := List.length_eq_zero_iff.1 h0
    subst this
    have e' : cellL ([] : List V).length sz f = [] := by simp [cellL]
    rw [e'] at S
    refine ⟨_, _, run_append_nothing w t u ty e inf ht hi base xs.length cap hcap v (hs.symm ▸ S), g, Ext.refl w g, h, ?_⟩
    rw [List.append_nil]; exact hx'
  · by_cases hroom : xs.length + ys.length ≤ cap
    · rcases hsp with hsp | ⟨b, off, h1, h2, h3, h4, h5⟩
      · omega
      · subst h1
        subst hs
        have e1 : (xs.length + ys.length) * inf.size = xs.length * inf.size + ys.length * inf.size := Nat.add_mul _ _ _
        have hcapz : (xs.length + ys.length) * inf.size ≤ cap * inf.size := Nat.mul_le_mul_right _ hroom
        exact ⟨_, _, run_append_room_src w t u ty e inf ht hi b off xs.length cap v ys.length _ S hroom (fun j hj => by rw [cellL_len] at hj; exact (h5 _ (by omega)).1) (fun j hj => by rw [cellL_len] at hj; exact (h5 _ (by omega)).2),
          room_core h hv h2 h3 h5 E hroom⟩
    · exact grow_core h hv E S hcap (by omega) ht hi hs hzv hz hb0 hby

theorem builtinOf_eq {c : Call} {b : Builtin} (h : builtinOf c = some b) : c.callee = .builtin b := by
  unfold builtinOf at h; split at h <;> cases h; assumption

theorem app_ok (h : RelA w g μ τ env ts st a.tmps) (hts : ts.length = τ.length) {c : Call} {x y : Operand} {t u e : TypeId} {x' y' : Opd} {sz bytes : Nat} {q : Rg} {R : Run} {inf : TypeInfo} {zv : Value} (hop : o.op = .call c)
    (hb : builtinOf c = some .append) (ha : c.args.toList = [x, y]) (hat : c.argTypes.toList = [t, u]) (hx : chkO μ τ x x' = true) (hy : chkO μ τ y y' = true) (ht : uSlc P t = some e) (hi : P.info? e = some inf)
    (hs : inf.size = sz) (hby : inf.bytes = bytes) (hb0 : bytes ≠ 0) (hzv : inf.zero = some zv) (hz : zv.cells.size = sz) (hu : (uStr P u || (uSlc P u).isSome) = true)
    (he : evOp R env ts st (.app sz bytes x' y') = some q) : OpRes P o a w (Post w g μ τ a.tmps q) := by
  simp only [evOp] at he
  obtain ⟨ys, h1, h2⟩ := bind_some' he
  obtain ⟨d, h3, rfl⟩ := map_some' h2
  obtain ⟨f, E, S⟩ := elems_rel h.s (rd_rel h hy (fun _ => .nil)) h1
  have Sr := src_of (P := P) E S hu
  obtain ⟨fm, k1, k2, k3, k4⟩ := take_rel h hts hx
  have hargs : c.args = #[x, y] := by rw [← ha]
  have hargT : c.argTypes = #[t, u] := by rw [← hat]
  have run : ∀ r w', (Builtin.append_ #[t, u] o.type #[a.eval x, a.eval y]).run P w = .ok r w' → (execOp a.eval o).run P w = .ok (.value r) w' := fun r w' hr => by
    simp only [execOp, hop, resolve, builtinOf_eq hb, hargs, hargT]
    simp only [Sem.run_bind, Sem.run_pure, Result.andThen_ok, invoke, builtin, List.map_toArray, List.map_cons, List.map_nil]
    rw [hr]
    rfl
  have fin : ∀ (base : Option Addr) (xs : List V) (cap : Nat), a.eval x = .slice base xs.length cap → RelD w (g.mv fm) (.tmp τ.length) (.lin sz xs) (.slice base xs.length cap) → xs.length ≤ cap → (xs.length + ys.length) * bytes ≤ maxB →
      OpRes P o a w (Post w g μ τ a.tmps (.lin sz (xs ++ ys), (takeO env ts x').2.1, (takeO env ts x').2.2, st)) := fun base xs cap hv hd hc hmax => by
    obtain ⟨r, w', hr, g', p1, p2, p3⟩ := app_core (ty := o.type) k1 hd (g := g.mv fm) E Sr hc (of_uSlc P ht) hi hs hzv hz (by rw [hby]; exact hb0) (by rw [hby]; exact hmax)
    exact res_ok (run r w' (by rw [hv]; exact hr)) ⟨g', (Ext.mv fm).trans p1, p2, p3⟩
  unfold opApp at h3
  split at h3 <;> first | (cases h3; done) | skip
  · rename_i z hd
    split at h3 <;> cases h3
    rename_i hmax
    rw [hd] at k2
    generalize hv : a.eval x = v at k2
    cases k2
    exact fin none [] 0 hv (.lin _ _ _ _ (.slc0 _ _ _) (.inl rfl)) (Nat.le_refl _) (by simpa using hmax)
  · rename_i z xs hd
    split at h3 <;> cases h3
    rename_i hcond
    obtain ⟨rfl, hmax⟩ := hcond
    rw [hd] at k2
    have hv' : RelV w (g.mv fm).L (.slc z xs) (a.eval x) := by cases k2; assumption
    obtain ⟨ad, cap, hv, hc⟩ := slc_shape hv'
    exact fin ad xs cap hv (hv ▸ k2) hc hmax
end
end Go.Q
namespace Go.Q
variable [Known]

theorem setB_len : ∀ (st : St) (r : Ref) (b : Blk), (setB st r b).length = st.length
  | [], r, b => rfl
  | fr :: st, r, b => by simp only [setB]; split <;> simp [setB_len st r b]
theorem getB_setB : ∀ {st : St} {r : Ref} {b0 : Blk} (b : Blk), getB st r = some b0 → ∀ r', getB (setB st r b) r' = if r' = r then some b else getB st r'
  | [], r, b0, b, h => by simp [getB] at h
  | fr :: st, r, b0, b, h => by
    intro r'
    rw [getB_cons] at h
    simp only [setB]
    by_cases h1 : r.lvl = st.length
    · rw [if_pos h1] at h
      rw [if_pos h1, getB_cons, getB_cons]
      obtain ⟨l, k⟩ := r
      obtain ⟨l', k'⟩ := r'
      simp only at h h1 ⊢
      subst h1
      by_cases h2 : l' = st.length
      · subst h2
        rw [if_pos rfl, if_pos rfl]
        have hk : k < fr.length := (List.getElem?_eq_some_iff.1 h).1
        by_cases h3 : k' = k
        · subst h3
          simp [hk]
        · have h4 : ¬ (⟨st.length, k'⟩ : Ref) = ⟨st.length, k⟩ := fun e => h3 (congrArg Ref.k e)
          rw [if_neg h4, List.getElem?_set_ne (Ne.symm h3)]
      · have h4 : ¬ (⟨l', k'⟩ : Ref) = ⟨st.length, k⟩ := fun e => h2 (congrArg Ref.lvl e)
        rw [if_neg h2, if_neg h2, if_neg h4]
    · rw [if_neg h1] at h
      rw [if_neg h1, getB_cons, getB_cons, setB_len]
      by_cases h2 : r'.lvl = st.length
      · have h4 : ¬ r' = r := fun e => h1 (e ▸ h2)
        rw [if_pos h2, if_pos h2, if_neg h4]
      · rw [if_neg h2, if_neg h2]
        exact getB_setB b h r'

section
variable {P : Program} {w : World} {g : Gh} {μ : List Nat} {τ : List (Option Nat)} {env ts : List D} {st : St} {a : Act} {o : Oper}

theorem poke_mono {b off : Nat} {vs : List Value} {pl : Nat → Pl} {d : D} {v : Value} (hS : RelS w g st) (hL : g.L b = 0) (ho : g.own b = none) (hd : RelD w g pl d v) : RelD (w.setCells b off vs) g pl d v := by
  have hout : ∀ b' o', b' ≠ b → (w.setCells b off vs).cell? ⟨b', o', none⟩ = w.cell? ⟨b', o', none⟩ := fun b' o' hne => World.cell?_setCells_out b _ _ w _ fun h1 _ => absurd h1 hne
  refine hd.mono ⟨fun b' o' hh => hout b' o' (fun e => by rw [e, hL] at hh; omega), fun _ => Nat.le_refl _⟩ hS.nil (fun b' k hb => ⟨hb, rfl, fun o' => ⟨World.isSome_setCells b _ _ w _, fun hh => by rw [World.frozen?_setCells]; exact hh⟩⟩) (fun r hr => ⟨hr, rfl, rfl, rfl, rfl⟩)
theorem poke_ext {b off : Nat} {vs : List Value} (hM : g.M b) (hL : g.L b = 0) : Ext w (w.setCells b off vs) g g := by
  obtain ⟨ht, hs⟩ := tape_setCells b vs off w
  refine ⟨World.os_setCells _ _ _ _, ht, World.output_setCells _ _ _ _, by omega, fun b' o' hh => World.cell?_setCells_out b _ _ w _ fun h1 _ => ?_, fun _ => Nat.le_refl _, fun b' hb hm => ⟨World.heap_setCells_other w b _ _ hb (fun e => hm (e ▸ hM)), rfl, hm⟩, fun r hr => ⟨hr, rfl, rfl, rfl, rfl⟩⟩
  have : b' = b := h1
  rw [this, hL] at hh; omega

theorem set_blk {r : Ref} {xs xs' : List D} {off : Nat} {vs : List Value} {f : Pl → Pl} {b0 : Nat} (hS : RelS w g st) (hb : getB st r = some (.row xs)) (hb0 : g.be r = b0)
    (hf0 : f .nil = .nil) (hf1 : ∀ p, f p = .nil → p = .nil) (hfc : ∀ r i j, f (.cell r i j) = .cell r i j)
    (hin : ∀ k, k < vs.length → (w.cell? ⟨b0, off + k, none⟩).isSome = true ∧ w.frozen? ⟨b0, off + k, none⟩ = false)
    (hN : xs'.length = xs.length) (hlen : ∀ i (hi : i < xs'.length), (cellsOf xs'[i]).length = g.sz r)
    (hcell : ∀ i (hi : i < xs'.length) j (hj : j < (cellsOf xs'[i]).length),
      (∃ k v pl, off + k = i * g.sz r + j ∧ vs[k]? = some v ∧ ((cellsOf xs'[i])[j]).isCell = true ∧ refsBelow (r.lvl + 1) ((cellsOf xs'[i])[j]) = true ∧ RelD w g pl (cellsOf xs'[i])[j] v ∧ f (pl 0) = .cell r i j) ∨
      ((i * g.sz r + j < off ∨ off + vs.length ≤ i * g.sz r + j) ∧ ∃ hi2 : i < xs.length, ∃ hj2 : j < (cellsOf xs[i]).length, (cellsOf xs'[i])[j] = (cellsOf xs[i])[j])) :
    RelS (w.setCells b0 off vs) (g.mv f) (setB st r (.row xs')) := by
  subst hb0
  have hlv : g.live r := (hS.live r).2 ⟨_, hb⟩
  obtain ⟨hM, hL, ho, hsz⟩ := hS.be r hlv
  obtain ⟨ht, hs⟩ := tape_setCells (g.be r) vs off w
  have mono : ∀ {pl : Nat → Pl} {d : D} {v : Value}, RelD w g pl d v → RelD (w.setCells (g.be r) off vs) g pl d v := fun hd => poke_mono hS hL ho hd
  have hget := getB_setB (.row xs') hb
  refine ⟨fun r' => ?_, fun r' bl hbl => ?_, fun r' hr' => ?_, fun r1 r2 q1 q2 q3 => ?_, fun b p hp => ?_, fun b hbn => ?_, fun b hbn => ?_, gl_keep (g' := g.mv f) (poke_ext hM hL).cell (fun _ => Nat.le_refl _) (poke_ext (vs := vs) (off := off) hM hL).size (fun b hb hm => ⟨hm, ((poke_ext hM hL).old b hb hm).1⟩) hS.gl⟩
  · rw [hget]
    by_cases e : r' = r
    · subst e; rw [if_pos rfl]; exact ⟨fun _ => ⟨_, rfl⟩, fun _ => hlv⟩
    · rw [if_neg e]; exact hS.live r'
  · rw [hget] at hbl
    by_cases e : r' = r
    · subst e
      rw [if_pos rfl] at hbl
      cases hbl
      have hB := hS.blk r' _ hb
      simp only [RelB] at hB ⊢
      refine ⟨⟨by rw [hN]; exact hB.1.1, fun j hj => by
        show ((w.setCells (g.be r') off vs).cell? ⟨g.be r', j, none⟩).isSome = true ∧ (w.setCells (g.be r') off vs).frozen? ⟨g.be r', j, none⟩ = false
        rw [World.frozen?_setCells]
        exact ⟨World.isSome_setCells _ _ _ w _ (hB.1.2 j hj).1, (hB.1.2 j hj).2⟩⟩, fun i hi => ⟨hlen i hi, fun j hj => ?_⟩⟩
      replace hB := hB.2
      rcases hcell i hi j hj with ⟨k, v, pl, h1, h2, h3, h4, h5, h6⟩ | ⟨h1, hi2, hj2, h3⟩
      · obtain ⟨hk, h7⟩ := List.getElem?_eq_some_iff.1 h2
        refine ⟨h3, h4, v, ?_, ?_, ?_⟩
        · have := World.cell?_setCells_in (g.be r') vs off w (fun k hk => (hin k hk).1) k hk
          show (w.setCells (g.be r') off vs).cell? ⟨g.be r', i * g.sz r' + j, none⟩ = some v
          rw [← h1, this, h7]
        · show (w.setCells (g.be r') off vs).frozen? ⟨g.be r', i * g.sz r' + j, none⟩ = false
          rw [World.frozen?_setCells, ← h1]; exact (hin k hk).2
        · exact ((mono h5).place h3 (pl' := fun _ => pl 0) rfl).mv (fun _ => h6) hf0
      · obtain ⟨_, h4⟩ := hB i hi2
        obtain ⟨h5, h6, v, h7, h8, h9⟩ := h4 j hj2
        rw [h3]
        refine ⟨h5, h6, v, ?_, ?_, (mono h9).mv (fun _ => hfc _ _ _) hf0⟩
        · show (w.setCells (g.be r') off vs).cell? ⟨g.be r', i * g.sz r' + j, none⟩ = some v
          rw [World.cell?_setCells_out (g.be r') vs off w _ (fun _ _ => h1)]; exact h7
        · show (w.setCells (g.be r') off vs).frozen? ⟨g.be r', i * g.sz r' + j, none⟩ = false
          rw [World.frozen?_setCells]; exact h8
    · rw [if_neg e] at hbl
      have hlv' : g.live r' := (hS.live r').2 ⟨_, hbl⟩
      have hB := hS.blk r' _ hbl
      by_cases hdd : bl = .dead
      · subst hdd; trivial
      have hne : g.be r' ≠ g.be r := fun e' => by
        rcases hS.inj _ _ hlv' hlv e' with h | ⟨_, h | h⟩
        · exact e h
        · rw [hbl] at h; exact hdd (Option.some.inj h)
        · rw [hb] at h; cases h
      cases bl with
      | dead => trivial
      | it s pos => exact ⟨by show (w.setCells (g.be r) off vs).heap[g.be r']? = _; rw [World.heap_setCells_other w (g.be r) _ _ (hS.be r' hlv').2.2.2 hne]; exact hB.1, hB.2⟩
      | mp es =>
        obtain ⟨arr, clock, h8, h9, h10⟩ := hB
        refine ⟨arr, clock, by show (w.setCells (g.be r) off vs).heap[g.be r']? = _; rw [World.heap_setCells_other w (g.be r) _ _ (hS.be r' hlv').2.2.2 hne]; exact h8, h9, fun i hi hi' => ?_⟩
        obtain ⟨h11, h12, h13⟩ := h10 i hi hi'
        exact ⟨h11, h12, (mono h13).mv (fun _ => hfc _ _ _) hf0⟩
      | row zs =>
        simp only [RelB] at hB ⊢
        refine ⟨⟨hB.1.1, fun j hj => by
          show ((w.setCells (g.be r) off vs).cell? ⟨g.be r', j, none⟩).isSome = true ∧ (w.setCells (g.be r) off vs).frozen? ⟨g.be r', j, none⟩ = false
          rw [World.frozen?_setCells]
          exact ⟨World.isSome_setCells _ _ _ w _ (hB.1.2 j hj).1, (hB.1.2 j hj).2⟩⟩, fun i hi => ?_⟩
        obtain ⟨h2, h3⟩ := hB.2 i hi
        refine ⟨h2, fun j hj => ?_⟩
        obtain ⟨h4, h5, v, h6, h7, h8⟩ := h3 j hj
        refine ⟨h4, h5, v, ?_, ?_, (mono h8).mv (fun _ => hfc _ _ _) hf0⟩
        · show (w.setCells (g.be r) off vs).cell? ⟨g.be r', i * g.sz r' + j, none⟩ = some v
          rw [World.cell?_setCells_out (g.be r) vs off w _ (fun h1 _ => absurd h1 hne)]; exact h6
        · show (w.setCells (g.be r) off vs).frozen? ⟨g.be r', i * g.sz r' + j, none⟩ = false
          rw [World.frozen?_setCells]; exact h7
  · obtain ⟨h1, h2, h3, h4⟩ := hS.be r' hr'
    exact ⟨h1, h2, by simp [Gh.mv, h3], by rw [hs]; exact h4⟩
  · rcases hS.inj r1 r2 q1 q2 q3 with h | ⟨q4, h | h⟩
    · exact .inl h
    · refine .inr ⟨q4, .inl ?_⟩
      rw [hget, if_neg (fun e => by rw [e, hb] at h; cases h)]; exact h
    · refine .inr ⟨q4, .inr ?_⟩
      rw [hget, if_neg (fun e => by rw [e, hb] at h; cases h)]; exact h
  · simp only [Gh.mv, Option.map_eq_some_iff] at hp
    obtain ⟨q, hq, rfl⟩ := hp
    obtain ⟨h1, h2⟩ := hS.own b q hq
    exact ⟨h1, by rw [hs]; exact h2⟩
  · simp only [Gh.mv, Option.map_eq_some_iff] at hbn
    obtain ⟨q, hq, h1⟩ := hbn
    exact hS.nil b (hf1 q h1 ▸ hq)
  · rw [hs] at hbn
    exact hS.fresh b hbn

theorem store_run {t : TypeId} {b off : Nat} {v : Value} (hz : szT P t = some v.cells.size) (hin : ∀ k, k < v.cells.size → (w.cell? ⟨b, off + k, none⟩).isSome = true ∧ w.frozen? ⟨b, off + k, none⟩ = false)
    (h1 : ∀ u ∈ v.cells.toList, u.oneCell' = true) : (Instr.storeAt t (.pointer (some ⟨b, off, none⟩)) v).run P w = .ok () (w.setCells b off v.cells.toList) := by
  have hst := run_storeCells_cells (P := P) b off v.cells.toList 0 w (fun j hj => (hin j (by simpa using hj)).1) (fun j hj => (hin j (by simpa using hj)).2) h1
  rw [Nat.add_zero] at hst
  simp only [Instr.storeAt, Instr.sureAddr, Sem.run_bind, Sem.run_pure, Result.andThen_ok, storeVar, sizeOf_run hz, ne_eq, not_true_eq_false, if_false, hst]

theorem cellsOf_mkAgg (cs : List D) : cellsOf (mkAgg cs) = cs := by
  unfold mkAgg
  cases h : allV cs with
  | none => rfl
  | some xs => rw [allV_some h]; rfl
theorem cellsOf_not {d : D} (h : isAggD d = false) : cellsOf d = [d] := by
  cases d <;> first | rfl | (simp [isAggD] at h; done) | skip
  rename_i x
  cases x <;> first | rfl | (simp [isAggD] at h; done)
theorem cellsOf_cell {d : D} (h : d.isCell = true) : cellsOf d = [d] := by
  cases d <;> first | rfl | (simp [D.isCell] at h; done) | skip
  rename_i x
  cases x <;> first | rfl | (simp [D.isCell, V.isCell] at h; done)
theorem newElem_cells {sz off : Nat} {d x : D} (hx : (cellsOf x).length = sz) (hle : off + sz ≤ (cellsOf d).length) (hc : ∀ c ∈ cellsOf x, c.isCell = true) : cellsOf (newElem sz off d x) = putAt (cellsOf d) off (cellsOf x) := by
  unfold newElem
  split
  · rename_i h
    have : off = 0 := by omega
    subst this
    simp only [putAt, List.take_zero, List.nil_append, Nat.zero_add, hx, h.1, List.drop_length, List.append_nil]
  · unfold unCells
    split
    · exact cellsOf_mkAgg _
    · rename_i h
      have hd := cellsOf_not (by simpa using h)
      rw [hd] at hle ⊢
      simp only [List.length_singleton] at hle
      by_cases h0 : sz = 0
      · have : cellsOf x = [] := List.length_eq_zero_iff.1 (by omega)
        rw [this]
        have ho : off = 0 ∨ off = 1 := by omega
        rcases ho with rfl | rfl <;> simp [putAt, hd]
      · obtain rfl : off = 0 := by omega
        have h1 : (cellsOf x).length = 1 := by omega
        obtain ⟨c, hcx⟩ := List.length_eq_one_iff.1 h1
        rw [hcx]
        simp only [putAt, List.take_zero, List.nil_append, List.length_singleton, Nat.zero_add, List.drop_one, List.tail_cons, List.append_nil, List.headD_cons]
        exact cellsOf_cell (hc c (by rw [hcx]; simp))

theorem store_ok (h : RelA w g μ τ env ts st a.tmps) (hts : ts.length = τ.length) {t : TypeId} {p x : Operand} {y z : Opd} {sz : Nat} {q : Rg} {R : Run} (hop : o.op = .store t p x)
    (hp : chkO μ τ p y = true) (hx : chkO μ τ x z = true) (hz : szT P t = some sz)
    (he : evOp R env ts st (.store sz y z) = some q) : OpRes P o a w (Post w g μ τ a.tmps q) := by
  simp only [evOp] at he
  obtain ⟨st', h1, rfl⟩ := map_some' he
  have hpr := rd_rel h hp (fun _ => .nil)
  unfold opStore at h1
  split at h1 <;> first | (cases h1; done) | skip
  rename_i r i off hd
  obtain ⟨xs, h2, h3⟩ := bind_some' h1
  have hb := rowOf_some h2
  obtain ⟨d, h4, h5⟩ := bind_some' h3
  split at h5 <;> cases h5
  rename_i hcond
  obtain ⟨c1, c2, c3, c4⟩ := hcond
  obtain ⟨hi, rfl⟩ := List.getElem?_eq_some_iff.1 h4
  rw [hd] at hpr
  generalize hv : a.eval p = v at hpr
  cases hpr with | ptr _ _ _ _ hlv =>
  obtain ⟨fm, k1, k2, k3, k4⟩ := take_rel h hts hx
  obtain ⟨hl, hc⟩ := k2.cells c3
  obtain ⟨hM, hL, ho, hsz⟩ := h.s.be r hlv
  have hB := h.s.blk r _ hb
  simp only [RelB] at hB
  have hBn := hB.1
  replace hB := hB.2
  obtain ⟨hBl, hBi⟩ := hB i hi
  have hin : ∀ k, k < (a.eval x).cells.toList.length → (w.cell? ⟨g.be r, i * g.sz r + off + k, none⟩).isSome = true ∧ w.frozen? ⟨g.be r, i * g.sz r + off + k, none⟩ = false := fun k hk => by
    have hk' : k < sz := by simp at hk; omega
    obtain ⟨_, _, v, e1, e2, _⟩ := hBi (off + k) (by omega)
    rw [Nat.add_assoc, e1]; exact ⟨rfl, e2⟩
  have one : ∀ u ∈ (a.eval x).cells.toList, u.oneCell' = true := fun u hu => by
    obtain ⟨k, hk, rfl⟩ := List.getElem_of_mem hu
    have hk' : k < (a.eval x).cells.size := by simpa using hk
    have := (hc k (by omega)).2.one (hc k (by omega)).1
    simpa using this
  have run : (execOp a.eval o).run P w = .ok .skip (w.setCells (g.be r) (i * g.sz r + off) (a.eval x).cells.toList) := by
    simp only [execOp, hop, hv]
    exact run_u (store_run (by rw [hz, ← c1, hl]) (fun k hk => hin k (by simpa using hk)) one)
  refine res_skip run ?_
  let f : Pl → Pl := fun p => match p with | .tmp b k => if b = τ.length then .cell r i (off + k) else .tmp b k | p => p
  have hcs : ∀ c ∈ cellsOf (takeO env ts z).1, c.isCell = true := fun c hcm => by
    obtain ⟨k, hk, rfl⟩ := List.getElem_of_mem hcm
    exact (hc k hk).1
  have hnew := newElem_cells (d := xs[i]) c1 c2 hcs
  have hlen : ∀ j (hj : j < (xs.set i (newElem sz off xs[i] (takeO env ts z).1)).length), (cellsOf (xs.set i (newElem sz off xs[i] (takeO env ts z).1))[j]).length = (g.mv fm).sz r := fun j hj => by
    rw [List.getElem_set]
    split
    · rw [hnew, putAt_len _ _ _ (by omega)]; exact hBl
    · exact (hB j (by simpa using hj)).1
  have hS : RelS (w.setCells (g.be r) (i * g.sz r + off) (a.eval x).cells.toList) ((g.mv fm).mv f) (setB st r (.row (xs.set i (newElem sz off xs[i] (takeO env ts z).1)))) := by
    refine set_blk k1.s hb rfl rfl (fun p hp => by cases p <;> simp only [f] at hp <;> first | rfl | (cases hp; done) | (split at hp <;> cases hp)) (fun r i j => rfl) hin (by simp) hlen (fun i' hi' j hj => ?_)
    have hjz : j < g.sz r := by rw [hlen i' hi'] at hj; exact hj
    by_cases e : i = i'
    · subst e
      have hget : (xs.set i (newElem sz off xs[i] (takeO env ts z).1))[i] = newElem sz off xs[i] (takeO env ts z).1 := by simp
      have hp := putAt_get (cellsOf xs[i]) (cellsOf (takeO env ts z).1) off (by omega) j
      have hj2 : j < (putAt (cellsOf xs[i]) off (cellsOf (takeO env ts z).1)).length := by rw [putAt_len _ _ _ (by omega), hBl]; exact hjz
      have hgc : (cellsOf (xs.set i (newElem sz off xs[i] (takeO env ts z).1))[i])[j] = (putAt (cellsOf xs[i]) off (cellsOf (takeO env ts z).1))[j] := by
        simp only [hget, hnew]
      rw [hgc]
      rw [List.getElem?_eq_getElem hj2] at hp
      by_cases hr : off ≤ j ∧ j < off + (cellsOf (takeO env ts z).1).length
      · rw [if_pos hr] at hp
        have hk : j - off < (cellsOf (takeO env ts z).1).length := by omega
        rw [List.getElem?_eq_getElem hk] at hp
        rw [Option.some.inj hp]
        refine .inl ⟨j - off, _, fun _ => .tmp τ.length (j - off), (by show i * g.sz r + off + (j - off) = i * g.sz r + j; omega), ?_, (hc _ hk).1, refs_cells c4 _ hk, (hc _ hk).2, ?_⟩
        · rw [List.getElem?_eq_getElem (by simp; omega)]; simp
        · have : off + (j - off) = j := by omega
          simp [f, this]
      · rw [if_neg hr] at hp
        refine .inr ⟨?_, hi, by rw [hBl]; exact hjz, ?_⟩
        · have e5 : (a.eval x).cells.toList.length = (cellsOf (takeO env ts z).1).length := by simp [hl]
          rw [e5]
          show i * g.sz r + j < i * g.sz r + off ∨ _
          show _ ∨ _ ≤ i * g.sz r + j
          omega
        · rw [List.getElem?_eq_getElem (by rw [hBl]; exact hjz)] at hp
          exact Option.some.inj hp
    · have hi2 : i' < xs.length := by simpa using hi'
      have hget : (xs.set i (newElem sz off xs[i] (takeO env ts z).1))[i'] = xs[i'] := List.getElem_set_ne e _
      refine .inr ⟨?_, hi2, by rw [(hB i' hi2).1]; exact hjz, by simp only [hget]⟩
      have e5 : (a.eval x).cells.toList.length = (cellsOf (takeO env ts z).1).length := by simp [hl]
      rw [e5]
      show i' * g.sz r + j < i * g.sz r + off ∨ i * g.sz r + off + _ ≤ i' * g.sz r + j
      rcases Nat.lt_or_gt_of_ne e with hlt | hlt
      · right
        have := mul_at (sz := g.sz r) hlt (j := off + (cellsOf (takeO env ts z).1).length - 1)
        have e6 : (i + 1) * g.sz r ≤ i' * g.sz r := Nat.mul_le_mul_right _ hlt
        rw [Nat.add_mul, Nat.one_mul] at e6
        omega
      · left
        have e6 : (i' + 1) * g.sz r ≤ i * g.sz r := Nat.mul_le_mul_right _ hlt
        rw [Nat.add_mul, Nat.one_mul] at e6
        omega
  have mono : ∀ {pl : Nat → Pl} {d : D} {v : Value}, RelD w (g.mv fm) pl d v → RelD (w.setCells (g.be r) (i * g.sz r + off) (a.eval x).cells.toList) (g.mv fm) pl d v := fun hd =>
    poke_mono k1.s hL (by simp [Gh.mv, ho]) hd
  refine ⟨(g.mv fm).mv f, (Ext.mv fm).trans ((poke_ext (g := g.mv fm) hM hL).trans (Ext.mv f)), ⟨hS, fun i t hi => (mono (k1.e i t hi)).mv (fun _ => rfl) rfl, fun j t hj => (mono (k1.t j t hj)).mv (fun k => ?_) rfl⟩, .undef _ _⟩
  have := idxOf_lt hj
  have hne : ¬ τ.length - 1 - j = τ.length := by omega
  simp [f, hne]
end
end Go.Q
namespace Go.Q
variable [Known]
section
variable {P : Program} {w : World} {g : Gh} {μ : List Nat} {τ : List (Option Nat)} {env ts : List D} {st : St} {a : Act} {o : Oper} {q : Rg} {R : Run}

theorem mov_ok (h : RelA w g μ τ env ts st a.tmps) {x : Operand} {y : Opd} (hop : o.op = .move x ∨ o.op = .assign x) (hc : chkO μ τ x y = true) (he : evOp R env ts st (.mov y) = some q) : OpRes P o a w (Post w g μ τ a.tmps q) := by
  simp only [evOp] at he
  cases he
  refine res_val h ?_ (rd_rel h hc _)
  rcases hop with hop | hop <;> simp only [execOp, hop] <;> rfl
theorem take_ok (h : RelA w g μ τ env ts st a.tmps) (hts : ts.length = τ.length) {x : Operand} {y : Opd} (hop : o.op = .move x ∨ o.op = .assign x) (hc : chkO μ τ x y = true) (he : evOp R env ts st (.take y) = some q) : OpRes P o a w (Post w g μ τ a.tmps q) := by
  simp only [evOp] at he
  cases he
  obtain ⟨f, h1, h2, _, _⟩ := take_rel h hts hc
  refine res_ok (v := a.eval x) (w' := w) ?_ ⟨_, Ext.mv f, h1, h2⟩
  rcases hop with hop | hop <;> simp only [execOp, hop] <;> rfl
theorem nck_ok (h : RelA w g μ τ env ts st a.tmps) {x : Operand} {y : Opd} (hop : o.op = .nilCheck x) (hc : chkO μ τ x y = true) (he : evOp R env ts st (.nck y) = some q) : OpRes P o a w (Post w g μ τ a.tmps q) := by
  simp only [evOp] at he
  obtain ⟨d, h1, rfl⟩ := map_some' he
  have hd : d = rd env ts y ∧ ∃ ad, a.eval x = .pointer (some ad) := by
    have hr := rd_rel h hc (fun _ => .nil)
    unfold opNck at h1
    split at h1 <;> first | (cases h1; done) | skip
    · rename_i e
      cases h1
      rw [e] at hr ⊢
      refine ⟨rfl, ?_⟩
      generalize a.eval x = v at hr ⊢
      cases hr
      exact ⟨_, rfl⟩
    · rename_i e
      cases h1
      rw [e] at hr ⊢
      refine ⟨rfl, ?_⟩
      generalize a.eval x = v at hr ⊢
      cases hr
      exact ⟨_, rfl⟩
    · rename_i e
      cases h1
      rw [e] at hr ⊢
      refine ⟨rfl, ?_⟩
      replace hr := hr.toV
      generalize a.eval x = v at hr ⊢
      cases hr
      exact ⟨_, rfl⟩
  obtain ⟨rfl, ad, hv⟩ := hd
  refine res_val h (v := a.eval x) ?_ (rd_rel h hc _)
  simp only [execOp, hop, hv]
  rfl
theorem subl_ok (h : RelA w g μ τ env ts st a.tmps) (hts : ts.length = τ.length) {t e : TypeId} {x lo : Operand} {x' l' : Opd} {sz : Nat} (hop : o.op = .slice t x (some lo) none none) (hx : chkO μ τ x x' = true) (hl : chkO μ τ lo l' = true)
    (hu : uSlc P t = some e) (hz : szT P e = some sz) (he : evOp R env ts st (.subl sz x' l') = some q) : OpRes P o a w (Post w g μ τ a.tmps q) := by
  simp only [evOp] at he
  obtain ⟨d, h1, rfl⟩ := map_some' he
  obtain ⟨fm, k1, k2, _, _⟩ := take_rel h hts hx
  have hlo := rd_rel h hl (fun _ => .nil)
  unfold opSubl at h1
  split at h1 <;> first | (cases h1; done) | skip
  rename_i z xs hd
  split at h1 <;> first | (cases h1; done) | skip
  rename_i hzz
  subst hzz
  obtain ⟨⟨l, h'⟩, h2, rfl⟩ := map_some' h1
  rw [hd] at k2
  generalize hv : a.eval x = v at k2
  cases k2 with | lin _ _ _ _ hr hs =>
  obtain ⟨ad, c, rfl, hc⟩ := slc_shape hr
  obtain ⟨h3, h4, h5⟩ := bnds_ok (P := P) (w := w) (g := g) true (.some _ _ _ hlo) .none h2 hc
  have hh : h' = xs.length := by
    simp only [bnds, bndHi, Option.bind_some] at h2
    obtain ⟨_, _, h6⟩ := map_some' h2
    simp only [Prod.mk.injEq] at h6
    exact h6.2.symm
  subst hh
  refine res_ok (v := .slice (if c = l then ad else ad.map (·.add (l * z))) (xs.length - l) (c - l)) (w' := w) ?_ ⟨_, Ext.mv fm, k1, ?_⟩
  · simp only [execOp, hop, Option.map_some, Option.map_none, hv]
    have := slice_run (ad := ad) hu hz h3
    simp only [Sem.run_bind, this]
    rfl
  · refine .lin _ _ _ _ (hr.sub h4 (Nat.le_refl _) (by omega)) ?_
    simp only [Spare] at hs ⊢
    rcases hs with hs | ⟨b, o', hs1, hs2, hs3, hs4, hs5⟩
    · exact .inl (by omega)
    · by_cases hcl : c = l
      · exact .inl (by omega)
      · refine .inr ⟨b, o' + l * z, ?_, hs2, ?_, by omega, fun j hj => hs5 j ?_⟩
        · rw [if_neg hcl, hs1]; simp [add_at]
        · rw [hs3, Nat.add_assoc, ← Nat.add_mul]; congr 2; omega
        · have : l * z + (c - l) * z = c * z := by rw [← Nat.add_mul]; congr 1; omega
          omega
theorem boolD_rel {pl : Nat → Pl} {d : D} {b : Bool} {v : Value} (h : RelD w g pl d v) (hn : boolD d = some b) : v = .bool b := by
  unfold boolD at hn
  split at hn <;> cases hn
  exact boolOf h
theorem pick_ok (h : RelA w g μ τ env ts st a.tmps) {c x y : Operand} {c' x' y' : Opd} (hop : o.op = .pick c x y) (h1 : chkO μ τ c c' = true) (h2 : chkO μ τ x x' = true) (h3 : chkO μ τ y y' = true)
    (he : evOp R env ts st (.pick c' x' y') = some q) : OpRes P o a w (Post w g μ τ a.tmps q) := by
  simp only [evOp] at he
  obtain ⟨b, h4, h5⟩ := bind_some' he
  have hb := boolD_rel (rd_rel h h1 (fun _ => .nil)) h4
  cases b with
  | true =>
    simp only [if_true] at h5
    cases h5
    exact res_val h (by simp only [execOp, hop, hb]; rfl) (rd_rel h h2 _)
  | false =>
    simp only [Bool.false_eq_true, if_false] at h5
    cases h5
    exact res_val h (by simp only [execOp, hop, hb]; rfl) (rd_rel h h3 _)
theorem cvi_ok (h : RelA w g μ τ env ts st a.tmps) {s t : TypeId} {x : Operand} {x' : Opd} {k : IntKind} (hop : o.op = .convert s t x) (hu : uInt P t = some k) (hs : (P.underlying s).isSome = true) (h1 : chkO μ τ x x' = true)
    (he : evOp R env ts st (.cvi k x') = some q) : OpRes P o a w (Post w g μ τ a.tmps q) := by
  simp only [evOp] at he
  obtain ⟨n, h4, rfl⟩ := map_some' he
  obtain ⟨k', _, hv⟩ := asN_rel (rd_rel h h1 (fun _ => .nil)) h4
  obtain ⟨d, hd⟩ := Option.isSome_iff_exists.1 hs
  refine res_val h (v := .int k (k.wrap n)) ?_ (.v _ _ _ (.int _ _))
  simp only [execOp, hop, hv]
  refine run_v ?_
  cases d <;> simp [convert, run_underlying hd, run_underlying (of_uInt P hu), Conv.intToInt]
theorem mki_ok (h : RelA w g μ τ env ts st a.tmps) {t : TypeId} {x : Operand} {x' : Opd} {d : TypeDesc} (hop : o.op = .makeInterface t x) (hu : P.underlying t = some d) (hi : ∀ m, d ≠ .interface m) (h1 : chkO μ τ x x' = true)
    (he : evOp R env ts st (.mki t x') = some q) : OpRes P o a w (Post w g μ τ a.tmps q) := by
  simp only [evOp] at he
  cases he
  refine res_val h (v := .iface t (a.eval x)) ?_ ?_
  · simp only [execOp, hop]
    refine run_v ?_
    simp only [Instr.makeInterface, Sem.run_bind, run_underlying hu, Result.andThen_ok]
    cases d <;> first | rfl | exact absurd rfl (hi _)
  · have := rd_rel h h1 (fun _ => .nil)
    unfold ifcD
    split
    · rename_i x hd
      rw [hd] at this
      exact .v _ _ _ (.iface _ _ _ this.toV)
    · exact .ifc _ _ _ _ this
theorem argsRel (h : RelA w g μ τ env ts st a.tmps) {xs : List Operand} {ys : List Opd} (hc : chkL μ τ xs ys = true) : ∃ hl : (ys.map (rd env ts)).length = (xs.map a.eval).length, ∀ i (hi : i < (ys.map (rd env ts)).length) pl, RelD w g pl (ys.map (rd env ts))[i] ((xs.map a.eval)[i]'(hl ▸ hi)) := by
  obtain ⟨h1, h2⟩ := chkL_at hc
  refine ⟨by simp [h1], fun i hi pl => ?_⟩
  simp only [List.getElem_map]
  exact rd_rel h (h2 i (by simp at hi; omega) (by simp at hi; omega)) pl
theorem mkf_ok (h : RelA w g μ τ env ts st a.tmps) {f : FuncId} {xs ys : Array Operand} {xs' ys' : List Opd} (hop : o.op = .makeFunc (.func f) xs ys) (h1 : chkL μ τ xs.toList xs' = true) (h2 : chkL μ τ ys.toList ys' = true)
    (he : evOp R env ts st (.mkf f xs' ys') = some q) : OpRes P o a w (Post w g μ τ a.tmps q) := by
  simp only [evOp] at he
  cases he
  refine res_val h (v := .func (.func f) (xs.map a.eval) (ys.map a.eval)) ?_ ?_
  · simp only [execOp, hop]; rfl
  · obtain ⟨l1, r1⟩ := argsRel h h1
    obtain ⟨l2, r2⟩ := argsRel h h2
    have e1 : (xs.map a.eval).toList = xs.toList.map a.eval := by simp
    have e2 : (ys.map a.eval).toList = ys.toList.map a.eval := by simp
    generalize hX : xs'.map (rd env ts) = X at *
    generalize hY : ys'.map (rd env ts) = Y at *
    have s1 : X.length = (xs.map a.eval).size := by rw [l1]; simp
    have s2 : Y.length = (ys.map a.eval).size := by rw [l2]; simp
    have gen : RelD w g (.tmp τ.length) (.clo f X Y) (.func (.func f) (xs.map a.eval) (ys.map a.eval)) := by
      refine .clo _ f X Y _ _ s1 s2 (fun i hi => ?_) (fun i hi => ?_)
      · have := r1 i hi (fun _ => .nil)
        simpa using this
      · have := r2 i hi (fun _ => .nil)
        simpa using this
    cases X with
    | cons d X => cases Y <;> exact gen
    | nil => cases Y with
      | cons d Y => exact gen
      | nil =>
        have z1 : xs.map a.eval = #[] := Array.eq_empty_of_size_eq_zero (by rw [← s1]; rfl)
        have z2 : ys.map a.eval = #[] := Array.eq_empty_of_size_eq_zero (by rw [← s2]; rfl)
        rw [z1, z2]
        exact .v _ _ _ (.fn f)
theorem ext_ok (h : RelA w g μ τ env ts st a.tmps) (hts : ts.length = τ.length) {x : Operand} {y : Opd} {k : Nat} (hop : o.op = .extract x k) (hc : chkO μ τ x y = true)
    (he : evOp R env ts st (.ext k y) = some q) : OpRes P o a w (Post w g μ τ a.tmps q) := by
  simp only [evOp] at he
  have run : ∀ (ds : List D) (pl : Nat → Pl) (hr : RelD w g pl (.tup ds) (a.eval x)) (hk : k < ds.length), ∃ v, (execOp a.eval o).run P w = .ok (.value v) w ∧ RelD w g (fun _ => pl k) ds[k] v := fun ds pl hr hk => by
    generalize hv : a.eval x = v at hr
    cases hr with | tup _ _ cs hl hcs =>
    refine ⟨cs[k]'(hl ▸ hk), ?_, hcs k hk⟩
    simp only [execOp, hop, hv]
    refine run_v ?_
    have : cs[k]? = some (cs[k]'(hl ▸ hk)) := Array.getElem?_eq_getElem _
    simp only [Instr.extract, this, Sem.run_pure]
  have plain : ∀ (ds : List D) (pl : Nat → Pl) (hr : RelD w g pl (.tup ds) (a.eval x)) (hk : k < ds.length), OpRes P o a w (Post w g μ τ a.tmps (cp ds[k], env, ts, st)) := fun ds pl hr hk => by
    obtain ⟨v, h1, h2⟩ := run ds pl hr hk
    exact res_val h h1 h2.cp
  cases y with
  | x i =>
    unfold chkO at hc
    split at hc <;> first | (cases hc; done) | (rename_i hq; cases hq; done) | skip
    rename_i t i' hq
    cases hq
    simp at hc
    have hr := h.e i t hc
    simp only [raw, extD] at he
    generalize hd : getT env i = d at hr he
    cases d <;> simp only [extD] at he <;> first | (cases he; done) | skip
    obtain ⟨e, h1, h2⟩ := map_some' he
    cases h2
    obtain ⟨hk, rfl⟩ := List.getElem?_eq_some_iff.1 h1
    exact plain _ _ hr hk
  | c d =>
    exfalso
    simp only [raw, extD] at he
    cases d <;> simp only [extD] at he <;> first | (cases he; done) | skip
    unfold chkO at hc
    split at hc <;> first | (cases hc; done) | (rename_i hq; cases hq; done) | skip
    rename_i hq
    cases hq
    simp [chkC] at hc
  | t j =>
    unfold chkO at hc
    split at hc <;> first | (cases hc; done) | (rename_i hq; cases hq; done) | skip
    rename_i t j' hq
    cases hq
    simp at hc
    have hr := h.t j t hc
    simp only [raw, extD] at he
    generalize hd : getT ts j = d at hr he
    cases d <;> simp only [extD] at he <;> first | (cases he; done) | skip
    rename_i ds
    obtain ⟨e, h1, h2⟩ := map_some' he
    obtain ⟨hk, rfl⟩ := List.getElem?_eq_some_iff.1 h1
    unfold extL at h2
    split at h2
    · rename_i z xs hz
      cases h2
      obtain ⟨v, h3, h4⟩ := run ds _ hr hk
      refine res_ok h3 ?_
      have hlt : j < ts.length := getT_lt (by rw [hd]; simp)
      let m := τ.length - 1 - j
      let f : Pl → Pl := fun p => match p with | .tmp b i => if b = m ∧ i = k then .tmp τ.length 0 else .tmp b i | p => p
      refine ⟨g.mv f, Ext.mv f, ⟨h.s.mv rfl (fun p hp => by cases p <;> simp only [f] at hp <;> first | rfl | (cases hp; done) | (split at hp <;> cases hp)) (fun r i j => rfl), fun i t' hi => (h.e i t' hi).mv (fun _ => rfl) rfl, fun j' t' hj => ?_⟩, ?_⟩
      · rw [getT_set]
        have hl' := idxOf_lt hj
        by_cases hij : j = j'
        · subst hij
          rw [if_pos ⟨rfl, hlt⟩]
          have : t' = t := by
            have h1 := idxOf_lt hc
            simp only [List.idxOf?, List.findIdx?_eq_some_iff_getElem] at hc hj
            obtain ⟨_, h2, _⟩ := hc
            obtain ⟨_, h3, _⟩ := hj
            simp at h2 h3
            have := h2.symm.trans h3
            simpa using this.symm
          subst this
          generalize hv : a.tmps.getD t' undef = v' at hr
          cases hr with | tup _ _ cs hl hcs =>
          refine .tup _ _ cs (by simpa using hl) (fun i hi => ?_)
          rw [List.getElem_set]
          have hi' : i < ds.length := by simpa using hi
          split
          · rename_i e
            subst e
            have := hcs k hk
            rw [hz] at this
            cases this with | lin _ _ _ _ hv hs => exact .v _ _ _ hv
          · rename_i e
            exact (hcs i hi').mv (fun _ => by simp [f, Ne.symm e]) rfl
        · rw [if_neg (fun hh => hij hh.1)]
          have hne : τ.length - 1 - j' ≠ m := by
            have h1 := idxOf_lt hc
            show τ.length - 1 - j' ≠ τ.length - 1 - j
            omega
          exact (h.t j' t' hj).mv (fun k => by simp [f, hne]) rfl
      · rw [hz] at h4
        exact (h4.mv (f := f) (pl' := fun _ => .tmp τ.length 0) (fun _ => by simp [f, m]) rfl).place rfl rfl
    · cases h2
      exact plain ds _ hr hk
end
end Go.Q
