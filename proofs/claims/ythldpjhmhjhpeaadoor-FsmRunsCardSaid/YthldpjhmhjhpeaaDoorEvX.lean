/- A right that is taken; memory that only grows: what holds goes on holding. No condition. -/
import Derived.Test.YthldpjhmhjhpeaaDoorEvW
import Derived.Laws.NewBlocks
import Derived.Deep.Draws
set_option linter.unusedVariables false
set_option linter.unusedSimpArgs false
set_option linter.unusedSectionVars false
namespace Go.Q
variable [Known]

theorem getT_set : ∀ (l : List D) (i j : Nat) (d : D), getT (l.set i d) j = if i = j ∧ i < l.length then d else getT l j
  | [], i, j, d => by simp [getT]
  | x :: l, 0, 0, d => by simp [getT]
  | x :: l, 0, j + 1, d => by simp [getT]
  | x :: l, i + 1, 0, d => by simp [getT]
  | x :: l, i + 1, j + 1, d => by simp [getT, getT_set l i j d]
theorem getT_nil {l : List D} {i : Nat} (h : l.length ≤ i) : getT l i = .undef := by
  induction l generalizing i with
  | nil => rfl
  | cons x l ih => cases i with
    | zero => simp at h
    | succ i => exact ih (by simpa using h)
theorem getT_lt {l : List D} {i : Nat} (h : getT l i ≠ .undef) : i < l.length := Nat.lt_of_not_le fun hn => h (getT_nil hn)

theorem idxOf_lt {α : Type} [BEq α] [LawfulBEq α] {l : List α} {x : α} {j : Nat} (h : l.idxOf? x = some j) : j < l.length := by
  simp only [List.idxOf?, List.findIdx?_eq_some_iff_getElem] at h
  exact h.1

section
variable {w : World} {g : Gh} {μ : List Nat} {τ : List (Option Nat)} {env ts : List D} {st : St} {a : Act}

theorem RelS.mv {f : Pl → Pl} (h : RelS w g st) (hn : f .nil = .nil) (hn' : ∀ p, f p = .nil → p = .nil) (hc : ∀ r i j, f (.cell r i j) = .cell r i j) : RelS w (g.mv f) st where
  live := h.live
  blk := fun r b hb => by
    have := h.blk r b hb
    cases b with
    | row xs =>
      simp only [RelB] at this ⊢
      refine ⟨this.1, fun i hi => ?_⟩
      obtain ⟨h1, h2⟩ := this.2 i hi
      refine ⟨h1, fun j hj => ?_⟩
      obtain ⟨h3, h4, v, h5, h6, h7⟩ := h2 j hj
      exact ⟨h3, h4, v, h5, h6, h7.mv (fun _ => hc r i j) hn⟩
    | mp es =>
      obtain ⟨arr, clock, h8, h9, h10⟩ := this
      refine ⟨arr, clock, h8, h9, fun i hi hi' => ?_⟩
      obtain ⟨h11, h12, h13⟩ := h10 i hi hi'
      exact ⟨h11, h12, h13.mv (fun _ => hc r i 0) hn⟩
  be := fun r hr => by
    obtain ⟨h1, h2, h3, h4⟩ := h.be r hr
    exact ⟨h1, h2, by simp [Gh.mv, h3], h4⟩
  inj := h.inj
  own := fun b p hb => by
    simp only [Gh.mv, Option.map_eq_some_iff] at hb
    obtain ⟨q, hq, rfl⟩ := hb
    exact h.own b q hq
  nil := fun b hb => by
    simp only [Gh.mv, Option.map_eq_some_iff] at hb
    obtain ⟨q, hq, h1⟩ := hb
    exact h.nil b (hn' q h1 ▸ hq)
  fresh := h.fresh
  gl := h.gl

theorem Ext.mv (f : Pl → Pl) : Ext w w g (g.mv f) := ⟨rfl, rfl, rfl, Nat.le_refl _, fun _ _ _ => rfl, fun _ => Nat.le_refl _, fun _ _ h => ⟨rfl, rfl, h⟩, fun r h => ⟨h, rfl, rfl, rfl⟩⟩

theorem take_rel (h : RelA w g μ τ env ts st a.tmps) (hts : ts.length = τ.length) {x : Operand} {y : Opd} (hc : chkO μ τ x y = true) :
    ∃ f, RelA w (g.mv f) μ τ (takeO env ts y).2.1 (takeO env ts y).2.2 st a.tmps ∧ RelD w (g.mv f) (.tmp τ.length) (takeO env ts y).1 (a.eval x) ∧ (takeO env ts y).2.2.length = ts.length ∧ (takeO env ts y).2.1.length = env.length := by
  -- what is no right is copied
  have plain : (takeO env ts y) = (cp (raw env ts y), env, ts) → ∃ f, RelA w (g.mv f) μ τ (takeO env ts y).2.1 (takeO env ts y).2.2 st a.tmps ∧ RelD w (g.mv f) (.tmp τ.length) (takeO env ts y).1 (a.eval x) ∧ (takeO env ts y).2.2.length = ts.length ∧ (takeO env ts y).2.1.length = env.length := by
    intro e
    rw [e]
    have hg : g.mv id = g := by simp [Gh.mv]
    refine ⟨id, ?_, ?_, rfl, rfl⟩
    · rw [hg]; exact h
    · rw [hg]; exact rd_rel h hc _
  cases y with
  | c d =>
    refine plain ?_
    simp only [takeO, raw]
    cases d <;> rfl
  | x i =>
    cases hr : getT env i with
    | lin z xs =>
      have hlt : i < env.length := getT_lt (by rw [hr]; simp)
      have e : takeO env ts (.x i) = (.lin z xs, env.set i (.v (.slc z xs)), ts) := by simp only [takeO, raw, hr, takeD]
      rw [e]
      unfold chkO at hc
      split at hc <;> first | (rename_i hq; cases hq; done) | (cases hc; done) | skip
      rename_i t i' hq
      cases hq
      simp at hc
      have hx := h.e i t hc
      rw [hr] at hx
      let f : Pl → Pl := fun p => if p = .env i then .tmp τ.length 0 else p
      have fe : ∀ j, j ≠ i → f (.env j) = .env j := fun j hj => by simp [f, hj]
      have ft : ∀ j k, f (.tmp j k) = .tmp j k := fun j k => by simp [f]
      refine ⟨f, ⟨h.s.mv (by simp [f]) (fun p hp => by simp only [f] at hp; split at hp <;> first | exact hp | (cases hp; done)) (fun r i j => by simp [f]), fun j t' hj => ?_, fun j t' hj => ?_⟩, ?_, rfl, by simp⟩
      · rw [getT_set]
        by_cases hij : i = j
        · subst hij
          rw [if_pos ⟨rfl, hlt⟩]
          rw [hc] at hj
          cases hj
          exact .v _ _ _ (RelV.mv (by cases hx; assumption))
        · rw [if_neg (fun hh => hij hh.1)]
          exact (h.e j t' hj).mv (fun _ => fe j (fun hh => hij hh.symm)) (by simp [f])
      · exact (h.t j t' hj).mv (fun k => ft _ _) (by simp [f])
      · cases hx with | lin _ _ _ v hv hs =>
        have hx' : RelD w g (fun _ => .env i) (.lin z xs) (a.eval (.tmp t)) := .lin _ z xs _ hv hs
        have := hx'.mv (f := f) (pl' := fun _ => .tmp τ.length 0) (fun _ => by simp [f]) (by simp [f])
        exact this.place rfl rfl
    | tup ds => exact plain (by simp only [takeO, raw, hr, takeD])
    | _ => exact plain (by simp only [takeO, raw, hr, takeD])
  | t j =>
    have move : ∀ (d d' : D), getT ts j = d → takeO env ts (.t j) = (d, env, ts.set j d') → d ≠ .undef → (∀ pl v f, RelD w g pl d v → ∀ pl', RelD w (g.mv f) pl' d' v) →
        ∃ f, RelA w (g.mv f) μ τ (takeO env ts (.t j)).2.1 (takeO env ts (.t j)).2.2 st a.tmps ∧ RelD w (g.mv f) (.tmp τ.length) (takeO env ts (.t j)).1 (a.eval x) ∧ (takeO env ts (.t j)).2.2.length = ts.length ∧ (takeO env ts (.t j)).2.1.length = env.length := by
      intro d d' hr e hnu hd'
      have hlt : j < ts.length := getT_lt (by rw [hr]; exact hnu)
      rw [e]
      unfold chkO at hc
      split at hc <;> first | (rename_i hq; cases hq; done) | (cases hc; done) | skip
      rename_i t j' hq
      cases hq
      simp at hc
      have hx := h.t j t hc
      rw [hr] at hx
      let m := τ.length - 1 - j
      let f : Pl → Pl := fun p => match p with | .tmp b k => if b = m then .tmp τ.length k else .tmp b k | p => p
      refine ⟨f, ⟨h.s.mv rfl (fun p hp => by cases p <;> simp only [f] at hp <;> first | rfl | (cases hp; done) | (split at hp <;> cases hp)) (fun r i j => rfl), fun i t' hi => ?_, fun j' t' hj => ?_⟩, ?_, by simp, rfl⟩
      · exact (h.e i t' hi).mv (fun _ => rfl) rfl
      · rw [getT_set]
        have hl' := idxOf_lt hj
        by_cases hij : j = j'
        · subst hij
          rw [if_pos ⟨rfl, hlt⟩]
          have : t' = t := by
            have h1 := idxOf_lt hc
            simp only [List.idxOf?, List.findIdx?_eq_some_iff_getElem] at hc hj
            obtain ⟨_, h2, _⟩ := hc
            obtain ⟨_, h3, _⟩ := hj
            simp at h2 h3
            have := h2.symm.trans h3
            simpa using this.symm
          subst this
          exact hd' _ _ f hx _
        · rw [if_neg (fun hh => hij hh.1)]
          have hne : τ.length - 1 - j' ≠ m := by
            have h1 := idxOf_lt hc
            show τ.length - 1 - j' ≠ τ.length - 1 - j
            omega
          exact (h.t j' t' hj).mv (fun k => by simp [f, hne]) rfl
      · have hx' : RelD w g (.tmp m) d (a.eval (.tmp t)) := hx
        exact hx'.mv (fun k => by simp [f]) rfl
    cases hr : getT ts j with
    | lin z xs => exact move (.lin z xs) (.v (.slc z xs)) hr (by simp only [takeO, raw, hr, takeD]) (by simp) (fun pl v f hx pl' => by cases hx; exact .v _ _ _ (RelV.mv (by assumption)))
    | tup ds => exact move (.tup ds) .undef hr (by simp only [takeO, raw, hr, takeD]) (by simp) (fun pl v f hx pl' => .undef _ _)
    | _ => exact plain (by simp only [takeO, raw, hr, takeD])
end
end Go.Q
