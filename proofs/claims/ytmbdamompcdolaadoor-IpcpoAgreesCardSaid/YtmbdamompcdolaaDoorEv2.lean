/- Frames of the store come and go. No condition. -/
import Derived.Test.YtmbdamompcdolaaDoorEv1
set_option linter.unusedVariables false
set_option linter.unusedSimpArgs false
set_option linter.unusedSectionVars false
namespace Go.Q
variable [Known]
section
variable {P : Program} {w : World} {g : Gh} {μ : List Nat} {env ts : List D} {st : St} {a : Act} {tmps : Array Value}

mutual
theorem refs_leL {m n : Nat} (hmn : m ≤ n) : ∀ (d : D), refsBelow m d = true → refsBelow n d = true
  | .own r _ _ _ _, h => by simp only [refsBelow, decide_eq_true_eq] at h ⊢; omega
  | .arr r _ _ _, h => by simp only [refsBelow, decide_eq_true_eq] at h ⊢; omega
  | .ptr r _ _, h => by simp only [refsBelow, decide_eq_true_eq] at h ⊢; omega
  | .map r, h => by simp only [refsBelow, decide_eq_true_eq] at h ⊢; omega
  | .clo _ fs cs, h => by
    simp only [refsBelow, Bool.and_eq_true] at h ⊢
    exact ⟨refs_leLs hmn fs h.1, refs_leLs hmn cs h.2⟩
  | .ifc _ d, h => by simp only [refsBelow] at h ⊢; exact refs_leL hmn d h
  | .agg ds, h => by simp only [refsBelow] at h ⊢; exact refs_leLs hmn ds h
  | .tup ds, h => by simp only [refsBelow] at h ⊢; exact refs_leLs hmn ds h
  | .v _, _ => rfl
  | .nils _, _ => rfl
  | .lin _ _, _ => rfl
  | .va _ _, _ => rfl
  | .undef, _ => rfl
theorem refs_leLs {m n : Nat} (hmn : m ≤ n) : ∀ (ds : List D), refsBelows m ds = true → refsBelows n ds = true
  | [], _ => rfl
  | d :: r, h => by
    simp only [refsBelows, Bool.and_eq_true] at h ⊢
    exact ⟨refs_leL hmn d h.1, refs_leLs hmn r h.2⟩
end
theorem refs_le {m n : Nat} {d : D} (h : refsBelow m d = true) (hmn : m ≤ n) : refsBelow n d = true := refs_leL hmn d h
theorem RelD.monoR {n : Nat} {w w' : World} {g g' : Gh} {pl : Nat → Pl} {d : D} {v : Value} (h : RelD w g pl d v) (hk : Keeps w w' g g')
    (hn : ∀ b, g.own b ≠ some .nil) (hp : KeepsPl w w' g g' pl) (hr : ∀ r, g.live r → r.lvl < n → KeepsRef g g' r) (hb : refsBelow n d = true) : RelD w' g' pl d v := by
  induction h with
  | v pl x v h => exact .v pl x v (h.mono hk.cell hk.L)
  | nils pl z => exact .nils pl z
  | lin pl z xs v h hs => exact .lin pl z xs v (h.mono hk.cell hk.L) (hs.mono hp)
  | own pl r z off len x c ad hl hc hz ha =>
    obtain ⟨a, b, c', d'⟩ := hr r hl (by simpa [refsBelow] using hb)
    exact .own pl r z off len x c ad a (by rw [d']; exact hc) (c'.trans hz) (fun h => by rw [b]; exact ha h)
  | arr pl r i off len c ad hl hc ha =>
    obtain ⟨a, b, c', _⟩ := hr r hl (by simpa [refsBelow] using hb)
    exact .arr pl r i off len c ad a hc (fun h => by rw [b, c']; exact ha h)
  | ptr pl r i off hl =>
    obtain ⟨a, b, c', _⟩ := hr r hl (by simpa [refsBelow] using hb)
    rw [← b, ← c']; exact .ptr pl r i off a
  | va pl cs off b o f h1 h2 h3 h4 =>
    exact .va pl cs off b o f (fun j hj => Nat.lt_of_lt_of_le (h1 j hj) (hk.L b)) (fun j hj => by rw [hk.cell b _ (h1 j hj)]; exact h2 j hj) h3 (fun j hj => (h4 j hj).mono hk.cell hk.L)
  | map pl r hl =>
    obtain ⟨a, b, c', _⟩ := hr r hl (by simpa [refsBelow] using hb)
    rw [← b]; exact .map pl r a
  | clo pl f fs cs vf vc h1 h2 hf hc ih1 ih2 =>
    simp only [refsBelow, Bool.and_eq_true] at hb
    exact .clo pl f fs cs vf vc h1 h2 (fun i hi => ih1 i hi (fun b k hb => absurd hb (hn b)) (refsBelows_at hb.1 i hi)) (fun i hi => ih2 i hi (fun b k hb => absurd hb (hn b)) (refsBelows_at hb.2 i hi))
  | ifc pl t d v h ih => exact .ifc pl t d v (ih (fun b k hb => absurd hb (hn b)) (by simpa [refsBelow] using hb))
  | agg pl ds cs hl hk' hr' ih =>
    simp only [refsBelow] at hb
    exact .agg pl ds cs hl hk' (fun i hi => ih i hi (fun b k hb => hp b i hb) (refsBelows_at hb i hi))
  | tup pl ds cs hl hr' ih =>
    simp only [refsBelow] at hb
    exact .tup pl ds cs hl (fun i hi => ih i hi (fun b k hb => hp b i hb) (refsBelows_at hb i hi))
  | undef pl v => exact .undef pl v

theorem RelS.push (h : RelS w g st) : RelS w g ([] :: st) := by
  have e : ∀ r, g.live r → getB ([] :: st) r = getB st r := fun r hr => by
    obtain ⟨b, hb⟩ := (h.live r).1 hr
    have := getB_lvl hb
    rw [getB_cons, if_neg (by omega)]
  have e' : ∀ r b, getB ([] :: st) r = some b → getB st r = some b := fun r b hb => by
    rw [getB_cons] at hb
    split at hb
    · simp at hb
    · exact hb
  refine ⟨fun r => ⟨fun hr => by rw [e r hr]; exact (h.live r).1 hr, fun ⟨b, hb⟩ => (h.live r).2 ⟨b, e' r b hb⟩⟩, fun r b hb => h.blk r b (e' r b hb), h.be, h.inj, h.own, h.nil, h.fresh, h.gl⟩

/-- the upmost frame (number n) goes: its blocks are data for ever -/
def Gh.gone (g : Gh) (n b : Nat) : Prop := ∃ r, g.live r ∧ r.lvl = n ∧ g.be r = b
def lowPl (n : Nat) : Pl → Bool
  | .cell r _ _ => decide (r.lvl < n)
  | _ => true
noncomputable def Gh.pop (g : Gh) (w : World) (n : Nat) : Gh :=
  open Classical in
  { g with L := fun b => if g.gone n b then blockSize w b else g.L b, M := fun b => g.M b ∧ ¬ g.gone n b,
           own := fun b => (g.own b).bind fun p => if lowPl n p = true then some p else none, live := fun r => g.live r ∧ r.lvl < n }

structure Popped (w : World) (g : Gh) (n : Nat) (st : St) : Prop where
  S : RelS w (g.pop w n) st.tail
  D : ∀ {pl : Nat → Pl} {d : D} {v : Value}, RelD w g pl d v → (∀ k, lowPl n (pl k) = true) → refsBelow n d = true → RelD w (g.pop w n) pl d v
  L : ∀ b, g.L b ≤ (g.pop w n).L b
  E : ∀ {w0 : World} {g0 : Gh}, Ext w0 w g0 g → (∀ r, g0.live r → r.lvl < n) → Ext w0 w g0 (g.pop w n)

theorem pop_rel {n : Nat} {st : St} (h : RelS w g st) (hl : st.length = n + 1) : Popped w g n st := by
  have goneM : ∀ b, g.gone n b → g.M b ∧ g.L b = 0 ∧ g.own b = none ∧ b < w.heap.size := fun b ⟨r, h1, h2, h3⟩ => by
    rw [← h3]; exact h.be r h1
  have Lg : ∀ b, ¬ g.gone n b → (g.pop w n).L b = g.L b := fun b hb => by simp only [Gh.pop]; rw [if_neg hb]
  have Lle : ∀ b, g.L b ≤ (g.pop w n).L b := fun b => by
    by_cases hb : g.gone n b
    · rw [(goneM b hb).2.1]; exact Nat.zero_le _
    · rw [Lg b hb]; exact Nat.le_refl _
  have own' : ∀ b p, (g.pop w n).own b = some p → g.own b = some p ∧ lowPl n p = true := fun b p hb => by
    obtain ⟨q, h1, h2⟩ := bind_some' hb
    split at h2 <;> cases h2
    exact ⟨h1, by assumption⟩
  have ng : ∀ b p, g.own b = some p → ¬ g.gone n b := fun b p hb hg => by
    rw [(goneM b hg).2.2.1] at hb; cases hb
  have nlow : ∀ r, g.live r → r.lvl < n → ¬ g.gone n (g.be r) := fun r hr hlt ⟨r', h1, h2, h3⟩ => by
    have := h.inj r' r h1 hr h3
    rw [this] at h2; omega
  have hD : ∀ {pl : Nat → Pl} {d : D} {v : Value}, RelD w g pl d v → (∀ k, lowPl n (pl k) = true) → refsBelow n d = true → RelD w (g.pop w n) pl d v := fun hd hpl hb =>
    hd.monoR (n := n) ⟨fun _ _ _ => rfl, Lle⟩ h.nil (fun b k hk => ⟨by simp only [Gh.pop, hk, Option.bind_some, hpl k, if_true], Lg b (ng b _ hk), fun _ => ⟨id, id⟩⟩) (fun r hr hlt => ⟨⟨hr, hlt⟩, rfl, rfl, rfl⟩) hb
  have tl : ∀ r, r.lvl < n → getB st r = getB st.tail r := fun r hr => by
    cases st with
    | nil => simp at hl
    | cons fr st =>
      simp at hl
      rw [getB_cons, if_neg (by omega)]; rfl
  have tlen : st.tail.length = n := by simp [hl]
  refine ⟨⟨fun r => ⟨fun hr => ?_, fun ⟨b, hb⟩ => ?_⟩, fun r b hb => ?_, fun r hr => ?_, fun r r' hr hr' e => h.inj r r' hr.1 hr'.1 e, fun b p hb => ?_, fun b hb => h.nil b (own' b _ hb).1, fun b hb => ?_, gl_keep (g' := g.pop w n) (fun _ _ _ => rfl) Lle (Nat.le_refl _) (fun _ _ hm => ⟨fun hh => hm hh.1, rfl⟩) h.gl⟩, hD, Lle, fun {w0 g0} hx hlt => ⟨hx.os, hx.tape, hx.output, hx.size, hx.cell, fun b => Nat.le_trans (hx.L b) (Lle b), fun b hb hm => ?_, fun r hr => ?_⟩⟩
  · obtain ⟨b, hb⟩ := (h.live r).1 hr.1
    exact ⟨b, by rw [← tl r hr.2]; exact hb⟩
  · have hlt := getB_lvl hb
    rw [tlen] at hlt
    exact ⟨(h.live r).2 ⟨b, by rw [tl r hlt]; exact hb⟩, hlt⟩
  · have hlt := getB_lvl hb
    rw [tlen] at hlt
    have hB := h.blk r b (by rw [tl r hlt]; exact hb)
    cases b with
    | mp es =>
      obtain ⟨arr, clock, h8, h9, h10⟩ := hB
      refine ⟨arr, clock, h8, h9, fun i hi hi' => ?_⟩
      obtain ⟨h11, h12, h13⟩ := h10 i hi hi'
      exact ⟨h11, h12, hD h13 (fun _ => by simp [lowPl, hlt]) (refs_le (mapV_refs h12) (by omega))⟩
    | row xs =>
      simp only [RelB] at hB ⊢
      refine ⟨hB.1, fun i hi => ?_⟩
      obtain ⟨h2, h3⟩ := hB.2 i hi
      refine ⟨h2, fun j hj => ?_⟩
      obtain ⟨h4, h5, v, h6, h7, h8⟩ := h3 j hj
      exact ⟨h4, h5, v, h6, h7, hD h8 (fun _ => by simp [lowPl, hlt]) (refs_le h5 (by omega))⟩
  · obtain ⟨h1, h2, h3, h4⟩ := h.be r hr.1
    have hng := nlow r hr.1 hr.2
    exact ⟨⟨h1, hng⟩, by show (g.pop w n).L (g.be r) = 0; rw [Lg _ hng]; exact h2, by show (g.own (g.be r)).bind _ = none; rw [h3]; rfl, h4⟩
  · obtain ⟨h1, h2⟩ := own' b p hb
    obtain ⟨h3, h4⟩ := h.own b p h1
    exact ⟨⟨h3, ng b p h1⟩, h4⟩
  · have hng : ¬ g.gone n b := fun hg => by have := (goneM b hg).2.2.2; omega
    obtain ⟨h1, h2⟩ := h.fresh b hb
    exact ⟨by rw [Lg b hng]; exact h1, fun hh => h2 hh.1⟩
  · obtain ⟨h1, h2, h3⟩ := hx.old b hb hm
    have hng : ¬ g.gone n b := fun hg => h3 (goneM b hg).1
    exact ⟨h1, by rw [Lg b hng]; exact h2, fun hh => h3 hh.1⟩
  · obtain ⟨h1, h2, h3⟩ := hx.refs r hr
    exact ⟨⟨h1, hlt r hr⟩, h2, h3⟩

theorem getT_map (f : D → D) (hf : f .undef = .undef) : ∀ (l : List D) (i : Nat), getT (l.map f) i = f (getT l i)
  | [], i => hf.symm
  | d :: l, 0 => rfl
  | d :: l, i + 1 => getT_map f hf l i

theorem popD_rel {n : Nat} {st : St} {pl : Nat → Pl} {d : D} {v : Value} (h : RelS w g st) (hl : st.length = n + 1) (hpl : ∀ k, lowPl n (pl k) = true) (hd : RelD w g pl d v) : RelD w (g.pop w n) pl (popD st n d) v := by
  have hP := pop_rel h hl
  have rest : popD st n d = (if refsBelow n d = true then d else orUndef (rdV st d)) → RelD w (g.pop w n) pl (popD st n d) v := fun e => by
    rw [e]
    split
    · exact hP.D hd hpl (by assumption)
    · rename_i hb
      cases hx : rdV st d with
      | none => exact .undef _ _
      | some x =>
        refine .v _ _ _ (rdV_rel h hd hx hP.L fun r hr hlv => ?_)
        have hlvl : r.lvl < n + 1 := by
          obtain ⟨b, hb⟩ := (h.live r).1 hlv
          rw [← hl]; exact getB_lvl hb
        have hge : ¬ r.lvl < n := fun hlt => by
          cases d <;> simp only [rowRef] at hr <;> first | (cases hr; done) | skip
          · cases hr; exact hb (by simp [refsBelow, hlt])
          · cases hr; exact hb (by simp [refsBelow, hlt])
        have hg : g.gone n (g.be r) := ⟨r, hlv, by omega, rfl⟩
        simp only [Gh.pop]; rw [if_pos hg]; exact Nat.le_refl _
  cases d <;> first
    | exact rest rfl
    | exact hP.D hd hpl rfl

theorem killE_rel {tmps : Array Value} : ∀ (l : List Nat) {env : List D}, RelA w g μ [] env [] st tmps → RelA w g μ [] (killE l env) [] st tmps
  | [], env, h => h
  | i :: l, env, h => killE_rel l ⟨h.s, fun j t hj => by
      rw [getT_set]
      split
      · exact .undef _ _
      · exact h.e j t hj, h.t⟩
theorem killE_len : ∀ (l : List Nat) (env : List D), (killE l env).length = env.length
  | [], env => rfl
  | i :: l, env => by rw [killE, killE_len l]; simp

theorem popA_rel {n : Nat} {st : St} {env : List D} (h : RelA w g μ [] env [] st tmps) (hl : st.length = n + 1) : RelA w (g.pop w n) μ [] (pop env st).1 [] (pop env st).2 tmps := by
  refine ⟨(pop_rel h.s hl).S, fun i t hi => ?_, fun j t hj => by simp at hj⟩
  show RelD w _ _ (getT (env.map (popD st (st.length - 1))) i) _
  rw [getT_map _ rfl, hl]
  exact popD_rel h.s hl (fun _ => rfl) (h.e i t hi)
end
end Go.Q
