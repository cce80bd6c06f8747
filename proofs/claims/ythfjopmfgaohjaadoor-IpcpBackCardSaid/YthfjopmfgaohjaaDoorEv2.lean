/- Frames of the store come and go. No condition. -/
import Derived.Test.YthfjopmfgaohjaaDoorEv1
import Derived.Lib.SliceRun
import Derived.Deep.Upon
import Derived.Test.YthfjopmfgaohjaaDoorEvO
set_option linter.all false
namespace Go.Q
variable [Known]
section
variable {P : Program} {w : World} {g : Gh} {μ : List Nat} {env ts : List D} {st : St} {a : Act} {tmps : Array Value}

theorem RelD.monoR {n : Nat} {w w' : World} {g g' : Gh} {pl : Nat → Pl} {d : D} {v : Value} (h : RelD w g pl d v) (hk : Keeps w w' g g')
    (hn : ∀ b, g.own b ≠ some .nil) (hp : KeepsPl w w' g g' pl) (hr : ∀ r, g.live r → r.lvl < n → KeepsRef g g' r) (hb : refsBelow n d = true) : RelD w' g' pl d v := by
  induction h with
  | v pl x v h => exact .v pl x v (h.mono hk.cell hk.L)
  | nils pl z => exact .nils pl z
  | lin pl z xs v h hs => exact .lin pl z xs v (h.mono hk.cell hk.L) (hs.mono hp)
  | own pl r z off len x c ad hl hc hz ha =>
    obtain ⟨a, b, c', d', e'⟩ := hr r hl (by simpa [refsBelow] using hb)
    exact .own pl r z off len x c ad a (by rw [d', e']; exact hc) (c'.trans hz) (fun h => by rw [b]; exact ha h)
  | arr pl r i off len c ad hl hc ha =>
    obtain ⟨a, b, c', _⟩ := hr r hl (by simpa [refsBelow] using hb)
    exact .arr pl r i off len c ad a hc (fun h => by rw [b, c']; exact ha h)
  | ptr pl r i off hl =>
    obtain ⟨a, b, c', _⟩ := hr r hl (by simpa [refsBelow] using hb)
    rw [← b, ← c']; exact .ptr pl r i off a
  | va pl cs off b o f h1 h2 h3 h4 =>
    exact .va pl cs off b o f (fun j hj => Nat.lt_of_lt_of_le (h1 j hj) (hk.L b)) (fun j hj => by rw [hk.cell b _ (h1 j hj)]; exact h2 j hj) h3 (fun j hj => (h4 j hj).mono hk.cell hk.L)
  | map pl r hl =>
    obtain ⟨a, b, c', _⟩ := hr r hl (by simpa [refsBelow] using hb)
    rw [← b]; exact .map pl r a
  | clo pl f fs cs vf vc h1 h2 hf hc ih1 ih2 =>
    simp only [refsBelow, Bool.and_eq_true] at hb
    exact .clo pl f fs cs vf vc h1 h2 (fun i hi => ih1 i hi (fun b k hb => absurd hb (hn b)) (refsBelows_at hb.1 i hi)) (fun i hi => ih2 i hi (fun b k hb => absurd hb (hn b)) (refsBelows_at hb.2 i hi))
  | ifc pl t d v h ih => exact .ifc pl t d v (ih (fun b k hb => absurd hb (hn b)) (by simpa [refsBelow] using hb))
  | agg pl ds cs hl hk' hr' ih =>
    simp only [refsBelow] at hb
    exact .agg pl ds cs hl hk' (fun i hi => ih i hi (fun b k hb => hp b i hb) (refsBelows_at hb i hi))
  | tup pl ds cs hl hr' ih =>
    simp only [refsBelow] at hb
    exact .tup pl ds cs hl (fun i hi => ih i hi (fun b k hb => hp b i hb) (refsBelows_at hb i hi))
  | undef pl v => exact .undef pl v

theorem RelS.push (h : RelS w g st) : RelS w g ([] :: st) := by
  have e : ∀ r, g.live r → getB ([] :: st) r = getB st r := fun r hr => by
    obtain ⟨b, hb⟩ := (h.live r).1 hr
    have := getB_lvl hb
    rw [getB_cons, if_neg (by omega)]
  have e' : ∀ r b, getB ([] :: st) r = some b → getB st r = some b := fun r b hb => by
    rw [getB_cons] at hb
    split at hb
    · simp at hb
    · exact hb
  refine ⟨fun r => ⟨fun hr => by rw [e r hr]; exact (h.live r).1 hr, fun ⟨b, hb⟩ => (h.live r).2 ⟨b, e' r b hb⟩⟩, fun r b hb => h.blk r b (e' r b hb), h.be, (fun r r' q1 q2 q3 => by
    rw [e r q1, e r' q2]; exact h.inj r r' q1 q2 q3), h.own, h.nil, h.fresh, h.gl⟩

def Gh.gone (g : Gh) (n b : Nat) : Prop := ∃ r, g.live r ∧ r.lvl = n ∧ g.be r = b
def lowPl (n : Nat) : Pl → Bool
  | .cell r _ _ => decide (r.lvl < n)
  | _ => true
noncomputable def Gh.pop (g : Gh) (w : World) (n : Nat) : Gh :=
  open Classical in
  { g with L := fun b => if g.gone n b then blockSize w b else g.L b, M := fun b => g.M b ∧ ¬ g.gone n b,
           own := fun b => (g.own b).bind fun p => if lowPl n p = true then some p else none, live := fun r => g.live r ∧ r.lvl < n }

structure Popped (w : World) (g : Gh) (n : Nat) (st : St) : Prop where
  S : RelS w (g.pop w n) st.tail
  D : ∀ {pl : Nat → Pl} {d : D} {v : Value}, RelD w g pl d v → (∀ k, lowPl n (pl k) = true) → refsBelow n d = true → RelD w (g.pop w n) pl d v
  L : ∀ b, g.L b ≤ (g.pop w n).L b
  E : ∀ {w0 : World} {g0 : Gh}, Ext w0 w g0 g → (∀ r, g0.live r → r.lvl < n) → Ext w0 w g0 (g.pop w n)

theorem pop_rel {n : Nat} {st : St} (h : RelS w g st) (hl : st.length = n + 1) : Popped w g n st := by
  have goneM : ∀ b, g.gone n b → g.M b ∧ g.L b = 0 ∧ g.own b = none ∧ b < w.heap.size := fun b ⟨r, h1, h2, h3⟩ => by
    rw [← h3]; exact h.be r h1
  have Lg : ∀ b, ¬ g.gone n b → (g.pop w n).L b = g.L b := fun b hb => by simp only [Gh.pop]; rw [if_neg hb]
  have Lle : ∀ b, g.L b ≤ (g.pop w n).L b := fun b => by
    by_cases hb : g.gone n b
    · rw [(goneM b hb).2.1]; exact Nat.zero_le _
    · rw [Lg b hb]; exact Nat.le_refl _
  have own' : ∀ b p, (g.pop w n).own b = some p → g.own b = some p ∧ lowPl n p = true := fun b p hb => by
    obtain ⟨q, h1, h2⟩ := bind_some' hb
    split at h2 <;> cases h2
    exact ⟨h1, by assumption⟩
  have ng : ∀ b p, g.own b = some p → ¬ g.gone n b := fun b p hb hg => by
    rw [(goneM b hg).2.2.1] at hb; cases hb
  have nlow : ∀ r, g.live r → r.lvl < n → ¬ g.gone n (g.be r) := fun r hr hlt ⟨r', h1, h2, h3⟩ => by
    rcases h.inj r' r h1 hr h3 with e | ⟨e, _⟩
    · rw [e] at h2; omega
    · omega
  have hD : ∀ {pl : Nat → Pl} {d : D} {v : Value}, RelD w g pl d v → (∀ k, lowPl n (pl k) = true) → refsBelow n d = true → RelD w (g.pop w n) pl d v := fun hd hpl hb =>
    hd.monoR (n := n) ⟨fun _ _ _ => rfl, Lle⟩ h.nil (fun b k hk => ⟨by simp only [Gh.pop, hk, Option.bind_some, hpl k, if_true], Lg b (ng b _ hk), fun _ => ⟨id, id⟩⟩) (fun r hr hlt => ⟨⟨hr, hlt⟩, rfl, rfl, rfl, rfl⟩) hb
  have tl : ∀ r, r.lvl < n → getB st r = getB st.tail r := fun r hr => by
    cases st with
    | nil => simp at hl
    | cons fr st =>
      simp at hl
      rw [getB_cons, if_neg (by omega)]; rfl
  have tlen : st.tail.length = n := by simp [hl]
  refine ⟨⟨fun r => ⟨fun hr => ?_, fun ⟨b, hb⟩ => ?_⟩, fun r b hb => ?_, fun r hr => ?_, fun r r' hr hr' e => (by rw [← tl r hr.2, ← tl r' hr'.2]; exact h.inj r r' hr.1 hr'.1 e), fun b p hb => ?_, fun b hb => h.nil b (own' b _ hb).1, fun b hb => ?_, gl_keep (g' := g.pop w n) (fun _ _ _ => rfl) Lle (Nat.le_refl _) (fun _ _ hm => ⟨fun hh => hm hh.1, rfl⟩) h.gl⟩, hD, Lle, fun {w0 g0} hx hlt => ⟨hx.os, hx.tape, hx.output, hx.size, hx.cell, fun b => Nat.le_trans (hx.L b) (Lle b), fun b hb hm => ?_, fun r hr => ?_⟩⟩
  · obtain ⟨b, hb⟩ := (h.live r).1 hr.1
    exact ⟨b, by rw [← tl r hr.2]; exact hb⟩
  · have hlt := getB_lvl hb
    rw [tlen] at hlt
    exact ⟨(h.live r).2 ⟨b, by rw [tl r hlt]; exact hb⟩, hlt⟩
  · have hlt := getB_lvl hb
    rw [tlen] at hlt
    have hB := h.blk r b (by rw [tl r hlt]; exact hb)
    cases b with
    | dead => trivial
    | it s pos => exact hB
    | mp es =>
      obtain ⟨arr, clock, h8, h9, h10⟩ := hB
      refine ⟨arr, clock, h8, h9, fun i hi hi' => ?_⟩
      obtain ⟨h11, h12, h13⟩ := h10 i hi hi'
      exact ⟨h11, h12, hD h13 (fun _ => by simp [lowPl, hlt]) (refs_le (mapV_refs h12) (by omega))⟩
    | row xs =>
      simp only [RelB] at hB ⊢
      refine ⟨hB.1, fun i hi => ?_⟩
      obtain ⟨h2, h3⟩ := hB.2 i hi
      refine ⟨h2, fun j hj => ?_⟩
      obtain ⟨h4, h5, v, h6, h7, h8⟩ := h3 j hj
      exact ⟨h4, h5, v, h6, h7, hD h8 (fun _ => by simp [lowPl, hlt]) (refs_le h5 (by omega))⟩
  · obtain ⟨h1, h2, h3, h4⟩ := h.be r hr.1
    have hng := nlow r hr.1 hr.2
    exact ⟨⟨h1, hng⟩, by show (g.pop w n).L (g.be r) = 0; rw [Lg _ hng]; exact h2, by show (g.own (g.be r)).bind _ = none; rw [h3]; rfl, h4⟩
  · obtain ⟨h1, h2⟩ := own' b p hb
    obtain ⟨h3, h4⟩ := h.own b p h1
    exact ⟨⟨h3, ng b p h1⟩, h4⟩
  · have hng : ¬ g.gone n b := fun hg => by have := (goneM b hg).2.2.2; omega
    obtain ⟨h1, h2⟩ := h.fresh b hb
    exact ⟨by rw [Lg b hng]; exact h1, fun hh => h2 hh.1⟩
  · obtain ⟨h1, h2, h3⟩ := hx.old b hb hm
    have hng : ¬ g.gone n b := fun hg => h3 (goneM b hg).1
    exact ⟨h1, by rw [Lg b hng]; exact h2, fun hh => h3 hh.1⟩
  · obtain ⟨h1, h2, h3⟩ := hx.refs r hr
    exact ⟨⟨h1, hlt r hr⟩, h2, h3⟩

theorem getT_map (f : D → D) (hf : f .undef = .undef) : ∀ (l : List D) (i : Nat), getT (l.map f) i = f (getT l i)
  | [], i => hf.symm
  | d :: l, 0 => rfl
  | d :: l, i + 1 => getT_map f hf l i

theorem popD_rel {n : Nat} {st : St} {pl : Nat → Pl} {d : D} {v : Value} (h : RelS w g st) (hl : st.length = n + 1) (hpl : ∀ k, lowPl n (pl k) = true) (hd : RelD w g pl d v) : RelD w (g.pop w n) pl (popD st n d) v := by
  have hP := pop_rel h hl
  have rest : popD st n d = (if refsBelow n d = true then d else orUndef (rdV st d)) → RelD w (g.pop w n) pl (popD st n d) v := fun e => by
    rw [e]
    split
    · exact hP.D hd hpl (by assumption)
    · rename_i hb
      cases hx : rdV st d with
      | none => exact .undef _ _
      | some x =>
        refine .v _ _ _ (rdV_rel h hd hx hP.L fun r hr hlv => ?_)
        have hlvl : r.lvl < n + 1 := by
          obtain ⟨b, hb⟩ := (h.live r).1 hlv
          rw [← hl]; exact getB_lvl hb
        have hge : ¬ r.lvl < n := fun hlt => by
          cases d <;> simp only [rowRef] at hr <;> first | (cases hr; done) | skip
          · cases hr; exact hb (by simp [refsBelow, hlt])
          · cases hr; exact hb (by simp [refsBelow, hlt])
        have hg : g.gone n (g.be r) := ⟨r, hlv, by omega, rfl⟩
        simp only [Gh.pop]; rw [if_pos hg]; exact Nat.le_refl _
  cases d <;> first
    | exact rest rfl
    | exact hP.D hd hpl rfl

theorem killE_rel {tmps : Array Value} : ∀ (l : List Nat) {env : List D}, RelA w g μ [] env [] st tmps → RelA w g μ [] (killE l env) [] st tmps
  | [], env, h => h
  | i :: l, env, h => killE_rel l ⟨h.s, fun j t hj => by
      rw [getT_set]
      split
      · exact .undef _ _
      · exact h.e j t hj, h.t⟩
theorem killE_len : ∀ (l : List Nat) (env : List D), (killE l env).length = env.length
  | [], env => rfl
  | i :: l, env => by rw [killE, killE_len l]; simp

theorem popA_rel {n : Nat} {st : St} {env : List D} (h : RelA w g μ [] env [] st tmps) (hl : st.length = n + 1) : RelA w (g.pop w n) μ [] (pop env st).1 [] (pop env st).2 tmps := by
  refine ⟨(pop_rel h.s hl).S, fun i t hi => ?_, fun j t hj => by simp at hj⟩
  show RelD w _ _ (getT (env.map (popD st (st.length - 1))) i) _
  rw [getT_map _ rfl, hl]
  exact popD_rel h.s hl (fun _ => rfl) (h.e i t hi)
end
end Go.Q
namespace Go.Q
variable [Known]

def litOf : Op → Option TypeId
  | .buildSlice t n parts => if n = 0 ∧ parts.size = 0 then some t else none
  | _ => none
def movOf : Op → Option Tmp
  | .move (.tmp y) => some y
  | _ => none
def asgOf : Op → Option Tmp
  | .assign (.tmp y) => some y
  | _ => none
def callOf : Op → Option Call
  | .call c => some c
  | _ => none
def tmpOf : Operand → Option Tmp
  | .tmp y => some y
  | _ => none
def appOf (P : Program) (sz bytes : Nat) (t : TypeId) (a1 a2 : Tmp) (c : Call) : Bool := match builtinOf c, c.args.toList, c.argTypes.toList with
  | some .append, [x1, x2], [t1, u1] => decide (tmpOf x1 = some a1) && decide (tmpOf x2 = some a2) && decide (t1 = t) && (uStr P u1 || (uSlc P u1).isSome) && (orF (uSlc P t) fun e => (orF (P.info? e) fun i => i.size == sz && i.bytes == bytes && bytes != 0 && (orF (i.zero) fun zv => zv.cells.size == sz)))
  | _, _, _ => false
def chkClone (μ : List Nat) (nt : Nat) (P : Program) (d x sz bytes : Nat) : List Oper → Bool
  | [o1, o2, o3, o4] => orF (litOf o1.op) fun t => orF (movOf o2.op) fun y => orF (callOf o3.op) fun c => orF (asgOf o4.op) fun z => orF o1.dst fun a1 => orF o2.dst fun a2 => orF o3.dst fun a3 => orF o4.dst fun a4 =>
      (o1.guard.isNone && o2.guard.isNone && o3.guard.isNone && o4.guard.isNone) && (!μ.contains a1 && !μ.contains a2 && !μ.contains a3) && (decide (a1 < nt) && decide (a2 < nt) && decide (a3 < nt) && decide (a4 < nt)) && (decide (a1 ≠ a2) && decide (μ[x]? = some y) && decide (z = a3) && decide (μ[d]? = some a4)) && appOf P sz bytes t a1 a2 c
  | _ => false

section
variable {P : Program} {w : World} {g : Gh} {μ : List Nat} {nt : Nat} {dfs : List Deferred} {env ts : List D} {st : St} {a : Act} {τ : List (Option Nat)}
theorem upB_some {st : St} {b : Blk} {q : St × Ref} (h : upB st b = some q) : getB st q.2 = none ∧ (∀ r, getB q.1 r = if r = q.2 then some b else getB st r) ∧ q.1.length = st.length ∧ q.2.lvl + 1 < st.length := by
  unfold upB at h
  split at h <;> cases h
  rename_i fr f2 st
  have hl : (addB (f2 :: st) b).2.lvl = st.length := rfl
  have hlen : (addB (f2 :: st) b).1.length = (f2 :: st).length := rfl
  have n1 := addB_none (f2 :: st) b
  have n2 := getB_addB (f2 :: st) b
  refine ⟨?_, fun r => ?_, by simp [addB], by simp [hl]⟩
  · rw [getB_cons, if_neg (by rw [hl]; simp)]; exact n1
  · rw [getB_cons, getB_cons, hlen]
    by_cases hr : r.lvl = (f2 :: st).length
    · rw [if_pos hr, if_pos hr, if_neg]
      intro e
      rw [e, hl] at hr
      simp at hr
    · rw [if_neg hr, if_neg hr]; exact n2 r
theorem run_lit0 {t e : TypeId} {sz : Nat} (hu : P.underlying t = some (.slice e)) (hz : szT P e = some sz) : (Instr.buildSlice t 0 #[]).run P w = .ok (.slice (some ⟨w.heap.size, 0, none⟩) 0 0) (w.alloc (.cells #[] e)) := by
  simp only [Instr.buildSlice, Sem.run_bind, run_underlying hu, Result.andThen_ok, sizeOf_run hz]
  have e0 : (Array.map (fun x => (default : Value)) (Array.range 0)) = #[] := by simp
  simp [Instr.fill]
  rw [e0]
  rfl
theorem litOf_eq {op : Op} {t : TypeId} (h : litOf op = some t) : op = .buildSlice t 0 #[] := by
  unfold litOf at h
  split at h <;> first | (cases h; done) | skip
  split at h <;> cases h
  rename_i hc
  obtain ⟨rfl, hp⟩ := hc
  rw [Array.eq_empty_of_size_eq_zero hp]
theorem movOf_eq {op : Op} {y : Tmp} (h : movOf op = some y) : op = .move (.tmp y) := by
  unfold movOf at h
  split at h <;> cases h
  rfl
theorem asgOf_eq {op : Op} {y : Tmp} (h : asgOf op = some y) : op = .assign (.tmp y) := by
  unfold asgOf at h
  split at h <;> cases h
  rfl
theorem callOf_eq {op : Op} {y : Call} (h : callOf op = some y) : op = .call y := by
  unfold callOf at h
  split at h <;> cases h
  rfl
theorem tmpOf_eq {op : Operand} {y : Tmp} (h : tmpOf op = some y) : op = .tmp y := by
  unfold tmpOf at h
  split at h <;> cases h
  rfl
theorem appOf_eq {sz bytes : Nat} {t : TypeId} {a1 a2 : Tmp} {c : Call} (h : appOf P sz bytes t a1 a2 c = true) : ∃ u1 e inf zv, builtinOf c = some .append ∧ c.args = #[.tmp a1, .tmp a2] ∧ c.argTypes = #[t, u1] ∧ (uStr P u1 || (uSlc P u1).isSome) = true ∧
    uSlc P t = some e ∧ P.info? e = some inf ∧ inf.size = sz ∧ inf.bytes = bytes ∧ bytes ≠ 0 ∧ inf.zero = some zv ∧ zv.cells.size = sz := by
  unfold appOf at h
  split at h <;> first | (cases h; done) | skip
  rename_i x1 x2 t1 u1 hb hargs hat
  simp only [Bool.and_eq_true, decide_eq_true_eq] at h
  obtain ⟨⟨⟨⟨h1, h2⟩, rfl⟩, h4⟩, h5⟩ := h
  obtain ⟨e, h6, h7⟩ := of_orF h5
  obtain ⟨inf, h8, h9⟩ := of_orF h7
  simp only [Bool.and_eq_true, beq_iff_eq, bne_iff_ne, ne_eq] at h9
  obtain ⟨⟨⟨q1, q2⟩, q3⟩, q4⟩ := h9
  obtain ⟨zv, q5, q6⟩ := of_orF q4
  exact ⟨u1, e, inf, zv, hb, by rw [← tmpOf_eq h1, ← tmpOf_eq h2, ← hargs], by rw [← hat], h4, h6, h8, q1, q2, q3, q5, by simpa using q6⟩
theorem drop_put {tmps : Array Value} {d : Nat} {v : Value} (h : RelA w g μ [] env [] st tmps) (hd : μ.contains d = false) : RelA w g μ [] env [] st (tmps.setIfInBounds d v) := by
  refine ⟨h.s, fun i t hi => ?_, fun j t hj => by simp at hj⟩
  have hne := mu_ne hd hi
  have : (tmps.setIfInBounds d v).getD t undef = tmps.getD t undef := by
    simp only [Array.getD_eq_getD_getElem?]
    rw [Array.getElem?_setIfInBounds_ne (Ne.symm hne)]
  rw [this]
  exact h.e i t hi
theorem getD_put {tmps : Array Value} {d : Nat} {v : Value} (h : d < tmps.size) (t : Nat) : (tmps.setIfInBounds d v).getD t undef = if t = d then v else tmps.getD t undef := by
  simp only [Array.getD_eq_getD_getElem?]
  by_cases e : t = d
  · subst e; simp [h]
  · rw [if_neg e, Array.getElem?_setIfInBounds_ne (Ne.symm e)]
theorem set_put {tmps : Array Value} {i d : Nat} {v : Value} {x : D} (hμ : μ.Nodup) (h : RelA w g μ [] env [] st tmps) (hd : μ[i]? = some d) (hs : d < tmps.size) (hx : RelD w g (fun _ => .env i) x v) : RelA w g μ [] (env.set i x) [] st (tmps.setIfInBounds d v) := by
  refine ⟨h.s, fun i' t hi => ?_, fun j t hj => by simp at hj⟩
  rw [getD_put hs, getT_set]
  by_cases e : i = i'
  · subst e
    rw [hd] at hi
    cases hi
    rw [if_pos rfl]
    by_cases hl : i < env.length
    · rw [if_pos ⟨rfl, hl⟩]; exact hx
    · rw [if_neg (fun hh => hl hh.2), getT_nil (by omega)]; exact .undef _ _
  · have hne : t ≠ d := by
      rintro rfl
      obtain ⟨b1, e1⟩ := List.getElem?_eq_some_iff.1 hd
      obtain ⟨b2, e2⟩ := List.getElem?_eq_some_iff.1 hi
      exact e (nodup_inj hμ b1 b2 (e1.trans e2.symm))
    rw [if_neg (fun hh => e hh.1), if_neg hne]
    exact h.e i' t hi

theorem clone_ok {ro : Option Nat} {d x sz bytes : Nat} {ops : Array Oper} {e : Ex} {env' : List D} {st' : St} {Q : Exit → Act → World → Prop} (hμ : μ.Nodup) (hc : chkClone μ nt P d x sz bytes ops.toList = true)
    (he : ((rdV st (cp (getT env x))).bind (slcOf sz)).bind (cloneD d sz bytes env st) = some (e, env', st')) (h : At w g μ nt dfs [] env [] st a) :
    e = .normal ∧ ((∀ a' w' g', Ext w w' g g' → At w' g' μ nt dfs [] env' [] st' a' → Q .normal a' w') → wpOpsIn (wideR ro) 0 P ops Q (List.range ops.size) a w) := by
  obtain ⟨ys, h1, h2⟩ := bind_some' he
  unfold cloneD at h2
  split at h2 <;> first | (cases h2; done) | skip
  rename_i hcond
  obtain ⟨hn0, hby, hszs⟩ := hcond
  obtain ⟨q, h3, h4⟩ := map_some' h2
  cases h4
  refine ⟨rfl, fun k => ?_⟩
  obtain ⟨u1, u2, u3, u4⟩ := upB_some h3
  obtain ⟨o1, o2, o3, o4, hops⟩ : ∃ o1 o2 o3 o4, ops.toList = [o1, o2, o3, o4] := by
    generalize ops.toList = l at hc
    unfold chkClone at hc
    split at hc <;> first | (cases hc; done) | exact ⟨_, _, _, _, rfl⟩
  rw [hops] at hc
  simp only [chkClone] at hc
  obtain ⟨t, p1, hc⟩ := of_orF hc
  obtain ⟨y, p2, hc⟩ := of_orF hc
  obtain ⟨c, p3, hc⟩ := of_orF hc
  obtain ⟨z, p4, hc⟩ := of_orF hc
  obtain ⟨a1, d1, hc⟩ := of_orF hc
  obtain ⟨a2, d2, hc⟩ := of_orF hc
  obtain ⟨a3, d3, hc⟩ := of_orF hc
  obtain ⟨a4, d4, hc⟩ := of_orF hc
  simp only [Bool.and_eq_true, decide_eq_true_eq, Bool.not_eq_true', Option.isNone_iff_eq_none] at hc
  obtain ⟨⟨⟨⟨⟨⟨⟨g1, g2⟩, g3⟩, g4⟩, ⟨m1, m2⟩, m3⟩, ⟨⟨l1, l2⟩, l3⟩, l4⟩, ⟨⟨n12, hx⟩, hz⟩, hd⟩, hlast⟩ := hc
  have hopsA : ops = #[o1, o2, o3, o4] := by
    have := congrArg List.toArray hops
    simpa using this
  subst hopsA
  obtain ⟨u1', e, inf, zv, b1, b2, b3, b4, b5, b6, b7, b8, b9, b10, b11⟩ := appOf_eq hlast
  have ht := of_uSlc P b5
  have hszT : szT P e = some sz := by simp [szT, b6, b7]
  have hA := h.r
  have hn : a.tmps.size = nt := h.n
  have hel : elems sz st (cp (getT env x)) = some ys := by
    obtain ⟨x', h4, h5⟩ := bind_some' h1
    generalize cp (getT env x) = dd at h1 h4
    cases dd <;> first | exact h1 | skip
    rename_i x''
    cases x'' <;> first | exact h1 | skip
    simp only [rdV] at h4
    cases h4
    simp [slcOf] at h5
  have r1 : (execOp a.eval o1).run P w = .ok (.value (.slice (some ⟨w.heap.size, 0, none⟩) 0 0)) (w.alloc (.cells #[] e)) := by
    simp only [execOp, litOf_eq p1, Array.map_empty]
    exact run_v (run_lit0 ht hszT)
  have hG := Gh.grow_new (o := .cells #[] e) (L := 0) (p := none) hA.s (by simp) 0
  rw [drewN_zero] at hG
  generalize hw1 : w.alloc (.cells #[] e) = w1 at r1 hG
  have hs1 : w1.heap.size = w.heap.size + 1 := by rw [← hw1]; show (w.heap.push _).size = _; simp
  have hA1 := hG.relA hA (fun r => Iff.rfl)
  have hx1 := hG.ext hA.s
  generalize hg1 : g.new w.heap.size 0 none = g1' at hG hA1 hx1
  have hA1' := drop_put (d := a1) (v := .slice (some ⟨w.heap.size, 0, none⟩) 0 0) hA1 m1
  let ac1 : Act := a.put (some a1) (.slice (some ⟨w.heap.size, 0, none⟩) 0 0)
  have r2 : (execOp ac1.eval o2).run P w1 = .ok (.value (ac1.eval (.tmp y))) w1 := by
    simp only [execOp, movOf_eq p2]
    rfl
  have hA2 := drop_put (d := a2) (v := ac1.eval (.tmp y)) hA1' m2
  let ac2 : Act := ac1.put (some a2) (ac1.eval (.tmp y))
  have v1 : ac2.eval (.tmp a1) = .slice (some ⟨w.heap.size, 0, none⟩) 0 0 := by
    show (((a.tmps.setIfInBounds a1 _).setIfInBounds a2 _).getD a1 undef) = _
    rw [getD_put (by simpa [hn] using l2), if_neg n12, getD_put (by simpa [hn] using l1), if_pos rfl]
  have v2 : ac2.eval (.tmp a2) = ac1.eval (.tmp y) := by
    show (((a.tmps.setIfInBounds a1 _).setIfInBounds a2 _).getD a2 undef) = _
    rw [getD_put (by simpa [hn] using l2), if_pos rfl]
  have hchk : chkO μ [] (.tmp y) (.x x) = true := by simp [chkO, hx]
  have hrel : RelD w1 g1' (fun _ => .nil) (cp (getT env x)) (ac1.eval (.tmp y)) := rd_rel (a := ac1) hA1' hchk (fun _ => .nil)
  obtain ⟨f, E, S⟩ := elems_rel hA1'.s hrel hel
  have Sr := src_of (P := P) E S b4
  subst b7
  have hold : (Builtin.firstCells inf.size 0 (.slice (some ⟨w.heap.size, 0, none⟩) 0 0)).run P w1.drew = .ok ([] : List Value).toArray w1.drew :=
    run_firstCells_some w1.drew inf.size 0 ⟨w.heap.size, 0, none⟩ 0 0 [] (by simp) (fun j v hj => by simp at hj)
  have happ := run_append_grow_src w1 t u1' o3.type e inf zv ht b6 b10 (some ⟨w.heap.size, 0, none⟩) 0 0 [] hold (ac1.eval (.tmp y)) ys.length _ Sr (by omega) (by
    have h5 : ys.length * 1 ≤ ys.length * bytes := Nat.mul_le_mul_left _ (by omega)
    have : maxB = 140737488355328 := rfl
    omega) (growslice_fits (by omega) (by rw [Nat.zero_add, b8]; exact hby))
  rw [Nat.zero_add, List.nil_append] at happ
  generalize hcap : grownCap w1 ys.length 0 e = cap at happ
  have hge : ys.length ≤ cap := by rw [← hcap]; exact grownCap_ge _ _ _ _
  have r3 : (execOp ac2.eval o3).run P w1 = .ok (.value (.slice (some ⟨w1.heap.size, 0, none⟩) ys.length cap)) (w1.drew.alloc (.cells ((cellL ys.length inf.size f).toArray ++ Builtin.zeroCells zv.cells (cap - ys.length)) e)) := by
    simp only [execOp, callOf_eq p3, resolve, builtinOf_eq b1, b2, b3]
    simp only [Sem.run_bind, Sem.run_pure, Result.andThen_ok, invoke, builtin, List.map_toArray, List.map_cons, List.map_nil, v1, v2]
    rw [happ]
    rfl
  let C : Array Value := (cellL ys.length inf.size f).toArray ++ Builtin.zeroCells zv.cells (cap - ys.length)
  have hCat : ∀ i j, i < ys.length → j < inf.size → C[i * inf.size + j]? = some (f i j) := fun i j hi hj => by
    show ((cellL ys.length inf.size f).toArray ++ _)[i * inf.size + j]? = _
    have h6 := mul_at hi hj
    rw [Array.getElem?_append_left (by rw [List.size_toArray, cellL_len]; exact h6), List.getElem?_toArray, cellL_at f hi hj]
  have hGd : Grow w1 w1.drew g1' g1' := ⟨rfl, rfl, rfl, Nat.le_refl _, fun _ _ => rfl, fun _ _ => rfl, fun _ _ => Iff.rfl, fun _ _ => rfl, fun r hr => ⟨hr, rfl, rfl, rfl, rfl⟩, fun b p hb hp => by have := (hA1.s.own b p hp).2; have h7 : w1.drew.heap.size = w1.heap.size := rfl; omega, fun b hb => hA1.s.fresh b hb⟩
  have hA3 := hGd.relA hA2 (fun r => Iff.rfl)
  have hx3 := hGd.ext hA2.s
  have E3 : Els w1.drew g1'.L inf.size ys f := E.mono (fun x v hh => hh.mono (hGd.keeps hA1.s).cell (hGd.keeps hA1.s).L)
  have hS4 := rows_core (E := e) (C := C) hA3.s E3 hCat u1 u2
  have hG4 := Gh.grow_blk (o := .cells C e) inf.size (ys.map D.v).length hA3.s u1 C.size
  have hx4 := hG4.ext hA3.s
  have hE4 : RelA (w1.drew.alloc (.cells C e)) (g1'.blk q.2 w1.drew.heap.size inf.size (ys.map D.v).length C.size) μ [] env [] q.1 _ := ⟨hS4, fun i t hi => hG4.relD hA3.s (hA3.e i t hi), fun j t hj => by simp at hj⟩
  have hA4 := drop_put (d := a3) (v := .slice (some ⟨w1.heap.size, 0, none⟩) ys.length cap) hE4 m3
  have hown : RelD (w1.drew.alloc (.cells C e)) (g1'.blk q.2 w1.drew.heap.size inf.size (ys.map D.v).length C.size) (fun _ => .env d) (.own q.2 inf.size 0 ys.length false) (.slice (some ⟨w1.heap.size, 0, none⟩) ys.length cap) := by
    refine RelD.own _ _ _ _ _ _ _ _ (.inr rfl) ⟨hge, (fun h => by cases h), fun _ => by
      have hcs : C.size = cap * inf.size := by
        show ((cellL ys.length inf.size f).toArray ++ Builtin.zeroCells zv.cells (cap - ys.length)).size = _
        rw [Array.size_append, List.size_toArray, cellL_len, size_zeroCells, b11, ← Nat.add_mul]
        congr 1; omega
      have hcp : (g1'.blk q.2 w1.drew.heap.size inf.size (ys.map D.v).length C.size).cp q.2 = C.size := by simp [Gh.blk]
      rw [hcp, hcs, Nat.zero_add]; exact Nat.le_refl _⟩ (by simp [Gh.blk]) (fun _ => ?_)
    simp only [Gh.blk, if_true, Nat.zero_mul]
    rfl
  have hA5 := set_put (d := a4) hμ hA4 hd (by simpa [hn] using l4) hown
  let ac3 : Act := ac2.put (some a3) (.slice (some ⟨w1.heap.size, 0, none⟩) ys.length cap)
  have r4 : (execOp ac3.eval o4).run P (w1.drew.alloc (.cells C e)) = .ok (.value (.slice (some ⟨w1.heap.size, 0, none⟩) ys.length cap)) (w1.drew.alloc (.cells C e)) := by
    have v3 : ac3.eval (.tmp a3) = .slice (some ⟨w1.heap.size, 0, none⟩) ys.length cap := by
      show ((((a.tmps.setIfInBounds a1 _).setIfInBounds a2 _).setIfInBounds a3 _).getD a3 undef) = _
      rw [getD_put (by simpa [hn] using l3), if_pos rfl]
    simp only [execOp, asgOf_eq p4, hz]
    rw [v3]
    rfl
  have fin := k (ac3.put (some a4) (.slice (some ⟨w1.heap.size, 0, none⟩) ys.length cap)) _ _ (((hx1.trans hx3).trans hx4)) ⟨hA5, by simp [ac3, ac2, ac1, Act.put, hn], by simp [ac3, ac2, ac1, Act.put, h.d], rfl, fun e0 => by rw [e0] at u3; simp at u3; exact h.st (List.length_eq_zero_iff.1 u3.symm)⟩
  have w1' : ∀ (o : Oper) (y : Nat → Option Bool), o.guard = none → Region.wanted o y = true := fun o y hg => by simp [Region.wanted, hg]
  show wpOpsIn (wideR ro) 0 P #[o1, o2, o3, o4] Q [0, 1, 2, 3] a w
  have q0 : (#[o1, o2, o3, o4] : Array Oper)[0]? = some o1 := rfl
  have q1 : (#[o1, o2, o3, o4] : Array Oper)[1]? = some o2 := rfl
  have q2 : (#[o1, o2, o3, o4] : Array Oper)[2]? = some o3 := rfl
  have q3 : (#[o1, o2, o3, o4] : Array Oper)[3]? = some o4 := rfl
  simp only [wpOpsIn, q0]
  rw [if_pos (w1' o1 _ g1)]
  refine OpRes.wq (Po := fun v w' => v = _ ∧ w' = _) (res_ok r1 ⟨rfl, rfl⟩) ?_
  rintro v w' ⟨rfl, rfl⟩
  rw [d1]
  simp only [wpOpsIn, q1]
  rw [if_pos (w1' o2 _ g2)]
  refine OpRes.wq (Po := fun v w' => v = _ ∧ w' = _) (res_ok r2 ⟨rfl, rfl⟩) ?_
  rintro v w' ⟨rfl, rfl⟩
  rw [d2]
  simp only [wpOpsIn, q2]
  rw [if_pos (w1' o3 _ g3)]
  refine OpRes.wq (Po := fun v w' => v = _ ∧ w' = _) (res_ok r3 ⟨rfl, rfl⟩) ?_
  rintro v w' ⟨rfl, rfl⟩
  rw [d3]
  simp only [wpOpsIn, q3]
  rw [if_pos (w1' o4 _ g4)]
  refine OpRes.wq (Po := fun v w' => v = _ ∧ w' = _) (res_ok r4 ⟨rfl, rfl⟩) ?_
  rintro v w' ⟨rfl, rfl⟩
  rw [d4]
  exact fin

theorem step1 {ro : Option Nat} {ops : Array Oper} {o : Oper} {i : Nat} {is : List Nat} {v : Value} {w' : World} {Q : Exit → Act → World → Prop} (ho : ops[i]? = some o) (hg : o.guard = none) (hr : (execOp a.eval o).run P w = .ok (.value v) w')
    (k : wpOpsIn (wideR ro) 0 P ops Q is (a.put o.dst v) w') : wpOpsIn (wideR ro) 0 P ops Q (i :: is) a w := by
  simp only [wpOpsIn, ho]
  rw [if_pos (by simp [Region.wanted, hg])]
  refine OpRes.wq (Po := fun u w1 => u = v ∧ w1 = w') (res_ok hr ⟨rfl, rfl⟩) ?_
  rintro u w1 ⟨rfl, rfl⟩
  exact k
def nilOf : Op → Bool
  | .assign (.const (.slice none 0 0)) => true
  | _ => false
theorem nilOf_eq {op : Op} (h : nilOf op = true) : op = .assign (.const (.slice none 0 0)) := by
  unfold nilOf at h
  split at h <;> first | rfl | cases h
def eqNilOf : Op → Option (TypeId × Tmp)
  | .binOp .eql t (.tmp a) (.const (.slice none 0 0)) _ => some (t, a)
  | _ => none
theorem eqNilOf_eq {op : Op} {t : TypeId} {y : Tmp} (h : eqNilOf op = some (t, y)) : ∃ u, op = .binOp .eql t (.tmp y) (.const (.slice none 0 0)) u := by
  unfold eqNilOf at h
  split at h <;> cases h
  exact ⟨_, rfl⟩
def nilParts : Code → Option (List Oper × List Oper × Tmp × List Oper × List Oper)
  | .seq (.region _ p0 false) (.seq (.seq (.region _ p1 false) (.cond (.tmp b) (.seq (.region _ p2 false) .ret) .skip)) (.seq (.region _ p3 false) .ret)) => some (p0.toList, p1.toList, b, p2.toList, p3.toList)
  | _ => none
def nil1 (μ : List Nat) (nt d : Nat) : List Oper → Bool
  | [o] => o.guard.isNone && nilOf o.op && (orF o.dst fun a => decide (μ[d]? = some a) && decide (a < nt))
  | _ => false
def nil2 (μ : List Nat) (nt : Nat) (P : Program) (x : Nat) (b : Tmp) : List Oper → Bool
  | [o1, o2] => o1.guard.isNone && o2.guard.isNone && (orF (movOf o1.op) fun y => orF (eqNilOf o2.op) fun q => orF o1.dst fun a1 => orF o2.dst fun a2 =>
      (!μ.contains a1 && !μ.contains a2) && (decide (a1 < nt) && decide (a2 < nt)) && (decide (μ[x]? = some y) && decide (q.2 = a1) && decide (b = a2)) && (uSlc P q.1).isSome)
  | _ => false
def chkNilc (μ : List Nat) (nt : Nat) (P : Program) (d x sz bytes : Nat) (c : Code) : Bool :=
  orF (nilParts c) fun q => decide (x ≠ d) && nil1 μ nt d q.1 && nil2 μ nt P x q.2.2.1 q.2.1 && nil1 μ nt d q.2.2.2.1 && chkClone μ nt P d x sz bytes q.2.2.2.2
theorem nil1_ok {ro : Option Nat} {d : Nat} {ops : Array Oper} {Q : Exit → Act → World → Prop} (hc : nil1 μ nt d ops.toList = true) (hn : a.tmps.size = nt)
    (k : ∀ e, μ[d]? = some e → e < nt → Q .normal (a.put (some e) (.slice none 0 0)) w) : wpOpsIn (wideR ro) 0 P ops Q (List.range ops.size) a w := by
  obtain ⟨o, ho⟩ : ∃ o, ops.toList = [o] := by
    generalize ops.toList = l at hc
    unfold nil1 at hc
    split at hc <;> first | (cases hc; done) | exact ⟨_, rfl⟩
  have hA : ops = #[o] := by
    have := congrArg List.toArray ho
    simpa using this
  subst hA
  simp only [nil1, Bool.and_eq_true, Option.isNone_iff_eq_none] at hc
  obtain ⟨⟨h1, h2⟩, h3⟩ := hc
  obtain ⟨e, h4, h5⟩ := of_orF h3
  simp only [Bool.and_eq_true, decide_eq_true_eq] at h5
  show wpOpsIn (wideR ro) 0 P #[o] Q [0] a w
  refine step1 (o := o) (v := .slice none 0 0) (w' := w) rfl h1 (by simp only [execOp, nilOf_eq h2]; rfl) ?_
  rw [h4]
  exact k e h5.1 h5.2

theorem empty_ok {ro : Option Nat} {d x sz bytes : Nat} {p3 : Array Oper} {ac2 : Act} {y : Tmp} {ad : Addr} {c : Nat} {Q : Exit → Act → World → Prop} (hμ : μ.Nodup) (c3 : chkClone μ nt P d x sz bytes p3.toList = true)
    (hA2 : RelA w g μ [] env [] st ac2.tmps) (hn2 : ac2.tmps.size = nt) (hd2 : ac2.defers = dfs) (hst : st ≠ []) (hx : μ[x]? = some y) (hv : ac2.tmps.getD y undef = .slice (some ad) 0 c)
    (k : ∀ a' w' g', Ext w w' g g' → At w' g' μ nt dfs [] (env.set d (.v (.slc sz []))) [] st a' → Q .normal a' w') : wpOpsIn (wideR ro) 0 P p3 Q (List.range p3.size) ac2 w := by
  have slc0 : ∀ {w' : World} {g' : Gh} {ad c}, RelD w' g' (fun _ => .env d) (.v (.slc sz [])) (.slice ad 0 c) := fun {w' g' ad c} => .v _ _ _ (.slc0 _ _ _)
  obtain ⟨o1, o2, o3, o4, hops⟩ : ∃ o1 o2 o3 o4, p3.toList = [o1, o2, o3, o4] := by
    generalize p3.toList = l at c3
    unfold chkClone at c3
    split at c3 <;> first | (cases c3; done) | exact ⟨_, _, _, _, rfl⟩
  have hP3 : p3 = #[o1, o2, o3, o4] := by
    have := congrArg List.toArray hops
    simpa using this
  subst hP3
  simp only [chkClone] at c3
  obtain ⟨t3, s1, hc⟩ := of_orF c3
  obtain ⟨y3, s2, hc⟩ := of_orF hc
  obtain ⟨cl, s3, hc⟩ := of_orF hc
  obtain ⟨z3, s4, hc⟩ := of_orF hc
  obtain ⟨b1, f1, hc⟩ := of_orF hc
  obtain ⟨b2, f2, hc⟩ := of_orF hc
  obtain ⟨b3, f3, hc⟩ := of_orF hc
  obtain ⟨b4, f4, hc⟩ := of_orF hc
  simp only [Bool.and_eq_true, decide_eq_true_eq, Bool.not_eq_true', Option.isNone_iff_eq_none] at hc
  obtain ⟨⟨⟨⟨⟨⟨⟨w1, w2⟩, w3⟩, w4⟩, ⟨n1, n2⟩, n3⟩, ⟨⟨j1, j2⟩, j3⟩, j4⟩, ⟨⟨n12, hx3⟩, hz3⟩, hd3⟩, hlast⟩ := hc
  obtain ⟨u1', e5, inf, zv, k1, k2, k3, k4, k5, k6, k7, k8, k9, k10, k11⟩ := appOf_eq hlast
  have ht3 := of_uSlc P k5
  have hszT : szT P e5 = some sz := by simp [szT, k6, k7]
  rw [hx] at hx3
  cases hx3
  have t1 : (execOp ac2.eval o1).run P w = .ok (.value (.slice (some ⟨w.heap.size, 0, none⟩) 0 0)) (w.alloc (.cells #[] e5)) := by
    simp only [execOp, litOf_eq s1, Array.map_empty]
    exact run_v (run_lit0 ht3 hszT)
  have hG := Gh.grow_new (o := .cells #[] e5) (L := 0) (p := none) hA2.s (by simp) 0
  rw [drewN_zero] at hG
  have hB1 := hG.relA hA2 (fun r => Iff.rfl)
  have hx1 := hG.ext hA2.s
  let bc1 : Act := ac2.put (some b1) (.slice (some ⟨w.heap.size, 0, none⟩) 0 0)
  have hB1' := drop_put (d := b1) (v := .slice (some ⟨w.heap.size, 0, none⟩) 0 0) hB1 n1
  have hnb : bc1.tmps.size = nt := by simp [bc1, Act.put, hn2]
  have vy : bc1.eval (.tmp y) = .slice (some ad) 0 c := by
    have hne := mu_ne n1 hx
    show ((ac2.tmps.setIfInBounds b1 (.slice (some ⟨w.heap.size, 0, none⟩) 0 0)).getD y undef) = _
    rw [getD_put (by rw [hn2]; exact j1), if_neg hne]
    exact hv
  have t2 : (execOp bc1.eval o2).run P (w.alloc (.cells #[] e5)) = .ok (.value (.slice (some ad) 0 c)) (w.alloc (.cells #[] e5)) := by
    simp only [execOp, movOf_eq s2, vy]
    rfl
  let bc2 : Act := bc1.put (some b2) (.slice (some ad) 0 c)
  have hB2 := drop_put (d := b2) (v := .slice (some ad) 0 c) hB1' n2
  have u1 : bc2.eval (.tmp b1) = .slice (some ⟨w.heap.size, 0, none⟩) 0 0 := by
    show (((ac2.tmps.setIfInBounds b1 (.slice (some ⟨w.heap.size, 0, none⟩) 0 0)).setIfInBounds b2 (.slice (some ad) 0 c)).getD b1 undef) = .slice (some ⟨w.heap.size, 0, none⟩) 0 0
    rw [getD_put (by rw [Array.size_setIfInBounds, hn2]; exact j2), if_neg n12, getD_put (by rw [hn2]; exact j1), if_pos rfl]
  have u2 : bc2.eval (.tmp b2) = .slice (some ad) 0 c := by
    show ((bc1.tmps.setIfInBounds b2 (.slice (some ad) 0 c)).getD b2 undef) = .slice (some ad) 0 c
    rw [getD_put (by rw [hnb]; exact j2), if_pos rfl]
  have SrcE : Src P sz u1' (.slice (some ad) 0 c) 0 [] (w.alloc (.cells #[] e5)) := by
    have := src_of (P := P) (w := w.alloc (.cells #[] e5)) (g := g) (sz := sz) (ys := []) (f := fun _ _ => undef) (v := .slice (some ad) 0 c) (u := u1') ⟨fun i h => by simp at h, fun i h => by simp at h, fun i h => by simp at h⟩ (.sl _ _ (Nat.zero_le _) (fun h => by simp at h)) k4
    have e0 : cellL ([] : List V).length sz (fun _ _ => undef) = [] := by simp [cellL]
    rw [e0] at this
    exact this
  have t3 : (execOp bc2.eval o3).run P (w.alloc (.cells #[] e5)) = .ok (.value (.slice (some ⟨w.heap.size, 0, none⟩) 0 0)) (w.alloc (.cells #[] e5)) := by
    simp only [execOp, callOf_eq s3, resolve, builtinOf_eq k1, k2, k3]
    simp only [Sem.run_bind, Sem.run_pure, Result.andThen_ok, invoke, builtin, List.map_toArray, List.map_cons, List.map_nil, u1, u2]
    rw [run_append_nothing _ t3 u1' o3.type e5 inf ht3 k6 (some ⟨w.heap.size, 0, none⟩) 0 0 (Nat.le_refl _) (.slice (some ad) 0 c) (by rw [k7]; exact SrcE)]
    rfl
  let bc3 : Act := bc2.put (some b3) (.slice (some ⟨w.heap.size, 0, none⟩) 0 0)
  have hB3 := drop_put (d := b3) (v := .slice (some ⟨w.heap.size, 0, none⟩) 0 0) hB2 n3
  have hnb2 : bc2.tmps.size = nt := by simp [bc2, bc1, Act.put, hn2]
  have t4 : (execOp bc3.eval o4).run P (w.alloc (.cells #[] e5)) = .ok (.value (.slice (some ⟨w.heap.size, 0, none⟩) 0 0)) (w.alloc (.cells #[] e5)) := by
    have v3 : bc3.eval (.tmp b3) = .slice (some ⟨w.heap.size, 0, none⟩) 0 0 := by
      show ((bc2.tmps.setIfInBounds b3 (.slice (some ⟨w.heap.size, 0, none⟩) 0 0)).getD b3 undef) = .slice (some ⟨w.heap.size, 0, none⟩) 0 0
      rw [getD_put (by rw [hnb2]; exact j3), if_pos rfl]
    simp only [execOp, asgOf_eq s4, hz3]
    rw [v3]
    rfl
  have hB4 := set_put (d := b4) (v := .slice (some ⟨w.heap.size, 0, none⟩) 0 0) hμ hB3 hd3 (by simpa [hn2] using j4) slc0
  have fin := k (bc3.put (some b4) (.slice (some ⟨w.heap.size, 0, none⟩) 0 0)) _ _ hx1 ⟨hB4, by simp [bc3, bc2, bc1, Act.put, hn2], by simp [bc3, bc2, bc1, Act.put, hd2], rfl, hst⟩
  show wpOpsIn (wideR ro) 0 P #[o1, o2, o3, o4] _ [0, 1, 2, 3] ac2 w
  refine step1 (o := o1) rfl w1 t1 ?_
  rw [f1]
  refine step1 (o := o2) rfl w2 t2 ?_
  rw [f2]
  refine step1 (o := o3) rfl w3 t3 ?_
  rw [f3]
  refine step1 (o := o4) rfl w4 t4 ?_
  rw [f4]
  exact fin
theorem nilc_ok {ro : Option Nat} {d x sz bytes : Nat} {c : Code} {Q : Exit → Act → World → Prop} (hμ : μ.Nodup) (hc : chkNilc μ nt P d x sz bytes c = true) (hel : isNilV (rdV st (cp (getT env x))) = true) (h : At w g μ nt dfs [] env [] st a)
    (k : ∀ a' w' g', Ext w w' g g' → At w' g' μ nt dfs [] (env.set d (.v (.slc sz []))) [] st a' → Q .ret a' w') : c.wpIn (wideR ro) 0 P Q a w := by
  obtain ⟨⟨l0, l1, b, l2, l3⟩, hp, hc⟩ := of_orF hc
  unfold nilParts at hp
  split at hp <;> cases hp
  rename_i i0 p0 i1 p1 i2 p2 i3 p3 _
  simp only [Bool.and_eq_true] at hc
  obtain ⟨⟨⟨⟨hxd, c0⟩, c1⟩, c2⟩, c3⟩ := hc
  have hxd := of_decide_eq_true hxd
  have hn := h.n
  have slc0 : ∀ {w' : World} {g' : Gh} {ad c}, RelD w' g' (fun _ => .env d) (.v (.slc sz [])) (.slice ad 0 c) := fun {w' g' ad c} => .v _ _ _ (.slc0 _ _ _)
  have hz : ∃ z, rdV st (cp (getT env x)) = some (.slc z []) := by
    unfold isNilV at hel
    split at hel
    · exact ⟨_, by assumption⟩
    · cases hel
  obtain ⟨z, hz⟩ := hz
  have hel2 : elems z st (cp (getT env x)) = some [] := by
    generalize cp (getT env x) = dd at hz
    cases dd <;> first | (simp only [elems, hz, Option.bind_some, slcOf, if_true]; done) | skip
    rename_i x''
    cases x'' <;> simp only [rdV] at hz <;> first | (cases hz; done) | skip
    cases hz
    simp [elems]
  refine wpIn_seq (wpIn_region (nil1_ok c0 hn fun e0 he0 hl0 => ?_))
  have hA1 := set_put (d := e0) hμ h.r he0 (by rw [hn]; exact hl0) (slc0 (w' := w) (g' := g) (ad := none) (c := 0))
  refine wpIn_seq (wpIn_seq (wpIn_region ?_))
  obtain ⟨o1, o2, ho⟩ : ∃ o1 o2, p1.toList = [o1, o2] := by
    generalize p1.toList = l at c1
    unfold nil2 at c1
    split at c1 <;> first | (cases c1; done) | exact ⟨_, _, rfl⟩
  have hP1 : p1 = #[o1, o2] := by
    have := congrArg List.toArray ho
    simpa using this
  subst hP1
  simp only [nil2, Bool.and_eq_true, Option.isNone_iff_eq_none] at c1
  obtain ⟨⟨g1, g2⟩, c1⟩ := c1
  obtain ⟨y, q1, c1⟩ := of_orF c1
  obtain ⟨⟨t, y2⟩, q2, c1⟩ := of_orF c1
  obtain ⟨a1, d1, c1⟩ := of_orF c1
  obtain ⟨a2, d2, c1⟩ := of_orF c1
  simp only [Bool.and_eq_true, Bool.not_eq_true', decide_eq_true_eq] at c1
  obtain ⟨⟨⟨⟨m1, m2⟩, l1', l2'⟩, ⟨hx, hy2⟩, hbb⟩, hsl⟩ := c1
  obtain ⟨u, q2'⟩ := eqNilOf_eq q2
  obtain ⟨e, hu⟩ := Option.isSome_iff_exists.1 hsl
  have ht := of_uSlc P hu
  have hchk : chkO μ [] (.tmp y) (.x x) = true := by simp [chkO, hx]
  let ac0 : Act := a.put (some e0) (.slice none 0 0)
  have hn0 : ac0.tmps.size = nt := by simp [ac0, Act.put, hn]
  have hA1' : RelA w g μ [] (env.set d (.v (.slc sz []))) [] st ac0.tmps := hA1
  have hrel : RelD w g (fun _ => .nil) (cp (getT (env.set d (.v (.slc sz []))) x)) (ac0.eval (.tmp y)) := rd_rel (a := ac0) hA1' hchk (fun _ => .nil)
  rw [getT_set, if_neg (fun hh => hxd hh.1.symm)] at hrel
  have hV := rdV_rel (L := fun b => max (g.L b) (blockSize w b)) h.r.s hrel hz (fun b => Nat.le_max_left _ _) (fun r _ _ => Nat.le_max_right _ _)
  obtain ⟨ad, cp0, hv, _⟩ := slc_shape hV
  simp only [List.length_nil] at hv
  have r1 : (execOp ac0.eval o1).run P w = .ok (.value (.slice ad 0 cp0)) w := by
    simp only [execOp, movOf_eq q1, hv]
    rfl
  let ac1 : Act := ac0.put (some a1) (.slice ad 0 cp0)
  have v1 : ac1.eval (.tmp a1) = .slice ad 0 cp0 := by
    show ((ac0.tmps.setIfInBounds a1 _).getD a1 undef) = _
    rw [getD_put (by rw [hn0]; exact l1'), if_pos rfl]
  have r2 : (execOp ac1.eval o2).run P w = .ok (.value (.bool ad.isNone)) w := by
    have hy3 : y2 = a1 := hy2
    simp only [execOp, q2', hy3]
    refine run_v ?_
    have e1 : (eqGuard .eql t (.tmp a1) (.const (.slice none 0 0)) (ac1.eval (.tmp a1)) (ac1.eval (.const (.slice none 0 0)))).run P w = .ok () w := by rw [v1]; rfl
    rw [Sem.run_bind, e1, Result.andThen_ok, v1]
    exact Lib.run_eql_slice_nil w t e ad 0 cp0 0 0 ht
  let ac2 : Act := ac1.put (some a2) (.bool ad.isNone)
  have hA2 : RelA w g μ [] (env.set d (.v (.slc sz []))) [] st ac2.tmps := drop_put (drop_put hA1' m1) m2
  have hn2 : ac2.tmps.size = nt := by simp [ac2, ac1, ac0, Act.put, hn]
  have v2 : ac2.eval (.tmp b) = .bool ad.isNone := by
    rw [hbb]
    show ((ac1.tmps.setIfInBounds a2 _).getD a2 undef) = _
    rw [getD_put (by simpa [ac1, ac0, Act.put, hn] using l2'), if_pos rfl]
  have hd2 : ac2.defers = dfs := by simp [ac2, ac1, ac0, Act.put, h.d]
  show wpOpsIn (wideR ro) 0 P #[o1, o2] _ [0, 1] ac0 w
  refine step1 (o := o1) rfl g1 r1 ?_
  rw [d1]
  refine step1 (o := o2) rfl g2 r2 ?_
  rw [d2]
  show (Code.cond (.tmp b) _ _).wpIn (wideR ro) 0 P _ ac2 w
  refine wpIn_cond v2 ?_
  cases ad with
  | none =>
    show (Code.seq (.region i2 p2 false) .ret).wpIn (wideR ro) 0 P _ ac2 w
    refine wpIn_seq (wpIn_region (nil1_ok c2 hn2 fun e3 he3 hl3 => wpIn_ret ?_))
    have hA3 := set_put (d := e3) hμ hA2 he3 (by rw [hn2]; exact hl3) (slc0 (w' := w) (g' := g) (ad := none) (c := 0))
    rw [List.set_set] at hA3
    exact k _ w g (Ext.refl w g) ⟨hA3, by simp [Act.put, hn2], by simp [Act.put, hd2], rfl, h.st⟩
  | some ad =>
    refine wpIn_skip ?_
    show (Code.seq (.region i3 p3 false) .ret).wpIn (wideR ro) 0 P Q ac2 w
    refine wpIn_seq (wpIn_region (empty_ok (ad := ad) (c := cp0) hμ c3 hA2 hn2 hd2 h.st hx ?_ fun a' w' g' hx' hA' => wpIn_ret (k a' w' g' hx' (by rw [List.set_set] at hA'; exact hA'))))
    have ny : ∀ (tm : Array Value) (q : Nat) (v : Value), μ.contains q = false → (tm.setIfInBounds q v).getD y undef = tm.getD y undef := fun tm q v hq => by
      have hne := mu_ne hq hx
      simp only [Array.getD_eq_getD_getElem?]
      rw [Array.getElem?_setIfInBounds_ne (Ne.symm hne)]
    show (((ac0.tmps.setIfInBounds a1 _).setIfInBounds a2 _).getD y undef) = _
    rw [ny _ _ _ m2, ny _ _ _ m1]
    exact hv
end
end Go.Q
namespace Go.Q
variable [Known]
section
variable {P : Program} {w : World} {g : Gh} {μ : List Nat} {nt : Nat} {dfs : List Deferred} {env ts : List D} {st : St} {a : Act} {τ : List (Option Nat)}

theorem run_append_make (w : World) (t u e ty : TypeId) (inf : TypeInfo) (zv : Value) (kk : IntKind) (ht : P.underlying t = some (.slice e)) (hu : P.underlying u = some (.int kk)) (hi : P.info? e = some inf) (hz : inf.zero = some zv)
    (n : Int) (h0 : 0 < n) (hs : inf.size ≠ 0) (hb0 : inf.bytes ≠ 0) (hby : n * (inf.bytes : Int) ≤ (maxB : Int)) :
    ∃ C, (Builtin.append_ #[t, u] ty #[.slice none 0 0, .int .i64 n]).run P w = .ok (.slice (some ⟨w.heap.size, 0, none⟩) n.toNat (grownCap w n.toNat 0 e)) (w.drew.alloc (.cells C e)) ∧ C.size = grownCap w n.toNat 0 e * zv.cells.size := by
  have hM : (maxB : Int) = 140737488355328 := rfl
  have h1 : n * 1 ≤ n * (inf.bytes : Int) := Int.mul_le_mul_of_nonneg_left (by omega) (by omega)
  have w1 : IntKind.i64.wrap n = n := by rw [IntKind.wrap_i64]; omega
  have c1 : ¬ n < 0 := by omega
  have c2 : ¬ (281474976710656 < n * (inf.bytes : Int)) := by omega
  have c3 : ¬ (n.toNat = 0) := by omega
  have c4 : ¬ (9223372036854775807 < max n 0) := by omega
  have hnat : n.toNat * inf.bytes ≤ maxB := by
    have : ((n.toNat * inf.bytes : Nat) : Int) = n * (inf.bytes : Int) := by rw [Int.natCast_mul, Int.toNat_of_nonneg (by omega)]
    have h2 : (maxB : Nat) = 140737488355328 := rfl
    omega
  have c5 : ¬ (281474976710656 < Builtin.nextslicecap n.toNat 0 * inf.bytes) := by
    have := growslice_fits (need := n.toNat) (old := 0) (bytes := inf.bytes) (by omega) hnat
    omega
  have c6 : ¬ (n.toNat * inf.size = 0) := fun h => by rcases Nat.mul_eq_zero.1 h with h | h <;> omega
  have hge := grownCap_ge w n.toNat 0 e
  refine ⟨Builtin.zeroCells zv.cells n.toNat ++ Builtin.zeroCells zv.cells (grownCap w n.toNat 0 e - n.toNat), ?_, ?_⟩
  · simp [Builtin.append_, run_underlying ht, run_underlying hu, sizeOf, typeInfo, zeroValue, hi, hz, w1, c1, c2, c3, c4, c5, hs, Question.forced, newRow, grownCap, asInt, asIntOf, Builtin.firstCells]
    have c7 : ¬ n ≤ 0 := by omega
    simp [w1, c1, c2, c3, c4, c5, c6, c7, hs]
  · rw [Array.size_append, size_zeroCells, size_zeroCells, ← Nat.add_mul]
    congr 1; omega

def argsOf (c : Call) (b : Builtin) : Option (Tmp × TypeId) := match builtinOf c, c.args.toList, c.argTypes.toList with
  | some b', [.tmp x], [t] => if b' = b then some (x, t) else none
  | _, _, _ => none
def subOf : Op → Option (TypeId × Tmp × Tmp)
  | .slice t (.tmp x) none (some (.tmp h)) none => some (t, x, h)
  | _ => none
def app2Of (c : Call) : Option (Tmp × Tmp × TypeId × TypeId) := match builtinOf c, c.args.toList, c.argTypes.toList with
  | some .append, [.tmp x, .tmp y], [t, u] => some (x, y, t, u)
  | _, _, _ => none
def chkGrow (μ : List Nat) (nt : Nat) (P : Program) (d n sz bytes : Nat) : List Oper → Bool
  | [o1, o2, o3, o4, o5, o6, o7, o8, o9, o10] =>
    (o1.guard.isNone && o2.guard.isNone && o3.guard.isNone && o4.guard.isNone && o5.guard.isNone && o6.guard.isNone && o7.guard.isNone && o8.guard.isNone && o9.guard.isNone && o10.guard.isNone) &&
    (orF o1.dst fun a1 => orF o2.dst fun a2 => orF o3.dst fun a3 => orF o4.dst fun a4 => orF o5.dst fun a5 => orF o6.dst fun a6 => orF o7.dst fun a7 => orF o8.dst fun a8 => orF o9.dst fun a9 => orF o10.dst fun a10 =>
    orF μ[d]? fun y => orF μ[n]? fun m =>
    orF (callOf o3.op) fun c3 => orF (argsOf c3 .cap) fun q3 => orF (subOf o4.op) fun q4 => orF (callOf o6.op) fun c6 => orF (app2Of c6) fun q6 => orF (callOf o8.op) fun c8 => orF (argsOf c8 .len) fun q8 => orF (subOf o9.op) fun q9 =>
    (decide (movOf o1.op = some y) && decide (movOf o2.op = some y) && decide (q3 = (a2, q6.2.2.1)) && decide (q4 = (q6.2.2.1, a1, a3)) && decide (movOf o5.op = some m) && decide (q6.1 = a4) && decide (q6.2.1 = a5) && decide (movOf o7.op = some y) &&
      decide (q8 = (a7, q6.2.2.1)) && decide (q9 = (q6.2.2.1, a6, a8)) && decide (asgOf o10.op = some a9) && decide (a10 = y)) &&
    ([a1, a2, a3, a4, a5, a6, a7, a8, a9].all fun x => !μ.contains x && decide (x < nt)) && decide (y < nt) && decide ([a1, a2, a3, a4, a5, a6, a7, a8, a9].Nodup) &&
    (orF (uInt P q6.2.2.2) fun _ => true) && (orF (uSlc P q6.2.2.1) fun e => (orF (P.info? e) fun i => i.size == sz && i.bytes == bytes && bytes != 0 && sz != 0 && (orF (i.zero) fun zv => zv.cells.size == sz))))
  | _ => false
theorem argsOf_eq {c : Call} {b : Builtin} {x : Tmp} {t : TypeId} (h : argsOf c b = some (x, t)) : builtinOf c = some b ∧ c.args = #[.tmp x] ∧ c.argTypes = #[t] := by
  unfold argsOf at h
  split at h <;> first | (cases h; done) | skip
  rename_i h1 h2 h3
  split at h <;> cases h
  rename_i hb
  subst hb
  exact ⟨h1, by rw [← h2], by rw [← h3]⟩
theorem subOf_eq {op : Op} {t : TypeId} {x h : Tmp} (hh : subOf op = some (t, x, h)) : op = .slice t (.tmp x) none (some (.tmp h)) none := by
  unfold subOf at hh
  split at hh <;> cases hh
  rfl
theorem app2Of_eq {c : Call} {x y : Tmp} {t u : TypeId} (h : app2Of c = some (x, y, t, u)) : builtinOf c = some .append ∧ c.args = #[.tmp x, .tmp y] ∧ c.argTypes = #[t, u] := by
  unfold app2Of at h
  split at h <;> cases h
  rename_i h1 h2 h3
  exact ⟨h1, by rw [← h2], by rw [← h3]⟩
theorem ev_put {d : Nat} {v : Value} (h : d < a.tmps.size) (t : Tmp) : (a.put (some d) v).eval (.tmp t) = if t = d then v else a.eval (.tmp t) := by
  show (a.put (some d) v).tmps.getD t undef = _
  rw [put_getD]
  by_cases e : t = d
  · rw [if_pos ⟨e, h⟩, if_pos e]
  · rw [if_neg (fun hh => e hh.1), if_neg e]; rfl
theorem slice0_run (w : World) (g : Gh) {t e : TypeId} {sz : Nat} (hu : uSlc P t = some e) (hz : szT P e = some sz) (ad : Option Addr) (n c : Nat) (hnc : n ≤ c) :
    (Instr.sliceAt t (.slice ad n c) none (some (.int .i64 0)) none).run P w = .ok (.slice (if c = 0 then ad else ad.map (·.add (0 * sz))) 0 c) w := by
  have hb : bnds n none (some (.v (.int .i64 0))) = some (0, 0) := by
    have : ((0 : Int) ≤ 0 ∧ (0 : Int) ≤ (n : Int)) := ⟨by omega, by omega⟩
    simp [bnds, bndHi, bndLo, bndOf, asN]
  obtain ⟨h1, _⟩ := bnds_ok (P := P) (w := w) (g := g) true .none (.some (fun _ => .nil) _ _ (.v _ _ _ (.int _ _))) hb hnc
  exact slice_run hu hz h1
structure Inv (w : World) (g : Gh) (μ : List Nat) (nt : Nat) (dfs : List Deferred) (env : List D) (st : St) (a : Act) : Prop where
  r : RelA w g μ [] env [] st a.tmps
  n : a.tmps.size = nt
  d : a.defers = dfs
theorem one_step {ro : Option Nat} {ops : Array Oper} {o : Oper} {i : Nat} {is : List Nat} {v : Value} {w' : World} {g' : Gh} {x : Tmp} {Q : Exit → Act → World → Prop} (I : Inv w g μ nt dfs env st a) (I' : RelA w' g' μ [] env [] st a.tmps) (ho : ops[i]? = some o) (hg : o.guard = none)
    (hr : (execOp a.eval o).run P w = .ok (.value v) w') (hd : o.dst = some x) (hk : μ.contains x = false) (hl : x < nt)
    (k : ∀ b, Inv w' g' μ nt dfs env st b → (∀ t, b.eval (.tmp t) = if t = x then v else a.eval (.tmp t)) → wpOpsIn (wideR ro) 0 P ops Q is b w') : wpOpsIn (wideR ro) 0 P ops Q (i :: is) a w := by
  refine step1 ho hg hr ?_
  rw [hd]
  exact k _ ⟨drop_put I' hk, by simp [Act.put, I.n], by simp [Act.put, I.d]⟩ (ev_put (by rw [I.n]; exact hl))
theorem grow_run {ro : Option Nat} {o1 o2 o3 o4 o5 o6 o7 o8 o9 o10 : Oper} {a1 a2 a3 a4 a5 a6 a7 a8 a9 a10 m : Tmp} {c3 c6 c8 : Call} {t u e : TypeId} {d n sz bytes z : Nat} {N : Int} {inf : TypeInfo} {zv : Value} {kk : IntKind} {Q : Exit → Act → World → Prop} (hμ : μ.Nodup)
    (g1 : o1.guard = none) (g2 : o2.guard = none) (g3 : o3.guard = none) (g4 : o4.guard = none) (g5 : o5.guard = none) (g6 : o6.guard = none) (g7 : o7.guard = none) (g8 : o8.guard = none) (g9 : o9.guard = none) (g10 : o10.guard = none)
    (d1 : o1.dst = some a1) (d2 : o2.dst = some a2) (d3 : o3.dst = some a3) (d4 : o4.dst = some a4) (d5 : o5.dst = some a5) (d6 : o6.dst = some a6) (d7 : o7.dst = some a7) (d8 : o8.dst = some a8) (d9 : o9.dst = some a9) (d10 : o10.dst = some a10)
    (hy : μ[d]? = some a10) (hm : μ[n]? = some m) (p3 : callOf o3.op = some c3) (p4 : subOf o4.op = some (t, a1, a3)) (p6 : callOf o6.op = some c6) (p8 : callOf o8.op = some c8) (p9 : subOf o9.op = some (t, a6, a8))
    (i1 : movOf o1.op = some a10) (i2 : movOf o2.op = some a10) (i5 : movOf o5.op = some m) (i8 : movOf o7.op = some a10) (i11 : asgOf o10.op = some a9)
    (k1 : μ.contains a1 = false) (l1 : a1 < nt) (k2 : μ.contains a2 = false) (l2 : a2 < nt) (k3 : μ.contains a3 = false) (l3 : a3 < nt) (k4 : μ.contains a4 = false) (l4 : a4 < nt) (k5 : μ.contains a5 = false) (l5 : a5 < nt)
    (k6 : μ.contains a6 = false) (l6 : a6 < nt) (k7 : μ.contains a7 = false) (l7 : a7 < nt) (k8 : μ.contains a8 = false) (l8 : a8 < nt) (k9 : μ.contains a9 = false) (l9 : a9 < nt) (hyn : a10 < nt)
    (hnd : [a1, a2, a3, a4, a5, a6, a7, a8, a9].Nodup) (hu : uInt P u = some kk) (hsl : uSlc P t = some e) (hinf : P.info? e = some inf) (z1 : inf.size = sz) (z2 : inf.bytes = bytes) (z3 : ¬ bytes = 0) (z4 : ¬ sz = 0) (z6 : inf.zero = some zv) (z7 : zv.cells.size = sz)
    (hszT : szT P e = some sz) (b3 : builtinOf c3 = some .cap) (b3a : c3.args = #[.tmp a2]) (b3t : c3.argTypes = #[t]) (b6 : builtinOf c6 = some .append) (b6a : c6.args = #[.tmp a4, .tmp a5]) (b6t : c6.argTypes = #[t, u])
    (b8 : builtinOf c8 = some .len) (b8a : c8.args = #[.tmp a7]) (b8t : c8.argTypes = #[t]) (hd : getT env d = .nils z) (hN : getT env n = .v (.int .i64 N)) (hpos : 0 < N) (hby : N * (bytes : Int) ≤ (maxB : Int)) (h : At w g μ nt dfs [] env [] st a)
    (k : ∀ a' w' g', Ext w w' g g' → At w' g' μ nt dfs [] (env.set d (.lin sz [])) [] st a' → Q .normal a' w') : wpOpsIn (wideR ro) 0 P #[o1, o2, o3, o4, o5, o6, o7, o8, o9, o10] Q [0, 1, 2, 3, 4, 5, 6, 7, 8, 9] a w := by
  have hA := h.r
  have hn : a.tmps.size = nt := h.n
  have ey := hA.e d _ hy
  rw [hd] at ey
  have em := hA.e n _ hm
  rw [hN] at em
  have vy : a.eval (.tmp a10) = .slice none 0 0 := by
    show a.tmps.getD a10 undef = _
    generalize a.tmps.getD a10 undef = v at ey
    cases ey; rfl
  have vm : a.eval (.tmp m) = .int .i64 N := intOf em
  have ny : ∀ x, μ.contains x = false → a10 ≠ x := fun x hx => mu_ne hx hy
  have nm : ∀ x, μ.contains x = false → m ≠ x := fun x hx => mu_ne hx hm
  simp only [List.nodup_cons, List.mem_cons, not_or, List.not_mem_nil, not_false_eq_true, List.nodup_nil, and_true] at hnd
  obtain ⟨⟨n12, n13, n14, n15, n16, n17, n18, n19⟩, ⟨n23, n24, n25, n26, n27, n28, n29⟩, ⟨n34, n35, n36, n37, n38, n39⟩, ⟨n45, n46, n47, n48, n49⟩, ⟨n56, n57, n58, n59⟩, ⟨n67, n68, n69⟩, ⟨n78, n79⟩, n89⟩ := hnd
  obtain ⟨C, happ, hCs⟩ := run_append_make w t u e o6.type inf zv kk (of_uSlc P hsl) (of_uInt P hu) hinf z6 N hpos (by rw [z1]; exact z4) (by rw [z2]; exact z3) (by rw [z2]; exact hby)
  rw [z7] at hCs
  have hge := grownCap_ge w N.toNat 0 e
  generalize hcap : grownCap w N.toNat 0 e = cap at happ hCs hge
  have hcap0 : ¬ cap = 0 := by omega
  have hG := Gh.grow_new (o := .cells C e) (L := 0) (p := some (.env d)) hA.s (by simp) 1
  have hW : (w.drewN 1).alloc (.cells C e) = w.drew.alloc (.cells C e) := rfl
  rw [hW] at hG
  have hcells : ∀ j, j < cap * sz → ((w.drew.alloc (.cells C e)).cell? ⟨w.heap.size, j, none⟩).isSome = true ∧ (w.drew.alloc (.cells C e)).frozen? ⟨w.heap.size, j, none⟩ = false := fun j hj => by
    show ((w.drew.alloc (.cells C e)).cell? ⟨w.drew.heap.size, j, none⟩).isSome = true ∧ (w.drew.alloc (.cells C e)).frozen? ⟨w.drew.heap.size, j, none⟩ = false
    rw [World.cell?_alloc_new, World.frozen?_alloc_new]
    exact ⟨by rw [Array.getElem?_eq_getElem (by rw [hCs]; exact hj)]; rfl, rfl⟩
  generalize w.drew.alloc (.cells C e) = W at happ hG hcells
  have hx1 := hG.ext hA.s
  have I0 : Inv w g μ nt dfs env st a := ⟨hA, hn, h.d⟩
  have r1 : (execOp a.eval o1).run P w = .ok (.value (.slice none 0 0)) w := by simp only [execOp, movOf_eq i1, vy]; rfl
  refine one_step I0 I0.r (o := o1) rfl g1 r1 d1 k1 l1 fun ac1 I1 ev1 => ?_
  have r2 : (execOp ac1.eval o2).run P w = .ok (.value (.slice none 0 0)) w := by simp only [execOp, movOf_eq i2]; rw [show ac1.eval (.tmp a10) = .slice none 0 0 from by rw [ev1, if_neg (ny _ k1), vy]]; rfl
  refine one_step I1 I1.r (o := o2) rfl g2 r2 d2 k2 l2 fun ac2 I2 ev2 => ?_
  have r3 : (execOp ac2.eval o3).run P w = .ok (.value (.int .i64 0)) w := by
    simp only [execOp, callOf_eq p3, resolve, builtinOf_eq b3, b3a, b3t]
    simp only [Sem.run_bind, Sem.run_pure, Result.andThen_ok, invoke, builtin, List.map_toArray, List.map_cons, List.map_nil]
    rw [show ac2.eval (.tmp a2) = .slice none 0 0 from by rw [ev2, if_pos rfl]]
    rw [cap_ok (w := w) (g := g) (x := .nils 0) o3.type (.nils (fun _ => .nil) _) rfl hsl]
    rfl
  refine one_step I2 I2.r (o := o3) rfl g3 r3 d3 k3 l3 fun ac3 I3 ev3 => ?_
  have r4 : (execOp ac3.eval o4).run P w = .ok (.value (.slice none 0 0)) w := by
    simp only [execOp, subOf_eq p4, Option.map_some, Option.map_none]
    rw [show ac3.eval (.tmp a1) = .slice none 0 0 from by rw [ev3, if_neg n13, ev2, if_neg n12, ev1, if_pos rfl], show ac3.eval (.tmp a3) = .int .i64 0 from by rw [ev3, if_pos rfl]]
    exact run_v (slice0_run w g hsl hszT none 0 0 (Nat.le_refl _))
  refine one_step I3 I3.r (o := o4) rfl g4 r4 d4 k4 l4 fun ac4 I4 ev4 => ?_
  have r5 : (execOp ac4.eval o5).run P w = .ok (.value (.int .i64 N)) w := by simp only [execOp, movOf_eq i5]; rw [show ac4.eval (.tmp m) = .int .i64 N from by rw [ev4, if_neg (nm _ k4), ev3, if_neg (nm _ k3), ev2, if_neg (nm _ k2), ev1, if_neg (nm _ k1), vm]]; rfl
  refine one_step I4 I4.r (o := o5) rfl g5 r5 d5 k5 l5 fun ac5 I5 ev5 => ?_
  have r6 : (execOp ac5.eval o6).run P w = .ok (.value (.slice (some ⟨w.heap.size, 0, none⟩) N.toNat cap)) W := by
    simp only [execOp, callOf_eq p6, resolve, builtinOf_eq b6, b6a, b6t]
    simp only [Sem.run_bind, Sem.run_pure, Result.andThen_ok, invoke, builtin, List.map_toArray, List.map_cons, List.map_nil]
    rw [show ac5.eval (.tmp a4) = .slice none 0 0 from by rw [ev5, if_neg n45, ev4, if_pos rfl], show ac5.eval (.tmp a5) = .int .i64 N from by rw [ev5, if_pos rfl], happ]
    rfl
  refine one_step I5 (hG.relA I5.r (fun r => Iff.rfl)) (o := o6) rfl g6 r6 d6 k6 l6 fun ac6 I6 ev6 => ?_
  have r7 : (execOp ac6.eval o7).run P W = .ok (.value (.slice none 0 0)) W := by simp only [execOp, movOf_eq i8]; rw [show ac6.eval (.tmp a10) = .slice none 0 0 from by rw [ev6, if_neg (ny _ k6), ev5, if_neg (ny _ k5), ev4, if_neg (ny _ k4), ev3, if_neg (ny _ k3), ev2, if_neg (ny _ k2), ev1, if_neg (ny _ k1), vy]]; rfl
  refine one_step I6 I6.r (o := o7) rfl g7 r7 d7 k7 l7 fun ac7 I7 ev7 => ?_
  have r8 : (execOp ac7.eval o8).run P W = .ok (.value (.int .i64 0)) W := by
    simp only [execOp, callOf_eq p8, resolve, builtinOf_eq b8, b8a, b8t]
    simp only [Sem.run_bind, Sem.run_pure, Result.andThen_ok, invoke, builtin, List.map_toArray, List.map_cons, List.map_nil]
    rw [show ac7.eval (.tmp a7) = .slice none 0 0 from by rw [ev7, if_pos rfl]]
    rw [len_ok (w := W) (g := g) (x := .nils 0) o8.type (.nils (fun _ => .nil) _) rfl hsl]
    rfl
  refine one_step I7 I7.r (o := o8) rfl g8 r8 d8 k8 l8 fun ac8 I8 ev8 => ?_
  have r9 : (execOp ac8.eval o9).run P W = .ok (.value (.slice (some ⟨w.heap.size, 0 + 0 * sz, none⟩) 0 cap)) W := by
    simp only [execOp, subOf_eq p9, Option.map_some, Option.map_none]
    rw [show ac8.eval (.tmp a6) = .slice (some ⟨w.heap.size, 0, none⟩) N.toNat cap from by rw [ev8, if_neg n68, ev7, if_neg n67, ev6, if_pos rfl], show ac8.eval (.tmp a8) = .int .i64 0 from by rw [ev8, if_pos rfl]]
    have := run_v (slice0_run (P := P) W g hsl hszT (some ⟨w.heap.size, 0, none⟩) N.toNat cap hge)
    rw [if_neg hcap0, Option.map_some, add_at] at this
    exact this
  refine one_step I8 I8.r (o := o9) rfl g9 r9 d9 k9 l9 fun ac9 I9 ev9 => ?_
  have r10 : (execOp ac9.eval o10).run P W = .ok (.value (.slice (some ⟨w.heap.size, 0 + 0 * sz, none⟩) 0 cap)) W := by simp only [execOp, asgOf_eq i11]; rw [show ac9.eval (.tmp a9) = .slice (some ⟨w.heap.size, 0 + 0 * sz, none⟩) 0 cap from by rw [ev9, if_pos rfl]]; rfl
  have hlin : RelD W (g.new w.heap.size 0 (some (.env d))) (fun _ => .env d) (.lin sz []) (.slice (some ⟨w.heap.size, 0 + 0 * sz, none⟩) 0 cap) := by
    refine .lin _ _ _ _ (.slc0 _ _ _) (.inr ⟨w.heap.size, 0 + 0 * sz, rfl, by simp [Gh.new], by simp [Gh.new], Nat.zero_le _, fun j hj => hcells j (by omega)⟩)
  have hE := set_put (d := a10) hμ I9.r hy (by rw [I9.n]; exact hyn) hlin
  refine step1 (o := o10) rfl g10 r10 ?_
  rw [d10]
  exact k _ W _ hx1 ⟨hE, by simp [Act.put, I9.n], by simp [Act.put, I9.d], rfl, h.st⟩
theorem grow_ok {ro : Option Nat} {d n sz bytes : Nat} {ops : Array Oper} {r : Ex × List D × St} {Q : Exit → Act → World → Prop} (hμ : μ.Nodup) (hc : chkGrow μ nt P d n sz bytes ops.toList = true)
    (he : growD d sz bytes env st (getT env d) (getT env n) = some r) (h : At w g μ nt dfs [] env [] st a) :
    r = (.normal, env.set d (.lin sz []), st) ∧ ((∀ a' w' g', Ext w w' g g' → At w' g' μ nt dfs [] (env.set d (.lin sz [])) [] st a' → Q .normal a' w') → wpOpsIn (wideR ro) 0 P ops Q (List.range ops.size) a w) := by
  obtain ⟨o1, o2, o3, o4, o5, o6, o7, o8, o9, o10, hops⟩ : ∃ o1 o2 o3 o4 o5 o6 o7 o8 o9 o10, ops.toList = [o1, o2, o3, o4, o5, o6, o7, o8, o9, o10] := by
    generalize ops.toList = l at hc
    unfold chkGrow at hc
    split at hc <;> first | (cases hc; done) | exact ⟨_, _, _, _, _, _, _, _, _, _, rfl⟩
  have hopsA : ops = #[o1, o2, o3, o4, o5, o6, o7, o8, o9, o10] := by
    have := congrArg List.toArray hops
    simpa using this
  subst hopsA
  simp only [chkGrow, Bool.and_eq_true, Option.isNone_iff_eq_none] at hc
  obtain ⟨⟨⟨⟨⟨⟨⟨⟨⟨⟨g1, g2⟩, g3⟩, g4⟩, g5⟩, g6⟩, g7⟩, g8⟩, g9⟩, g10⟩, hc⟩ := hc
  obtain ⟨a1, d1, hc⟩ := of_orF hc
  obtain ⟨a2, d2, hc⟩ := of_orF hc
  obtain ⟨a3, d3, hc⟩ := of_orF hc
  obtain ⟨a4, d4, hc⟩ := of_orF hc
  obtain ⟨a5, d5, hc⟩ := of_orF hc
  obtain ⟨a6, d6, hc⟩ := of_orF hc
  obtain ⟨a7, d7, hc⟩ := of_orF hc
  obtain ⟨a8, d8, hc⟩ := of_orF hc
  obtain ⟨a9, d9, hc⟩ := of_orF hc
  obtain ⟨a10, d10, hc⟩ := of_orF hc
  obtain ⟨y, hy, hc⟩ := of_orF hc
  obtain ⟨m, hm, hc⟩ := of_orF hc
  obtain ⟨c3, p3, hc⟩ := of_orF hc
  obtain ⟨q3, p3', hc⟩ := of_orF hc
  obtain ⟨q4, p4, hc⟩ := of_orF hc
  obtain ⟨c6, p6, hc⟩ := of_orF hc
  obtain ⟨⟨x6, y6, t, u⟩, p6', hc⟩ := of_orF hc
  obtain ⟨c8, p8, hc⟩ := of_orF hc
  obtain ⟨q8, p8', hc⟩ := of_orF hc
  obtain ⟨q9, p9, hc⟩ := of_orF hc
  simp only [Bool.and_eq_true, decide_eq_true_eq, List.all_cons, List.all_nil, Bool.not_eq_true', and_true] at hc
  obtain ⟨⟨⟨⟨⟨⟨⟨⟨⟨⟨⟨⟨⟨⟨⟨⟨i1, i2⟩, i3⟩, i4⟩, i5⟩, i6⟩, i7⟩, i8⟩, i9⟩, i10⟩, i11⟩, i12⟩, hal⟩, hyn⟩, hnd⟩, hu⟩, hsl⟩ := hc
  obtain ⟨⟨k1, l1⟩, ⟨k2, l2⟩, ⟨k3, l3⟩, ⟨k4, l4⟩, ⟨k5, l5⟩, ⟨k6, l6⟩, ⟨k7, l7⟩, ⟨k8, l8⟩, ⟨k9, l9⟩⟩ := hal
  obtain ⟨kk, hu⟩ : ∃ kk, uInt P u = some kk := by
    cases hh : uInt P u with
    | none => rw [hh] at hu; cases hu
    | some kk => exact ⟨kk, rfl⟩
  obtain ⟨e, hsl, h2⟩ := of_orF hsl
  obtain ⟨inf, hinf, h3⟩ := of_orF h2
  simp only [Bool.and_eq_true, beq_iff_eq, bne_iff_ne, ne_eq] at h3
  obtain ⟨⟨⟨⟨z1, z2⟩, z3⟩, z4⟩, z5⟩ := h3
  obtain ⟨zv, z6, z7⟩ := of_orF z5
  have z7 : zv.cells.size = sz := by simpa using z7
  have hszT : szT P e = some sz := by simp [szT, hinf, z1]
  have i6 := i6.symm
  have i7 := i7.symm
  subst i3 i4 i6 i7 i9 i10 i12
  obtain ⟨b3, b3a, b3t⟩ := argsOf_eq p3'
  obtain ⟨b6, b6a, b6t⟩ := app2Of_eq p6'
  obtain ⟨b8, b8a, b8t⟩ := argsOf_eq p8'
  unfold growD at he
  split at he <;> first | (cases he; done) | skip
  rename_i z N hd hN
  split at he <;> cases he
  rename_i hcond
  obtain ⟨hpos, hby⟩ := hcond
  refine ⟨rfl, fun k => ?_⟩
  exact grow_run hμ g1 g2 g3 g4 g5 g6 g7 g8 g9 g10 d1 d2 d3 d4 d5 d6 d7 d8 d9 d10 hy hm p3 p4 p6 p8 p9 i1 i2 i5 i8 i11 k1 l1 k2 l2 k3 l3 k4 l4 k5 l5 k6 l6 k7 l7 k8 l8 k9 l9 hyn hnd hu hsl hinf z1 z2 z3 z4 z6 z7 hszT b3 b3a b3t b6 b6a b6t b8 b8a b8t hd hN hpos hby h k
end
end Go.Q
namespace Go.Q
open Go.RowKit
variable [Known]
section
variable {P : Program} {w W : World} {g : Gh} {μ : List Nat} {nt : Nat} {env : List D} {st : St} {a : Act}

structure UpW (w w' : World) (L : Nat → Nat) : Prop where
  cell : ∀ b o v, o < L b → w.cell? ⟨b, o, none⟩ = some v → w'.cell? ⟨b, o, none⟩ = some v
theorem RelV.up {w w' : World} {L : Nat → Nat} (hu : UpW w w' L) {x : V} {v : Value} (h : RelV w L x v) : RelV w' L x v := by
  induction h with
  | bool b => exact .bool b
  | int k n => exact .int k n
  | str s => exact .str s
  | slc0 sz a c => exact .slc0 sz a c
  | slc sz xs b o c f h1 h2 h3 h4 h5 h6 ih =>
    exact .slc sz xs b o c f h1 h2 h3 (fun i j hi hj => hu.cell b _ _ (h3 i j hi hj) (h4 i j hi hj)) h5 ih
  | agg xs cs hl hk hr ih => exact .agg xs cs hl hk ih
  | nilp => exact .nilp
  | nili => exact .nili
  | nilf => exact .nilf
  | nilm => exact .nilm
  | iface t x v h ih => exact .iface t x v ih
  | fn f => exact .fn f
  | pt xs b o f h1 h2 h3 h4 ih =>
    exact .pt xs b o f h1 (fun j hj => hu.cell b _ _ (h1 j hj) (h2 j hj)) h3 ih
theorem RelD.up {w w' : World} {g : Gh} {pl : Nat → Pl} {d : D} {v : Value} (hu : UpW w w' g.L) (h : RelD w g pl d v)
    (hc : ∀ b o, (w.cell? ⟨b, o, none⟩).isSome = true → (w'.cell? ⟨b, o, none⟩).isSome = true ∧ (w.frozen? ⟨b, o, none⟩ = false → w'.frozen? ⟨b, o, none⟩ = false)) : RelD w' g pl d v := by
  induction h with
  | v pl x v h => exact .v pl x v (h.up hu)
  | nils pl z => exact .nils pl z
  | lin pl z xs v h hs =>
    refine .lin pl z xs v (h.up hu) ?_
    cases v <;> first | exact hs.elim | skip
    rename_i a n c
    rcases hs with hs | ⟨b, o, h1, h2, h3, h4, h5⟩
    · exact .inl hs
    · exact .inr ⟨b, o, h1, h2, h3, h4, fun j hj => ⟨(hc _ _ (h5 j hj).1).1, (hc _ _ (h5 j hj).1).2 (h5 j hj).2⟩⟩
  | own pl r z off len x c ad hl hcc hz ha => exact .own pl r z off len x c ad hl hcc hz ha
  | arr pl r i off len c ad hl hcc ha => exact .arr pl r i off len c ad hl hcc ha
  | ptr pl r i off hl => exact .ptr pl r i off hl
  | va pl cs off b o f h1 h2 h3 h4 => exact .va pl cs off b o f h1 (fun j hj => hu.cell b _ _ (h1 j hj) (h2 j hj)) h3 (fun j hj => (h4 j hj).up hu)
  | map pl r hl => exact .map pl r hl
  | clo pl f fs cs vf vc h1 h2 hf hcs ih1 ih2 => exact .clo pl f fs cs vf vc h1 h2 ih1 ih2
  | ifc pl t d v h ih => exact .ifc pl t d v ih
  | agg pl ds cs hl hk' hr' ih => exact .agg pl ds cs hl hk' ih
  | tup pl ds cs hl hr' ih => exact .tup pl ds cs hl ih
  | undef pl v => exact .undef pl v
def isCel (W : World) (b : Nat) : Prop := ∃ o, W.heap[b]? = some o ∧ o.isCells = true
theorem isCel_of {b o : Nat} (h : (W.cell? ⟨b, o, none⟩).isSome = true) : isCel W b := by
  unfold World.cell? at h
  simp only at h
  cases hb : W.heap[b]? with
  | none => rw [hb] at h; cases h
  | some ob =>
    rw [hb] at h
    cases ob <;> first | exact ⟨_, hb, rfl⟩ | (simp at h; done)
noncomputable def Gh.cut (g : Gh) (W : World) : Gh :=
  open Classical in { g with M := fun b => g.M b ∧ isCel W b, own := fun b => if isCel W b then g.own b else none }
theorem RelD.cut {pl : Nat → Pl} {d : D} {v : Value} (h : RelD W g pl d v) (hn : ∀ b, g.own b ≠ some .nil) : (∀ k, pl k = .nil) ∨ (d.isCell = true ∧ nz d = true) → RelD W (g.cut W) pl d v := by
  have nl : ∀ {n c : Nat} {p : Pl} {ad : Option Addr} {z : Nat}, Spare W g p z (.slice ad n c) → p = .nil ∨ z ≠ 0 → Spare W (g.cut W) p z (.slice ad n c) := fun {n c p ad z} hs hp => by
    rcases hs with hs | ⟨b, o, h1, h2, h3, h4, h5⟩
    · exact .inl hs
    · rcases hp with hp | hp
      · subst hp; exact absurd h2 (hn b)
      · by_cases e : n = c
        · exact .inl e
        · have hpos : 0 < c * z := Nat.mul_pos (by omega) (by omega)
          have hc : isCel W b := isCel_of (o := 0) (h5 0 (by omega)).1
          exact .inr ⟨b, o, h1, by simp only [Gh.cut]; rw [if_pos hc]; exact h2, h3, h4, h5⟩
  induction h with
  | v pl x v h => exact fun _ => .v pl x v h
  | nils pl z => exact fun _ => .nils pl z
  | lin pl z xs v h hs =>
    intro hp
    refine .lin pl z xs v h ?_
    cases v <;> first | exact hs.elim | skip
    exact nl hs (hp.imp (fun h => h 0) (fun h => by simpa [nz] using h.2))
  | own pl r z off len x c ad hl hcc hz ha => exact fun _ => .own pl r z off len x c ad hl hcc hz ha
  | arr pl r i off len c ad hl hcc ha => exact fun _ => .arr pl r i off len c ad hl hcc ha
  | ptr pl r i off hl => exact fun _ => .ptr (g := g.cut W) pl r i off hl
  | va pl cs off b o f h1 h2 h3 h4 => exact fun _ => .va pl cs off b o f h1 h2 h3 h4
  | map pl r hl => exact fun _ => .map (g := g.cut W) pl r hl
  | clo pl f fs cs vf vc h1 h2 hf hcs ih1 ih2 => exact fun _ => .clo pl f fs cs vf vc h1 h2 (fun i hi => ih1 i hi (.inl fun _ => rfl)) (fun i hi => ih2 i hi (.inl fun _ => rfl))
  | ifc pl t d v h ih => exact fun _ => .ifc pl t d v (ih (.inl fun _ => rfl))
  | agg pl ds cs hl hk' hr' ih =>
    intro hp
    rcases hp with hp | hp
    · exact .agg pl ds cs hl hk' fun i hi => ih i hi (.inl fun _ => hp i)
    · simp [D.isCell] at hp
  | tup pl ds cs hl hr' ih =>
    intro hp
    rcases hp with hp | hp
    · exact .tup pl ds cs hl fun i hi => ih i hi (.inl fun _ => hp i)
    · simp [D.isCell] at hp
  | undef pl v => exact fun _ => .undef pl v
theorem solid_at {r : Ref} {bl : Blk} : ∀ {st : St}, solid st = true → getB st r = some bl → solidB bl = true
  | [], h, hb => by simp [getB] at hb
  | fr :: st, h, hb => by
    simp only [solid, List.all_cons, Bool.and_eq_true] at h
    simp only [getB] at hb
    split at hb
    · exact List.all_eq_true.1 h.1 bl (List.mem_of_getElem? hb)
    · exact solid_at h.2 hb
theorem solidB_row {bl : Blk} (h : solidB bl = true) : ∃ xs, bl = .row xs ∧ xs ≠ [] ∧ ∀ d ∈ xs, cellsOf d ≠ [] ∧ ∀ c ∈ cellsOf d, nz c = true := by
  cases bl with
  | dead => simp [solidB] at h
  | it s pos => simp [solidB] at h
  | mp es => simp [solidB] at h
  | row xs =>
    simp only [solidB, Bool.and_eq_true, Bool.not_eq_true', List.isEmpty_eq_false_iff, List.all_eq_true] at h
    exact ⟨xs, rfl, h.1, fun d hd => ⟨(h.2 d hd).1, (h.2 d hd).2⟩⟩
theorem RelS.cut (h : RelS W g st) (hs : solid st = true) : RelS W (g.cut W) st := by
  have cell0 : ∀ r bl, getB st r = some bl → isCel W (g.be r) := fun r bl hb => by
    obtain ⟨xs, rfl, h1, h2⟩ := solidB_row (solid_at hs hb)
    have hB := h.blk r _ hb
    simp only [RelB] at hB
    have hpos : 0 < xs.length := List.length_pos_iff.2 h1
    obtain ⟨_, h3⟩ := hB.2 0 hpos
    have hpos2 : 0 < (cellsOf xs[0]).length := List.length_pos_iff.2 (h2 _ (List.getElem_mem hpos)).1
    obtain ⟨_, _, v, h4, _⟩ := h3 0 hpos2
    exact isCel_of (o := 0 * g.sz r + 0) (by rw [h4]; rfl)
  refine ⟨h.live, fun r bl hb => ?_, fun r hr => ?_, h.inj, fun b p hp => ?_, fun b hp => ?_, fun b hb => ?_, ⟨h.gl.1, fun p hp => ⟨fun hm => (h.gl.2 p hp).1 hm.1, (h.gl.2 p hp).2⟩⟩⟩
  · obtain ⟨xs, rfl, h1, h2⟩ := solidB_row (solid_at hs hb)
    have hB := h.blk r _ hb
    simp only [RelB] at hB ⊢
    refine ⟨hB.1, fun i hi => ?_⟩
    obtain ⟨h3, h4⟩ := hB.2 i hi
    refine ⟨h3, fun j hj => ?_⟩
    obtain ⟨h5, h6, v, h7, h8, h9⟩ := h4 j hj
    exact ⟨h5, h6, v, h7, h8, h9.cut h.nil (.inr ⟨h5, (h2 _ (List.getElem_mem hi)).2 _ (List.getElem_mem hj)⟩)⟩
  · obtain ⟨h1, h2, h3, h4⟩ := h.be r hr
    obtain ⟨bl, hb⟩ := (h.live r).1 hr
    refine ⟨⟨h1, cell0 r bl hb⟩, h2, ?_, h4⟩
    simp only [Gh.cut]
    split
    · exact h3
    · rfl
  · simp only [Gh.cut] at hp
    split at hp <;> first | (cases hp; done) | skip
    rename_i hc
    exact ⟨⟨(h.own b p hp).1, hc⟩, (h.own b p hp).2⟩
  · simp only [Gh.cut] at hp
    split at hp <;> first | (cases hp; done) | skip
    exact h.nil b hp
  · exact ⟨(h.fresh b hb).1, fun hm => (h.fresh b hb).2 hm.1⟩
theorem Ext.cut {w W : World} {g g' : Gh} (h : Ext w W g g') : Ext w W g (g'.cut W) := ⟨h.os, h.tape, h.output, h.size, h.cell, h.L, fun b hb hm => by
  obtain ⟨h1, h2, h3⟩ := h.old b hb hm
  exact ⟨h1, h2, fun hh => h3 hh.1⟩, h.refs⟩
theorem Ext.ofCut {w W : World} {g g' : Gh} (h : Ext w W (g.cut w) g') : Ext w W g g' := ⟨h.os, h.tape, h.output, h.size, h.cell, h.L, fun b hb hm => h.old b hb (fun hh => hm hh.1), h.refs⟩

structure Turn (N : Nat) (A B : World) : Prop where
  os : B.os = A.os
  tape : B.tape = A.tape
  output : B.output = A.output
  size : A.heap.size ≤ B.heap.size
  block : ∀ b, b < A.heap.size → B.heap[b]? = A.heap[b]? ∨ (N ≤ b ∧ ∃ o, A.heap[b]? = some o ∧ o.isCells = false)
theorem Turn.of {A B : World} {row : Option Nat} {N : Nat} (h : A.grownBy B row) (hr : ∀ r, row = some r → N ≤ r ∧ ∃ o : Obj, A.heap[r]? = some o ∧ o.isCells = false) : Turn N A B :=
  ⟨h.os, h.tape, h.output, h.size, fun b hb => by
    by_cases e : some b = row
    · exact .inr (hr b e.symm)
    · exact .inl (h.block b hb e)⟩
theorem Turn.cell {N : Nat} {A B : World} (h : Turn N A B) {b o : Nat} (hc : (A.cell? ⟨b, o, none⟩).isSome = true) : B.cell? ⟨b, o, none⟩ = A.cell? ⟨b, o, none⟩ ∧ B.frozen? ⟨b, o, none⟩ = A.frozen? ⟨b, o, none⟩ := by
  obtain ⟨ob, h1, h2⟩ := isCel_of hc
  rcases h.block b (Array.getElem?_eq_some_iff.1 h1).1 with h3 | ⟨_, ob', h4, h5⟩
  · exact cell_heap h3 o
  · rw [h1] at h4; cases h4; rw [h2] at h5; cases h5
theorem Turn.upL {N : Nat} {A B : World} (h : Turn N A B) (L : Nat → Nat) : UpW A B L := ⟨fun b o v _ hc => by rw [(h.cell (by rw [hc]; rfl)).1]; exact hc⟩
theorem RelD.turn {N : Nat} {A B : World} (h : Turn N A B) {g : Gh} {pl : Nat → Pl} {d : D} {v : Value} (hd : RelD A g pl d v) : RelD B g pl d v :=
  hd.up (h.upL _) fun b o hc => by
    obtain ⟨h1, h2⟩ := h.cell hc
    rw [h1, h2]; exact ⟨hc, id⟩
theorem RelS.turn {N : Nat} {A B : World} {g : Gh} {st : St} (h : Turn N A B) (hS : RelS A g st) (hs : solid st = true) (hb : ∀ p ∈ Known.bl, p.1 < N) : RelS B g st := by
  refine ⟨hS.live, fun r bl hbl => ?_, fun r hr => ?_, hS.inj, fun b p hp => ?_, hS.nil, fun b hb => hS.fresh b (Nat.le_trans h.size hb), ⟨fun p hp => ?_, fun p hp => ?_⟩⟩
  · obtain ⟨xs, rfl, h1, h2⟩ := solidB_row (solid_at hs hbl)
    have hB := hS.blk r _ hbl
    simp only [RelB] at hB ⊢
    refine ⟨⟨hB.1.1, fun j hj => by
      obtain ⟨c1, c2⟩ := h.cell (b := g.be r) (o := j) (hB.1.2 j hj).1
      rw [c1, c2]; exact hB.1.2 j hj⟩, fun i hi => ?_⟩
    obtain ⟨h3, h4⟩ := hB.2 i hi
    refine ⟨h3, fun j hj => ?_⟩
    obtain ⟨h5, h6, v, h7, h8, h9⟩ := h4 j hj
    obtain ⟨c1, c2⟩ := h.cell (b := g.be r) (o := i * g.sz r + j) (by rw [h7]; rfl)
    exact ⟨h5, h6, v, c1.trans h7, c2.trans h8, h9.turn h⟩
  · obtain ⟨h1, h2, h3, h4⟩ := hS.be r hr
    exact ⟨h1, h2, h3, Nat.lt_of_lt_of_le h4 h.size⟩
  · exact ⟨(hS.own b p hp).1, Nat.lt_of_lt_of_le (hS.own b p hp).2 h.size⟩
  · obtain ⟨h1, h2⟩ := hS.gl.1 p hp
    exact ⟨h1, (h.cell (by rw [h2]; rfl)).1.trans h2⟩
  · obtain ⟨h1, h2, h3⟩ := hS.gl.2 p hp
    refine ⟨h1, Nat.lt_of_lt_of_le h2 h.size, ?_⟩
    rcases h.block _ h2 with h4 | ⟨h4, _⟩
    · exact h4.trans h3
    · have := hb p hp; omega
structure TurnD (N : Nat) (A B : World) : Prop where
  os : B.os = A.os
  tape : B.tape = A.tape
  output : B.output = A.output
  size : A.heap.size ≤ B.heap.size
  block : ∀ b, b < A.heap.size → B.heap[b]? = A.heap[b]? ∨ (N ≤ b ∧ ∃ x, A.heap[b]? = some (.deferred x))
theorem TurnD.refl (N : Nat) (A : World) : TurnD N A A := ⟨rfl, rfl, rfl, Nat.le_refl _, fun _ _ => .inl rfl⟩
theorem TurnD.turn {N : Nat} {A B : World} (h : TurnD N A B) : Turn N A B := ⟨h.os, h.tape, h.output, h.size, fun b hb => (h.block b hb).imp id fun ⟨h1, x, h2⟩ => ⟨h1, _, h2, rfl⟩⟩
theorem RelS.turnD {N : Nat} {A B : World} {g : Gh} {st : St} (h : TurnD N A B) (hS : RelS A g st) (hb : ∀ p ∈ Known.bl, p.1 < N) : RelS B g st := by
  refine ⟨hS.live, fun r bl hbl => ?_, fun r hr => ?_, hS.inj, fun b p hp => ?_, hS.nil, fun b hb => hS.fresh b (Nat.le_trans h.size hb), ⟨fun p hp => ?_, fun p hp => ?_⟩⟩
  · have hB := hS.blk r _ hbl
    cases bl with
    | dead => trivial
    | it s pos =>
      have hbe := (hS.be r ((hS.live r).2 ⟨_, hbl⟩)).2.2.2
      refine ⟨?_, hB.2⟩
      rcases h.block _ hbe with h4 | ⟨_, x, h4⟩
      · exact h4.trans hB.1
      · have := hB.1; rw [h4] at this; cases this
    | mp es =>
      obtain ⟨arr, clock, h1, h2, h3⟩ := hB
      have hbe := (hS.be r ((hS.live r).2 ⟨_, hbl⟩)).2.2.2
      refine ⟨arr, clock, ?_, h2, fun i hi hi' => ?_⟩
      · rcases h.block _ hbe with h4 | ⟨_, x, h4⟩
        · exact h4.trans h1
        · rw [h1] at h4; cases h4
      · obtain ⟨h5, h6, h7⟩ := h3 i hi hi'
        exact ⟨h5, h6, h7.turn h.turn⟩
    | row xs =>
      simp only [RelB] at hB ⊢
      refine ⟨⟨hB.1.1, fun j hj => by
        obtain ⟨c1, c2⟩ := h.turn.cell (b := g.be r) (o := j) (hB.1.2 j hj).1
        rw [c1, c2]; exact hB.1.2 j hj⟩, fun i hi => ?_⟩
      obtain ⟨h3, h4⟩ := hB.2 i hi
      refine ⟨h3, fun j hj => ?_⟩
      obtain ⟨h5, h6, v, h7, h8, h9⟩ := h4 j hj
      obtain ⟨c1, c2⟩ := h.turn.cell (b := g.be r) (o := i * g.sz r + j) (by rw [h7]; rfl)
      exact ⟨h5, h6, v, c1.trans h7, c2.trans h8, h9.turn h.turn⟩
  · obtain ⟨h1, h2, h3, h4⟩ := hS.be r hr
    exact ⟨h1, h2, h3, Nat.lt_of_lt_of_le h4 h.size⟩
  · exact ⟨(hS.own b p hp).1, Nat.lt_of_lt_of_le (hS.own b p hp).2 h.size⟩
  · obtain ⟨h1, h2⟩ := hS.gl.1 p hp
    exact ⟨h1, (h.turn.cell (by rw [h2]; rfl)).1.trans h2⟩
  · obtain ⟨h1, h2, h3⟩ := hS.gl.2 p hp
    refine ⟨h1, Nat.lt_of_lt_of_le h2 h.size, ?_⟩
    rcases h.block _ h2 with h4 | ⟨h4, _⟩
    · exact h4.trans h3
    · have := hb p hp; omega
theorem Ext.turn {w A B : World} {g g' : Gh} (hx : Ext w A g g') (h : Turn w.heap.size A B) (hf : ∀ b, w.heap.size ≤ b → g.L b = 0) : Ext w B g g' := by
  have old : ∀ b, b < w.heap.size → B.heap[b]? = A.heap[b]? := fun b hb => by
    rcases h.block b (Nat.lt_of_lt_of_le hb hx.size) with h1 | ⟨h1, _⟩
    · exact h1
    · omega
  refine ⟨h.os.trans hx.os, h.tape.trans hx.tape, h.output.trans hx.output, Nat.le_trans hx.size h.size, fun b o ho => ?_, hx.L, fun b hb hm => ?_, hx.refs⟩
  · have hb : b < w.heap.size := Nat.lt_of_not_le fun hh => by rw [hf b hh] at ho; omega
    rw [(cell_heap (old b hb) o).1]; exact hx.cell b o ho
  · obtain ⟨h1, h2, h3⟩ := hx.old b hb hm
    exact ⟨(old b hb).trans h1, h2, h3⟩

def chkPs2 (μ : List Nat) (nt : Nat) : List Nat → List Tmp → Bool
  | [], [] => true
  | p :: ps, q :: qs => decide (μ[p]? = some q) && decide (q < nt) && chkPs2 μ nt ps qs
  | _, _ => false
theorem setPs_rel (hμ : μ.Nodup) : ∀ {ps : List Nat} {qs : List Tmp} {xs : List V} {vs : List Value} {env : List D} {tmps : Array Value}, chkPs2 μ nt ps qs = true → xs.length = ps.length → vs.length = xs.length → (∀ i (h : i < xs.length) (h' : i < vs.length), RelV w g.L xs[i] vs[i]) → tmps.size = nt →
    RelA w g μ [] env [] st tmps → RelA w g μ [] (setPs ps xs env) [] st ((qs.zip vs).foldl (fun t (p, v) => t.setIfInBounds p v) tmps) ∧ ((qs.zip vs).foldl (fun t (p, v) => t.setIfInBounds p v) tmps).size = nt
  | [], qs, xs, vs, env, tmps, hc, hl, hv, hr, hn, h => by
    cases qs <;> simp [chkPs2] at hc
    have : xs = [] := List.length_eq_zero_iff.1 (by simpa using hl)
    subst this
    exact ⟨h, hn⟩
  | p :: ps, qs, xs, vs, env, tmps, hc, hl, hv, hr, hn, h => by
    cases qs with
    | nil => simp [chkPs2] at hc
    | cons q qs =>
      cases xs with
      | nil => simp at hl
      | cons x xs =>
        cases vs with
        | nil => simp at hv
        | cons v vs =>
          simp only [chkPs2, Bool.and_eq_true, decide_eq_true_eq] at hc
          obtain ⟨⟨h1, h2⟩, h3⟩ := hc
          simp only [setPs, List.zip_cons_cons, List.foldl_cons]
          exact setPs_rel hμ h3 (by simpa using hl) (by simpa using hv) (fun i hi hi' => hr (i + 1) (by simpa using hi) (by simpa using hi')) (by simpa using hn) (set_put hμ h h1 (by rw [hn]; exact h2) (.v _ _ _ (hr 0 (by simp) (by simp))))

theorem chkPs2_len : ∀ {ps : List Nat} {qs : List Tmp}, chkPs2 μ nt ps qs = true → ps.length = qs.length
  | [], [], _ => rfl
  | [], q :: qs, h => by simp [chkPs2] at h
  | p :: ps, [], h => by simp [chkPs2] at h
  | p :: ps, q :: qs, h => by
    simp only [chkPs2, Bool.and_eq_true] at h
    simp [chkPs2_len h.2]
theorem cp1_cp1 (d : D) : cp1 (cp1 d) = cp1 d := by cases d <;> rfl
theorem cpA_cpA (d : D) : cpA (cpA d) = cpA d := by
  cases d <;> first | rfl | skip
  rename_i ds
  simp only [cpA, mkAgg]
  cases h : allV (ds.map cp1) with
  | some xs => rfl
  | none =>
    simp only [mkAgg1, cpA, mkAgg, List.map_map]
    have : (ds.map (cp1 ∘ cp1)) = ds.map cp1 := List.map_congr_left fun d _ => cp1_cp1 d
    rw [this, h]
theorem cp_cp (d : D) : cp (cp d) = cp d := by
  cases d with
  | tup ds => simp only [cp, List.map_map]; congr 1; exact List.map_congr_left fun d _ => cpA_cpA d
  | agg ds =>
    simp only [cp, mkAgg]
    cases h : allV (ds.map cp1) with
    | some xs => rfl
    | none =>
      simp only [mkAgg1, cp, mkAgg, List.map_map]
      have : (ds.map (cp1 ∘ cp1)) = ds.map cp1 := List.map_congr_left fun d _ => cp1_cp1 d
      rw [this, h]
  | _ => rfl
def KeepL (L : Nat → Nat) (A B : World) : Prop := ∀ b o, o < L b → B.cell? ⟨b, o, none⟩ = A.cell? ⟨b, o, none⟩
def IterOk1 (P : Program) (k f : Nat) : Prop := ∀ (st : St) (cs : List D) (xs : List (List V)), iterK st k cs = some xs → FnOk P f ∧ ∀ (vc : Array Value) (w : World) (g : Gh) (hl : cs.length = vc.size),
  (∀ i (h : i < cs.length), RelD w g (fun _ => .nil) cs[i] (vc[i]'(hl ▸ h))) → RelS w g st → ∃ encs : Nat → Array Value,
    (∀ i (h : i < xs.length), (encs i).toList.length = xs[i].length ∧ ∀ j (h1 : j < xs[i].length) (h2 : j < (encs i).toList.length), RelV w g.L xs[i][j] (encs i).toList[j]) ∧ SeqAt P f vc encs xs.length (KeepL g.L) w
def strV8 (s : List UInt8) : Value := .string ⟨s.toArray⟩
def leftN (t : List UInt8) : Nat → List UInt8 → List UInt8
  | 0, s => s
  | k + 1, s => leftN t k (nextS t s)
def IterOk0 (P : Program) (f : Nat) : Prop := FnOk P f ∧ ∀ (vs vb vn : Value) (w : World) (L : Nat → Nat) (b1 o1 b2 o2 : Nat) (bx : Addr) (t s : List UInt8),
  vs = .pointer (some ⟨b1, o1, none⟩) → vn = .pointer (some ⟨b2, o2, none⟩) → vb = .pointer (some bx) → t ≠ [] → s.length < 4294967281 → o1 < L b1 → o2 < L b2 → L bx.block = 0 → (∀ p ∈ Known.gl, p.2.1 < L p.1 ∧ w.cell? ⟨p.1, p.2.1, none⟩ = some p.2.2) →
  w.cell? ⟨b1, o1, none⟩ = some (strV8 t) → w.cell? ⟨b2, o2, none⟩ = some (.int .i64 0) →
  SeqAtU P f #[vs, vb, vn] bx (fun k => strV8 (leftN t k s)) (fun k => #[strV8 ((piecesN (s.length + 1) t s).getD k [])]) (piecesN (s.length + 1) t s).length (KeepL L) w
def IterOk (P : Program) (k f : Nat) : Prop := match k with
  | 0 => IterOk0 P f
  | z + 1 => IterOk1 P (z + 1) f
end
end Go.Q
