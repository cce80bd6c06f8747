/- Functions: what the abstract machine tells of them holds. No condition. -/
import Derived.Test.YtmbdamompcdolaaDoorEv3
set_option linter.unusedVariables false
set_option linter.unusedSimpArgs false
set_option linter.unusedSectionVars false
namespace Go.Q
variable [Known] [Iters]

def chkRes (μ : List Nat) (P : Program) : List ResultVar → List SRes → Bool
  | [], [] => true
  | .tmp t :: rs, .var i :: ss => μ[i]? == some t && chkRes μ P rs ss
  | .cell x t :: rs, .cell sz i :: ss => μ[i]? == some x && osz P t sz && chkRes μ P rs ss
  | _, _ => false
def resVars : List SRes → List Nat
  | [] => []
  | .var i :: r => i :: resVars r
  | .cell _ _ :: r => resVars r
def chkFn (P : Program) (f : Nat) (F : SFunc) (μ : List Nat) : Bool :=
  orF P.funcs[f]? fun fn => fn.name != "runtime.NumGoroutine" && (orF fn.body fun c => chkCode μ fn.ntmps P F.code c) && chkRes μ P fn.results.toList F.res &&
    decide (μ.Nodup) && decide ((resVars F.res).Nodup) && μ.take F.np == List.range F.np && decide (F.np ≤ fn.ntmps)

section
variable {P : Program} {w : World} {g : Gh} {μ : List Nat} {nt : Nat} {dfs : List Deferred} {env ts : List D} {st : St} {a : Act} {R : Run}

/-- rights that go to the results; all others but the store's end -/
def toRes (rs : List SRes) : Pl → Pl
  | .env i => match rs.findIdx? (fun s => match s with | .var j => j == i | _ => false) with
    | some k => .res k
    | none => .env i
  | .res k => .tmp 0 k
  | p => p
def Gh.kept (g : Gh) : Gh := { g with own := fun b => (g.own b).bind fun p => if (p.isCell || p.isRes) = true then some p else none }

theorem kept_D {pl : Nat → Pl} {d : D} {v : Value} (hn : ∀ b, g.own b ≠ some .nil) (h : RelD w g pl d v) (hpl : ∀ k, ((pl k).isCell || (pl k).isRes) = true) : RelD w g.kept pl d v :=
  h.mono ⟨fun _ _ _ => rfl, fun _ => Nat.le_refl _⟩ hn (fun b k hb => ⟨by simp only [Gh.kept, hb, Option.bind_some, hpl k, if_true], rfl, fun _ => ⟨id, id⟩⟩) (fun r hr => ⟨hr, rfl, rfl, rfl⟩)
theorem kept_own {b : Nat} {p : Pl} (h : g.kept.own b = some p) : g.own b = some p ∧ (p.isCell || p.isRes) = true := by
  obtain ⟨q, h1, h2⟩ := bind_some' h
  split at h2 <;> cases h2
  exact ⟨h1, by assumption⟩
theorem kept_S (h : RelS w g st) : RelS w g.kept st := by
  refine ⟨h.live, fun r b hb => ?_, fun r hr => ?_, h.inj, fun b p hb => h.own b p (kept_own hb).1, fun b hb => h.nil b (kept_own hb).1, h.fresh, h.gl⟩
  · have hB := h.blk r b hb
    cases b with
    | mp es =>
      obtain ⟨arr, clock, h8, h9, h10⟩ := hB
      refine ⟨arr, clock, h8, h9, fun i hi hi' => ?_⟩
      obtain ⟨h11, h12, h13⟩ := h10 i hi hi'
      exact ⟨h11, h12, kept_D h.nil h13 (fun _ => rfl)⟩
    | row xs =>
      simp only [RelB] at hB ⊢
      refine ⟨hB.1, fun i hi => ?_⟩
      obtain ⟨h2, h3⟩ := hB.2 i hi
      refine ⟨h2, fun j hj => ?_⟩
      obtain ⟨h4, h5, v, h6, h7, h8⟩ := h3 j hj
      exact ⟨h4, h5, v, h6, h7, kept_D h.nil h8 (fun _ => rfl)⟩
  · obtain ⟨h1, h2, h3, h4⟩ := h.be r hr
    exact ⟨h1, h2, by show (g.own (g.be r)).bind _ = none; rw [h3]; rfl, h4⟩
theorem toRes_nil (rs : List SRes) (p : Pl) (h : toRes rs p = .nil) : p = .nil := by
  cases p <;> simp only [toRes] at h <;> first | (cases h; done) | rfl | (split at h <;> cases h)

def D.plain : D → Bool
  | .lin _ _ => false
  | .agg _ => false
  | .tup _ => false
  | _ => true
/-- no right in it: whatever the place -/
theorem RelD.anyPl {pl : Nat → Pl} {d : D} {v : Value} (h : RelD w g pl d v) (hn : d.plain = true) (pl' : Nat → Pl) : RelD w g pl' d v := by
  cases h with
  | v _ x v h => exact .v _ _ _ h
  | nils _ z => exact .nils _ z
  | lin _ z xs v h hs => exact absurd hn (by simp [D.plain])
  | own _ r z off len x c ad hl hc' hz ha => exact .own _ r z off len x c ad hl hc' hz ha
  | arr _ r i off len c ad hl hc' ha => exact .arr _ r i off len c ad hl hc' ha
  | ptr _ r i off hl => exact .ptr _ r i off hl
  | va _ cs off b o f h1 h2 h3 h4 => exact .va _ cs off b o f h1 h2 h3 h4
  | map _ r hl => exact .map _ r hl
  | clo _ f fs cs vf vc h1 h2 h3 h4 => exact .clo _ f fs cs vf vc h1 h2 h3 h4
  | ifc _ t d v h => exact .ifc _ t d v h
  | agg => exact absurd hn (by simp [D.plain])
  | tup => exact absurd hn (by simp [D.plain])
  | undef _ v => exact .undef _ v

theorem frzs_at {n : Nat} : ∀ {ds ds' : List D}, frzs st n ds = some ds' → ds'.length = ds.length ∧ ∀ i (h : i < ds.length) (h' : i < ds'.length), frz st n ds[i] = some ds'[i]
  | [], ds', h => by simp only [frzs] at h; cases h; exact ⟨rfl, fun i h => by simp at h⟩
  | d :: ds, ds', h => by
    simp only [frzs] at h
    obtain ⟨x, h1, h2⟩ := bind_some' h
    obtain ⟨r, h3, rfl⟩ := map_some' h2
    obtain ⟨h4, h5⟩ := frzs_at h3
    refine ⟨by simp [h4], fun i hi hi' => ?_⟩
    cases i with
    | zero => exact h1
    | succ i => exact h5 i (by simpa using hi) (by simpa using hi')
theorem toVs_get : ∀ {ds : List D} {xs : List V}, toVs ds = some xs → xs.length = ds.length ∧ ∀ i (h : i < ds.length) (h' : i < xs.length), toV1 ds[i] = some xs[i]
  | [], xs, h => by simp only [toVs] at h; cases h; exact ⟨rfl, fun i h => by simp at h⟩
  | d :: ds, xs, h => by
    simp only [toVs] at h
    obtain ⟨x, h1, h2⟩ := bind_some' h
    obtain ⟨r, h3, rfl⟩ := map_some' h2
    obtain ⟨h4, h5⟩ := toVs_get h3
    refine ⟨by simp [h4], fun i hi hi' => ?_⟩
    cases i with
    | zero => exact h1
    | succ i => exact h5 i (by simpa using hi) (by simpa using hi')
theorem refsBelows_get {n : Nat} : ∀ {ds : List D}, refsBelows n ds = true → ∀ i (h : i < ds.length), refsBelow n ds[i] = true
  | [], _, i, h => by simp at h
  | d :: ds, hb, i, h => by
    simp only [refsBelows, Bool.and_eq_true] at hb
    cases i with
    | zero => exact hb.1
    | succ i => exact refsBelows_get hb.2 i (by simpa using h)
theorem frz_rel {n : Nat} {p : Pl} {d d' : D} {v : Value} (h : RelS w g st) (hl : st.length = n + 1) (hp : lowPl n p = true) (hd : RelD w g (fun _ => p) d v) (hc : d.isCell = true) (hr : frz st n d = some d') :
    d'.isCell = true ∧ (refsBelow n d' = true → RelD w (g.pop w n) (fun _ => p) d' v) ∧ ∀ x, toV1 d' = some x → RelV w (g.pop w n).L x v := by
  have hP := pop_rel h hl
  have row : ∀ r, rowRef d = some r → ¬ r.lvl < n → ∀ x, rdV st d = some x → RelV w (g.pop w n).L x v := fun r hr hge x hx => by
    refine rdV_rel h hd hx hP.L fun r' hr' hlv => ?_
    rw [hr] at hr'; cases hr'
    have hlvl : r.lvl < n + 1 := by
      obtain ⟨b, hb⟩ := (h.live r).1 hlv
      rw [← hl]; exact getB_lvl hb
    have hg : g.gone n (g.be r) := ⟨r, hlv, by omega, rfl⟩
    simp only [Gh.pop]; rw [if_pos hg]; exact Nat.le_refl _
  have same : d' = d → (∀ x, toV1 d = some x → toV d = some x) → d'.isCell = true ∧ (refsBelow n d' = true → RelD w (g.pop w n) (fun _ => p) d' v) ∧ ∀ x, toV1 d' = some x → RelV w (g.pop w n).L x v := fun e ht => by
    subst e
    exact ⟨hc, fun hb => hP.D hd (fun _ => hp) hb, fun x hx => (toV_rel hd (ht x hx)).mono (fun _ _ _ => rfl) hP.L⟩
  have slcCell : ∀ x, rdV st d = some x → isRow d = true → x.isCell = true := fun x hx hrow => by
    cases d <;> first | (cases hrow; done) | skip
    · simp only [rdV] at hx
      unfold rowV at hx
      split at hx <;> first | (cases hx; done) | skip
      split at hx <;> first | (cases hx; done) | skip
      obtain ⟨ys, _, rfl⟩ := map_some' hx
      rfl
    · simp only [rdV] at hx
      unfold arrV at hx
      split at hx <;> first | (cases hx; done) | skip
      split at hx <;> first | (cases hx; done) | skip
      obtain ⟨ys, _, rfl⟩ := map_some' hx
      rfl
  cases d with
  | own r z off len fl =>
    simp only [frz] at hr
    split at hr
    · cases hr; exact same rfl (fun x hx => by simp [toV1] at hx)
    · rename_i hge
      obtain ⟨x, h1, rfl⟩ := map_some' hr
      have hv := row r rfl hge x h1
      exact ⟨slcCell x h1 rfl, fun _ => .v _ _ _ hv, fun x' hx' => by simp only [toV1] at hx'; cases hx'; exact hv⟩
  | arr r i off len =>
    simp only [frz] at hr
    split at hr
    · cases hr; exact same rfl (fun x hx => by simp [toV1] at hx)
    · rename_i hge
      obtain ⟨x, h1, rfl⟩ := map_some' hr
      have hv := row r rfl hge x h1
      exact ⟨slcCell x h1 rfl, fun _ => .v _ _ _ hv, fun x' hx' => by simp only [toV1] at hx'; cases hx'; exact hv⟩
  | _ => simp only [frz] at hr; cases hr; exact same rfl (fun x hx => by first | exact hx | simp [toV1] at hx)

theorem linOf_or (b : Bool) (x : V) : (∃ z xs, linOf b x = .lin z xs) ∨ linOf b x = .v x := by
  unfold linOf
  split
  · exact .inl ⟨_, _, rfl⟩
  · exact .inr rfl
theorem retD_rel {n : Nat} {p : Pl} {d d' : D} {v : Value} (h : RelS w g st) (hl : st.length = n + 1) (hp : lowPl n p = true) (hd : RelD w g (fun _ => p) d v) (hr : retD st n d = some d') :
    ∀ pl : Nat → Pl, pl 0 = p → RelD w (g.pop w n) pl d' v := by
  intro pl hpl
  have hP := pop_rel h hl
  have row : ∀ r, rowRef d = some r → ¬ r.lvl < n → ∀ x, rdV st d = some x → RelD w (g.pop w n) pl (.v x) v := fun r hr hge x hx => by
    refine .v _ _ _ (rdV_rel h hd hx hP.L fun r' hr' hlv => ?_)
    rw [hr] at hr'; cases hr'
    have hlvl : r.lvl < n + 1 := by
      obtain ⟨b, hb⟩ := (h.live r).1 hlv
      rw [← hl]; exact getB_lvl hb
    have hg : g.gone n (g.be r) := ⟨r, hlv, by omega, rfl⟩
    simp only [Gh.pop]; rw [if_pos hg]; exact Nat.le_refl _
  cases d with
  | v x => simp only [retD] at hr; cases hr; exact (hP.D hd (fun _ => hp) rfl).anyPl rfl _
  | nils z =>
    simp only [retD] at hr; cases hr; cases hd
    exact .lin _ _ _ _ (.slc0 _ _ _) (.inl rfl)
  | lin z xs =>
    simp only [retD] at hr; cases hr
    exact (hP.D hd (fun _ => hp) rfl).place rfl hpl.symm
  | own r z off len fl =>
    simp only [retD] at hr
    split at hr
    · rename_i hlt
      cases hr
      exact (hP.D hd (fun _ => hp) (by simp [refsBelow, hlt])).anyPl rfl _
    · rename_i hge
      obtain ⟨x, h1, rfl⟩ := map_some' hr
      have hrow := row r rfl hge x h1
      unfold linOf
      split
      · rename_i z' xs hb
        cases hrow with | v _ _ _ hrow =>
        simp only [Bool.and_eq_true] at hb
        obtain ⟨hb1, hb2⟩ := hb
        cases hd with | own _ _ _ _ _ _ c ad hl' hc hz ha =>
        refine .lin _ _ _ _ hrow (.inl ?_)
        unfold fullB at hb2
        split at hb2 <;> first | (cases hb2; done) | skip
        rename_i ys hg
        have hB := h.blk r _ hg
        simp only [RelB] at hB
        have := hc.2 hb1
        have := hc.1
        have := of_decide_eq_true hb2
        omega
      · exact hrow
  | arr r i off len =>
    simp only [retD] at hr
    split at hr
    · rename_i hlt
      cases hr
      exact (hP.D hd (fun _ => hp) (by simp [refsBelow, hlt])).anyPl rfl _
    · rename_i hge
      obtain ⟨x, h1, rfl⟩ := map_some' hr
      exact row r rfl hge x h1
  | agg ds =>
    simp only [retD] at hr
    obtain ⟨ds', hz, hr⟩ := bind_some' hr
    obtain ⟨z1, z2⟩ := frzs_at hz
    cases hd with | agg _ _ cs hlen hk hrr =>
    have part : ∀ i (hi : i < ds'.length) (hc : i < cs.size), ds'[i].isCell = true ∧ (refsBelow n ds'[i] = true → RelD w (g.pop w n) (fun _ => p) ds'[i] cs[i]) ∧ ∀ x, toV1 ds'[i] = some x → RelV w (g.pop w n).L x cs[i] := fun i hi hc =>
      frz_rel h hl hp (hrr i (by omega)) (hk i (by omega)) (z2 i (by omega) hi)
    unfold retA at hr
    split at hr
    · rename_i x hx
      cases hr
      obtain ⟨t1, t2⟩ := toVs_get hx
      refine .v _ _ _ (.agg _ cs (by omega) (fun i hi => ?_) (fun i hi => ?_))
      · obtain ⟨p1, _, p3⟩ := part i (by omega) (by omega)
        have h9 := t2 i (by omega) hi
        generalize ds'[i]'(by omega) = dd at p1 h9
        cases dd <;> simp only [toV1] at h9 <;> first | (cases h9; done) | skip
        · rw [← Option.some.inj h9]; exact p1
        · rw [← Option.some.inj h9]; rfl
        · rw [← Option.some.inj h9]; rfl
      · exact (part i (by omega) (by omega)).2.2 _ (t2 i (by omega) hi)
    · split at hr <;> cases hr
      rename_i hb
      have hb' := refsBelows_get hb
      refine .agg _ _ cs (by simp; omega) (fun i hi => ?_) (fun i hi => ?_)
      · simp only [List.getElem_map]
        have hi' : i < ds'.length := by simpa using hi
        obtain ⟨p1, p2, _⟩ := part i hi' (by omega)
        exact ((p2 (hb' i hi')).cp1 (pl' := fun _ => .nil) p1).2
      · simp only [List.getElem_map]
        have hi' : i < ds'.length := by simpa using hi
        obtain ⟨p1, p2, _⟩ := part i hi' (by omega)
        exact ((p2 (hb' i hi')).cp1 p1).1
  | tup ds => simp only [retD] at hr; cases hr
  | ptr r i off => simp only [retD] at hr; split at hr <;> cases hr; exact (hP.D hd (fun _ => hp) (by assumption)).anyPl rfl _
  | va cs off => simp only [retD] at hr; split at hr <;> cases hr; exact (hP.D hd (fun _ => hp) (by assumption)).anyPl rfl _
  | map r => simp only [retD] at hr; split at hr <;> cases hr; exact (hP.D hd (fun _ => hp) (by assumption)).anyPl rfl _
  | clo f fs cs => simp only [retD] at hr; split at hr <;> cases hr; exact (hP.D hd (fun _ => hp) (by assumption)).anyPl rfl _
  | ifc t d => simp only [retD] at hr; split at hr <;> cases hr; exact (hP.D hd (fun _ => hp) (by assumption)).anyPl rfl _
  | undef => simp only [retD] at hr; split at hr <;> cases hr; exact .undef _ _

def resF (tmps : Array Value) : ResultVar → Sem Value
  | .tmp t => pure (tmps.getD t undef)
  | .cell a t => do loadVar t (← asAddr (tmps.getD a undef))
theorem results_eq (fn : Func) (tmps : Array Value) : results fn tmps = (do let vs ← fn.results.mapM (resF tmps); pure (if h : vs.size = 1 then vs[0] else .tuple vs)) := by
  have : (fun x => match x with | .tmp t => pure (tmps.getD t undef) | .cell a t => do loadVar t (← asAddr (tmps.getD a undef)) : ResultVar → Sem Value) = resF tmps := by
    funext x; cases x <;> rfl
  unfold results
  rw [← this]
  rfl
/-- the results, one by one: place, datum, value -/
theorem resOne {tmps : Array Value} {env : List D} {d : D} {s : SRes} {rv : ResultVar} (h : RelA w g μ [] env [] st tmps) (hc : chkRes μ P [rv] [s] = true) (hd : resOf env st s = some d) :
    ∃ v, (resF tmps rv).run P w = .ok v w ∧
      match s with | .var i => RelD w g (fun _ => .env i) d v | .cell _ _ => ∀ pl, RelD w g pl d v := by
  cases rv with
  | tmp t =>
    cases s with
    | var i =>
      simp only [chkRes, Bool.and_true, beq_iff_eq] at hc
      simp only [resOf] at hd
      cases hd
      exact ⟨_, rfl, h.e i t hc⟩
    | cell sz i => simp [chkRes] at hc
  | cell x t =>
    cases s with
    | var i => simp [chkRes] at hc
    | cell sz i =>
      simp only [chkRes, Bool.and_true, Bool.and_eq_true, beq_iff_eq] at hc
      simp only [resOf] at hd
      obtain ⟨r, h1, h2⟩ := load_ok (P := P) h.s ((h.e i x hc.1).cp (pl' := fun _ => .nil)) hd hc.2
      refine ⟨r, ?_, h2⟩
      show (do loadVar t (← asAddr (tmps.getD x undef)) : Sem Value).run P w = _
      generalize hv : tmps.getD x undef = v at h1 ⊢
      cases v <;> try (simp [Instr.loadAt, Instr.sureAddr, stuck] at h1; done)
      rename_i ad
      cases ad with
      | none => simp [Instr.loadAt, Instr.sureAddr, stuck] at h1
      | some ad =>
        simp only [Instr.loadAt, Instr.sureAddr, Sem.run_bind, Sem.run_pure, Result.andThen_ok] at h1
        simp only [asAddr, Sem.run_bind, Sem.run_pure, Result.andThen_ok]
        exact h1
end
end Go.Q

namespace Go.Q
variable [Known] [Iters]
section
variable {P : Program} {w : World} {g : Gh} {μ : List Nat} {nt : Nat} {st : St} {R : Run}

def onePl (s : SRes) (k : Nat) : Pl := match s with
  | .var i => .env i
  | .cell _ _ => .res k

/-- all results -/
theorem resAll {tmps : Array Value} {env : List D} : ∀ {rs : List ResultVar} {ss : List SRes} {ds : List D}, RelA w g μ [] env [] st tmps → chkRes μ P rs ss = true → resList env st ss = some ds →
    ∃ vs : List Value, (rs.mapM (resF tmps)).run P w = .ok vs w ∧ vs.length = ds.length ∧ ss.length = ds.length ∧
      ∀ i (h : i < ds.length) (h' : i < vs.length) (h'' : i < ss.length), match ss[i] with | .var j => RelD w g (fun _ => .env j) ds[i] vs[i] | .cell _ _ => ∀ pl, RelD w g pl ds[i] vs[i]
  | [], [], ds, h, hc, hd => by
    simp only [resList] at hd; cases hd
    exact ⟨[], rfl, rfl, rfl, fun i hi => by simp at hi⟩
  | [], _ :: _, ds, h, hc, hd => by simp [chkRes] at hc
  | rv :: rs, [], ds, h, hc, hd => by cases rv <;> simp [chkRes] at hc
  | rv :: rs, s :: ss, ds, h, hc, hd => by
    have c12 : chkRes μ P [rv] [s] = true ∧ chkRes μ P rs ss = true := by
      cases rv <;> cases s <;> simp only [chkRes, Bool.and_eq_true, and_true, Bool.false_eq_true] at hc ⊢ <;> first | exact hc | exact hc.elim
    simp only [resList] at hd
    obtain ⟨d, h1, h2⟩ := bind_some' hd
    obtain ⟨ds', h3, rfl⟩ := map_some' h2
    obtain ⟨v, e1, e2⟩ := resOne h c12.1 h1
    obtain ⟨vs, e3, e4, e5, e6⟩ := resAll h c12.2 h3
    refine ⟨v :: vs, ?_, by simp [e4], by simp [e5], fun i hi hi' hi'' => ?_⟩
    · rw [List.mapM_cons, Sem.run_bind, e1, Result.andThen_ok, Sem.run_bind, e3, Result.andThen_ok]
      rfl
    · cases i with
      | zero => cases s <;> exact e2
      | succ i => exact e6 i (by simpa using hi) (by simpa using hi') (by simpa using hi'')

theorem retDs_at {k : Bool} {n : Nat} : ∀ {ds ds' : List D}, retDs k st n ds = some ds' → ds'.length = ds.length ∧ ∀ i (h : i < ds.length) (h' : i < ds'.length), retK k st n ds[i] = some ds'[i]
  | [], ds', h => by simp only [retDs] at h; cases h; exact ⟨rfl, fun i h => by simp at h⟩
  | d :: r, ds', h => by
    simp only [retDs] at h
    obtain ⟨x, h1, h2⟩ := bind_some' h
    obtain ⟨ys, h3, rfl⟩ := map_some' h2
    obtain ⟨h4, h5⟩ := retDs_at h3
    refine ⟨by simp [h4], fun i hi hi' => ?_⟩
    cases i with
    | zero => exact h1
    | succ i => exact h5 i (by simpa using hi) (by simpa using hi')

theorem toRes_at : ∀ {rs : List SRes} {k : Nat} {i : Nat}, (resVars rs).Nodup → (hk : k < rs.length) → rs[k] = .var i → toRes rs (.env i) = .res k := by
  intro rs k i hn hk hr
  have find : rs.findIdx? (fun s => match s with | .var j => j == i | _ => false) = some k := by
    rw [List.findIdx?_eq_some_iff_getElem]
    refine ⟨hk, by rw [hr]; simp, fun j hj => ?_⟩
    intro hp
    -- two places of one variable
    have key : ∀ (rs : List SRes) (j k : Nat) (hj : j < k) (hk : k < rs.length), rs[j]'(by omega) = .var i → rs[k] = .var i → ¬ (resVars rs).Nodup := by
      intro rs
      induction rs with
      | nil => intro j k hj hk; simp at hk
      | cons s rs ih =>
        intro j k hj hk h1 h2 hnd
        cases k with
        | zero => omega
        | succ k =>
          have mem : ∀ (rs : List SRes) (k : Nat) (hk : k < rs.length), rs[k] = .var i → i ∈ resVars rs := by
            intro rs
            induction rs with
            | nil => intro k hk; simp at hk
            | cons s rs ih =>
              intro k hk h
              cases k with
              | zero => simp at h; subst h; simp [resVars]
              | succ k =>
                have := ih k (by simpa using hk) (by simpa using h)
                cases s <;> simp [resVars, this]
          cases j with
          | zero =>
            simp at h1
            subst h1
            simp only [resVars, List.nodup_cons] at hnd
            exact hnd.1 (mem rs k (by simpa using hk) (by simpa using h2))
          | succ j =>
            have hnd' : (resVars rs).Nodup := by
              cases s with
              | var x => simp only [resVars, List.nodup_cons] at hnd; exact hnd.2
              | cell a b => exact hnd
            exact ih j k (by omega) (by simpa using hk) (by simpa using h1) (by simpa using h2) hnd'
    have hj' : rs[j]'(by omega) = .var i := by
      split at hp
      · rename_i x hx; rw [hx]; simp at hp; rw [hp]
      · cases hp
    exact key rs j k hj hk hj' hr hn
  simp only [toRes]
  rw [find]

theorem RelD.ofNil1 {pl0 : Nat → Pl} {d : D} {v : Value} (hn : ∀ b, g.own b ≠ some .nil) (hd : RelD w g pl0 d v) : (∀ k, pl0 k = .nil) → ∀ pl, RelD w g pl d v := by
  induction hd with
  | v _ x v h => exact fun _ pl => .v _ _ _ h
  | nils _ z => exact fun _ pl => .nils _ z
  | lin pl0 z xs v h hs =>
    intro h0 pl
    refine .lin _ z xs v h ?_
    cases v <;> first | exact hs.elim | skip
    rcases hs with hs | ⟨b, o, _, h2, _⟩
    · exact .inl hs
    · rw [h0] at h2; exact absurd h2 (hn b)
  | own _ r z off len x c ad hl hc' hz ha => exact fun _ pl => .own _ r z off len x c ad hl hc' hz ha
  | arr _ r i off len c ad hl hc' ha => exact fun _ pl => .arr _ r i off len c ad hl hc' ha
  | ptr _ r i off hl => exact fun _ pl => .ptr _ r i off hl
  | va _ cs off b o f h1 h2 h3 h4 => exact fun _ pl => .va _ cs off b o f h1 h2 h3 h4
  | map _ r hl => exact fun _ pl => .map _ r hl
  | clo _ f fs cs vf vc h1 h2 h3 h4 => exact fun _ pl => .clo _ f fs cs vf vc h1 h2 h3 h4
  | ifc _ t d v h => exact fun _ pl => .ifc _ t d v h
  | agg pl0 ds cs hl hk hr ih => exact fun h0 pl => .agg _ ds cs hl hk (fun i hi => ih i hi (fun _ => h0 i) _)
  | tup pl0 ds cs hl hr ih => exact fun h0 pl => .tup _ ds cs hl (fun i hi => ih i hi (fun _ => h0 i) _)
  | undef _ v => exact fun _ pl => .undef _ v
theorem RelD.ofNil {d : D} {v : Value} (hd : RelD w g (fun _ => .nil) d v) (hn : ∀ b, g.own b ≠ some .nil) (pl : Nat → Pl) : RelD w g pl d v := hd.ofNil1 hn (fun _ => rfl) pl

theorem cp1_not {d : D} : ∀ z xs, cp1 d ≠ .lin z xs := by
  intro z xs
  cases d <;> simp [cp1]
theorem retD_free {n : Nat} {d d' : D} {v : Value} {p : Pl} (hr : retD st n d = some d') (h : RelD w g (fun _ => p) d' v) (pl : Nat → Pl) (hpl : pl 0 = p) : RelD w g pl d' v := by
  have one : d'.isCell = true → RelD w g pl d' v := fun hc => h.place hc hpl.symm
  cases d with
  | agg ds =>
    simp only [retD] at hr
    obtain ⟨ds', _, hr⟩ := bind_some' hr
    unfold retA at hr
    split at hr
    · cases hr; exact h.anyPl rfl _
    · split at hr <;> cases hr
      cases h with | agg _ _ cs hlen hk hrr =>
      refine .agg _ _ cs hlen hk (fun i hi => (hrr i hi).anyPl ?_ _)
      have h1 := hk i hi
      have h2 : ∀ z xs, (ds'.map cp1)[i] ≠ .lin z xs := by simp only [List.getElem_map]; exact cp1_not
      generalize (ds'.map cp1)[i] = x at h1 h2
      cases x <;> first | rfl | (simp [D.isCell] at h1; done) | exact absurd rfl (h2 _ _)
  | v x => simp only [retD] at hr; cases hr; exact h.anyPl rfl _
  | nils z => simp only [retD] at hr; cases hr; exact one rfl
  | lin z xs => simp only [retD] at hr; cases hr; exact one rfl
  | own r z off len fl =>
    simp only [retD] at hr
    split at hr
    · cases hr; exact one rfl
    · obtain ⟨x, _, rfl⟩ := map_some' hr
      rcases linOf_or (fl && fullB (off + len) (getB st r)) x with ⟨z', xs, e⟩ | e
      · rw [e] at h one ⊢; exact one rfl
      · rw [e] at h ⊢; exact h.anyPl rfl _
  | arr r i off len =>
    simp only [retD] at hr
    split at hr
    · cases hr; exact one rfl
    · obtain ⟨x, _, rfl⟩ := map_some' hr; exact h.anyPl rfl _
  | tup ds => simp only [retD] at hr; cases hr
  | _ => simp only [retD] at hr; split at hr <;> cases hr; exact h.anyPl rfl _

theorem isNils_eq {d : D} (h : isNils d = true) : ∃ z, d = .nils z := by cases d <;> first | exact ⟨_, rfl⟩ | cases h
theorem retK_rel {k : Bool} {n : Nat} {p : Pl} {d d' : D} {v : Value} (h : RelS w g st) (hl : st.length = n + 1) (hp : lowPl n p = true) (hd : RelD w g (fun _ => p) d v) (hr : retK k st n d = some d') :
    ∀ pl : Nat → Pl, pl 0 = p → RelD w (g.pop w n) pl d' v := by
  unfold retK at hr
  split at hr
  · rename_i hk
    obtain ⟨z, rfl⟩ := isNils_eq hk.2
    cases hr
    cases hd
    exact fun _ _ => .nils _ _
  · exact retD_rel h hl hp hd hr
theorem retK_free {k : Bool} {n : Nat} {d d' : D} {v : Value} {p : Pl} (hr : retK k st n d = some d') (h : RelD w g (fun _ => p) d' v) (pl : Nat → Pl) (hpl : pl 0 = p) : RelD w g pl d' v := by
  unfold retK at hr
  split at hr
  · rename_i hk
    obtain ⟨z, rfl⟩ := isNils_eq hk.2
    cases hr
    cases h
    exact .nils _ _
  · exact retD_free hr h pl hpl
/-- a function's call -/
theorem leaves_marks {fn : Func} {tmps : Array Value} {Po : Ending → World → Prop} {N : Nat} {g1 : Gh} : ∀ (dfs : List Deferred) (w1 : World), Marks N w1 g1 dfs → (∀ wf, TurnD N w1 wf → ∃ v, (results fn tmps).run P wf = .ok v wf ∧ Po (.returned v) wf) → LeavesInM (wideR none) 0 P fn tmps Po dfs .returning w1
  | [], w1, hm, k => k w1 (TurnD.refl _ _)
  | d :: ds, w1, hm, k => by
    obtain ⟨hnd, hm⟩ := hm
    obtain ⟨D, h1, rfl, h2, h3⟩ := hm d (by simp)
    have hlt := (Array.getElem?_eq_some_iff.1 h2).1
    refine ⟨by simp, .inl ⟨D, _, rfl, run_takeDeferred h2, leaves_marks (N := N) (g1 := g1) ds _ ⟨(List.nodup_cons.1 hnd).2, fun d hd => ?_⟩ fun wf ht => k wf ?_⟩⟩
    · obtain ⟨D', e1, rfl, e2, e3⟩ := hm d (by simp [hd])
      have hne : D' ≠ D := fun e => by subst e; exact (List.nodup_cons.1 hnd).1 hd
      exact ⟨D', e1, rfl, (World.putObj_heap_other hne).trans e2, e3⟩
    · refine ⟨ht.os, ht.tape, ht.output, Nat.le_trans (by simp) ht.size, fun b hb => ?_⟩
      by_cases e : b = D
      · subst e; exact .inr ⟨h1, _, h2⟩
      · rcases ht.block b (by simpa using hb) with h4 | ⟨h4, x, h5⟩
        · exact .inl (h4.trans (World.putObj_heap_other e))
        · exact .inr ⟨h4, x, (World.putObj_heap_other e).symm.trans h5⟩
theorem fn_sound {f : Nat} {F : SFunc} (hR : ROk P R) (hL : RLen R) (hit : ∀ p ∈ Iters.it, IterOk P p.1 p.2) (hc : chkFn P f F μ = true) {n : Nat} {args : List D} {r : D × St} (he : runF R n F args st = some r) :
    FnOk P f ∧ ∀ (vals : Array Value) (w : World) (g : Gh) (hl : args.length = vals.size),
      (∀ i (h : i < args.length), RelD w g (fun _ => .nil) args[i] (vals[i]'(hl ▸ h))) → RelS w g st → (∀ b p, g.own b = some p → p.isCell = true) →
      Calls P f vals w fun e w' => ∃ v g', e = .returned v ∧ Back w g w' g' r.1 r.2 v := by
  obtain ⟨fn, hf, h1⟩ := of_orF hc
  simp only [Bool.and_eq_true, bne_iff_ne, ne_eq, decide_eq_true_eq, beq_iff_eq] at h1
  obtain ⟨⟨⟨⟨⟨⟨c1, c2⟩, c3⟩, c4⟩, c5⟩, c6⟩, c7⟩ := h1
  obtain ⟨c, hb, hcode⟩ := of_orF c2
  refine ⟨⟨fn, hf, c1, by rw [hb]; rfl⟩, fun vals w g hl hv hS hown => ?_⟩
  unfold runF at he
  split at he <;> first | (cases he; done) | skip
  rename_i hnp
  obtain ⟨⟨x, env1, st1⟩, e1, e2⟩ := bind_some' he
  have hvs : vals.size = F.np := by rw [← hl, hnp]
  -- at the entry
  have free : ∀ {d : D} {v : Value}, RelD w g (fun _ => .nil) d v → ∀ pl, RelD w g pl d v := fun h => h.ofNil hS.nil
  have hA : At w g μ fn.ntmps [] [] (args ++ List.replicate (F.nv - F.np) .undef) [] ([] :: st) { tmps := vals ++ Array.replicate (fn.ntmps - vals.size) undef, defers := [] } := by
    refine ⟨⟨hS.push, fun i t hi => ?_, fun j t hj => by simp at hj⟩, by simp; omega, rfl, rfl, by simp⟩
    by_cases hin : i < F.np
    · have ht : t = i := by
        have h3 : (μ.take F.np)[i]? = some t := by rw [List.getElem?_take_of_lt hin]; exact hi
        rw [c6] at h3
        simp [hin] at h3
        exact h3.symm
      subst ht
      have g1 : getT (args ++ List.replicate (F.nv - F.np) .undef) t = args[t]'(by omega) := by
        have : ∀ (l r : List D) (i : Nat) (h : i < l.length), getT (l ++ r) i = l[i] := by
          intro l
          induction l with
          | nil => intro r i h; simp at h
          | cons d l ih =>
            intro r i h
            cases i with
            | zero => rfl
            | succ i => exact ih r i (by simpa using h)
        exact this _ _ _ _
      have g2 : (vals ++ Array.replicate (fn.ntmps - vals.size) undef).getD t undef = vals[t]'(by omega) := by
        rw [Array.getD_eq_getD_getElem?, Array.getElem?_append_left (by omega), Array.getElem?_eq_getElem (by omega)]; rfl
      show RelD w g _ _ ((vals ++ Array.replicate (fn.ntmps - vals.size) undef).getD t undef)
      rw [g1, g2]
      exact free (hv t (by omega)) _
    · have : getT (args ++ List.replicate (F.nv - F.np) .undef) i = .undef := by
        have : ∀ (l : List D) (m i : Nat), l.length ≤ i → getT (l ++ List.replicate m .undef) i = .undef := by
          intro l
          induction l with
          | nil =>
            intro m i _
            induction m generalizing i with
            | zero => rfl
            | succ m ih => cases i with
              | zero => rfl
              | succ i => exact ih i (Nat.zero_le _)
          | cons d l ih =>
            intro m i h
            cases i with
            | zero => simp at h
            | succ i => exact ih m i (by simpa using h)
        exact this _ _ _ (by omega)
      rw [this]
      exact .undef _ _
  refine calls_of_R (ro := none) (n := 0) (callsIn_of_wp_marks (F := wideR none) hf hb trivial (wpIn_mono (exec_sound c4 hR hL hit F.code c hcode none (.inl rfl) n [] _ _ _ _ w g e1 hA) fun e a1 w0 hp => ?_))
  obtain ⟨rfl, g1, dfs1, hx0, hm0, hA0⟩ := hp
  have hbl : ∀ p ∈ Known.bl, p.1 < w.heap.size := fun p hp => (hS.gl.2 p hp).2.1
  have key : (∀ w1, TurnD w.heap.size w0 w1 → ∃ v, (results fn a1.tmps).run P w1 = .ok v w1 ∧ ∃ v' g', Ending.returned v = .returned v' ∧ Back w g w1 g' r.1 r.2 v') → LeavesInM (wideR none) 0 P fn a1.tmps (fun e w' => ∃ v g', e = .returned v ∧ Back w g w' g' r.1 r.2 v) a1.defers .returning w0 := fun k => by
    rw [hA0.d]
    exact leaves_marks dfs1 w0 (hm0 _ (Nat.le_refl _) ⟨List.nodup_nil, fun d hd => by cases hd⟩) k
  have hlen : st1.length = st.length + 1 := by simpa using (exec_len hL F.code (by simp) e1).2
  have fin : endD F.keep F.res st env1 st1 = some r → ∀ w1, TurnD w.heap.size w0 w1 → ∃ v, (results fn a1.tmps).run P w1 = .ok v w1 ∧ ∃ v' g', Ending.returned v = .returned v' ∧ Back w g w1 g' r.1 r.2 v' := fun hend w1 ht => by
    have hx : Ext w w1 g g1 := hx0.turn ht.turn (fun b hb => (hS.fresh b hb).1)
    have hA1 : RelA w1 g1 μ [] env1 [] st1 a1.tmps := ⟨hA0.r.s.turnD ht hbl, fun i t hi => (hA0.r.e i t hi).turn ht.turn, fun j t hj => by simp at hj⟩
    obtain ⟨ds, k1, k2⟩ := bind_some' hend
    obtain ⟨ds', k3, k4⟩ := bind_some' k2
    have hA1' : RelA w1 g1 μ [] env1 [] st1 a1.tmps := hA1
    obtain ⟨vs, m1, m2, m3, m4⟩ := resAll (P := P) hA1' c3 k1
    obtain ⟨m5, m6⟩ := retDs_at k3
    have hPop := pop_rel hA1'.s hlen
    -- the ghost at the end
    let g2 := ((g1.pop w1 st.length).mv (toRes F.res)).kept
    have hn2 : ∀ b, ((g1.pop w1 st.length).mv (toRes F.res)).own b ≠ some .nil := fun b hb => by
      simp only [Gh.mv, Option.map_eq_some_iff] at hb
      obtain ⟨p, h1, h2⟩ := hb
      exact hPop.S.nil b (toRes_nil F.res p h2 ▸ h1)
    have hS2 : RelS w1 g2 st1.tail := kept_S (hPop.S.mv rfl (toRes_nil F.res) (fun r i j => rfl))
    have hx2 : Ext w w1 g g2 := by
      have := hPop.E hx (fun r hr => by
        obtain ⟨b, hb⟩ := (hS.live r).1 hr
        exact getB_lvl hb)
      exact ⟨this.os, this.tape, this.output, this.size, this.cell, this.L, this.old, this.refs⟩
    have each : ∀ i (h : i < ds'.length) (h' : i < vs.length), RelD w1 g2 (fun _ => .res i) ds'[i] vs[i] := fun i h h' => by
      have h1 := m4 i (by omega) h' (by omega)
      have h2 := m6 i (by omega) h
      have h3 : i < F.res.length := by omega
      refine kept_D hn2 ?_ (fun k => rfl)
      cases hs : F.res[i] with
      | var j =>
        rw [hs] at h1
        have h4 := retK_rel hA1'.s hlen (p := .env j) rfl h1 h2 (fun _ => .env j) rfl
        exact h4.mv (fun _ => toRes_at c5 h3 hs) rfl
      | cell sz j =>
        rw [hs] at h1
        have h4 := retK_rel hA1'.s hlen (p := .nil) rfl (h1 (fun _ => .nil)) h2 (fun _ => .nil) rfl
        exact (h4.mv (f := toRes F.res) (pl' := fun _ => .nil) (fun _ => rfl) rfl).ofNil hn2 _
    have run : (results fn a1.tmps).run P w1 = .ok (if h : vs.toArray.size = 1 then vs.toArray[0] else .tuple vs.toArray) w1 := by
      rw [results_eq, Sem.run_bind, Array.mapM_eq_mapM_toList, Sem.run_map, m1]
      rfl
    refine ⟨_, run, _, g2, rfl, ?_⟩
    have own2 : ∀ b p, g2.own b = some p → p.isCell = true ∨ p.isRes = true := fun b p hb => by
      have := (kept_own hb).2
      simpa using this
    have hvl : vs.length = ds'.length := by omega
    cases ds' with
    | nil =>
      simp only [oneD] at k4; cases k4
      have : vs = [] := List.length_eq_zero_iff.1 hvl
      subst this
      exact ⟨hx2, hS2, .tup _ _ _ rfl (fun i hi => by simp at hi), own2⟩
    | cons d ds'' =>
      cases ds'' with
      | nil =>
        simp only [oneD] at k4; cases k4
        obtain ⟨v, rfl⟩ : ∃ v, vs = [v] := List.length_eq_one_iff.1 hvl
        refine ⟨hx2, hS2, ?_, own2⟩
        have := each 0 (by simp) (by simp)
        exact retK_free (m6 0 (by simp at m5; omega) (by simp)) this .res rfl
      | cons d2 ds3 =>
        simp only [oneD] at k4; cases k4
        have hne : ¬ vs.toArray.size = 1 := by simp at hvl ⊢; omega
        rw [dif_neg hne]
        exact ⟨hx2, hS2, .tup _ _ _ (by simpa using hvl.symm) (fun i hi => by have := each i hi (by omega); simpa using this), own2⟩
  cases x with
  | normal => exact key (fin e2)
  | ret => exact key (fin e2)
  | exit i => cases e2
end
end Go.Q
