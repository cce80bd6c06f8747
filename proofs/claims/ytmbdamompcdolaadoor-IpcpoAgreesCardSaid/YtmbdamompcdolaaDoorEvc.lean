/- A cell's right that is taken; a call that is lent one block. No condition. -/
import Derived.Test.YtmbdamompcdolaaDoorEvN
import Derived.Test.YtmbdamompcdolaaDoorEvm
set_option linter.unusedVariables false
set_option linter.unusedSimpArgs false
set_option linter.unusedSectionVars false
namespace Go.Q
variable [Known]
section
variable {P : Program} {w : World} {g : Gh} {μ : List Nat} {τ : List (Option Nat)} {env ts : List D} {st : St} {a : Act} {o : Oper} {q : Rg} {R : Run}

/-! ### A cell's right is taken -/
theorem loadT_ok (h : RelA w g μ τ env ts st a.tmps) {t : TypeId} {p : Operand} {y : Opd} {ys : List Opd} (hop : o.op = .load t p) (hp : chkO μ τ p y = true) (ho : osz P t none = true)
    (he : evOp R env ts st (.loadT y ys) = some q) : OpRes P o a w (Post w g μ τ a.tmps q) := by
  simp only [evOp] at he
  split at he <;> first | (cases he; done) | skip
  obtain ⟨pr, h1, rfl⟩ := map_some' he
  have hpr := rd_rel h hp (fun _ => .nil)
  unfold opLoadT at h1
  split at h1 <;> first | (cases h1; done) | skip
  rename_i r i off hd
  obtain ⟨xs, h2, h3⟩ := bind_some' h1
  have hb := rowOf_some h2
  unfold ldTE at h3
  obtain ⟨d, h4, h5⟩ := bind_some' h3
  obtain ⟨c, h6, rfl⟩ := map_some' h5
  obtain ⟨hi, rfl⟩ := List.getElem?_eq_some_iff.1 h4
  obtain ⟨hj0, rfl⟩ := List.getElem?_eq_some_iff.1 h6
  rw [hd] at hpr
  generalize hv : a.eval p = v at hpr
  cases hpr with | ptr _ _ _ _ hlv =>
  have hB := h.s.blk r _ hb
  simp only [RelB] at hB
  obtain ⟨hBn, hBi⟩ := hB
  obtain ⟨hBl, hBc⟩ := hBi i hi
  obtain ⟨k1, k2, u, k3, k4, k5⟩ := hBc off hj0
  have hu : ∃ dd, P.underlying t = some dd ∧ dd.isRow = false := by
    rcases osz_true ho with ⟨d', n, e1, e2, e3, e4⟩ | ⟨d', e1, e2, _, e4⟩
    · cases e4
    · exact ⟨d', e1, e2⟩
  obtain ⟨dd, hu1, hu2⟩ := hu
  let f : Pl → Pl := fun p => if p = .cell r i off then .tmp τ.length 0 else p
  have fn : f .nil = .nil := by simp [f]
  have fn' : ∀ p, f p = .nil → p = .nil := fun p hp => by simp only [f] at hp; split at hp <;> first | exact hp | (cases hp; done)
  have fe : ∀ j, f (.env j) = .env j := fun j => by simp [f]
  have ft : ∀ j k, f (.tmp j k) = .tmp j k := fun j k => by simp [f]
  have fc : ∀ r' i' j', ¬ (r' = r ∧ i' = i ∧ j' = off) → f (.cell r' i' j') = .cell r' i' j' := fun r' i' j' hh => by
    simp only [f]; rw [if_neg]; rintro e; cases e; exact hh ⟨rfl, rfl, rfl⟩
  have f0 : f (.cell r i off) = .tmp τ.length 0 := by simp [f]
  have hcs : cellsOf (unCells xs[i] ((cellsOf xs[i]).set off (cp1 (cellsOf xs[i])[off]))) = (cellsOf xs[i]).set off (cp1 (cellsOf xs[i])[off]) := by
    unfold unCells
    split
    · exact cellsOf_mkAgg _
    · rename_i hag
      have hd1 := cellsOf_not (by simpa using hag)
      have hz : off = 0 := by rw [hd1] at hj0; simpa using hj0
      subst hz
      have hk := (k5.cp1 (pl' := fun _ => .nil) k1).2
      generalize hcc : cp1 (cellsOf xs[i])[0] = c at hk ⊢
      rw [hd1]
      simp only [List.set_cons_zero, List.headD_cons]
      exact cellsOf_cell hk
  have hget := getB_setB (.row (xs.set i (unCells xs[i] ((cellsOf xs[i]).set off (cp1 (cellsOf xs[i])[off]))))) hb
  have hRB : ∀ r' bl, getB st r' = some bl → r' ≠ r → RelB w (g.mv f) r' bl := fun r' bl hbl hne => by
    have := h.s.blk r' bl hbl
    cases bl with
    | row zs =>
      simp only [RelB] at this ⊢
      refine ⟨this.1, fun i hi => ?_⟩
      obtain ⟨e1, e2⟩ := this.2 i hi
      refine ⟨e1, fun j hj => ?_⟩
      obtain ⟨e3, e4, v, e5, e6, e7⟩ := e2 j hj
      exact ⟨e3, e4, v, e5, e6, e7.mv (fun _ => fc _ _ _ (fun hh => hne hh.1)) fn⟩
    | mp es =>
      obtain ⟨arr, clock, e8, e9, e10⟩ := this
      refine ⟨arr, clock, e8, e9, fun i hi hi' => ?_⟩
      obtain ⟨e11, e12, e13⟩ := e10 i hi hi'
      exact ⟨e11, e12, e13.mv (fun _ => fc _ _ _ (fun hh => hne hh.1)) fn⟩
  have hS : RelS w (g.mv f) (setB st r (.row (xs.set i (unCells xs[i] ((cellsOf xs[i]).set off (cp1 (cellsOf xs[i])[off])))))) := by
    refine ⟨fun r' => ?_, fun r' bl hbl => ?_, fun r' hr' => ?_, h.s.inj, fun b p hb => ?_, fun b hb => ?_, h.s.fresh, h.s.gl⟩
    · rw [hget]
      by_cases e : r' = r
      · subst e; rw [if_pos rfl]; exact ⟨fun _ => ⟨_, rfl⟩, fun _ => hlv⟩
      · rw [if_neg e]; exact h.s.live r'
    · rw [hget] at hbl
      by_cases e : r' = r
      · subst e
        rw [if_pos rfl] at hbl
        cases hbl
        simp only [RelB]
        refine ⟨by rw [List.length_set]; exact hBn, fun i' hi' => ?_⟩
        have hi2 : i' < xs.length := by simpa using hi'
        obtain ⟨e1, e2⟩ := hBi i' hi2
        by_cases e' : i = i'
        · subst e'
          have hg2 : (xs.set i (unCells xs[i] ((cellsOf xs[i]).set off (cp1 (cellsOf xs[i])[off]))))[i] = unCells xs[i] ((cellsOf xs[i]).set off (cp1 (cellsOf xs[i])[off])) := by simp
          simp only [hg2, hcs, List.length_set]
          refine ⟨e1, fun j hj => ?_⟩
          obtain ⟨e3, e4, v, e5, e6, e7⟩ := e2 j hj
          by_cases ej : off = j
          · subst ej
            simp only [List.getElem_set_self]
            refine ⟨(e7.cp1 (pl' := fun _ => .nil) e3).2, ?_, v, e5, e6, ?_⟩
            · revert e4
              generalize (cellsOf xs[i])[off] = c
              intro e4
              cases c <;> first | exact e4 | rfl
            · exact ((e7.mv (f := f) (pl' := fun _ => .tmp τ.length 0) (fun _ => f0) fn).cp1 e3).1
          · simp only [List.getElem_set_ne ej]
            exact ⟨e3, e4, v, e5, e6, e7.mv (fun _ => fc _ _ _ (fun hh => ej hh.2.2.symm)) fn⟩
        · simp only [List.getElem_set_ne e']
          refine ⟨e1, fun j hj => ?_⟩
          obtain ⟨e3, e4, v, e5, e6, e7⟩ := e2 j hj
          exact ⟨e3, e4, v, e5, e6, e7.mv (fun _ => fc _ _ _ (fun hh => e' hh.2.1.symm)) fn⟩
      · rw [if_neg e] at hbl
        exact hRB r' bl hbl e
    · obtain ⟨e1, e2, e3, e4⟩ := h.s.be r' hr'
      exact ⟨e1, e2, by simp [Gh.mv, e3], e4⟩
    · simp only [Gh.mv, Option.map_eq_some_iff] at hb
      obtain ⟨p', hp1, rfl⟩ := hb
      exact h.s.own b p' hp1
    · simp only [Gh.mv, Option.map_eq_some_iff] at hb
      obtain ⟨p', hp1, hp2⟩ := hb
      exact h.s.nil b (fn' p' hp2 ▸ hp1)
  refine res_ok (v := u) (w' := w) ?_ ⟨g.mv f, Ext.mv f, ⟨hS, fun j t' hj => (h.e j t' hj).mv (fun _ => fe j) fn, fun j t' hj => (h.t j t' hj).mv (fun k => ft _ _) fn⟩, ?_⟩
  · simp only [execOp, hop, hv]
    exact run_v (load_run_one hu1 hu2 (by rw [← k3]))
  · have := k5.mv (f := f) (pl' := fun _ => .tmp τ.length 0) (fun _ => f0) fn
    exact this.place k1 rfl

/-! ### A call that is lent one block -/
mutual
theorem refs_upL (n : Nat) : ∀ (d : D), refsBelow 0 d = true → refsBelow n d = true
  | .own r _ _ _ _, h => by simp [refsBelow] at h
  | .arr r _ _ _, h => by simp [refsBelow] at h
  | .ptr r _ _, h => by simp [refsBelow] at h
  | .map r, h => by simp [refsBelow] at h
  | .clo _ fs cs, h => by
    simp only [refsBelow, Bool.and_eq_true] at h ⊢
    exact ⟨refs_upLs n fs h.1, refs_upLs n cs h.2⟩
  | .ifc _ d, h => by simp only [refsBelow] at h ⊢; exact refs_upL n d h
  | .agg ds, h => by simp only [refsBelow] at h ⊢; exact refs_upLs n ds h
  | .tup ds, h => by simp only [refsBelow] at h ⊢; exact refs_upLs n ds h
  | .v _, _ => rfl
  | .nils _, _ => rfl
  | .lin _ _, _ => rfl
  | .va _ _, _ => rfl
  | .undef, _ => rfl
theorem refs_upLs (n : Nat) : ∀ (ds : List D), refsBelows 0 ds = true → refsBelows n ds = true
  | [], _ => rfl
  | d :: r, h => by
    simp only [refsBelows, Bool.and_eq_true] at h ⊢
    exact ⟨refs_upL n d h.1, refs_upLs n r h.2⟩
end
theorem refs0_at : ∀ {ds : List D}, refsBelows 0 ds = true → ∀ i (h : i < ds.length), refsBelow 0 ds[i] = true
  | d :: r, h, i, hi => by
    simp only [refsBelows, Bool.and_eq_true] at h
    cases i with
    | zero => exact h.1
    | succ i => exact refs0_at h.2 i (by simpa using hi)
theorem refs_up {d : D} : ∀ {n : Nat}, refsBelow 0 d = true → refsBelow n d = true := fun {n} h => refs_upL n d h
/-- what has no references: whatever lies where -/
theorem RelD.loose {w w' : World} {g g' : Gh} {pl : Nat → Pl} {d : D} {v : Value} (h : RelD w g pl d v) (hb : refsBelow 0 d = true) (hk : Keeps w w' g g') (hn : ∀ b, g.own b ≠ some .nil) :
    ∀ pl' : Nat → Pl, (∀ b k, g.own b = some (pl k) → g'.own b = some (pl' k) ∧ g'.L b = g.L b ∧ ∀ o, ((w.cell? ⟨b, o, none⟩).isSome = true → (w'.cell? ⟨b, o, none⟩).isSome = true) ∧ (w.frozen? ⟨b, o, none⟩ = false → w'.frozen? ⟨b, o, none⟩ = false)) → RelD w' g' pl' d v := by
  induction h with
  | v pl x v h => exact fun pl' _ => .v pl' x v (h.mono hk.cell hk.L)
  | nils pl z => exact fun pl' _ => .nils pl' z
  | lin pl z xs v h hs =>
    intro pl' hp
    refine .lin pl' z xs v (h.mono hk.cell hk.L) ?_
    cases v <;> first | exact hs.elim | skip
    rename_i a n c
    rcases hs with hs | ⟨b, o, h1, h2, h3, h4, h5⟩
    · exact .inl hs
    · obtain ⟨h6, h7, h8⟩ := hp b 0 h2
      exact .inr ⟨b, o, h1, h6, h7.trans h3, h4, fun j hj => ⟨(h8 j).1 (h5 j hj).1, (h8 j).2 (h5 j hj).2⟩⟩
  | own pl r z off len x c ad hl hc hz ha => simp [refsBelow] at hb
  | arr pl r i off len c ad hl hc ha => simp [refsBelow] at hb
  | ptr pl r i off hl => simp [refsBelow] at hb
  | va pl cs off b o f h1 h2 h3 h4 =>
    exact fun pl' _ => .va pl' cs off b o f (fun j hj => Nat.lt_of_lt_of_le (h1 j hj) (hk.L b)) (fun j hj => by rw [hk.cell b _ (h1 j hj)]; exact h2 j hj) h3 (fun j hj => (h4 j hj).mono hk.cell hk.L)
  | map pl r hl => simp [refsBelow] at hb
  | clo pl f fs cs vf vc h1 h2 hf hc ih1 ih2 =>
    simp only [refsBelow, Bool.and_eq_true] at hb
    exact fun pl' _ => .clo pl' f fs cs vf vc h1 h2 (fun i hi => ih1 i hi (refs0_at hb.1 i hi) _ fun b k hb => absurd hb (hn b)) (fun i hi => ih2 i hi (refs0_at hb.2 i hi) _ fun b k hb => absurd hb (hn b))
  | ifc pl t d v h ih =>
    simp only [refsBelow] at hb
    exact fun pl' _ => .ifc pl' t d v (ih hb _ fun b k hb => absurd hb (hn b))
  | agg pl ds cs hl hk' hr' ih =>
    simp only [refsBelow] at hb
    exact fun pl' hp => .agg pl' ds cs hl hk' (fun i hi => ih i hi (refs0_at hb i hi) _ fun b k hb => hp b i hb)
  | tup pl ds cs hl hr' ih =>
    simp only [refsBelow] at hb
    exact fun pl' hp => .tup pl' ds cs hl (fun i hi => ih i hi (refs0_at hb i hi) _ fun b k hb => hp b i hb)
  | undef pl v => exact fun pl' _ => .undef pl' v
theorem cells_refs0 {d : D} (h : refsBelow 0 d = true) : ∀ i (hi : i < (cellsOf d).length), refsBelow 0 (cellsOf d)[i] = true := fun i hi => by
  cases d with
  | v x => simp only [cellsOf_v, List.getElem_map]; rfl
  | agg ds => simp only [refsBelow] at h; exact refs0_at h i hi
  | _ => simp only [cellsOf, List.length_singleton] at hi ⊢; have : i = 0 := by omega
         subst this; exact h
/-- of which block -/
def Pl.inB (r : Ref) : Pl → Bool
  | .cell r' _ _ => decide (r' = r)
  | _ => false
def Pl.toB (r : Ref) : Pl → Pl
  | .cell _ i j => .cell r i j
  | p => p
theorem toB_cell {r r' : Ref} {p : Pl} (h : p.isCell = true) : (p.toB r).isCell = true := by cases p <;> first | rfl | cases h
def bLent (g : Gh) (r : Ref) (b : Nat) : Prop := b = g.be r ∨ ∃ p, g.own b = some p ∧ p.inB r = true
noncomputable def Gh.lendB (g : Gh) (r : Ref) : Gh where
  L := g.L
  M := bLent g r
  own := fun b => (g.own b).bind fun p => if p.inB r = true then some (p.toB ⟨0, 0⟩) else none
  be := fun _ => g.be r
  sz := fun _ => g.sz r
  n := fun _ => g.n r
  live := fun r' => r' = ⟨0, 0⟩
noncomputable def Gh.backB (g g1 : Gh) (r : Ref) (n : Nat) : Gh :=
  open Classical in
  { g with
    L := g1.L
    M := fun b => g1.M b ∨ (g.M b ∧ ¬ bLent g r b)
    own := fun b => if b < n ∧ ¬ bLent g r b then g.own b else (g1.own b).bind fun p => if p.isCell = true then some (p.toB r) else none }
theorem callB_core {f : FuncId} {r : Ref} {x x' : D} {rr : D} {tmps : Array Value} (hR : ROk P R) (h : RelA w g μ τ env ts st tmps) (hb : getB st r = some (.row [x])) (hx : refsBelow 0 x = true) (hx' : refsBelow 0 x' = true)
    (hc : R f [.ptr ⟨0, 0⟩ 0 0] [[.row [x]]] = some (rr, [[.row [x']]])) (hfl : flatR rr = true) (hlen : (cellsOf x').length = (cellsOf x).length) :
    FnOk P f ∧ Calls P f #[.pointer (some ⟨g.be r, 0, none⟩)] w fun e w' => ∃ v, e = .returned v ∧ Post w g μ τ tmps (rr, env, ts, setB st r (.row [x'])) v w' := by
  obtain ⟨hf, hC⟩ := hR f _ _ _ hc
  refine ⟨hf, ?_⟩
  have hlv : g.live r := (h.s.live r).2 ⟨_, hb⟩
  obtain ⟨hM, hL, ho, hsz⟩ := h.s.be r hlv
  have hB := h.s.blk r _ hb
  simp only [RelB] at hB
  have nl : ∀ b p, (g.lendB r).own b = some p → ∃ p0, g.own b = some p0 ∧ p0.inB r = true ∧ p = p0.toB ⟨0, 0⟩ := fun b p hp => by
    obtain ⟨p0, h1, h2⟩ := bind_some' hp
    split at h2 <;> cases h2
    exact ⟨p0, h1, by assumption, rfl⟩
  have inC : ∀ {p : Pl}, p.inB r = true → ∃ i j, p = .cell r i j := fun {p} hp => by
    cases p <;> simp [Pl.inB] at hp
    subst hp; exact ⟨_, _, rfl⟩
  have gb : ∀ r' : Ref, getB [[Blk.row [x]]] r' = if r' = ⟨0, 0⟩ then some (.row [x]) else none := fun r' => by
    obtain ⟨l, k⟩ := r'
    simp only [getB, List.length_nil]
    by_cases e : l = 0
    · subst e
      cases k with
      | zero => simp
      | succ k => simp
    · simp [e]
  have lentM : ∀ b, bLent g r b → g.M b ∧ b < w.heap.size := fun b hb => by
    rcases hb with rfl | ⟨p, h1, _⟩
    · exact ⟨hM, hsz⟩
    · exact h.s.own b p h1
  have lS : RelS w (g.lendB r) [[.row [x]]] := by
    refine ⟨fun r' => ?_, fun r' bl hbl => ?_, fun r' hr' => ?_, fun r1 r2 h1 h2 _ => ?_, fun b p hp => ?_, fun b hp => ?_, fun b hb => ?_, ⟨h.s.gl.1, fun p hp => ⟨fun hm => (h.s.gl.2 p hp).1 (lentM _ hm).1, (h.s.gl.2 p hp).2⟩⟩⟩
    · rw [gb]
      constructor
      · intro e
        have e : r' = ⟨0, 0⟩ := e
        rw [if_pos e]; exact ⟨_, rfl⟩
      · rintro ⟨bl, e⟩
        split at e
        · assumption
        · cases e
    · rw [gb] at hbl
      split at hbl <;> cases hbl
      rename_i e
      subst e
      simp only [RelB]
      refine ⟨hB.1, fun i hi => ?_⟩
      obtain ⟨h1, h2⟩ := hB.2 i hi
      refine ⟨h1, fun j hj => ?_⟩
      obtain ⟨h3, h4, v, h5, h6, h7⟩ := h2 j hj
      have hi0 : i = 0 := by simpa using hi
      subst hi0
      have hr0 : refsBelow 0 (cellsOf x)[j] = true := cells_refs0 hx j hj
      refine ⟨h3, refs_up hr0, v, h5, h6, RelD.loose (w' := w) (g' := g.lendB r) h7 hr0 ⟨fun _ _ _ => rfl, fun _ => Nat.le_refl _⟩ h.s.nil (fun _ => .cell ⟨0, 0⟩ 0 j) fun b k hb => ⟨?_, rfl, fun _ => ⟨id, id⟩⟩⟩
      simp [Gh.lendB, hb, Pl.inB, Pl.toB]
    · exact ⟨.inl rfl, hL, by simp [Gh.lendB, ho], hsz⟩
    · have h1 : r1 = ⟨0, 0⟩ := h1
      have h2 : r2 = ⟨0, 0⟩ := h2
      rw [h1, h2]
    · obtain ⟨p0, h1, h2, rfl⟩ := nl b p hp
      exact ⟨.inr ⟨p0, h1, h2⟩, (h.s.own b p0 h1).2⟩
    · obtain ⟨p0, h1, h2, h3⟩ := nl b _ hp
      obtain ⟨i, j, rfl⟩ := inC h2
      cases h3
    · exact ⟨(h.s.fresh b hb).1, fun hm => (h.s.fresh b hb).2 (lentM b hm).1⟩
  refine Calls.mono (hC #[.pointer (some ⟨g.be r, 0, none⟩)] w (g.lendB r) rfl (fun i hi => ?_) lS (fun b p hp => ?_)) fun e w' he => ?_
  · have hi0 : i = 0 := by simpa using hi
    subst hi0
    have := RelD.ptr (w := w) (g := g.lendB r) (fun _ => .nil) ⟨0, 0⟩ 0 0 rfl
    simpa [Gh.lendB] using this
  · obtain ⟨p0, h1, h2, rfl⟩ := nl b p hp
    obtain ⟨i, j, rfl⟩ := inC h2
    rfl
  obtain ⟨v, g1, rfl, B⟩ := he
  obtain ⟨n1, n2, n3, n4⟩ := B.ext.refs ⟨0, 0⟩ rfl
  have n2 : g1.be ⟨0, 0⟩ = g.be r := n2
  have n3 : g1.sz ⟨0, 0⟩ = g.sz r := n3
  have n4 : g1.n ⟨0, 0⟩ = g.n r := n4
  have old : ∀ b, b < w.heap.size → ¬ bLent g r b → w'.heap[b]? = w.heap[b]? ∧ g1.L b = g.L b ∧ ¬ g1.M b := fun b hb hm => B.ext.old b hb hm
  have ownL : ∀ b, b < w.heap.size → ¬ bLent g r b → (g.backB g1 r w.heap.size).own b = g.own b := fun b hb hm => by simp only [Gh.backB]; rw [if_pos ⟨hb, hm⟩]
  have own1 : ∀ b p, g1.own b = some p → ¬ (b < w.heap.size ∧ ¬ bLent g r b) := fun b p hp hh => (old b hh.1 hh.2).2.2 (B.s.own b p hp).1
  have keep : Keeps w w' g (g.backB g1 r w.heap.size) := ⟨B.ext.cell, B.ext.L⟩
  have ext : Ext w w' g (g.backB g1 r w.heap.size) := ⟨B.ext.os, B.ext.tape, B.ext.output, B.ext.size, B.ext.cell, B.ext.L, fun b hb hm => by
    have hl : ¬ bLent g r b := fun hh => hm (lentM b hh).1
    obtain ⟨h1, h2, h3⟩ := old b hb hl
    exact ⟨h1, h2, fun hh => hh.elim h3 (fun hh => hm hh.1)⟩, fun r hr => ⟨hr, rfl, rfl, rfl⟩⟩
  -- what is no cell of that block
  have mine : ∀ {pl : Nat → Pl} {d : D} {v : Value}, (∀ k, (pl k).inB r = false) → RelD w g pl d v → RelD w' (g.backB g1 r w.heap.size) pl d v := fun hpl hd =>
    hd.mono keep h.s.nil (fun b k hb => by
      have hbs := (h.s.own b _ hb).2
      have hnl : ¬ bLent g r b := by
        rintro (rfl | ⟨p, h1, h2⟩)
        · rw [ho] at hb; cases hb
        · rw [hb] at h1; cases h1; rw [hpl k] at h2; cases h2
      refine ⟨by rw [ownL b hbs hnl]; exact hb, (old b hbs hnl).2.1, fun o' => ?_⟩
      obtain ⟨h1, h2⟩ := cell_heap (old b hbs hnl).1 o'
      rw [h1, h2]; exact ⟨id, id⟩) (fun r hr => ⟨hr, rfl, rfl, rfl⟩)
  have hget := getB_setB (.row [x']) hb
  have hB1 := B.s.blk ⟨0, 0⟩ (.row [x']) (by simp [getB])
  simp only [RelB, n2, n3, n4] at hB1
  have hS : RelS w' (g.backB g1 r w.heap.size) (setB st r (.row [x'])) := by
    refine ⟨fun r' => ?_, fun r' bl hbl => ?_, fun r' hr' => ?_, h.s.inj, fun b p hp => ?_, fun b hp => ?_, fun b hb => ?_, ⟨B.s.gl.1, fun p hp => ⟨fun hm => hm.elim (B.s.gl.2 p hp).1 (fun hh => (h.s.gl.2 p hp).1 hh.1), (B.s.gl.2 p hp).2⟩⟩⟩
    · rw [hget]
      by_cases e : r' = r
      · subst e; rw [if_pos rfl]; exact ⟨fun _ => ⟨_, rfl⟩, fun _ => hlv⟩
      · rw [if_neg e]; exact h.s.live r'
    · rw [hget] at hbl
      by_cases e : r' = r
      · subst e
        rw [if_pos rfl] at hbl
        cases hbl
        simp only [RelB]
        refine ⟨hB1.1, fun i hi => ?_⟩
        obtain ⟨h1, h2⟩ := hB1.2 i hi
        refine ⟨h1, fun j hj => ?_⟩
        obtain ⟨h3, h4, v, h5, h6, h7⟩ := h2 j hj
        have hi0 : i = 0 := by simpa using hi
        subst hi0
        have hr0 : refsBelow 0 (cellsOf x')[j] = true := cells_refs0 hx' j hj
        refine ⟨h3, refs_up hr0, v, h5, h6, RelD.loose (w' := w') (g' := g.backB g1 r' w.heap.size) h7 hr0 ⟨fun _ _ _ => rfl, fun _ => Nat.le_refl _⟩ B.s.nil (fun _ => .cell r' 0 j) fun b k hb => ⟨?_, rfl, fun _ => ⟨id, id⟩⟩⟩
        simp only [Gh.backB]
        rw [if_neg (own1 b _ hb), hb]
        simp [Pl.isCell, Pl.toB]
      · rw [if_neg e] at hbl
        have hlv' : g.live r' := (h.s.live r').2 ⟨_, hbl⟩
        have hbe := h.s.be r' hlv'
        have hnl : ¬ bLent g r (g.be r') := by
          rintro (hh | ⟨p, h1, _⟩)
          · exact e (h.s.inj _ _ hlv' hlv hh)
          · rw [hbe.2.2.1] at h1; cases h1
        have hh := (old _ hbe.2.2.2 hnl).1
        have hB' := h.s.blk r' _ hbl
        have pin : ∀ i j, (Pl.cell r' i j).inB r = false := fun i j => by simp [Pl.inB, e]
        cases bl with
        | mp es =>
          obtain ⟨arr, clock, h8, h9, h10⟩ := hB'
          refine ⟨arr, clock, hh.trans h8, h9, fun i hi hi' => ?_⟩
          obtain ⟨h11, h12, h13⟩ := h10 i hi hi'
          exact ⟨h11, h12, mine (fun _ => pin _ _) h13⟩
        | row zs =>
          simp only [RelB] at hB' ⊢
          refine ⟨hB'.1, fun i hi => ?_⟩
          obtain ⟨h2, h3⟩ := hB'.2 i hi
          refine ⟨h2, fun j hj => ?_⟩
          obtain ⟨h4, h5, v, h6, h7, h8⟩ := h3 j hj
          obtain ⟨c1, c2⟩ := cell_heap hh (i * g.sz r' + j)
          exact ⟨h4, h5, v, c1.trans h6, c2.trans h7, mine (fun _ => pin _ _) h8⟩
    · have hbe := h.s.be r' hr'
      by_cases e : r' = r
      · subst e
        obtain ⟨m1, m2, m3, m4⟩ := B.s.be ⟨0, 0⟩ n1
        rw [n2] at m1 m2 m3 m4
        refine ⟨.inl m1, m2, ?_, m4⟩
        simp only [Gh.backB]
        rw [if_neg (fun hh => hh.2 (.inl rfl)), m3]; rfl
      · have hnl : ¬ bLent g r (g.be r') := by
          rintro (hh | ⟨p, h1, _⟩)
          · exact e (h.s.inj _ _ hr' hlv hh)
          · rw [hbe.2.2.1] at h1; cases h1
        refine ⟨.inr ⟨hbe.1, hnl⟩, (old _ hbe.2.2.2 hnl).2.1.trans hbe.2.1, (ownL _ hbe.2.2.2 hnl).trans hbe.2.2.1, Nat.lt_of_lt_of_le hbe.2.2.2 B.ext.size⟩
    · by_cases hl : b < w.heap.size ∧ ¬ bLent g r b
      · rw [ownL b hl.1 hl.2] at hp
        have := h.s.own b p hp
        exact ⟨.inr ⟨this.1, hl.2⟩, Nat.lt_of_lt_of_le this.2 B.ext.size⟩
      · simp only [Gh.backB] at hp
        rw [if_neg hl] at hp
        obtain ⟨p1, h1, _⟩ := bind_some' hp
        have := B.s.own b p1 h1
        exact ⟨.inl this.1, this.2⟩
    · by_cases hl : b < w.heap.size ∧ ¬ bLent g r b
      · rw [ownL b hl.1 hl.2] at hp
        exact h.s.nil b hp
      · simp only [Gh.backB] at hp
        rw [if_neg hl] at hp
        obtain ⟨p1, h1, h2⟩ := bind_some' hp
        split at h2 <;> first | (cases h2; done) | skip
        rename_i hcl
        cases p1 <;> first | (cases hcl; done) | (cases h2; done)
    · refine ⟨(B.s.fresh b hb).1, fun hm => hm.elim (B.s.fresh b hb).2 (fun hh => ?_)⟩
      exact (h.s.fresh b (Nat.le_trans B.ext.size hb)).2 hh.1
  exact ⟨v, rfl, g.backB g1 r w.heap.size, ext, ⟨hS, fun i t hi => mine (fun _ => rfl) (h.e i t hi), fun j t hj => mine (fun _ => rfl) (h.t j t hj)⟩, flatR_rel B.r hfl⟩
end
end Go.Q
