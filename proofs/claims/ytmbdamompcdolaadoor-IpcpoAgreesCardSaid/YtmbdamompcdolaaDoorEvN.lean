/- Calls: what the abstract machine tells of them holds, if it holds of what is called. No condition. -/
import Derived.Test.YtmbdamompcdolaaDoorEvM
set_option linter.unusedVariables false
set_option linter.unusedSimpArgs false
set_option linter.unusedSectionVars false
namespace Go.Q
variable [Known]

def Pl.isCell : Pl → Bool
  | .cell _ _ _ => true
  | _ => false
def Pl.isRes : Pl → Bool
  | .res _ => true
  | _ => false

structure FnOk (P : Program) (f : FuncId) : Prop where
  ex : ∃ fn, P.funcs[f]? = some fn ∧ fn.name ≠ "runtime.NumGoroutine" ∧ fn.body.isSome = true

/-- What comes of a call. -/
structure Back (w : World) (g : Gh) (w' : World) (g' : Gh) (r : D) (st' : St) (v : Value) : Prop where
  ext : Ext w w' g g'
  s : RelS w' g' st'
  r : RelD w' g' .res r v
  own : ∀ b p, g'.own b = some p → p.isCell = true ∨ p.isRes = true

/-- What the abstract machine tells of functions holds of the program's. -/
def ROk (P : Program) (R : Run) : Prop := ∀ f args st r, R f args st = some r → FnOk P f ∧ ∀ (vals : Array Value) (w : World) (g : Gh) (hl : args.length = vals.size),
  (∀ i (h : i < args.length), RelD w g (fun _ => .nil) args[i] (vals[i]'(hl ▸ h))) → RelS w g st → (∀ b p, g.own b = some p → p.isCell = true) →
  Calls P f vals w fun e w' => ∃ v g', e = .returned v ∧ Back w g w' g' r.1 r.2 v

section
variable {P : Program} {w : World} {g : Gh} {μ : List Nat} {τ : List (Option Nat)} {env ts : List D} {st : St} {a : Act} {o : Oper} {q : Rg} {R : Run}

theorem call_run {f : FuncId} {args : Array Value} (h : FnOk P f) : (callFunc f args).run P w = .ok (.enter f args) w := by
  obtain ⟨fn, h1, h2, h3⟩ := h.ex
  have e1 : (fn.name == "runtime.NumGoroutine") = false := by simpa using h2
  have e2 : fn.body.isNone = false := by cases hb : fn.body <;> simp_all
  simp only [callFunc, Sem.run_bind, run_program, Result.andThen_ok, h1, e1, e2, Bool.false_eq_true, if_false, Sem.run_pure]

/-! ### A call as it is -/
theorem cell_of {p : Pl} (h : p.isCell = true) : ∃ r i j, p = .cell r i j := by cases p <;> first | exact ⟨_, _, _, rfl⟩ | (simp [Pl.isCell] at h; done)
theorem res_of {p : Pl} (h : p.isRes = true) : ∃ k, p = .res k := by cases p <;> first | exact ⟨_, rfl⟩ | (simp [Pl.isRes] at h; done)

def Gh.prot (g : Gh) (b : Nat) : Prop := ∃ p, g.own b = some p ∧ p.isCell = false
noncomputable def Gh.lent (g : Gh) : Gh := { g with M := fun b => g.M b ∧ ¬ g.prot b, own := fun b => (g.own b).bind fun p => if p.isCell = true then some p else none }
def moveRes (n : Nat) : Pl → Pl
  | .res k => .tmp n k
  | p => p
noncomputable def Gh.taken (g g1 : Gh) (n : Nat) : Gh :=
  open Classical in
  { g1 with M := fun b => g1.M b ∨ g.prot b, own := fun b => if g.prot b then g.own b else (g1.own b).map (moveRes n) }

theorem gen_core {f : FuncId} {ds : List D} {st' : St} {r : D} {vals : Array Value} {tmps : Array Value} (hR : ROk P R) (h : RelA w g μ τ env ts st tmps) (hc : R f ds st = some (r, st')) (hl : ds.length = vals.size)
    (hv : ∀ i (h : i < ds.length), RelD w g (fun _ => .nil) ds[i] (vals[i]'(hl ▸ h))) :
    FnOk P f ∧ Calls P f vals w fun e w' => ∃ v, e = .returned v ∧ Post w g μ τ tmps (r, env, ts, st') v w' := by
  obtain ⟨hf, hC⟩ := hR f ds st _ hc
  refine ⟨hf, ?_⟩
  have lown : ∀ b p, g.lent.own b = some p → g.own b = some p ∧ p.isCell = true := fun b p hb => by
    obtain ⟨q, h1, h2⟩ := bind_some' hb
    split at h2 <;> cases h2
    exact ⟨h1, by assumption⟩
  have lcell : ∀ b r i j, g.own b = some (.cell r i j) → g.lent.own b = some (.cell r i j) := fun b r i j hb => by
    simp [Gh.lent, hb, Pl.isCell]
  have lentD : ∀ {pl : Nat → Pl} {d : D} {v : Value}, (∀ k, (pl k).isCell = true ∨ pl k = .nil) → RelD w g pl d v → RelD w g.lent pl d v := fun hpl hd =>
    hd.mono ⟨fun _ _ _ => rfl, fun _ => Nat.le_refl _⟩ h.s.nil (fun b k hb => by
      rcases hpl k with hk | hk
      · obtain ⟨r, i, j, e⟩ := cell_of hk
        rw [e] at hb ⊢
        exact ⟨lcell _ _ _ _ hb, rfl, fun _ => ⟨id, id⟩⟩
      · rw [hk] at hb; exact absurd hb (h.s.nil b)) (fun r hr => ⟨hr, rfl, rfl, rfl⟩)
  have notprot : ∀ r, g.live r → ¬ g.prot (g.be r) := fun r hr => by
    rintro ⟨p, hp, _⟩
    have := (h.s.be r hr).2.2.1
    rw [hp] at this; cases this
  have lS : RelS w g.lent st := by
    refine ⟨h.s.live, fun r bl hb => ?_, fun r hr => ?_, h.s.inj, fun b p hb => ?_, fun b hb => ?_, fun b hb => ?_, ⟨h.s.gl.1, fun p hp => ⟨fun hm => (h.s.gl.2 p hp).1 hm.1, (h.s.gl.2 p hp).2⟩⟩⟩
    · have hB := h.s.blk r bl hb
      cases bl with
      | mp es =>
        obtain ⟨arr, clock, h8, h9, h10⟩ := hB
        refine ⟨arr, clock, h8, h9, fun i hi hi' => ?_⟩
        obtain ⟨h11, h12, h13⟩ := h10 i hi hi'
        exact ⟨h11, h12, lentD (fun _ => .inl rfl) h13⟩
      | row xs =>
        simp only [RelB] at hB ⊢
        refine ⟨hB.1, fun i hi => ?_⟩
        obtain ⟨h2, h3⟩ := hB.2 i hi
        refine ⟨h2, fun j hj => ?_⟩
        obtain ⟨h4, h5, v, h6, h7, h8⟩ := h3 j hj
        exact ⟨h4, h5, v, h6, h7, lentD (fun _ => .inl rfl) h8⟩
    · obtain ⟨h1, h2, h3, h4⟩ := h.s.be r hr
      exact ⟨⟨h1, notprot r hr⟩, h2, by show (g.own (g.be r)).bind _ = none; rw [h3]; rfl, h4⟩
    · obtain ⟨h1, h2⟩ := lown b p hb
      obtain ⟨h3, h4⟩ := h.s.own b p h1
      refine ⟨⟨h3, ?_⟩, h4⟩
      rintro ⟨q, h5, h6⟩
      rw [h1] at h5; cases h5
      rw [h2] at h6; cases h6
    · have := (lown b _ hb).2
      simp [Pl.isCell] at this
    · obtain ⟨h1, h2⟩ := h.s.fresh b hb
      exact ⟨h1, fun hh => h2 hh.1⟩
  refine Calls.mono (hC vals w g.lent hl (fun i hi => lentD (fun _ => .inr rfl) (hv i hi)) lS (fun b p hb => (lown b p hb).2)) fun e w' he => ?_
  obtain ⟨v, g1, rfl, B⟩ := he
  refine ⟨v, rfl, g.taken g1 τ.length, ?_, ?_, ?_⟩
  all_goals
    have psize : ∀ b, g.prot b → b < w.heap.size ∧ g.M b := fun b hb => by
      obtain ⟨p, hp, _⟩ := hb
      exact ⟨(h.s.own b p hp).2, (h.s.own b p hp).1⟩
    have pold : ∀ b, g.prot b → w'.heap[b]? = w.heap[b]? ∧ g1.L b = g.L b ∧ ¬ g1.M b := fun b hb => B.ext.old b (psize b hb).1 (fun hm => hm.2 hb)
    have town : ∀ b, g.prot b → (g.taken g1 τ.length).own b = g.own b := fun b hb => by simp only [Gh.taken]; rw [if_pos hb]
    have town' : ∀ b, ¬ g.prot b → (g.taken g1 τ.length).own b = (g1.own b).map (moveRes τ.length) := fun b hb => by simp only [Gh.taken]; rw [if_neg hb]
    have noM : ∀ b, g1.M b → ¬ g.prot b := fun b hm hp => (pold b hp).2.2 hm
    have keep1 : Keeps w w' g (g.taken g1 τ.length) := ⟨B.ext.cell, B.ext.L⟩
    have ext : Ext w w' g (g.taken g1 τ.length) := ⟨B.ext.os, B.ext.tape, B.ext.output, B.ext.size, B.ext.cell, B.ext.L, fun b hb hm => by
      have h1 := B.ext.old b hb (fun hh => hm hh.1)
      refine ⟨h1.1, h1.2.1, ?_⟩
      rintro (h2 | h2)
      · exact h1.2.2 h2
      · exact hm (psize b h2).2, fun r hr => B.ext.refs r hr⟩
    have toD : ∀ {pl : Nat → Pl} {d : D} {v : Value}, (∀ k, (pl k).isCell = true) → RelD w' g1 pl d v → RelD w' (g.taken g1 τ.length) pl d v := fun hpl hd =>
      hd.mono ⟨fun _ _ _ => rfl, fun _ => Nat.le_refl _⟩ B.s.nil (fun b k hb => by
        have hnp := noM b (B.s.own b _ hb).1
        obtain ⟨r, i, j, e⟩ := cell_of (hpl k)
        rw [e] at hb ⊢
        exact ⟨by rw [town' b hnp, hb]; rfl, rfl, fun _ => ⟨id, id⟩⟩) (fun r hr => ⟨hr, rfl, rfl, rfl⟩)
    have mine : ∀ {pl : Nat → Pl} {d : D} {v : Value}, (∀ k, (pl k).isCell = false) → RelD w g pl d v → RelD w' (g.taken g1 τ.length) pl d v := fun hpl hd =>
      hd.mono keep1 h.s.nil (fun b k hb => by
        have hp : g.prot b := ⟨_, hb, hpl k⟩
        refine ⟨by rw [town b hp]; exact hb, (pold b hp).2.1, fun o' => ?_⟩
        obtain ⟨h1, h2⟩ := cell_heap (pold b hp).1 o'
        rw [h1, h2]; exact ⟨id, id⟩) (fun r hr => B.ext.refs r hr)
  · exact ext
  · refine ⟨⟨B.s.live, fun r bl hb => ?_, fun r hr => ?_, B.s.inj, fun b p hb => ?_, fun b hb => ?_, fun b hb => ?_, ⟨B.s.gl.1, fun p hp => ⟨fun hm => hm.elim (B.s.gl.2 p hp).1 (fun ⟨q, hq, _⟩ => (h.s.gl.2 p hp).1 (h.s.own _ _ hq).1), (B.s.gl.2 p hp).2⟩⟩⟩, fun i t hi => mine (fun _ => rfl) (h.e i t hi), fun j t hj => mine (fun _ => rfl) (h.t j t hj)⟩
    · have hB := B.s.blk r bl hb
      cases bl with
      | mp es =>
        obtain ⟨arr, clock, h8, h9, h10⟩ := hB
        refine ⟨arr, clock, h8, h9, fun i hi hi' => ?_⟩
        obtain ⟨h11, h12, h13⟩ := h10 i hi hi'
        exact ⟨h11, h12, toD (fun _ => rfl) h13⟩
      | row xs =>
        simp only [RelB] at hB ⊢
        refine ⟨hB.1, fun i hi => ?_⟩
        obtain ⟨h2, h3⟩ := hB.2 i hi
        refine ⟨h2, fun j hj => ?_⟩
        obtain ⟨h4, h5, v, h6, h7, h8⟩ := h3 j hj
        exact ⟨h4, h5, v, h6, h7, toD (fun _ => rfl) h8⟩
    · obtain ⟨h1, h2, h3, h4⟩ := B.s.be r hr
      refine ⟨.inl h1, h2, ?_, h4⟩
      show (g.taken g1 τ.length).own (g1.be r) = none
      rw [town' _ (noM _ h1), h3]; rfl
    · by_cases hp : g.prot b
      · exact ⟨.inr hp, Nat.lt_of_lt_of_le (psize b hp).1 B.ext.size⟩
      · rw [town' b hp, Option.map_eq_some_iff] at hb
        obtain ⟨p', h1, rfl⟩ := hb
        obtain ⟨h2, h3⟩ := B.s.own b p' h1
        exact ⟨.inl h2, h3⟩
    · by_cases hp : g.prot b
      · rw [town b hp] at hb; exact h.s.nil b hb
      · rw [town' b hp, Option.map_eq_some_iff] at hb
        obtain ⟨p', h1, h2⟩ := hb
        rcases B.own b p' h1 with h3 | h3
        · obtain ⟨r, i, j, rfl⟩ := cell_of h3; cases h2
        · obtain ⟨k, rfl⟩ := res_of h3; cases h2
    · obtain ⟨h1, h2⟩ := B.s.fresh b hb
      refine ⟨h1, ?_⟩
      rintro (h3 | h3)
      · exact h2 h3
      · have := (psize b h3).1; have := B.ext.size; omega
  · have h1 : RelD w' (g1.mv (moveRes τ.length)) (.tmp τ.length) r v := B.r.mv (fun k => rfl) rfl
    refine h1.mono ⟨fun _ _ _ => rfl, fun _ => Nat.le_refl _⟩ (fun b hb => ?_) (fun b k hb => ?_) (fun r hr => ⟨hr, rfl, rfl, rfl⟩)
    · simp only [Gh.mv, Option.map_eq_some_iff] at hb
      obtain ⟨p', h1, h2⟩ := hb
      rcases B.own b p' h1 with h3 | h3
      · obtain ⟨r, i, j, rfl⟩ := cell_of h3; cases h2
      · obtain ⟨k, rfl⟩ := res_of h3; cases h2
    · have hb' := hb
      simp only [Gh.mv, Option.map_eq_some_iff] at hb'
      obtain ⟨p', h1, h2⟩ := hb'
      have hnp := noM b (B.s.own b _ h1).1
      refine ⟨?_, rfl, fun _ => ⟨id, id⟩⟩
      rw [town' b hnp]
      exact hb
end
end Go.Q
set_option linter.unusedVariables false
set_option linter.unusedSimpArgs false
set_option linter.unusedSectionVars false
namespace Go.Q
variable [Known]

def blockSize (w : World) (b : Nat) : Nat := match w.heap[b]? with
  | some (.cells c _ _) => c.size
  | _ => 0
theorem cell_lt {w : World} {b o : Nat} {v : Value} (h : w.cell? ⟨b, o, none⟩ = some v) : o < blockSize w b := by
  unfold World.cell? at h
  unfold blockSize
  split at h <;> first | (cases h; done) | skip
  rename_i hb
  simp only at hb
  rw [hb]
  simp at h
  obtain ⟨h1, _⟩ := Array.getElem?_eq_some_iff.1 h
  exact h1

section
variable {P : Program} {w : World} {g : Gh} {μ : List Nat} {τ : List (Option Nat)} {env ts : List D} {st : St} {a : Act} {o : Oper} {q : Rg} {R : Run}

def rowRef : D → Option Ref
  | .own r _ _ _ _ => some r
  | .arr r _ _ _ => some r
  | _ => none
theorem rdV_rel {pl : Nat → Pl} {d : D} {x : V} {v : Value} {L : Nat → Nat} (hS : RelS w g st) (hd : RelD w g pl d v) (hx : rdV st d = some x) (hL : ∀ b, g.L b ≤ L b) (hr : ∀ r, rowRef d = some r → g.live r → blockSize w (g.be r) ≤ L (g.be r)) : RelV w L x v := by
  cases hrow : isRow d with
  | false => exact (toV_rel hd (rdV_plain hx hrow)).mono (fun _ _ _ => rfl) hL
  | true =>
    have key : ∀ z ys, x = .slc z ys → elems z st d = some ys → (∀ b o n c, v = .slice (some ⟨b, o, none⟩) n c → n ≠ 0 → blockSize w b ≤ L b) → RelV w L x v := fun z ys e hel hbs => by
      subst e
      obtain ⟨f, E, S⟩ := elems_rel hS hd hel
      cases S with
      | str b _ _ _ =>
        exfalso
        cases d <;> first | (cases hrow; done) | (cases hd; done)
      | sl ad c hc hcell =>
        by_cases h0 : ys.length = 0
        · have : ys = [] := List.length_eq_zero_iff.1 h0
          subst this
          exact .slc0 _ _ _
        · obtain ⟨b, o, rfl, h1⟩ := hcell h0
          exact .slc z ys b o c f hc E.len (fun i j hi hj => Nat.lt_of_lt_of_le (cell_lt (h1 i j hi hj)) (hbs b o _ c rfl h0)) h1 E.cell (fun i hi j hj => (E.rel i hi j hj).mono (fun _ _ _ => rfl) hL)
    cases d <;> first | (cases hrow; done) | skip
    · rename_i r z off len fl
      have hx' := hx
      simp only [rdV] at hx
      unfold rowV at hx
      split at hx <;> first | (cases hx; done) | skip
      split at hx <;> first | (cases hx; done) | skip
      obtain ⟨ys, _, rfl⟩ := map_some' hx
      refine key z ys rfl (by simp only [elems, hx', Option.bind, slcOf, if_true]) (fun b o n c e hn => ?_)
      subst e
      cases hd with | own _ _ _ _ _ _ _ _ hl _ _ ha =>
      have := ha hn
      cases this
      exact hr r rfl hl
    · rename_i r i off len
      have hx' := hx
      simp only [rdV] at hx
      unfold arrV at hx
      split at hx <;> first | (cases hx; done) | skip
      split at hx <;> first | (cases hx; done) | skip
      obtain ⟨ys, _, rfl⟩ := map_some' hx
      refine key 1 ys rfl (by simp only [elems, hx', Option.bind, slcOf, if_true]) (fun b o n c e hn => ?_)
      subst e
      cases hd with | arr _ _ _ _ _ _ _ hl _ ha =>
      have := ha hn
      cases this
      exact hr r rfl hl

theorem flats_at : ∀ {xs : List V}, flats xs = true → ∀ i (h : i < xs.length), flat xs[i] = true
  | [], _, i, h => by simp at h
  | x :: r, hf, i, h => by
    simp only [flats, Bool.and_eq_true] at hf
    cases i with
    | zero => exact hf.1
    | succ i => exact flats_at hf.2 i (by simpa using h)
theorem flat_rel {w' : World} {L L' : Nat → Nat} {x : V} {v : Value} (h : RelV w L x v) (hf : flat x = true) : RelV w' L' x v := by
  induction h with
  | bool b => exact .bool b
  | int k n => exact .int k n
  | str s => exact .str s
  | slc0 sz a c => simp [flat] at hf
  | slc => simp [flat] at hf
  | agg xs cs hl hk hr ih =>
    simp only [flat] at hf
    exact .agg xs cs hl hk (fun i hi => ih i hi (flats_at hf i hi))
  | nilp => exact .nilp
  | nili => exact .nili
  | nilf => exact .nilf
  | nilm => exact .nilm
  | iface => simp [flat] at hf
  | fn f => exact .fn f
  | pt => simp [flat] at hf
theorem flatDs_at : ∀ {xs : List D}, flatDs xs = true → ∀ i (h : i < xs.length), flatD xs[i] = true
  | [], _, i, h => by simp at h
  | x :: r, hf, i, h => by
    simp only [flatDs, Bool.and_eq_true] at hf
    cases i with
    | zero => exact hf.1
    | succ i => exact flatDs_at hf.2 i (by simpa using h)
theorem flatD_rel {w' : World} {g' : Gh} {pl pl' : Nat → Pl} {d : D} {v : Value} (h : RelD w g pl d v) (hf : flatD d = true) : RelD w' g' pl' d v := by
  cases d <;> simp only [flatD] at hf <;> first | (cases hf; done) | skip
  exact .v _ _ _ (flat_rel h.toV hf)
theorem flatR_rel {w' : World} {g' : Gh} {pl pl' : Nat → Pl} {d : D} {v : Value} (h : RelD w g pl d v) (hf : flatR d = true) : RelD w' g' pl' d v := by
  cases d <;> simp only [flatR] at hf <;> first | (cases hf; done) | skip
  · exact .v _ _ _ (flat_rel h.toV hf)
  · cases h with | tup _ ds cs hl hr =>
    exact .tup _ _ _ hl (fun i hi => flatD_rel (hr i hi) (flatDs_at hf i hi))

def Gh.shut (g : Gh) (L : Nat → Nat) : Gh := { g with L := L, M := fun _ => False, own := fun _ => none, live := fun _ => False }
noncomputable def Gh.back (g g1 : Gh) (n k : Nat) : Gh :=
  { g with L := fun b => if b < n then g.L b else g1.L b, M := fun b => if b < n then g.M b else g1.M b,
           own := fun b => if b < n then g.own b else (g1.own b).bind fun p => if p.isRes = true then some (moveRes k p) else none }

theorem pure_core {f : FuncId} {ds : List D} {xs : List V} {st1 : St} {r : D} {vals : Array Value} {tmps : Array Value} (hR : ROk P R) (h : RelA w g μ τ env ts st tmps) (hx : rdVs st ds = some xs) (hc : R f (xs.map .v) [] = some (r, []))
    (hflat : anyRow ds = true → flatR r = true) (hl : ds.length = vals.size) (hv : ∀ i (h : i < ds.length), RelD w g (fun _ => .nil) ds[i] (vals[i]'(hl ▸ h))) :
    FnOk P f ∧ Calls P f vals w fun e w' => ∃ v, e = .returned v ∧ Post w g μ τ tmps (r, env, ts, st) v w' := by
  obtain ⟨hf, hC⟩ := hR f (xs.map .v) [] _ hc
  refine ⟨hf, ?_⟩
  obtain ⟨hxl, hxa⟩ := rdVs_at hx
  -- what may be read
  obtain ⟨L, hL1, hL2, hL3⟩ : ∃ L : Nat → Nat, (∀ b, g.L b ≤ L b) ∧ (anyRow ds = true → ∀ b, blockSize w b ≤ L b) ∧ ((∀ b, w.heap.size ≤ b → L b = 0) ∧ (anyRow ds = false → L = g.L)) := by
    cases hrow : anyRow ds with
    | false => exact ⟨g.L, fun _ => Nat.le_refl _, (fun hh => by cases hh), fun b hb => (h.s.fresh b hb).1, fun _ => rfl⟩
    | true =>
      refine ⟨fun b => max (g.L b) (blockSize w b), fun b => Nat.le_max_left _ _, fun _ b => Nat.le_max_right _ _, fun b hb => ?_, (fun hh => by cases hh)⟩
      have h1 := (h.s.fresh b hb).1
      have h2 : blockSize w b = 0 := by unfold blockSize; rw [Array.getElem?_eq_none hb]
      show max (g.L b) (blockSize w b) = 0
      rw [h1, h2]; rfl
  obtain ⟨hL3, hL4⟩ := hL3
  have anyAt : ∀ (l : List D) i (hi : i < l.length), isRow l[i] = true → anyRow l = true := fun l => by
    induction l with
    | nil => intro i hi; simp at hi
    | cons d l ih =>
      intro i hi hr
      simp only [anyRow, Bool.or_eq_true]
      cases i with
      | zero => exact .inl hr
      | succ i => exact .inr (ih i (by simpa using hi) hr)
  have lS : RelS w (g.shut L) [] := ⟨fun r => ⟨fun hh => hh.elim, fun ⟨b, hb⟩ => by simp [getB] at hb⟩, fun r b hb => by simp [getB] at hb, fun r hr => hr.elim, fun r r' hr => hr.elim, fun b p hb => (by simp [Gh.shut] at hb), fun b hb => (by simp [Gh.shut] at hb), fun b hb => ⟨hL3 b hb, fun hh => hh⟩, gl_keep (g' := g.shut L) (fun _ _ _ => rfl) hL1 (Nat.le_refl _) (fun _ _ _ => ⟨fun hh => hh, rfl⟩) h.s.gl⟩
  refine Calls.mono (hC vals w (g.shut L) (by simp [hxl, hl]) (fun i hi => ?_) lS (fun b p hb => by simp [Gh.shut] at hb)) fun e w' he => ?_
  · have hi' : i < ds.length := by simpa [hxl] using hi
    simp only [List.getElem_map]
    refine .v _ _ _ (rdV_rel h.s (hv i hi') (hxa i hi' (by omega)) hL1 (fun r hrr _ => hL2 (anyAt ds i hi' (by cases hd : ds[i] <;> rw [hd] at hrr <;> first | rfl | cases hrr)) _))
  obtain ⟨v, g1, rfl, B⟩ := he
  have old : ∀ b, b < w.heap.size → w'.heap[b]? = w.heap[b]? ∧ g1.L b = L b ∧ ¬ g1.M b := fun b hb => B.ext.old b hb (fun hm => hm)
  have gsz : ∀ b p, g1.own b = some p → ¬ b < w.heap.size := fun b p hb hlt => (old b hlt).2.2 (B.s.own b p hb).1
  have G : Grow w w' g (g.back g1 w.heap.size τ.length) := by
    refine ⟨B.ext.os, B.ext.tape, B.ext.output, B.ext.size, fun b hb => (old b hb).1, fun b hb => ?_, fun b hb => ?_, fun b hb => ?_, fun r hr => ⟨hr, rfl, rfl, rfl⟩, fun b p hb hp => ?_, fun b hb => ?_⟩
    · simp only [Gh.back]; rw [if_pos hb]
    · simp only [Gh.back]; rw [if_pos hb]
    · simp only [Gh.back]; rw [if_pos hb]
    · simp only [Gh.back] at hp ⊢
      rw [if_neg (by omega)] at hp ⊢
      obtain ⟨p', h1, h2⟩ := bind_some' hp
      obtain ⟨h3, h4⟩ := B.s.own b p' h1
      split at h2 <;> cases h2
      rename_i hres
      obtain ⟨k, rfl⟩ := res_of hres
      exact ⟨h3, h4, fun e => by cases e⟩
    · have hs := B.ext.size
      obtain ⟨h1, h2⟩ := B.s.fresh b hb
      simp only [Gh.back]
      rw [if_neg (by omega), if_neg (by omega)]
      exact ⟨h1, h2⟩
  refine ⟨v, rfl, g.back g1 w.heap.size τ.length, G.ext h.s, G.relA h (fun r => Iff.rfl), ?_⟩
  show RelD w' _ (.tmp τ.length) r v
  cases hrow : anyRow ds with
  | true => exact flatR_rel B.r (hflat hrow)
  | false =>
    have hLg := hL4 hrow
    have h1 : RelD w' (g1.mv (moveRes τ.length)) (.tmp τ.length) r v := B.r.mv (fun k => rfl) rfl
    refine h1.mono ⟨fun _ _ _ => rfl, fun b => ?_⟩ (fun b hb => ?_) (fun b k hb => ?_) (fun r hr => ?_)
    · show g1.L b ≤ _
      simp only [Gh.back]
      by_cases hb : b < w.heap.size
      · rw [if_pos hb, (old b hb).2.1, hLg]; exact Nat.le_refl _
      · rw [if_neg hb]; exact Nat.le_refl _
    · simp only [Gh.mv, Option.map_eq_some_iff] at hb
      obtain ⟨p', h1, h2⟩ := hb
      rcases B.own b p' h1 with h3 | h3
      · obtain ⟨r, i, j, rfl⟩ := cell_of h3; cases h2
      · obtain ⟨k, rfl⟩ := res_of h3; cases h2
    · simp only [Gh.mv, Option.map_eq_some_iff] at hb
      obtain ⟨p', h1, h2⟩ := hb
      have hge := gsz b p' h1
      refine ⟨?_, ?_, fun _ => ⟨id, id⟩⟩
      · simp only [Gh.back]
        rw [if_neg hge, h1]
        rcases B.own b p' h1 with h3 | h3
        · obtain ⟨r, i, j, rfl⟩ := cell_of h3; cases h2
        · simp only [Option.bind, h3, if_true]; rw [h2]
      · show (g.back g1 w.heap.size τ.length).L b = g1.L b
        simp only [Gh.back]; rw [if_neg hge]
    · have : g1.live r := hr
      obtain ⟨b, hb⟩ := (B.s.live r).1 this
      simp [getB] at hb
end
end Go.Q
