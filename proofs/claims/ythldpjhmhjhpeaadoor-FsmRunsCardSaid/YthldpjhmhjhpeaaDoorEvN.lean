/- Calls: what the abstract machine tells of them holds, if it holds of what is called. No condition. -/
import Derived.Test.YthldpjhmhjhpeaaDoorEvM
set_option linter.unusedVariables false
set_option linter.unusedSimpArgs false
set_option linter.unusedSectionVars false
namespace Go.Q
variable [Known]

def Pl.isCell : Pl → Bool
  | .cell _ _ _ => true
  | _ => false
def Pl.isRes : Pl → Bool
  | .res _ => true
  | _ => false

structure FnOk (P : Program) (f : FuncId) : Prop where
  ex : ∃ fn, P.funcs[f]? = some fn ∧ fn.name ≠ "runtime.NumGoroutine" ∧ fn.body.isSome = true

/-- What comes of a call. -/
structure Back (w : World) (g : Gh) (w' : World) (g' : Gh) (r : D) (st' : St) (v : Value) : Prop where
  ext : Ext w w' g g'
  s : RelS w' g' st'
  r : RelD w' g' .res r v
  own : ∀ b p, g'.own b = some p → p.isCell = true ∨ p.isRes = true

/-- What the abstract machine tells of functions holds of the program's. -/
def ROk (P : Program) (R : Run) : Prop := ∀ f args st r, R f args st = some r → FnOk P f ∧ ∀ (vals : Array Value) (w : World) (g : Gh) (hl : args.length = vals.size),
  (∀ i (h : i < args.length), RelD w g (fun _ => .nil) args[i] (vals[i]'(hl ▸ h))) → RelS w g st → (∀ b p, g.own b = some p → p.isCell = true) →
  Calls P f vals w fun e w' => ∃ v g', e = .returned v ∧ Back w g w' g' r.1 r.2 v

section
variable {P : Program} {w : World} {g : Gh} {μ : List Nat} {τ : List (Option Nat)} {env ts : List D} {st : St} {a : Act} {o : Oper} {q : Rg} {R : Run}

theorem call_run {f : FuncId} {args : Array Value} (h : FnOk P f) : (callFunc f args).run P w = .ok (.enter f args) w := by
  obtain ⟨fn, h1, h2, h3⟩ := h.ex
  have e1 : (fn.name == "runtime.NumGoroutine") = false := by simpa using h2
  have e2 : fn.body.isNone = false := by cases hb : fn.body <;> simp_all
  simp only [callFunc, Sem.run_bind, run_program, Result.andThen_ok, h1, e1, e2, Bool.false_eq_true, if_false, Sem.run_pure]

/-! ### A call as it is -/
theorem cell_of {p : Pl} (h : p.isCell = true) : ∃ r i j, p = .cell r i j := by cases p <;> first | exact ⟨_, _, _, rfl⟩ | (simp [Pl.isCell] at h; done)
theorem res_of {p : Pl} (h : p.isRes = true) : ∃ k, p = .res k := by cases p <;> first | exact ⟨_, rfl⟩ | (simp [Pl.isRes] at h; done)

def Gh.prot (g : Gh) (b : Nat) : Prop := ∃ p, g.own b = some p ∧ p.isCell = false
noncomputable def Gh.lent (g : Gh) : Gh := { g with M := fun b => g.M b ∧ ¬ g.prot b, own := fun b => (g.own b).bind fun p => if p.isCell = true then some p else none }
def moveRes (n : Nat) : Pl → Pl
  | .res k => .tmp n k
  | p => p
noncomputable def Gh.taken (g g1 : Gh) (n : Nat) : Gh :=
  open Classical in
  { g1 with M := fun b => g1.M b ∨ g.prot b, own := fun b => if g.prot b then g.own b else (g1.own b).map (moveRes n) }

theorem gen_core {f : FuncId} {ds : List D} {st' : St} {r : D} {vals : Array Value} {tmps : Array Value} (hR : ROk P R) (h : RelA w g μ τ env ts st tmps) (hc : R f ds st = some (r, st')) (hl : ds.length = vals.size)
    (hv : ∀ i (h : i < ds.length), RelD w g (fun _ => .nil) ds[i] (vals[i]'(hl ▸ h))) :
    FnOk P f ∧ Calls P f vals w fun e w' => ∃ v, e = .returned v ∧ Post w g μ τ tmps (r, env, ts, st') v w' := by
  obtain ⟨hf, hC⟩ := hR f ds st _ hc
  refine ⟨hf, ?_⟩
  have lown : ∀ b p, g.lent.own b = some p → g.own b = some p ∧ p.isCell = true := fun b p hb => by
    obtain ⟨q, h1, h2⟩ := bind_some' hb
    split at h2 <;> cases h2
    exact ⟨h1, by assumption⟩
  have lcell : ∀ b r i j, g.own b = some (.cell r i j) → g.lent.own b = some (.cell r i j) := fun b r i j hb => by
    simp [Gh.lent, hb, Pl.isCell]
  have lentD : ∀ {pl : Nat → Pl} {d : D} {v : Value}, (∀ k, (pl k).isCell = true ∨ pl k = .nil) → RelD w g pl d v → RelD w g.lent pl d v := fun hpl hd =>
    hd.mono ⟨fun _ _ _ => rfl, fun _ => Nat.le_refl _⟩ h.s.nil (fun b k hb => by
      rcases hpl k with hk | hk
      · obtain ⟨r, i, j, e⟩ := cell_of hk
        rw [e] at hb ⊢
        exact ⟨lcell _ _ _ _ hb, rfl, fun _ => ⟨id, id⟩⟩
      · rw [hk] at hb; exact absurd hb (h.s.nil b)) (fun r hr => ⟨hr, rfl, rfl, rfl⟩)
  have notprot : ∀ r, g.live r → ¬ g.prot (g.be r) := fun r hr => by
    rintro ⟨p, hp, _⟩
    have := (h.s.be r hr).2.2.1
    rw [hp] at this; cases this
  have lS : RelS w g.lent st := by
    refine ⟨h.s.live, fun r bl hb => ?_, fun r hr => ?_, h.s.inj, fun b p hb => ?_, fun b hb => ?_, fun b hb => ?_, h.s.gl⟩
    · have hB := h.s.blk r bl hb
      cases bl with
      | mp es =>
        obtain ⟨arr, clock, h8, h9, h10⟩ := hB
        refine ⟨arr, clock, h8, h9, fun i hi hi' => ?_⟩
        obtain ⟨h11, h12, h13⟩ := h10 i hi hi'
        exact ⟨h11, h12, lentD (fun _ => .inl rfl) h13⟩
      | row xs =>
        simp only [RelB] at hB ⊢
        refine ⟨hB.1, fun i hi => ?_⟩
        obtain ⟨h2, h3⟩ := hB.2 i hi
        refine ⟨h2, fun j hj => ?_⟩
        obtain ⟨h4, h5, v, h6, h7, h8⟩ := h3 j hj
        exact ⟨h4, h5, v, h6, h7, lentD (fun _ => .inl rfl) h8⟩
    · obtain ⟨h1, h2, h3, h4⟩ := h.s.be r hr
      exact ⟨⟨h1, notprot r hr⟩, h2, by show (g.own (g.be r)).bind _ = none; rw [h3]; rfl, h4⟩
    · obtain ⟨h1, h2⟩ := lown b p hb
      obtain ⟨h3, h4⟩ := h.s.own b p h1
      refine ⟨⟨h3, ?_⟩, h4⟩
      rintro ⟨q, h5, h6⟩
      rw [h1] at h5; cases h5
      rw [h2] at h6; cases h6
    · have := (lown b _ hb).2
      simp [Pl.isCell] at this
    · obtain ⟨h1, h2⟩ := h.s.fresh b hb
      exact ⟨h1, fun hh => h2 hh.1⟩
  refine Calls.mono (hC vals w g.lent hl (fun i hi => lentD (fun _ => .inr rfl) (hv i hi)) lS (fun b p hb => (lown b p hb).2)) fun e w' he => ?_
  obtain ⟨v, g1, rfl, B⟩ := he
  refine ⟨v, rfl, g.taken g1 τ.length, ?_, ?_, ?_⟩
  all_goals
    have psize : ∀ b, g.prot b → b < w.heap.size ∧ g.M b := fun b hb => by
      obtain ⟨p, hp, _⟩ := hb
      exact ⟨(h.s.own b p hp).2, (h.s.own b p hp).1⟩
    have pold : ∀ b, g.prot b → w'.heap[b]? = w.heap[b]? ∧ g1.L b = g.L b ∧ ¬ g1.M b := fun b hb => B.ext.old b (psize b hb).1 (fun hm => hm.2 hb)
    have town : ∀ b, g.prot b → (g.taken g1 τ.length).own b = g.own b := fun b hb => by simp only [Gh.taken]; rw [if_pos hb]
    have town' : ∀ b, ¬ g.prot b → (g.taken g1 τ.length).own b = (g1.own b).map (moveRes τ.length) := fun b hb => by simp only [Gh.taken]; rw [if_neg hb]
    have noM : ∀ b, g1.M b → ¬ g.prot b := fun b hm hp => (pold b hp).2.2 hm
    have keep1 : Keeps w w' g (g.taken g1 τ.length) := ⟨B.ext.cell, B.ext.L⟩
    have ext : Ext w w' g (g.taken g1 τ.length) := ⟨B.ext.os, B.ext.tape, B.ext.output, B.ext.size, B.ext.cell, B.ext.L, fun b hb hm => by
      have h1 := B.ext.old b hb (fun hh => hm hh.1)
      refine ⟨h1.1, h1.2.1, ?_⟩
      rintro (h2 | h2)
      · exact h1.2.2 h2
      · exact hm (psize b h2).2, fun r hr => B.ext.refs r hr⟩
    have toD : ∀ {pl : Nat → Pl} {d : D} {v : Value}, (∀ k, (pl k).isCell = true) → RelD w' g1 pl d v → RelD w' (g.taken g1 τ.length) pl d v := fun hpl hd =>
      hd.mono ⟨fun _ _ _ => rfl, fun _ => Nat.le_refl _⟩ B.s.nil (fun b k hb => by
        have hnp := noM b (B.s.own b _ hb).1
        obtain ⟨r, i, j, e⟩ := cell_of (hpl k)
        rw [e] at hb ⊢
        exact ⟨by rw [town' b hnp, hb]; rfl, rfl, fun _ => ⟨id, id⟩⟩) (fun r hr => ⟨hr, rfl, rfl, rfl⟩)
    have mine : ∀ {pl : Nat → Pl} {d : D} {v : Value}, (∀ k, (pl k).isCell = false) → RelD w g pl d v → RelD w' (g.taken g1 τ.length) pl d v := fun hpl hd =>
      hd.mono keep1 h.s.nil (fun b k hb => by
        have hp : g.prot b := ⟨_, hb, hpl k⟩
        refine ⟨by rw [town b hp]; exact hb, (pold b hp).2.1, fun o' => ?_⟩
        obtain ⟨h1, h2⟩ := cell_heap (pold b hp).1 o'
        rw [h1, h2]; exact ⟨id, id⟩) (fun r hr => B.ext.refs r hr)
  · exact ext
  · refine ⟨⟨B.s.live, fun r bl hb => ?_, fun r hr => ?_, B.s.inj, fun b p hb => ?_, fun b hb => ?_, fun b hb => ?_, B.s.gl⟩, fun i t hi => mine (fun _ => rfl) (h.e i t hi), fun j t hj => mine (fun _ => rfl) (h.t j t hj)⟩
    · have hB := B.s.blk r bl hb
      cases bl with
      | mp es =>
        obtain ⟨arr, clock, h8, h9, h10⟩ := hB
        refine ⟨arr, clock, h8, h9, fun i hi hi' => ?_⟩
        obtain ⟨h11, h12, h13⟩ := h10 i hi hi'
        exact ⟨h11, h12, toD (fun _ => rfl) h13⟩
      | row xs =>
        simp only [RelB] at hB ⊢
        refine ⟨hB.1, fun i hi => ?_⟩
        obtain ⟨h2, h3⟩ := hB.2 i hi
        refine ⟨h2, fun j hj => ?_⟩
        obtain ⟨h4, h5, v, h6, h7, h8⟩ := h3 j hj
        exact ⟨h4, h5, v, h6, h7, toD (fun _ => rfl) h8⟩
    · obtain ⟨h1, h2, h3, h4⟩ := B.s.be r hr
      refine ⟨.inl h1, h2, ?_, h4⟩
      show (g.taken g1 τ.length).own (g1.be r) = none
      rw [town' _ (noM _ h1), h3]; rfl
    · by_cases hp : g.prot b
      · exact ⟨.inr hp, Nat.lt_of_lt_of_le (psize b hp).1 B.ext.size⟩
      · rw [town' b hp, Option.map_eq_some_iff] at hb
        obtain ⟨p', h1, rfl⟩ := hb
        obtain ⟨h2, h3⟩ := B.s.own b p' h1
        exact ⟨.inl h2, h3⟩
    · by_cases hp : g.prot b
      · rw [town b hp] at hb; exact h.s.nil b hb
      · rw [town' b hp, Option.map_eq_some_iff] at hb
        obtain ⟨p', h1, h2⟩ := hb
        rcases B.own b p' h1 with h3 | h3
        · obtain ⟨r, i, j, rfl⟩ := cell_of h3; cases h2
        · obtain ⟨k, rfl⟩ := res_of h3; cases h2
    · obtain ⟨h1, h2⟩ := B.s.fresh b hb
      refine ⟨h1, ?_⟩
      rintro (h3 | h3)
      · exact h2 h3
      · have := (psize b h3).1; have := B.ext.size; omega
  · have h1 : RelD w' (g1.mv (moveRes τ.length)) (.tmp τ.length) r v := B.r.mv (fun k => rfl) rfl
    refine h1.mono ⟨fun _ _ _ => rfl, fun _ => Nat.le_refl _⟩ (fun b hb => ?_) (fun b k hb => ?_) (fun r hr => ⟨hr, rfl, rfl, rfl⟩)
    · simp only [Gh.mv, Option.map_eq_some_iff] at hb
      obtain ⟨p', h1, h2⟩ := hb
      rcases B.own b p' h1 with h3 | h3
      · obtain ⟨r, i, j, rfl⟩ := cell_of h3; cases h2
      · obtain ⟨k, rfl⟩ := res_of h3; cases h2
    · have hb' := hb
      simp only [Gh.mv, Option.map_eq_some_iff] at hb'
      obtain ⟨p', h1, h2⟩ := hb'
      have hnp := noM b (B.s.own b _ h1).1
      refine ⟨?_, rfl, fun _ => ⟨id, id⟩⟩
      rw [town' b hnp]
      exact hb
end
end Go.Q
