/- Calls: what the abstract machine tells of them holds, if it holds of what is called. No condition. -/
import Derived.Test.YthfjopmfgaohjaaDoorEvX
import Derived.Lib.SliceRun
import Derived.MapKept
set_option linter.all false
namespace Go.Q
variable [Known]

def Pl.isCell : Pl → Bool
  | .cell _ _ _ => true
  | _ => false
def Pl.isRes : Pl → Bool
  | .res _ => true
  | _ => false

structure FnOk (P : Program) (f : FuncId) : Prop where
  ex : ∃ fn, P.funcs[f]? = some fn ∧ fn.name ≠ "runtime.NumGoroutine" ∧ fn.body.isSome = true

structure Back (w : World) (g : Gh) (w' : World) (g' : Gh) (r : D) (st' : St) (v : Value) : Prop where
  ext : Ext w w' g g'
  s : RelS w' g' st'
  r : RelD w' g' .res r v
  own : ∀ b p, g'.own b = some p → p.isCell = true ∨ p.isRes = true

def ROk (P : Program) (R : Run) : Prop := ∀ f args st r, R f args st = some r → FnOk P f ∧ ∀ (vals : Array Value) (w : World) (g : Gh) (hl : args.length = vals.size),
  (∀ i (h : i < args.length), RelD w g (fun _ => .nil) args[i] (vals[i]'(hl ▸ h))) → RelS w g st → (∀ b p, g.own b = some p → p.isCell = true) →
  Calls P f vals w fun e w' => ∃ v g', e = .returned v ∧ Back w g w' g' r.1 r.2 v

section
variable {P : Program} {w : World} {g : Gh} {μ : List Nat} {τ : List (Option Nat)} {env ts : List D} {st : St} {a : Act} {o : Oper} {q : Rg} {R : Run}

theorem call_run {f : FuncId} {args : Array Value} (h : FnOk P f) : (callFunc f args).run P w = .ok (.enter f args) w := by
  obtain ⟨fn, h1, h2, h3⟩ := h.ex
  have e1 : (fn.name == "runtime.NumGoroutine") = false := by simpa using h2
  have e2 : fn.body.isNone = false := by cases hb : fn.body <;> simp_all
  simp only [callFunc, Sem.run_bind, run_program, Result.andThen_ok, h1, e1, e2, Bool.false_eq_true, if_false, Sem.run_pure]

theorem cell_of {p : Pl} (h : p.isCell = true) : ∃ r i j, p = .cell r i j := by cases p <;> first | exact ⟨_, _, _, rfl⟩ | (simp [Pl.isCell] at h; done)
theorem res_of {p : Pl} (h : p.isRes = true) : ∃ k, p = .res k := by cases p <;> first | exact ⟨_, rfl⟩ | (simp [Pl.isRes] at h; done)

def Gh.prot (g : Gh) (b : Nat) : Prop := ∃ p, g.own b = some p ∧ p.isCell = false
noncomputable def Gh.lent (g : Gh) : Gh := { g with M := fun b => g.M b ∧ ¬ g.prot b, own := fun b => (g.own b).bind fun p => if p.isCell = true then some p else none }
def moveRes (n : Nat) : Pl → Pl
  | .res k => .tmp n k
  | p => p
noncomputable def Gh.taken (g g1 : Gh) (n : Nat) : Gh :=
  open Classical in
  { g1 with M := fun b => g1.M b ∨ g.prot b, own := fun b => if g.prot b then g.own b else (g1.own b).map (moveRes n) }

theorem gen_core {f : FuncId} {ds : List D} {st' : St} {r : D} {vals : Array Value} {tmps : Array Value} (hR : ROk P R) (h : RelA w g μ τ env ts st tmps) (hc : R f ds st = some (r, st')) (hl : ds.length = vals.size)
    (hv : ∀ i (h : i < ds.length), RelD w g (fun _ => .nil) ds[i] (vals[i]'(hl ▸ h))) :
    FnOk P f ∧ Calls P f vals w fun e w' => ∃ v, e = .returned v ∧ Post w g μ τ tmps (r, env, ts, st') v w' := by
  obtain ⟨hf, hC⟩ := hR f ds st _ hc
  refine ⟨hf, ?_⟩
  have lown : ∀ b p, g.lent.own b = some p → g.own b = some p ∧ p.isCell = true := fun b p hb => by
    obtain ⟨q, h1, h2⟩ := bind_some' hb
    split at h2 <;> cases h2
    exact ⟨h1, by assumption⟩
  have lcell : ∀ b r i j, g.own b = some (.cell r i j) → g.lent.own b = some (.cell r i j) := fun b r i j hb => by
    simp [Gh.lent, hb, Pl.isCell]
  have lentD : ∀ {pl : Nat → Pl} {d : D} {v : Value}, (∀ k, (pl k).isCell = true ∨ pl k = .nil) → RelD w g pl d v → RelD w g.lent pl d v := fun hpl hd =>
    hd.mono ⟨fun _ _ _ => rfl, fun _ => Nat.le_refl _⟩ h.s.nil (fun b k hb => by
      rcases hpl k with hk | hk
      · obtain ⟨r, i, j, e⟩ := cell_of hk
        rw [e] at hb ⊢
        exact ⟨lcell _ _ _ _ hb, rfl, fun _ => ⟨id, id⟩⟩
      · rw [hk] at hb; exact absurd hb (h.s.nil b)) (fun r hr => ⟨hr, rfl, rfl, rfl, rfl⟩)
  have notprot : ∀ r, g.live r → ¬ g.prot (g.be r) := fun r hr => by
    rintro ⟨p, hp, _⟩
    have := (h.s.be r hr).2.2.1
    rw [hp] at this; cases this
  have lS : RelS w g.lent st := by
    refine ⟨h.s.live, fun r bl hb => ?_, fun r hr => ?_, h.s.inj, fun b p hb => ?_, fun b hb => ?_, fun b hb => ?_, ⟨h.s.gl.1, fun p hp => ⟨fun hm => (h.s.gl.2 p hp).1 hm.1, (h.s.gl.2 p hp).2⟩⟩⟩
    · have hB := h.s.blk r bl hb
      cases bl with
      | dead => trivial
      | it s pos => exact hB
      | mp es =>
        obtain ⟨arr, clock, h8, h9, h10⟩ := hB
        refine ⟨arr, clock, h8, h9, fun i hi hi' => ?_⟩
        obtain ⟨h11, h12, h13⟩ := h10 i hi hi'
        exact ⟨h11, h12, lentD (fun _ => .inl rfl) h13⟩
      | row xs =>
        simp only [RelB] at hB ⊢
        refine ⟨hB.1, fun i hi => ?_⟩
        obtain ⟨h2, h3⟩ := hB.2 i hi
        refine ⟨h2, fun j hj => ?_⟩
        obtain ⟨h4, h5, v, h6, h7, h8⟩ := h3 j hj
        exact ⟨h4, h5, v, h6, h7, lentD (fun _ => .inl rfl) h8⟩
    · obtain ⟨h1, h2, h3, h4⟩ := h.s.be r hr
      exact ⟨⟨h1, notprot r hr⟩, h2, by show (g.own (g.be r)).bind _ = none; rw [h3]; rfl, h4⟩
    · obtain ⟨h1, h2⟩ := lown b p hb
      obtain ⟨h3, h4⟩ := h.s.own b p h1
      refine ⟨⟨h3, ?_⟩, h4⟩
      rintro ⟨q, h5, h6⟩
      rw [h1] at h5; cases h5
      rw [h2] at h6; cases h6
    · have := (lown b _ hb).2
      simp [Pl.isCell] at this
    · obtain ⟨h1, h2⟩ := h.s.fresh b hb
      exact ⟨h1, fun hh => h2 hh.1⟩
  refine Calls.mono (hC vals w g.lent hl (fun i hi => lentD (fun _ => .inr rfl) (hv i hi)) lS (fun b p hb => (lown b p hb).2)) fun e w' he => ?_
  obtain ⟨v, g1, rfl, B⟩ := he
  refine ⟨v, rfl, g.taken g1 τ.length, ?_, ?_, ?_⟩
  all_goals
    have psize : ∀ b, g.prot b → b < w.heap.size ∧ g.M b := fun b hb => by
      obtain ⟨p, hp, _⟩ := hb
      exact ⟨(h.s.own b p hp).2, (h.s.own b p hp).1⟩
    have pold : ∀ b, g.prot b → w'.heap[b]? = w.heap[b]? ∧ g1.L b = g.L b ∧ ¬ g1.M b := fun b hb => B.ext.old b (psize b hb).1 (fun hm => hm.2 hb)
    have town : ∀ b, g.prot b → (g.taken g1 τ.length).own b = g.own b := fun b hb => by simp only [Gh.taken]; rw [if_pos hb]
    have town' : ∀ b, ¬ g.prot b → (g.taken g1 τ.length).own b = (g1.own b).map (moveRes τ.length) := fun b hb => by simp only [Gh.taken]; rw [if_neg hb]
    have noM : ∀ b, g1.M b → ¬ g.prot b := fun b hm hp => (pold b hp).2.2 hm
    have keep1 : Keeps w w' g (g.taken g1 τ.length) := ⟨B.ext.cell, B.ext.L⟩
    have ext : Ext w w' g (g.taken g1 τ.length) := ⟨B.ext.os, B.ext.tape, B.ext.output, B.ext.size, B.ext.cell, B.ext.L, fun b hb hm => by
      have h1 := B.ext.old b hb (fun hh => hm hh.1)
      refine ⟨h1.1, h1.2.1, ?_⟩
      rintro (h2 | h2)
      · exact h1.2.2 h2
      · exact hm (psize b h2).2, fun r hr => B.ext.refs r hr⟩
    have toD : ∀ {pl : Nat → Pl} {d : D} {v : Value}, (∀ k, (pl k).isCell = true) → RelD w' g1 pl d v → RelD w' (g.taken g1 τ.length) pl d v := fun hpl hd =>
      hd.mono ⟨fun _ _ _ => rfl, fun _ => Nat.le_refl _⟩ B.s.nil (fun b k hb => by
        have hnp := noM b (B.s.own b _ hb).1
        obtain ⟨r, i, j, e⟩ := cell_of (hpl k)
        rw [e] at hb ⊢
        exact ⟨by rw [town' b hnp, hb]; rfl, rfl, fun _ => ⟨id, id⟩⟩) (fun r hr => ⟨hr, rfl, rfl, rfl, rfl⟩)
    have mine : ∀ {pl : Nat → Pl} {d : D} {v : Value}, (∀ k, (pl k).isCell = false) → RelD w g pl d v → RelD w' (g.taken g1 τ.length) pl d v := fun hpl hd =>
      hd.mono keep1 h.s.nil (fun b k hb => by
        have hp : g.prot b := ⟨_, hb, hpl k⟩
        refine ⟨by rw [town b hp]; exact hb, (pold b hp).2.1, fun o' => ?_⟩
        obtain ⟨h1, h2⟩ := cell_heap (pold b hp).1 o'
        rw [h1, h2]; exact ⟨id, id⟩) (fun r hr => B.ext.refs r hr)
  · exact ext
  · refine ⟨⟨B.s.live, fun r bl hb => ?_, fun r hr => ?_, B.s.inj, fun b p hb => ?_, fun b hb => ?_, fun b hb => ?_, ⟨B.s.gl.1, fun p hp => ⟨fun hm => hm.elim (B.s.gl.2 p hp).1 (fun ⟨q, hq, _⟩ => (h.s.gl.2 p hp).1 (h.s.own _ _ hq).1), (B.s.gl.2 p hp).2⟩⟩⟩, fun i t hi => mine (fun _ => rfl) (h.e i t hi), fun j t hj => mine (fun _ => rfl) (h.t j t hj)⟩
    · have hB := B.s.blk r bl hb
      cases bl with
      | dead => trivial
      | it s pos => exact hB
      | mp es =>
        obtain ⟨arr, clock, h8, h9, h10⟩ := hB
        refine ⟨arr, clock, h8, h9, fun i hi hi' => ?_⟩
        obtain ⟨h11, h12, h13⟩ := h10 i hi hi'
        exact ⟨h11, h12, toD (fun _ => rfl) h13⟩
      | row xs =>
        simp only [RelB] at hB ⊢
        refine ⟨hB.1, fun i hi => ?_⟩
        obtain ⟨h2, h3⟩ := hB.2 i hi
        refine ⟨h2, fun j hj => ?_⟩
        obtain ⟨h4, h5, v, h6, h7, h8⟩ := h3 j hj
        exact ⟨h4, h5, v, h6, h7, toD (fun _ => rfl) h8⟩
    · obtain ⟨h1, h2, h3, h4⟩ := B.s.be r hr
      refine ⟨.inl h1, h2, ?_, h4⟩
      show (g.taken g1 τ.length).own (g1.be r) = none
      rw [town' _ (noM _ h1), h3]; rfl
    · by_cases hp : g.prot b
      · exact ⟨.inr hp, Nat.lt_of_lt_of_le (psize b hp).1 B.ext.size⟩
      · rw [town' b hp, Option.map_eq_some_iff] at hb
        obtain ⟨p', h1, rfl⟩ := hb
        obtain ⟨h2, h3⟩ := B.s.own b p' h1
        exact ⟨.inl h2, h3⟩
    · by_cases hp : g.prot b
      · rw [town b hp] at hb; exact h.s.nil b hb
      · rw [town' b hp, Option.map_eq_some_iff] at hb
        obtain ⟨p', h1, h2⟩ := hb
        rcases B.own b p' h1 with h3 | h3
        · obtain ⟨r, i, j, rfl⟩ := cell_of h3; cases h2
        · obtain ⟨k, rfl⟩ := res_of h3; cases h2
    · obtain ⟨h1, h2⟩ := B.s.fresh b hb
      refine ⟨h1, ?_⟩
      rintro (h3 | h3)
      · exact h2 h3
      · have := (psize b h3).1; have := B.ext.size; omega
  · have h1 : RelD w' (g1.mv (moveRes τ.length)) (.tmp τ.length) r v := B.r.mv (fun k => rfl) rfl
    refine h1.mono ⟨fun _ _ _ => rfl, fun _ => Nat.le_refl _⟩ (fun b hb => ?_) (fun b k hb => ?_) (fun r hr => ⟨hr, rfl, rfl, rfl, rfl⟩)
    · simp only [Gh.mv, Option.map_eq_some_iff] at hb
      obtain ⟨p', h1, h2⟩ := hb
      rcases B.own b p' h1 with h3 | h3
      · obtain ⟨r, i, j, rfl⟩ := cell_of h3; cases h2
      · obtain ⟨k, rfl⟩ := res_of h3; cases h2
    · have hb' := hb
      simp only [Gh.mv, Option.map_eq_some_iff] at hb'
      obtain ⟨p', h1, h2⟩ := hb'
      have hnp := noM b (B.s.own b _ h1).1
      refine ⟨?_, rfl, fun _ => ⟨id, id⟩⟩
      rw [town' b hnp]
      exact hb
end
end Go.Q
namespace Go.Q
variable [Known]

def blockSize (w : World) (b : Nat) : Nat := match w.heap[b]? with
  | some (.cells c _ _) => c.size
  | _ => 0
theorem cell_lt {w : World} {b o : Nat} {v : Value} (h : w.cell? ⟨b, o, none⟩ = some v) : o < blockSize w b := by
  unfold World.cell? at h
  unfold blockSize
  split at h <;> first | (cases h; done) | skip
  rename_i hb
  simp only at hb
  rw [hb]
  simp at h
  obtain ⟨h1, _⟩ := Array.getElem?_eq_some_iff.1 h
  exact h1

section
variable {P : Program} {w : World} {g : Gh} {μ : List Nat} {τ : List (Option Nat)} {env ts : List D} {st : St} {a : Act} {o : Oper} {q : Rg} {R : Run}

def rowRef : D → Option Ref
  | .own r _ _ _ _ => some r
  | .arr r _ _ _ => some r
  | _ => none
theorem rdV_rel {pl : Nat → Pl} {d : D} {x : V} {v : Value} {L : Nat → Nat} (hS : RelS w g st) (hd : RelD w g pl d v) (hx : rdV st d = some x) (hL : ∀ b, g.L b ≤ L b) (hr : ∀ r, rowRef d = some r → g.live r → blockSize w (g.be r) ≤ L (g.be r)) : RelV w L x v := by
  cases hrow : isRow d with
  | false => exact (toV_rel hd (rdV_plain hx hrow)).mono (fun _ _ _ => rfl) hL
  | true =>
    have key : ∀ z ys, x = .slc z ys → elems z st d = some ys → (∀ b o n c, v = .slice (some ⟨b, o, none⟩) n c → n ≠ 0 → blockSize w b ≤ L b) → RelV w L x v := fun z ys e hel hbs => by
      subst e
      obtain ⟨f, E, S⟩ := elems_rel hS hd hel
      cases S with
      | str b _ _ _ =>
        exfalso
        cases d <;> first | (cases hrow; done) | (cases hd; done)
      | sl ad c hc hcell =>
        by_cases h0 : ys.length = 0
        · have : ys = [] := List.length_eq_zero_iff.1 h0
          subst this
          exact .slc0 _ _ _
        · obtain ⟨b, o, rfl, h1⟩ := hcell h0
          exact .slc z ys b o c f hc E.len (fun i j hi hj => Nat.lt_of_lt_of_le (cell_lt (h1 i j hi hj)) (hbs b o _ c rfl h0)) h1 E.cell (fun i hi j hj => (E.rel i hi j hj).mono (fun _ _ _ => rfl) hL)
    cases d <;> first | (cases hrow; done) | skip
    · rename_i r z off len fl
      have hx' := hx
      simp only [rdV] at hx
      unfold rowV at hx
      split at hx <;> first | (cases hx; done) | skip
      split at hx <;> first | (cases hx; done) | skip
      obtain ⟨ys, _, rfl⟩ := map_some' hx
      refine key z ys rfl (by simp only [elems, hx', Option.bind, slcOf, if_true]) (fun b o n c e hn => ?_)
      subst e
      cases hd with | own _ _ _ _ _ _ _ _ hl _ _ ha =>
      have := ha hn
      cases this
      exact hr r rfl hl
    · rename_i r i off len
      have hx' := hx
      simp only [rdV] at hx
      unfold arrV at hx
      split at hx <;> first | (cases hx; done) | skip
      split at hx <;> first | (cases hx; done) | skip
      obtain ⟨ys, _, rfl⟩ := map_some' hx
      refine key 1 ys rfl (by simp only [elems, hx', Option.bind, slcOf, if_true]) (fun b o n c e hn => ?_)
      subst e
      cases hd with | arr _ _ _ _ _ _ _ hl _ ha =>
      have := ha hn
      cases this
      exact hr r rfl hl

theorem flats_at : ∀ {xs : List V}, flats xs = true → ∀ i (h : i < xs.length), flat xs[i] = true
  | [], _, i, h => by simp at h
  | x :: r, hf, i, h => by
    simp only [flats, Bool.and_eq_true] at hf
    cases i with
    | zero => exact hf.1
    | succ i => exact flats_at hf.2 i (by simpa using h)
theorem flat_rel {w' : World} {L L' : Nat → Nat} {x : V} {v : Value} (h : RelV w L x v) (hf : flat x = true) : RelV w' L' x v := by
  induction h with
  | bool b => exact .bool b
  | int k n => exact .int k n
  | str s => exact .str s
  | slc0 sz a c => simp [flat] at hf
  | slc => simp [flat] at hf
  | agg xs cs hl hk hr ih =>
    simp only [flat] at hf
    exact .agg xs cs hl hk (fun i hi => ih i hi (flats_at hf i hi))
  | nilp => exact .nilp
  | nili => exact .nili
  | nilf => exact .nilf
  | nilm => exact .nilm
  | iface => simp [flat] at hf
  | fn f => exact .fn f
  | pt => simp [flat] at hf
theorem flatDs_at : ∀ {xs : List D}, flatDs xs = true → ∀ i (h : i < xs.length), flatD xs[i] = true
  | [], _, i, h => by simp at h
  | x :: r, hf, i, h => by
    simp only [flatDs, Bool.and_eq_true] at hf
    cases i with
    | zero => exact hf.1
    | succ i => exact flatDs_at hf.2 i (by simpa using h)
theorem flatD_rel {w' : World} {g' : Gh} {pl pl' : Nat → Pl} {d : D} {v : Value} (h : RelD w g pl d v) (hf : flatD d = true) : RelD w' g' pl' d v := by
  cases d <;> simp only [flatD] at hf <;> first | (cases hf; done) | skip
  exact .v _ _ _ (flat_rel h.toV hf)
theorem flatR_rel {w' : World} {g' : Gh} {pl pl' : Nat → Pl} {d : D} {v : Value} (h : RelD w g pl d v) (hf : flatR d = true) : RelD w' g' pl' d v := by
  cases d <;> simp only [flatR] at hf <;> first | (cases hf; done) | skip
  · exact .v _ _ _ (flat_rel h.toV hf)
  · cases h with | tup _ ds cs hl hr =>
    exact .tup _ _ _ hl (fun i hi => flatD_rel (hr i hi) (flatDs_at hf i hi))

def Gh.shut (g : Gh) (L : Nat → Nat) : Gh := { g with L := L, M := fun _ => False, own := fun _ => none, live := fun _ => False }
noncomputable def Gh.back (g g1 : Gh) (n k : Nat) : Gh :=
  { g with L := fun b => if b < n then g.L b else g1.L b, M := fun b => if b < n then g.M b else g1.M b,
           own := fun b => if b < n then g.own b else (g1.own b).bind fun p => if p.isRes = true then some (moveRes k p) else none }

theorem pure_core {f : FuncId} {ds : List D} {xs : List V} {st1 : St} {r : D} {vals : Array Value} {tmps : Array Value} (hR : ROk P R) (h : RelA w g μ τ env ts st tmps) (hx : rdVs st ds = some xs) (hc : R f (xs.map .v) [] = some (r, []))
    (hflat : anyRow ds = true → flatR r = true) (hl : ds.length = vals.size) (hv : ∀ i (h : i < ds.length), RelD w g (fun _ => .nil) ds[i] (vals[i]'(hl ▸ h))) :
    FnOk P f ∧ Calls P f vals w fun e w' => ∃ v, e = .returned v ∧ Post w g μ τ tmps (r, env, ts, st) v w' := by
  obtain ⟨hf, hC⟩ := hR f (xs.map .v) [] _ hc
  refine ⟨hf, ?_⟩
  obtain ⟨hxl, hxa⟩ := rdVs_at hx
  obtain ⟨L, hL1, hL2, hL3⟩ : ∃ L : Nat → Nat, (∀ b, g.L b ≤ L b) ∧ (anyRow ds = true → ∀ b, blockSize w b ≤ L b) ∧ ((∀ b, w.heap.size ≤ b → L b = 0) ∧ (anyRow ds = false → L = g.L)) := by
    cases hrow : anyRow ds with
    | false => exact ⟨g.L, fun _ => Nat.le_refl _, (fun hh => by cases hh), fun b hb => (h.s.fresh b hb).1, fun _ => rfl⟩
    | true =>
      refine ⟨fun b => max (g.L b) (blockSize w b), fun b => Nat.le_max_left _ _, fun _ b => Nat.le_max_right _ _, fun b hb => ?_, (fun hh => by cases hh)⟩
      have h1 := (h.s.fresh b hb).1
      have h2 : blockSize w b = 0 := by unfold blockSize; rw [Array.getElem?_eq_none hb]
      show max (g.L b) (blockSize w b) = 0
      rw [h1, h2]; rfl
  obtain ⟨hL3, hL4⟩ := hL3
  have anyAt : ∀ (l : List D) i (hi : i < l.length), isRow l[i] = true → anyRow l = true := fun l => by
    induction l with
    | nil => intro i hi; simp at hi
    | cons d l ih =>
      intro i hi hr
      simp only [anyRow, Bool.or_eq_true]
      cases i with
      | zero => exact .inl hr
      | succ i => exact .inr (ih i (by simpa using hi) hr)
  have lS : RelS w (g.shut L) [] := ⟨fun r => ⟨fun hh => hh.elim, fun ⟨b, hb⟩ => by simp [getB] at hb⟩, fun r b hb => by simp [getB] at hb, fun r hr => hr.elim, fun r r' hr => hr.elim, fun b p hb => (by simp [Gh.shut] at hb), fun b hb => (by simp [Gh.shut] at hb), fun b hb => ⟨hL3 b hb, fun hh => hh⟩, gl_keep (g' := g.shut L) (fun _ _ _ => rfl) hL1 (Nat.le_refl _) (fun _ _ _ => ⟨fun hh => hh, rfl⟩) h.s.gl⟩
  refine Calls.mono (hC vals w (g.shut L) (by simp [hxl, hl]) (fun i hi => ?_) lS (fun b p hb => by simp [Gh.shut] at hb)) fun e w' he => ?_
  · have hi' : i < ds.length := by simpa [hxl] using hi
    simp only [List.getElem_map]
    refine .v _ _ _ (rdV_rel h.s (hv i hi') (hxa i hi' (by omega)) hL1 (fun r hrr _ => hL2 (anyAt ds i hi' (by cases hd : ds[i] <;> rw [hd] at hrr <;> first | rfl | cases hrr)) _))
  obtain ⟨v, g1, rfl, B⟩ := he
  have old : ∀ b, b < w.heap.size → w'.heap[b]? = w.heap[b]? ∧ g1.L b = L b ∧ ¬ g1.M b := fun b hb => B.ext.old b hb (fun hm => hm)
  have gsz : ∀ b p, g1.own b = some p → ¬ b < w.heap.size := fun b p hb hlt => (old b hlt).2.2 (B.s.own b p hb).1
  have G : Grow w w' g (g.back g1 w.heap.size τ.length) := by
    refine ⟨B.ext.os, B.ext.tape, B.ext.output, B.ext.size, fun b hb => (old b hb).1, fun b hb => ?_, fun b hb => ?_, fun b hb => ?_, fun r hr => ⟨hr, rfl, rfl, rfl, rfl⟩, fun b p hb hp => ?_, fun b hb => ?_⟩
    · simp only [Gh.back]; rw [if_pos hb]
    · simp only [Gh.back]; rw [if_pos hb]
    · simp only [Gh.back]; rw [if_pos hb]
    · simp only [Gh.back] at hp ⊢
      rw [if_neg (by omega)] at hp ⊢
      obtain ⟨p', h1, h2⟩ := bind_some' hp
      obtain ⟨h3, h4⟩ := B.s.own b p' h1
      split at h2 <;> cases h2
      rename_i hres
      obtain ⟨k, rfl⟩ := res_of hres
      exact ⟨h3, h4, fun e => by cases e⟩
    · have hs := B.ext.size
      obtain ⟨h1, h2⟩ := B.s.fresh b hb
      simp only [Gh.back]
      rw [if_neg (by omega), if_neg (by omega)]
      exact ⟨h1, h2⟩
  refine ⟨v, rfl, g.back g1 w.heap.size τ.length, G.ext h.s, G.relA h (fun r => Iff.rfl), ?_⟩
  show RelD w' _ (.tmp τ.length) r v
  cases hrow : anyRow ds with
  | true => exact flatR_rel B.r (hflat hrow)
  | false =>
    have hLg := hL4 hrow
    have h1 : RelD w' (g1.mv (moveRes τ.length)) (.tmp τ.length) r v := B.r.mv (fun k => rfl) rfl
    refine h1.mono ⟨fun _ _ _ => rfl, fun b => ?_⟩ (fun b hb => ?_) (fun b k hb => ?_) (fun r hr => ?_)
    · show g1.L b ≤ _
      simp only [Gh.back]
      by_cases hb : b < w.heap.size
      · rw [if_pos hb, (old b hb).2.1, hLg]; exact Nat.le_refl _
      · rw [if_neg hb]; exact Nat.le_refl _
    · simp only [Gh.mv, Option.map_eq_some_iff] at hb
      obtain ⟨p', h1, h2⟩ := hb
      rcases B.own b p' h1 with h3 | h3
      · obtain ⟨r, i, j, rfl⟩ := cell_of h3; cases h2
      · obtain ⟨k, rfl⟩ := res_of h3; cases h2
    · simp only [Gh.mv, Option.map_eq_some_iff] at hb
      obtain ⟨p', h1, h2⟩ := hb
      have hge := gsz b p' h1
      refine ⟨?_, ?_, fun _ => ⟨id, id⟩⟩
      · simp only [Gh.back]
        rw [if_neg hge, h1]
        rcases B.own b p' h1 with h3 | h3
        · obtain ⟨r, i, j, rfl⟩ := cell_of h3; cases h2
        · simp only [Option.bind, h3, if_true]; rw [h2]
      · show (g.back g1 w.heap.size τ.length).L b = g1.L b
        simp only [Gh.back]; rw [if_neg hge]
    · have : g1.live r := hr
      obtain ⟨b, hb⟩ := (B.s.live r).1 this
      simp [getB] at hb
end
end Go.Q
namespace Go.Q
variable [Known]
section
variable {P : Program} {w : World} {g : Gh} {μ : List Nat} {τ : List (Option Nat)} {env ts : List D} {st : St} {a : Act} {o : Oper} {q : Rg} {R : Run}

theorem zc_at {z : Array Value} {n i j : Nat} (hi : i < n) (hj : j < z.size) : (Builtin.zeroCells z n).toList[i * z.size + j]? = z[j]? := by
  have h1 : i * z.size + j < n * z.size := by
    have : (i + 1) * z.size ≤ n * z.size := Nat.mul_le_mul_right _ (by omega)
    rw [Nat.add_mul] at this; omega
  have h3 : (i * z.size + j) % z.size = j := by
    rw [Nat.mul_comm, Nat.mul_add_mod]; exact Nat.mod_eq_of_lt hj
  simp [Builtin.zeroCells, h1, h3, hj]
theorem zc_len {z : Array Value} {n : Nat} : (Builtin.zeroCells z n).toList.length = n * z.size := by simp [Builtin.zeroCells]
theorem run_clear {t e ty : TypeId} {z : Value} (ht : P.underlying t = some (.slice e)) (hv : (zeroValue e).run P w = .ok z w) {b o n c : Nat} (hn : 0 < n)
    (h1 : ∀ u ∈ (Builtin.zeroCells z.cells n).toList, u.oneCell' = true)
    (hin : ∀ k, k < (Builtin.zeroCells z.cells n).toList.length → (w.cell? ⟨b, o + k, none⟩).isSome = true ∧ w.frozen? ⟨b, o + k, none⟩ = false) :
    (Builtin.clear_ #[t] ty #[.slice (some ⟨b, o, none⟩) n c]).run P w = .ok (.tuple #[]) (w.setCells b o (Builtin.zeroCells z.cells n).toList) := by
  have hst := run_storeCells_cells (P := P) b o (Builtin.zeroCells z.cells n).toList 0 w (fun k hk => (hin k hk).1) (fun k hk => (hin k hk).2) h1
  simp only [Nat.add_zero] at hst
  obtain ⟨m, rfl⟩ : ∃ m, n = m + 1 := ⟨n - 1, by omega⟩
  simp [Builtin.clear_, run_underlying ht, hv, hst]
theorem run_clear0 {t e ty : TypeId} (ht : P.underlying t = some (.slice e)) {a : Option Addr} {c : Nat} : (Builtin.clear_ #[t] ty #[.slice a 0 c]).run P w = .ok (.tuple #[]) w := by
  cases a <;> simp [Builtin.clear_, run_underlying ht]

theorem clr_get (xs : List D) (z : D) (off len : Nat) (h : off + len ≤ xs.length) (i : Nat) : (xs.take off ++ (List.replicate len z ++ xs.drop (off + len)))[i]? = if off ≤ i ∧ i < off + len then some z else xs[i]? := by
  have hl : (xs.take off).length = off := by simp; omega
  by_cases h1 : i < off
  · rw [List.getElem?_append_left (by omega), List.getElem?_take_of_lt h1, if_neg (by omega)]
  · rw [List.getElem?_append_right (by omega), hl]
    by_cases h2 : i < off + len
    · rw [List.getElem?_append_left (by simp; omega), List.getElem?_replicate, if_pos (by omega), if_pos (by omega)]
    · rw [List.getElem?_append_right (by simp; omega), List.length_replicate, List.getElem?_drop, if_neg (by omega)]
      congr 1; omega
theorem clr_ok (h : RelA w g μ τ env ts st a.tmps) {c : Call} {x : Operand} {t e : TypeId} {x' : Opd} {sz : Nat} {z : D} {zv : Value} (hop : o.op = .call c)
    (hb : builtinOf c = some .clear) (ha : c.args.toList = [x]) (hat : c.argTypes.toList = [t]) (hx : chkO μ τ x x' = true) (ht : uSlc P t = some e) (hsz : szT P e = some sz) (hsz0 : sz ≠ 0)
    (hzv : zeroT P e = some zv) (hz : chkZ zv.cells.toList (cellsOf z) = true) (hzs : zv.cells.size = sz)
    (he : evOp R env ts st (.clr sz z x') = some q) : OpRes P o a w (Post w g μ τ a.tmps q) := by
  simp only [evOp] at he
  obtain ⟨st', h1, rfl⟩ := map_some' he
  have hargs : c.args = #[x] := by rw [← ha]
  have hargT : c.argTypes = #[t] := by rw [← hat]
  have run : ∀ r w', (Builtin.clear_ #[t] o.type #[a.eval x]).run P w = .ok r w' → (execOp a.eval o).run P w = .ok (.value r) w' := fun r w' hr => by
    simp only [execOp, hop, resolve, builtinOf_eq hb, hargs, hargT]
    simp only [Sem.run_bind, Sem.run_pure, Result.andThen_ok, invoke, builtin, List.map_toArray, List.map_cons, List.map_nil]
    rw [hr]
    rfl
  have tup0 : ∀ {w' : World} {g' : Gh}, RelD w' g' (.tmp τ.length) (.tup []) (.tuple #[]) := fun {w' g'} => .tup _ _ _ rfl (fun i hi => by simp at hi)
  have hr := rd_rel h hx (fun _ => .nil)
  unfold opClr at h1
  split at h1 <;> first | (cases h1; done) | skip
  rename_i r z' off len fl hd
  split at h1 <;> first | (cases h1; done) | skip
  rename_i hzz
  subst hzz
  rw [hd] at hr
  generalize hv : a.eval x = v at hr
  cases hr with | own _ _ _ _ _ _ cap ad hlv hcl hzr had =>
  split at h1
  · rename_i h0
    cases h1
    subst h0
    exact res_ok (run _ _ (by rw [hv]; exact run_clear0 (of_uSlc P ht))) ⟨g, Ext.refl w g, h, tup0⟩
  · rename_i h0
    obtain ⟨xs, h2, h3⟩ := bind_some' h1
    have hbk := rowOf_some h2
    unfold clrRow at h3
    split at h3 <;> cases h3
    rename_i hle
    have had' := had h0
    subst had'
    obtain ⟨hM, hL, ho, hbs⟩ := h.s.be r hlv
    have hB := h.s.blk r _ hbk
    simp only [RelB] at hB
    have hBn := hB.1
    replace hB := hB.2
    have hZ := chkZ_rel (w := w) (g := g) hz
    have hzlen : (cellsOf z).length = zv.cells.size := by simpa using hZ.1
    have hvl : (Builtin.zeroCells zv.cells len).toList.length = len * z' := by rw [zc_len, hzs]
    have hin : ∀ k, k < (Builtin.zeroCells zv.cells len).toList.length → (w.cell? ⟨g.be r, off * z' + k, none⟩).isSome = true ∧ w.frozen? ⟨g.be r, off * z' + k, none⟩ = false := fun k hk => by
      rw [hvl] at hk
      have hpos : 0 < z' := by omega
      have hi : k / z' < len := Nat.div_lt_of_lt_mul (by rw [Nat.mul_comm]; exact hk)
      have hj : k % z' < z' := Nat.mod_lt _ hpos
      obtain ⟨q1, q2⟩ := hB (off + k / z') (by omega)
      obtain ⟨_, _, v', e1, e2, _⟩ := q2 (k % z') (by omega)
      have hk2 : (off + k / z') * g.sz r + k % z' = off * z' + k := by
        rw [hzr, Nat.add_mul, Nat.add_assoc]
        congr 1
        rw [Nat.mul_comm]; exact Nat.div_add_mod k z'
      rw [hk2] at e1 e2
      rw [e1]; exact ⟨rfl, e2⟩
    have one : ∀ u ∈ (Builtin.zeroCells zv.cells len).toList, u.oneCell' = true := fun u hu => by
      obtain ⟨k, hk, rfl⟩ := List.getElem_of_mem hu
      rw [hvl] at hk
      have hpos : 0 < z' := by omega
      have hi : k / z' < len := Nat.div_lt_of_lt_mul (by rw [Nat.mul_comm]; exact hk)
      have hj : k % z' < z' := Nat.mod_lt _ hpos
      have e := zc_at (z := zv.cells) (i := k / z') (j := k % z') hi (by omega)
      have hk2 : k / z' * zv.cells.size + k % z' = k := by rw [hzs, Nat.mul_comm]; exact Nat.div_add_mod k z'
      rw [hk2, List.getElem?_eq_getElem (by rw [hvl]; exact hk)] at e
      obtain ⟨q1, v', q2, q3⟩ := hZ.2 (k % z') (by omega)
      have q2' : zv.cells[k % z']? = some v' := by simpa using q2
      rw [q2'] at e
      rw [Option.some.inj e]
      exact (q3 (fun _ => .nil)).one q1
    have hrun := run_clear (P := P) (w := w) (ty := o.type) (b := g.be r) (o := off * z') (c := cap) (of_uSlc P ht) (zeroV_run hzv) (by omega : 0 < len) one hin
    refine res_ok (run _ _ (by rw [hv]; exact hrun)) ?_
    have hmv : g.mv id = g := by simp [Gh.mv]
    have hget := fun i => clr_get xs z off len hle i
    have hS : RelS (w.setCells (g.be r) (off * z') (Builtin.zeroCells zv.cells len).toList) (g.mv id) (setB st r (.row (xs.take off ++ (List.replicate len z ++ xs.drop (off + len))))) := by
      have hl2 : (xs.take off ++ (List.replicate len z ++ xs.drop (off + len))).length = xs.length := by simp; omega
      have hat : ∀ i (hi : i < (xs.take off ++ (List.replicate len z ++ xs.drop (off + len))).length), (off ≤ i ∧ i < off + len ∧ (xs.take off ++ (List.replicate len z ++ xs.drop (off + len)))[i] = z) ∨ ((i < off ∨ off + len ≤ i) ∧ ∃ hi2 : i < xs.length, (xs.take off ++ (List.replicate len z ++ xs.drop (off + len)))[i] = xs[i]) := fun i hi => by
        have e := hget i
        rw [List.getElem?_eq_getElem hi] at e
        by_cases hr : off ≤ i ∧ i < off + len
        · rw [if_pos hr] at e
          exact .inl ⟨hr.1, hr.2, Option.some.inj e⟩
        · rw [if_neg hr, List.getElem?_eq_getElem (by omega)] at e
          exact .inr ⟨by omega, by omega, Option.some.inj e⟩
      refine set_blk h.s hbk rfl rfl (fun p hp => hp) (fun r i j => rfl) hin (by simp; omega) (fun i hi => ?_) (fun i hi j hj => ?_)
      · rcases hat i hi with ⟨_, _, e⟩ | ⟨_, hi2, e⟩
        · rw [e]; omega
        · rw [e]; exact (hB i hi2).1
      · rcases hat i hi with ⟨k1, k2, e⟩ | ⟨k1, hi2, e⟩
        · left
          have hj' : j < (cellsOf z).length := by rw [← e]; exact hj
          obtain ⟨q1, v', q2, q3⟩ := hZ.2 j hj'
          have q2' : zv.cells[j]? = some v' := by simpa using q2
          have e3 := zc_at (z := zv.cells) (n := len) (i := i - off) (j := j) (by omega) (by omega)
          have e4 : (cellsOf (xs.take off ++ (List.replicate len z ++ xs.drop (off + len)))[i])[j] = (cellsOf z)[j] := by simp only [e]
          refine ⟨(i - off) * z' + j, v', fun _ => .cell r i j, ?_, ?_, ?_, ?_, ?_, rfl⟩
          · rw [hzr, ← Nat.add_assoc, ← Nat.add_mul]; congr 2; omega
          · rw [hzs] at e3; rw [e3]; exact q2'
          · rw [e4]; exact q1
          · rw [e4]; exact chkZ_refs hz _ j hj'
          · rw [e4]; exact q3 _
        · right
          have hj' : j < (cellsOf xs[i]).length := by rw [← e]; exact hj
          refine ⟨?_, hi2, hj', by simp only [e]⟩
          have hjz : j < z' := by rw [← hzr, ← (hB i hi2).1]; exact hj'
          rw [hvl, hzr]
          rcases k1 with k1 | k1
          · left
            have : (i + 1) * z' ≤ off * z' := Nat.mul_le_mul_right _ k1
            rw [Nat.add_mul, Nat.one_mul] at this
            omega
          · right
            have : (off + len) * z' ≤ i * z' := Nat.mul_le_mul_right _ k1
            rw [Nat.add_mul] at this
            omega
    rw [hmv] at hS
    have mono : ∀ {pl : Nat → Pl} {d : D} {v : Value}, RelD w g pl d v → RelD (w.setCells (g.be r) (off * z') (Builtin.zeroCells zv.cells len).toList) g pl d v := fun hd => poke_mono h.s hL ho hd
    exact ⟨g, poke_ext hM hL, ⟨hS, fun i t hi => mono (h.e i t hi), fun j t hj => mono (h.t j t hj)⟩, tup0⟩
end
end Go.Q
namespace Go.Q
variable [Known]
section
variable {P : Program} {w : World} {g : Gh} {μ : List Nat} {τ : List (Option Nat)} {env ts : List D} {st : St} {a : Act} {o : Oper} {q : Rg} {R : Run}

theorem RelS.new_any {ob : Obj} {r0 : Ref} {z m k : Nat} {b0 : Blk} {st' : St} (hS : RelS w g st) (hr : getB st r0 = none)
    (hst : ∀ r, getB st' r = if r = r0 then some b0 else getB st r) (hB : RelB (w.alloc ob) (g.blk r0 w.heap.size z m k) r0 b0) : RelS (w.alloc ob) (g.blk r0 w.heap.size z m k) st' := by
  have hG := Gh.grow_blk (o := ob) z m hS hr k
  have hbe0 : (g.blk r0 w.heap.size z m k).be r0 = w.heap.size := by simp [Gh.blk]
  have hbe : ∀ r, (g.blk r0 w.heap.size z m k).live r → (r = r0 ∧ (g.blk r0 w.heap.size z m k).be r = w.heap.size) ∨ (g.live r ∧ (g.blk r0 w.heap.size z m k).be r = g.be r ∧ g.be r < w.heap.size) := fun r hl => by
    rcases hl with hl | rfl
    · exact .inr ⟨hl, (hG.refs r hl).2.1, (hS.be r hl).2.2.2⟩
    · exact .inl ⟨rfl, hbe0⟩
  refine ⟨fun r => ?_, fun r b hb => ?_, fun r hl => ?_, fun r r' hl hl' e => ?_, fun b p hb => ?_, fun b hb => ?_, hG.fresh, gl_keep (hG.keeps hS).cell (hG.keeps hS).L hG.size (fun b hb hm => ⟨fun hh => hm ((hG.M b hb).1 hh), hG.heap b hb⟩) hS.gl⟩
  · rw [hst]
    by_cases e : r = r0
    · subst e; simp [Gh.blk]
    · rw [if_neg e]; simp only [Gh.blk, e, or_false]; exact hS.live r
  · rw [hst] at hb
    by_cases e : r = r0
    · subst e
      rw [if_pos rfl] at hb
      cases hb
      exact hB
    · rw [if_neg e] at hb
      exact hG.blk hS ((hS.live r).2 ⟨b, hb⟩) (hS.blk r b hb)
  · rcases hbe r hl with ⟨rfl, e⟩ | ⟨h1, e, h2⟩
    · rw [e]
      exact ⟨.inr rfl, by simp [Gh.blk], by simp [Gh.blk], by simp⟩
    · obtain ⟨h3, h4, h5, h6⟩ := hS.be r h1
      rw [e]
      refine ⟨.inl h3, ?_, ?_, by simp; omega⟩
      · rw [hG.L _ h2]; exact h4
      · rw [hG.own _ h2, h5]
  · rcases hbe r hl with ⟨rfl, e1⟩ | ⟨h1, e1, h2⟩ <;> rcases hbe r' hl' with ⟨rfl, e2⟩ | ⟨h3, e2, h4⟩
    · exact .inl rfl
    · omega
    · omega
    · have old : ∀ r, g.live r → r ≠ r0 := fun r hl e => by
        obtain ⟨b, hb⟩ := (hS.live r).1 hl
        rw [e, hr] at hb; cases hb
      rw [hst, hst, if_neg (old r h1), if_neg (old r' h3)]
      exact hS.inj r r' h1 h3 (by rw [← e1, ← e2]; exact e)
  · by_cases hlt : b < w.heap.size
    · rw [hG.own b hlt] at hb
      exact ⟨.inl (hS.own b p hb).1, by have := (hS.own b p hb).2; simp; omega⟩
    · have := hG.own' b p (by omega) hb
      exact ⟨this.1, this.2.1⟩
  · by_cases hlt : b < w.heap.size
    · rw [hG.own b hlt] at hb; exact hS.nil b hb
    · exact (hG.own' b _ (by omega) hb).2.2 rfl
theorem mkmap_ok (h : RelA w g μ τ env ts st a.tmps) {t : TypeId} {esc : Bool} (hop : o.op = .makeMap t none) (he : evOp R env ts st (.mkmap esc) = some q) : OpRes P o a w (Post w g μ τ a.tmps q) := by
  have main : ∀ (st' : St) (r0 : Ref), getB st r0 = none → (∀ r, getB st' r = if r = r0 then some (.mp []) else getB st r) → OpRes P o a w (Post w g μ τ a.tmps (.map r0, env, ts, st')) := fun st' r0 h1 h2 => by
    have hG := Gh.grow_blk (o := .map #[] 0) 0 0 h.s h1
    refine res_ok (v := .map (some w.heap.size)) (w' := w.alloc (.map #[] 0)) ?_ ⟨_, hG.ext h.s, ⟨h.s.new_any h1 h2 ?_, fun i t hi => hG.relD h.s (h.e i t hi), fun j t hj => hG.relD h.s (h.t j t hj)⟩, ?_⟩
    · simp only [execOp, hop, Option.map_none]; exact run_v rfl
    · refine ⟨#[], 0, ?_, rfl, fun i hi => by simp at hi⟩
      have : (g.blk r0 w.heap.size 0 0).be r0 = w.heap.size := by simp [Gh.blk]
      rw [this]; exact (MapKept.heap_alloc w _).1
    · have e : (g.blk r0 w.heap.size 0 0).be r0 = w.heap.size := by simp [Gh.blk]
      have := RelD.map (w := w.alloc (.map #[] 0)) (g := g.blk r0 w.heap.size 0 0) (.tmp τ.length) r0 (.inr rfl)
      rw [e] at this; exact this
  simp only [evOp] at he
  split at he
  · cases he; exact main _ _ (addBot_none st _) (getB_addBot st _)
  · cases he; exact main _ _ (addB_none st _) (getB_addB st _)

theorem s2o_ok (h : RelA w g μ τ env ts st a.tmps) {s t e : TypeId} {x : Operand} {y : Opd} (hop : o.op = .convert s t x)
    (hc : chkO μ τ x y = true) (hs : uStr P s = true) (hu : uSlc P t = some e) (hi : uInt P e = some .u8)
    (he : evOp R env ts st (.s2o y) = some q) : OpRes P o a w (Post w g μ τ a.tmps q) := by
  simp only [evOp] at he
  obtain ⟨l, h1, rfl⟩ := map_some' he
  unfold strD at h1
  split at h1 <;> cases h1
  rename_i hd
  have hr := rd_rel h hc (fun _ => .nil)
  rw [hd] at hr
  obtain ⟨b, e1, e2⟩ := strOf hr
  have hbl : b.data.size = l.length := by rw [← e2]; simp
  have hbs : b.size = l.length := hbl
  have hGd : Grow w w.drew g g := ⟨rfl, rfl, rfl, Nat.le_refl _, fun _ _ => rfl, fun _ _ => rfl, fun _ _ => Iff.rfl, fun _ _ => rfl, fun r hr => ⟨hr, rfl, rfl, rfl, rfl⟩, fun b p hb hp => by have := (h.s.own b p hp).2; have h7 : w.drew.heap.size = w.heap.size := rfl; omega, fun b hb => h.s.fresh b hb⟩
  have hA := hGd.relA h (fun r => Iff.rfl)
  let cap := grownCap w b.size 0 e
  let ob : Obj := .cells (bytesRow b cap) e ((bytesRow b cap).size, (bytesRow b cap).size + 1)
  let bl : Blk := .row (l.map fun b => .v (.int .u8 b.toNat))
  have hG := Gh.grow_blk (o := ob) 1 l.length hA.s (addB_none st bl) cap
  have hge : b.size ≤ cap := grownCap_ge _ _ _ _
  have hbe : (g.blk (addB st bl).2 w.drew.heap.size 1 l.length cap).be (addB st bl).2 = w.heap.size := by simp [Gh.blk]
  have hsz : (g.blk (addB st bl).2 w.drew.heap.size 1 l.length cap).sz (addB st bl).2 = 1 := by simp [Gh.blk]
  have hrow : (bytesRow b cap).size = cap := by
    simp only [bytesRow, Array.size_append, Array.size_map, Array.size_replicate]
    omega
  refine res_ok (v := .slice (some ⟨w.heap.size, 0, none⟩) b.size cap) (w' := w.drew.alloc ob) ?_ ⟨g.blk (addB st bl).2 w.drew.heap.size 1 l.length cap, (hGd.ext h.s).trans (hG.ext hA.s), ⟨hA.s.new_any (addB_none st bl) (getB_addB st bl) ?_, fun i t hi => hG.relD hA.s (hA.e i t hi), fun j t hj => hG.relD hA.s (hA.t j t hj)⟩, ?_⟩
  · simp only [execOp, hop, e1]
    exact run_v (run_bytes_of_string w s t e b (of_uStr P hs) (of_uSlc P hu) (of_uInt P hi))
  · have hcp : (g.blk (addB st bl).2 w.drew.heap.size 1 l.length cap).cp (addB st bl).2 = cap := by simp [Gh.blk]
    refine ⟨⟨by rw [List.length_map]; simp [Gh.blk], fun j hj => by
      rw [hcp] at hj
      rw [hbe]
      have k1 : j < (bytesRow b cap).size := by omega
      constructor
      · show ((w.drew.alloc _).cell? ⟨w.drew.heap.size, _, none⟩).isSome = true
        rw [World.cell?_alloc_mark, Array.getElem?_eq_getElem k1]; rfl
      · show (w.drew.alloc _).frozen? ⟨w.drew.heap.size, _, none⟩ = false
        rw [World.frozen?_alloc_mark]
        have : ¬ (bytesRow b cap).size ≤ j := by omega
        simp [this]⟩, fun i hi => ⟨by rw [hsz]; simp [cellsOf, cellsV], fun j hj => ?_⟩⟩
    have hi' : i < l.length := by simpa using hi
    have hj' : j = 0 := by simpa [cellsOf, cellsV] using hj
    subst hj'
    have hib : i < b.data.size := by omega
    have ebi : (b.data[i]'hib) = l[i] := by simp [← e2]
    simp only [List.getElem_map]
    refine ⟨rfl, rfl, .int .u8 (b.data[i]'hib).toNat, ?_, ?_, ?_⟩
    · rw [hbe, hsz, Nat.mul_one, Nat.add_zero]
      show (w.drew.alloc _).cell? ⟨w.drew.heap.size, _, none⟩ = _
      rw [World.cell?_alloc_mark, bytesRow_at b _ i hib]
    · rw [hbe, hsz, Nat.mul_one, Nat.add_zero]
      show (w.drew.alloc _).frozen? ⟨w.drew.heap.size, _, none⟩ = false
      rw [World.frozen?_alloc_mark]
      have : ¬ (bytesRow b cap).size ≤ i := by omega
      simp [this]
    · rw [ebi]; exact .v _ _ _ (.int _ _)
  · rw [hbs]
    have hcp : (g.blk (addB st bl).2 w.drew.heap.size 1 l.length cap).cp (addB st bl).2 = cap := by simp [Gh.blk]
    refine RelD.own _ _ _ _ _ _ _ _ (.inr rfl) ⟨by omega, (fun h => by cases h), fun _ => by rw [hcp]; omega⟩ hsz (fun _ => ?_)
    rw [hbe, Nat.zero_mul]
theorem rows_core {ys : List V} {f : Nat → Nat → Value} {C : Array Value} {E : TypeId} {sz : Nat} {r0 : Ref} {st' : St} (hS : RelS w g st) (hE : Els w g.L sz ys f)
    (hC : ∀ i j, i < ys.length → j < sz → C[i * sz + j]? = some (f i j)) (hr0 : getB st r0 = none) (hst : ∀ r, getB st' r = if r = r0 then some (.row (ys.map .v)) else getB st r) :
    RelS (w.alloc (.cells C E)) (g.blk r0 w.heap.size sz (ys.map D.v).length C.size) st' := by
  have hm : (ys.map D.v).length = ys.length := by simp
  generalize (ys.map D.v).length = m at hm ⊢
  have hbe : (g.blk r0 w.heap.size sz m C.size).be r0 = w.heap.size := by simp [Gh.blk]
  have hsz : (g.blk r0 w.heap.size sz m C.size).sz r0 = sz := by simp [Gh.blk]
  have hcp : (g.blk r0 w.heap.size sz m C.size).cp r0 = C.size := by simp [Gh.blk]
  have hG := Gh.grow_blk (o := .cells C E) sz m hS hr0 C.size
  refine hS.new_any hr0 hst ⟨⟨by simp [Gh.blk, hm], fun j hj => ?_⟩, fun i hi => ?_⟩
  · rw [hcp] at hj
    rw [hbe, World.cell?_alloc_new, World.frozen?_alloc_new, Array.getElem?_eq_getElem hj]
    exact ⟨rfl, rfl⟩
  · have hi' : i < ys.length := by simpa using hi
    simp only [List.getElem_map, cellsOf_v, List.length_map]
    have hl := hE.len i hi'
    refine ⟨by rw [hsz]; exact hl, fun j hj => ⟨hE.cell i hi' j hj, by simp [refsBelow], f i j, ?_, ?_, hG.relD hS (.v _ _ _ (hE.rel i hi' j hj))⟩⟩
    · rw [hbe, hsz, World.cell?_alloc_new]; exact hC i j hi' (by omega)
    · rw [hbe, hsz, World.frozen?_alloc_new]

theorem kill_poke {r : Ref} {xs : List D} (off : Nat) (vs : List Value) (hS : RelS w g st) (hb : getB st r = some (.row xs)) :
    RelS (w.setCells (g.be r) off vs) g (setB st r .dead) ∧ Ext w (w.setCells (g.be r) off vs) g g ∧ (∀ {pl : Nat → Pl} {d : D} {v : Value}, RelD w g pl d v → RelD (w.setCells (g.be r) off vs) g pl d v) ∧
      (∀ x, g.live x → g.be x = g.be r → x.lvl = r.lvl ∧ getB (setB st r .dead) x = some .dead) := by
  have hlv : g.live r := (hS.live r).2 ⟨_, hb⟩
  obtain ⟨hM, hL, ho, hsz⟩ := hS.be r hlv
  obtain ⟨ht, hs⟩ := tape_setCells (g.be r) vs off w
  have mono : ∀ {pl : Nat → Pl} {d : D} {v : Value}, RelD w g pl d v → RelD (w.setCells (g.be r) off vs) g pl d v := fun hd => poke_mono hS hL ho hd
  have hget := getB_setB .dead hb
  have sole : ∀ x, g.live x → g.be x = g.be r → x.lvl = r.lvl ∧ getB (setB st r .dead) x = some .dead := fun x hx he => by
    rw [hget]
    by_cases e : x = r
    · subst e; exact ⟨rfl, by rw [if_pos rfl]⟩
    · rw [if_neg e]
      rcases hS.inj x r hx hlv he with h | ⟨h1, h | h⟩
      · exact absurd h e
      · exact ⟨h1, h⟩
      · rw [hb] at h; cases h
  refine ⟨⟨fun r' => ?_, fun r' bl hbl => ?_, fun r' hr' => ?_, fun r1 r2 q1 q2 q3 => ?_, fun b p hp => ?_, hS.nil, fun b hbn => ?_, gl_keep (g' := g) (poke_ext hM hL).cell (fun _ => Nat.le_refl _) (poke_ext (vs := vs) (off := off) hM hL).size (fun b hb hm => ⟨hm, ((poke_ext hM hL).old b hb hm).1⟩) hS.gl⟩, poke_ext hM hL, mono, sole⟩
  · rw [hget]
    by_cases e : r' = r
    · subst e; rw [if_pos rfl]; exact ⟨fun _ => ⟨_, rfl⟩, fun _ => hlv⟩
    · rw [if_neg e]; exact hS.live r'
  · have hlv' : g.live r' := by
      rw [hget] at hbl
      by_cases e : r' = r
      · subst e; exact hlv
      · rw [if_neg e] at hbl; exact (hS.live r').2 ⟨_, hbl⟩
    by_cases hdd : bl = .dead
    · subst hdd; trivial
    have hne : g.be r' ≠ g.be r := fun e' => by
      rw [(sole r' hlv' e').2] at hbl
      exact hdd (Option.some.inj hbl).symm
    have hbl' : getB st r' = some bl := by
      rw [hget, if_neg (fun e => hne (by rw [e]))] at hbl; exact hbl
    have hB := hS.blk r' _ hbl'
    cases bl with
    | dead => trivial
    | it s pos => exact ⟨by show (w.setCells (g.be r) off vs).heap[g.be r']? = _; rw [World.heap_setCells_other w (g.be r) _ _ (hS.be r' hlv').2.2.2 hne]; exact hB.1, hB.2⟩
    | mp es =>
      obtain ⟨arr, clock, h8, h9, h10⟩ := hB
      refine ⟨arr, clock, by show (w.setCells (g.be r) off vs).heap[g.be r']? = _; rw [World.heap_setCells_other w (g.be r) _ _ (hS.be r' hlv').2.2.2 hne]; exact h8, h9, fun i hi hi' => ?_⟩
      obtain ⟨h11, h12, h13⟩ := h10 i hi hi'
      exact ⟨h11, h12, mono h13⟩
    | row zs =>
      simp only [RelB] at hB ⊢
      refine ⟨⟨hB.1.1, fun j hj => by
        rw [World.frozen?_setCells]
        exact ⟨World.isSome_setCells _ _ _ w _ (hB.1.2 j hj).1, (hB.1.2 j hj).2⟩⟩, fun i hi => ?_⟩
      obtain ⟨h2, h3⟩ := hB.2 i hi
      refine ⟨h2, fun j hj => ?_⟩
      obtain ⟨h4, h5, v, h6, h7, h8⟩ := h3 j hj
      refine ⟨h4, h5, v, ?_, ?_, mono h8⟩
      · rw [World.cell?_setCells_out (g.be r) vs off w _ (fun h1 _ => absurd h1 hne)]; exact h6
      · rw [World.frozen?_setCells]; exact h7
  · obtain ⟨h1, h2, h3, h4⟩ := hS.be r' hr'
    exact ⟨h1, h2, h3, by rw [hs]; exact h4⟩
  · rcases hS.inj r1 r2 q1 q2 q3 with h | ⟨q4, h | h⟩
    · exact .inl h
    · refine .inr ⟨q4, .inl ?_⟩
      rw [hget]; split
      · rfl
      · exact h
    · refine .inr ⟨q4, .inr ?_⟩
      rw [hget]; split
      · rfl
      · exact h
  · obtain ⟨h1, h2⟩ := hS.own b p hp
    exact ⟨h1, by rw [hs]; exact h2⟩
  · rw [hs] at hbn
    exact hS.fresh b hbn
def Gh.again (g : Gh) (r r' : Ref) (z m : Nat) : Gh :=
  { g with be := fun x => if x = r' then g.be r else g.be x, sz := fun x => if x = r' then z else g.sz x, n := fun x => if x = r' then m else g.n x, cp := fun x => if x = r' then g.cp r else g.cp x, live := fun x => g.live x ∨ x = r' }
theorem again_ext {r r' : Ref} {z m : Nat} (hS : RelS w g st) (hr' : getB st r' = none) : Ext w w g (g.again r r' z m) := by
  refine ⟨rfl, rfl, rfl, Nat.le_refl _, fun _ _ _ => rfl, fun _ => Nat.le_refl _, fun b hb hm => ⟨rfl, rfl, hm⟩, fun x hx => ?_⟩
  have hne : x ≠ r' := fun e => by
    obtain ⟨b, hb⟩ := (hS.live x).1 hx
    rw [e, hr'] at hb; cases hb
  exact ⟨.inl hx, by simp only [Gh.again]; rw [if_neg hne], by simp only [Gh.again]; rw [if_neg hne], by simp only [Gh.again]; rw [if_neg hne], by simp only [Gh.again]; rw [if_neg hne]⟩
theorem again_D {r r' : Ref} {z m : Nat} (hS : RelS w g st) (hr' : getB st r' = none) {pl : Nat → Pl} {d : D} {v : Value} (hd : RelD w g pl d v) : RelD w (g.again r r' z m) pl d v :=
  hd.mono (again_ext hS hr').keeps hS.nil (fun b k hb => ⟨hb, rfl, fun _ => ⟨id, id⟩⟩) (again_ext hS hr').refs
theorem again_S {r r' : Ref} {z m : Nat} {st' : St} {b0 : Blk} (hS : RelS w g st) (hlv : g.live r) (hr' : getB st r' = none) (hlvl : r'.lvl = r.lvl)
    (sole : ∀ x, g.live x → g.be x = g.be r → x.lvl = r.lvl ∧ getB st x = some .dead)
    (hst : ∀ x, getB st' x = if x = r' then some b0 else getB st x) (hB : RelB w (g.again r r' z m) r' b0) : RelS w (g.again r r' z m) st' := by
  have hne : ∀ x, g.live x → x ≠ r' := fun x hx e => by
    obtain ⟨b, hb⟩ := (hS.live x).1 hx
    rw [e, hr'] at hb; cases hb
  have hbe : ∀ x, g.live x → (g.again r r' z m).be x = g.be x := fun x hx => by simp only [Gh.again]; rw [if_neg (hne x hx)]
  have hbe' : (g.again r r' z m).be r' = g.be r := by simp [Gh.again]
  refine ⟨fun x => ?_, fun x bl hbl => ?_, fun x hx => ?_, fun r1 r2 q1 q2 q3 => ?_, hS.own, hS.nil, hS.fresh, hS.gl⟩
  · rw [hst]
    by_cases e : x = r'
    · rw [if_pos e]; exact ⟨fun _ => ⟨_, rfl⟩, fun _ => .inr e⟩
    · rw [if_neg e]
      exact ⟨fun hh => hh.elim (hS.live x).1 (fun hh => absurd hh e), fun hh => .inl ((hS.live x).2 hh)⟩
  · rw [hst] at hbl
    by_cases e : x = r'
    · subst e
      rw [if_pos rfl] at hbl
      cases hbl
      exact hB
    · rw [if_neg e] at hbl
      have hx : g.live x := (hS.live x).2 ⟨_, hbl⟩
      have hB := hS.blk x _ hbl
      obtain ⟨k1, k2, k3, k4, k5⟩ := (again_ext (r := r) (z := z) (m := m) hS hr').refs x hx
      cases bl with
      | dead => trivial
      | it s pos => exact ⟨by rw [k2]; exact hB.1, by rw [k3]; exact hB.2.1, by rw [k4]; exact hB.2.2⟩
      | mp es =>
        obtain ⟨arr, clock, h8, h9, h10⟩ := hB
        refine ⟨arr, clock, by rw [k2]; exact h8, h9, fun i hi hi' => ?_⟩
        obtain ⟨h11, h12, h13⟩ := h10 i hi hi'
        exact ⟨h11, h12, again_D hS hr' h13⟩
      | row zs =>
        simp only [RelB] at hB ⊢
        rw [k2, k3, k4, k5]
        refine ⟨hB.1, fun i hi => ?_⟩
        obtain ⟨h2, h3⟩ := hB.2 i hi
        refine ⟨h2, fun j hj => ?_⟩
        obtain ⟨h4, h5, v, h6, h7, h8⟩ := h3 j hj
        exact ⟨h4, h5, v, h6, h7, again_D hS hr' h8⟩
  · rcases hx with hx | rfl
    · rw [hbe x hx]; exact hS.be x hx
    · rw [hbe']; exact hS.be r hlv
  · rcases q1 with q1 | rfl <;> rcases q2 with q2 | rfl
    · rw [hbe _ q1, hbe _ q2] at q3
      rw [hst, hst, if_neg (hne _ q1), if_neg (hne _ q2)]
      exact hS.inj r1 r2 q1 q2 q3
    · rw [hbe _ q1, hbe'] at q3
      obtain ⟨k1, k2⟩ := sole r1 q1 q3
      exact .inr ⟨by omega, .inl (by rw [hst, if_neg (hne _ q1)]; exact k2)⟩
    · rw [hbe', hbe _ q2] at q3
      obtain ⟨k1, k2⟩ := sole r2 q2 q3.symm
      exact .inr ⟨by omega, .inr (by rw [hst, if_neg (hne _ q2)]; exact k2)⟩
    · exact .inl rfl
theorem litO_ok (h : RelA w g μ τ env ts st a.tmps) {t e : TypeId} {n sz : Nat} {parts : Array (Nat × Operand)} {ys : List Opd} (hop : o.op = .buildSlice t n parts)
    (hu : uSlc P t = some e) (hz : szT P e = some sz) (hzero : (zeroT P e).isSome = true) (hp : parts.toList.map (·.1) = List.range n) (hn : n * sz ≤ 16777216) (hc : chkL μ τ (parts.toList.map (·.2)) ys = true)
    (he : evOp R env ts st (.litO sz ys) = some q) : OpRes P o a w (Post w g μ τ a.tmps q) := by
  simp only [evOp] at he
  split at he <;> first | (cases he; done) | skip
  rename_i hrow
  obtain ⟨xs0, h1, h2⟩ := bind_some' he
  split at h2 <;> cases h2
  rename_i hszs
  obtain ⟨xs, cells', he', run, hxn, hcs, E, hat⟩ := lit_core (R := R) (q := (.lin sz xs0, env, ts, st)) h hop hu hz hzero hp hn hc (by
    simp only [evOp]
    rw [if_neg hrow, h1]
    simp only [Option.bind_some]
    rw [if_pos hszs])
  have e0 : xs0 = xs := by
    simp only [Prod.mk.injEq, D.lin.injEq, true_and, and_true] at he'; exact he'
  subst e0
  have hr0 := addB_none st (.row (xs0.map .v))
  have hG := Gh.grow_blk (o := .cells cells' e) sz (xs0.map D.v).length h.s hr0 cells'.size
  have hS := rows_core (E := e) (C := cells') h.s E hat hr0 (getB_addB st _)
  refine res_ok run ⟨_, hG.ext h.s, ⟨hS, fun i t hi => hG.relD h.s (h.e i t hi), fun j t hj => hG.relD h.s (h.t j t hj)⟩, ?_⟩
  have hown := RelD.own (w := w.alloc (.cells cells' e)) (g := g.blk (addB st (.row (xs0.map .v))).2 w.heap.size sz (xs0.map D.v).length cells'.size) (.tmp τ.length) (addB st (.row (xs0.map .v))).2 sz 0 xs0.length true n ⟨w.heap.size, 0, none⟩ (.inr rfl) ⟨by omega, (fun _ => by simp [Gh.blk]; omega), (fun hh => by cases hh)⟩ (by simp [Gh.blk]) (fun _ => by simp [Gh.blk])
  rw [hxn] at hown ⊢
  exact hown
mutual
theorem refs_leL {m n : Nat} (hmn : m ≤ n) : ∀ (d : D), refsBelow m d = true → refsBelow n d = true
  | .own r _ _ _ _, h => by simp only [refsBelow, decide_eq_true_eq] at h ⊢; omega
  | .arr r _ _ _, h => by simp only [refsBelow, decide_eq_true_eq] at h ⊢; omega
  | .ptr r _ _, h => by simp only [refsBelow, decide_eq_true_eq] at h ⊢; omega
  | .map r, h => by simp only [refsBelow, decide_eq_true_eq] at h ⊢; omega
  | .clo _ fs cs, h => by
    simp only [refsBelow, Bool.and_eq_true] at h ⊢
    exact ⟨refs_leLs hmn fs h.1, refs_leLs hmn cs h.2⟩
  | .ifc _ d, h => by simp only [refsBelow] at h ⊢; exact refs_leL hmn d h
  | .agg ds, h => by simp only [refsBelow] at h ⊢; exact refs_leLs hmn ds h
  | .tup ds, h => by simp only [refsBelow] at h ⊢; exact refs_leLs hmn ds h
  | .v _, _ => rfl
  | .nils _, _ => rfl
  | .lin _ _, _ => rfl
  | .va _ _, _ => rfl
  | .undef, _ => rfl
theorem refs_leLs {m n : Nat} (hmn : m ≤ n) : ∀ (ds : List D), refsBelows m ds = true → refsBelows n ds = true
  | [], _ => rfl
  | d :: r, h => by
    simp only [refsBelows, Bool.and_eq_true] at h ⊢
    exact ⟨refs_leL hmn d h.1, refs_leLs hmn r h.2⟩
end
theorem refs_le {m n : Nat} {d : D} (h : refsBelow m d = true) (hmn : m ≤ n) : refsBelow n d = true := refs_leL hmn d h
theorem one1_cell {d : D} (h : d.one1 = true) : d.isCell = true := by
  cases d <;> first | rfl | (simp [D.one1] at h; done) | skip
  rename_i x
  cases x <;> first | rfl | (simp [D.one1] at h; done)
theorem cellL1_at {n : Nat} : ∀ {l : List D}, cellL1 n l = true → ∀ i (h : i < l.length), l[i].one1 = true ∧ refsBelow n l[i] = true
  | [], _, i, h => by simp at h
  | d :: l, hc, i, h => by
    simp only [cellL1, Bool.and_eq_true] at hc
    cases i with
    | zero => exact hc.1
    | succ i => exact cellL1_at hc.2 i (by simpa using h)
theorem litD_ok (h : RelA w g μ τ env ts st a.tmps) {t e : TypeId} {n : Nat} {parts : Array (Nat × Operand)} {ys : List Opd} (hop : o.op = .buildSlice t n parts)
    (hu : uSlc P t = some e) (hz : szT P e = some 1) (hzero : (zeroT P e).isSome = true) (hp : parts.toList.map (·.1) = List.range n) (hn : n * 1 ≤ 16777216) (hc : chkL μ τ (parts.toList.map (·.2)) ys = true)
    (he : evOp R env ts st (.litD ys) = some q) : OpRes P o a w (Post w g μ τ a.tmps q) := by
  simp only [evOp] at he
  split at he <;> cases he
  rename_i hcl
  obtain ⟨hl2, hr2⟩ := chkL_at hc
  simp only [List.length_map] at hl2
  have hel : ∀ i (hi : i < (ys.map (rd env ts)).length) (hi' : i < parts.toList.length) (pl : Nat → Pl), RelD w g pl (ys.map (rd env ts))[i] (a.eval (parts.toList[i]).2) ∧ ((ys.map (rd env ts))[i]).one1 = true ∧ refsBelow st.length (ys.map (rd env ts))[i] = true := fun i hi hi' pl => by
    have h4 := hr2 i (by simpa using hi') (by simpa using hi)
    refine ⟨?_, cellL1_at hcl i hi⟩
    simp only [List.getElem_map] at h4 ⊢
    exact rd_rel h h4 pl
  obtain ⟨cells', run, hcs, hpn, hat⟩ := lit_run (w := w) hop hu hz hzero hp hn (fun i hi => by
    obtain ⟨h5, h6, _⟩ := hel i (by simp; omega) hi (fun _ => .nil)
    have := cells_one (h5.one (one1_cell h6))
    rw [this]; rfl)
  have hyn : ys.length = n := by omega
  have hr0 := addB_none st (.row (ys.map (rd env ts)))
  have hG := Gh.grow_blk (o := .cells cells' e) 1 n h.s hr0
  have hlvl : (addB st (.row (ys.map (rd env ts)))).2.lvl + 1 = max st.length 1 := by cases st <;> simp [addB]
  have hbe1 : (g.blk (addB st (.row (ys.map (rd env ts)))).2 w.heap.size 1 n).be (addB st (.row (ys.map (rd env ts)))).2 = w.heap.size := by simp [Gh.blk]
  have hsz1 : (g.blk (addB st (.row (ys.map (rd env ts)))).2 w.heap.size 1 n).sz (addB st (.row (ys.map (rd env ts)))).2 = 1 := by simp [Gh.blk]
  have hcp1 : (g.blk (addB st (.row (ys.map (rd env ts)))).2 w.heap.size 1 n).cp (addB st (.row (ys.map (rd env ts)))).2 = 0 := by simp [Gh.blk]
  refine res_ok run ⟨_, hG.ext h.s, ⟨h.s.new_any hr0 (getB_addB st _) ⟨⟨by simp [Gh.blk, hyn], fun j hj => by rw [hcp1] at hj; omega⟩, fun i hi => ?_⟩, fun i t hi => hG.relD h.s (h.e i t hi), fun j t hj => hG.relD h.s (h.t j t hj)⟩, ?_⟩
  · obtain ⟨h5, h6, h7⟩ := hel i hi (by simp at hi; omega) (fun _ => .cell (addB st (.row (ys.map (rd env ts)))).2 i 0)
    have hcc := cellsOf_cell (one1_cell h6)
    refine ⟨by rw [hcc, hsz1]; rfl, fun j hj => ?_⟩
    have hj0 : j = 0 := by rw [hcc] at hj; simpa using hj
    subst hj0
    have hc0 : (cellsOf (ys.map (rd env ts))[i])[0] = (ys.map (rd env ts))[i] := by simp only [hcc, List.getElem_cons_zero]
    rw [hc0]
    have h8 := hat i (by simp at hi; omega) 0 (by omega)
    rw [cells_one (h5.one (one1_cell h6))] at h8
    refine ⟨one1_cell h6, refs_le h7 (by omega), a.eval (parts.toList[i]'(by simp at hi; omega)).2, ?_, ?_, hG.relD h.s h5⟩
    · rw [hbe1, hsz1, World.cell?_alloc_new]; exact h8
    · rw [hbe1, hsz1, World.frozen?_alloc_new]
  · have hown := RelD.own (w := w.alloc (.cells cells' e)) (g := g.blk (addB st (.row (ys.map (rd env ts)))).2 w.heap.size 1 n) (.tmp τ.length) (addB st (.row (ys.map (rd env ts)))).2 1 0 ys.length true n ⟨w.heap.size, 0, none⟩ (.inr rfl) ⟨by omega, (fun _ => by simp [Gh.blk]), (fun hh => by cases hh)⟩ hsz1 (fun _ => by rw [hbe1])
    rw [hyn] at hown ⊢
    exact hown
theorem els_row {xs : List D} {vs : List V} {r : Ref} (hS : RelS w g st) (hb : getB st r = some (.row xs)) (hv : allV xs = some vs) : ∃ f, Els w g.L (g.sz r) vs f ∧ (∀ i j, i < vs.length → j < g.sz r → w.cell? ⟨g.be r, i * g.sz r + j, none⟩ = some (f i j)) ∧ vs.length = g.n r := by
  have hB := hS.blk r _ hb
  simp only [RelB] at hB
  have hx := allV_some hv
  subst hx
  have hl : (vs.map D.v).length = vs.length := by simp
  have key : ∀ i (hi : i < vs.length) j (hj : j < (cellsV vs[i]).length), ((cellsV vs[i])[j]).isCell = true ∧ ∃ v, w.cell? ⟨g.be r, i * g.sz r + j, none⟩ = some v ∧ RelV w g.L (cellsV vs[i])[j] v := fun i hi j hj => by
    obtain ⟨h1, h2⟩ := hB.2 i (by omega)
    simp only [List.getElem_map, cellsOf_v, List.length_map] at h1 h2
    obtain ⟨h3, _, v, h4, _, h5⟩ := h2 j hj
    exact ⟨h3, v, h4, h5.toV⟩
  have hlen : ∀ i (hi : i < vs.length), (cellsV vs[i]).length = g.sz r := fun i hi => by
    obtain ⟨h1, _⟩ := hB.2 i (by omega)
    simpa only [List.getElem_map, cellsOf_v, List.length_map] using h1
  refine ⟨fun i j => (w.cell? ⟨g.be r, i * g.sz r + j, none⟩).getD undef, ⟨hlen, fun i hi j hj => (key i hi j hj).1, fun i hi j hj => ?_⟩, fun i j hi hj => ?_, by rw [← hl]; exact hB.1.1⟩
  · obtain ⟨_, v, h4, h5⟩ := key i hi j hj
    rw [h4]; exact h5
  · obtain ⟨_, v, h4, _⟩ := key i hi j (by rw [hlen i hi]; exact hj)
    simp [h4]
theorem appO_ok (h : RelA w g μ τ env ts st a.tmps) {c : Call} {x y : Operand} {t u e : TypeId} {x' y' : Opd} {sz bytes : Nat} {inf : TypeInfo} {zv : Value} (hop : o.op = .call c)
    (hb : builtinOf c = some .append) (ha : c.args.toList = [x, y]) (hat : c.argTypes.toList = [t, u]) (hx : chkO μ τ x x' = true) (hy : chkO μ τ y y' = true) (ht : uSlc P t = some e) (hi : P.info? e = some inf)
    (hs : inf.size = sz) (hby : inf.bytes = bytes) (hb0 : bytes ≠ 0) (hzv : inf.zero = some zv) (hz : zv.cells.size = sz) (hu : (uStr P u || (uSlc P u).isSome) = true)
    {ps : List Opd} (he : evOp R env ts st (.appO sz bytes x' y' ps) = some q) : OpRes P o a w (Post w g μ τ a.tmps q) := by
  simp only [evOp] at he
  split at he <;> first | (cases he; done) | skip
  obtain ⟨ys, h1, h2⟩ := bind_some' he
  obtain ⟨qq, h3, rfl⟩ := map_some' h2
  obtain ⟨f, E, S⟩ := elems_rel h.s (rd_rel h hy (fun _ => .nil)) h1
  have Sr := src_of (P := P) E S hu
  have hd := rd_rel h hx (.tmp τ.length)
  have hargs : c.args = #[x, y] := by rw [← ha]
  have hargT : c.argTypes = #[t, u] := by rw [← hat]
  have run : ∀ r w', (Builtin.append_ #[t, u] o.type #[a.eval x, a.eval y]).run P w = .ok r w' → (execOp a.eval o).run P w = .ok (.value r) w' := fun r w' hr => by
    simp only [execOp, hop, resolve, builtinOf_eq hb, hargs, hargT]
    simp only [Sem.run_bind, Sem.run_pure, Result.andThen_ok, invoke, builtin, List.map_toArray, List.map_cons, List.map_nil]
    rw [hr]
    rfl
  subst hs
  have hGd : Grow w w.drew g g := ⟨rfl, rfl, rfl, Nat.le_refl _, fun _ _ => rfl, fun _ _ => rfl, fun _ _ => Iff.rfl, fun _ _ => rfl, fun r hr => ⟨hr, rfl, rfl, rfl, rfl⟩, fun b p hb hp => by have := (h.s.own b p hp).2; have h7 : w.drew.heap.size = w.heap.size := rfl; omega, fun b hb => h.s.fresh b hb⟩
  have grow : ∀ (base : Option Addr) (vs : List V) (fv : Nat → Nat → Value) (cap : Nat) (g0 : Gh) (st0 st' : St) (r0 : Ref) (hA : RelA w g0 μ τ env ts st0 a.tmps) (hx0 : Ext w w g g0), a.eval x = .slice base vs.length cap → Els w g0.L inf.size vs fv → ys.length ≠ 0 →
      (vs.length ≠ 0 → ∃ b oo, base = some ⟨b, oo, none⟩ ∧ ∀ i j, i < vs.length → j < inf.size → w.cell? ⟨b, oo + i * inf.size + j, none⟩ = some (fv i j)) →
      g0.L = g.L → cap < vs.length + ys.length → vs.length ≤ cap → (vs.length + ys.length) * bytes ≤ maxB → getB st0 r0 = none → (∀ r, getB st' r = if r = r0 then some (.row ((vs ++ ys).map .v)) else getB st0 r) →
      OpRes P o a w (Post w g μ τ a.tmps (.own r0 inf.size 0 (vs.length + ys.length) false, env, ts, st')) := fun base vs fv cap g0 st0 st' r0 hA hx0 hv Ev hy0 hcell hL hroom hcap hmax hr0 hst => by
    have hGd0 : Grow w w.drew g0 g0 := ⟨rfl, rfl, rfl, Nat.le_refl _, fun _ _ => rfl, fun _ _ => rfl, fun _ _ => Iff.rfl, fun _ _ => rfl, fun r hr => ⟨hr, rfl, rfl, rfl, rfl⟩, fun b p hb hp => by have := (hA.s.own b p hp).2; have h7 : w.drew.heap.size = w.heap.size := rfl; omega, fun b hb => hA.s.fresh b hb⟩
    have hold : (Builtin.firstCells inf.size vs.length (.slice base vs.length cap)).run P w.drew = .ok (cellL vs.length inf.size fv).toArray w.drew := by
      cases base with
      | none =>
        have h0 : vs.length = 0 := Classical.byContradiction fun h => by obtain ⟨_, _, h1, _⟩ := hcell h; cases h1
        rw [h0]
        have e : cellL 0 inf.size fv = [] := by simp [cellL]
        rw [e]
        exact run_firstCells_none w.drew inf.size 0 0 cap
      | some ad =>
        refine run_firstCells_some w.drew inf.size _ ad _ cap _ (cellL_len _ _ _) fun k u' hk => ?_
        have h0 : vs.length ≠ 0 := fun e => by rw [e] at hk; simp [cellL] at hk
        obtain ⟨b, oo, h1, h2⟩ := hcell h0
        cases h1
        exact cellL_src (w := w.drew) h2 k u' hk
    have h63 : ((vs.length + ys.length : Nat) : Int) ≤ 9223372036854775807 := by
      have h5 : (vs.length + ys.length) * 1 ≤ (vs.length + ys.length) * inf.bytes := Nat.mul_le_mul_left _ (by omega)
      have : maxB = 140737488355328 := rfl
      rw [hby] at h5; omega
    have hrun := run_append_grow_src w t u o.type e inf zv (of_uSlc P ht) hi hzv base vs.length cap _ hold (a.eval y) ys.length _ Sr hroom h63 (growslice_fits hroom (by rw [hby]; exact hmax))
    let cap' := grownCap w (vs.length + ys.length) cap e
    have hge : vs.length + ys.length ≤ cap' := grownCap_ge w (vs.length + ys.length) cap e
    let C : Array Value := (cellL vs.length inf.size fv ++ cellL ys.length inf.size f).toArray ++ Builtin.zeroCells zv.cells (cap' - (vs.length + ys.length))
    have e1 : (vs.length + ys.length) * inf.size = vs.length * inf.size + ys.length * inf.size := Nat.add_mul _ _ _
    have hlen : (cellL vs.length inf.size fv ++ cellL ys.length inf.size f).length = (vs.length + ys.length) * inf.size := by rw [List.length_append, cellL_len, cellL_len, e1]
    have hsize : C.size = cap' * inf.size := by
      show ((cellL vs.length inf.size fv ++ cellL ys.length inf.size f).toArray ++ Builtin.zeroCells zv.cells (cap' - (vs.length + ys.length))).size = _
      rw [Array.size_append, List.size_toArray, hlen, size_zeroCells, hz, ← Nat.add_mul]
      congr 1; omega
    have E2 : Els w g0.L inf.size ys f := by rw [hL]; exact E
    have EE := (Ev.append E2)
    have hA' := hGd0.relA hA (fun _ => Iff.rfl)
    have EE' : Els w.drew g0.L inf.size (vs ++ ys) (Els2 vs.length fv f) := EE.mono (fun x v hh => hh.mono (hGd0.keeps hA.s).cell (hGd0.keeps hA.s).L)
    have hCat : ∀ i j, i < (vs ++ ys).length → j < inf.size → C[i * inf.size + j]? = some (Els2 vs.length fv f i j) := fun i j hi' hj => by
      rw [List.length_append] at hi'
      have h1 := mul_at hi' hj
      show ((cellL vs.length inf.size fv ++ cellL ys.length inf.size f).toArray ++ _)[i * inf.size + j]? = _
      rw [Array.getElem?_append_left (by rw [List.size_toArray, hlen]; exact h1), List.getElem?_toArray]
      by_cases h2 : i < vs.length
      · rw [List.getElem?_append_left (by rw [cellL_len]; exact mul_at h2 hj), cellL_at fv h2 hj]
        simp [Els2, h2]
      · have h3 : i - vs.length < ys.length := by omega
        have e2 : i * inf.size = vs.length * inf.size + (i - vs.length) * inf.size := by rw [← Nat.add_mul]; congr 1; omega
        rw [List.getElem?_append_right (by rw [cellL_len]; omega), cellL_len]
        have e3 : i * inf.size + j - vs.length * inf.size = (i - vs.length) * inf.size + j := by omega
        rw [e3, cellL_at f h3 hj]
        simp [Els2, h2]
    have hS := rows_core (E := e) (C := C) hA'.s EE' hCat hr0 hst
    have hG := Gh.grow_blk (o := .cells C e) inf.size ((vs ++ ys).map D.v).length hA'.s hr0 C.size
    refine res_ok (run _ _ (by rw [hv]; exact hrun)) ⟨_, (hx0.trans (hGd0.ext hA.s)).trans (hG.ext hA'.s), ⟨hS, fun i t hi => hG.relD hA'.s (hA'.e i t hi), fun j t hj => hG.relD hA'.s (hA'.t j t hj)⟩, ?_⟩
    refine RelD.own _ _ _ _ _ _ _ _ (.inr rfl) ⟨hge, (fun hh => by cases hh), fun _ => ?_⟩ (by simp [Gh.blk]) (fun _ => by first | (simp [Gh.blk]; done) | (simp [Gh.blk]; rfl))
    have hcp : (g0.blk r0 w.drew.heap.size inf.size ((vs ++ ys).map D.v).length C.size).cp r0 = C.size := by simp [Gh.blk]
    rw [hcp, hsize, Nat.zero_add]; exact Nat.le_refl _
  unfold opAppO at h3
  split at h3 <;> first | (cases h3; done) | skip
  · -- nothing more
    rename_i r z off len fl hdx
    cases h3
    rw [hdx] at hd
    generalize hv : a.eval x = v at hd
    have hd' := hd
    cases hd with | own _ _ _ _ _ _ c ad hlv hc hzr hadr =>
    have e' : cellL ([] : List V).length inf.size f = [] := by simp [cellL]
    rw [e'] at Sr
    exact res_ok (run _ _ (by rw [hv]; exact run_append_nothing w t u o.type e inf (of_uSlc P ht) hi (some ad) len c hc.1 _ Sr)) ⟨g, Ext.refl w g, h, hd'⟩
  · -- to nil
    rename_i y0 ys0 z hdx
    split at h3 <;> cases h3
    rename_i hmax
    rw [hdx] at hd
    generalize hv : a.eval x = v at hd
    cases hd
    have := grow none [] (fun _ _ => undef) 0 g st (addB st (.row ((y0 :: ys0).map .v))).1 (addB st (.row ((y0 :: ys0).map .v))).2 h (Ext.refl w g) hv ⟨fun i hi => by simp at hi, fun i hi => by simp at hi, fun i hi => by simp at hi⟩ (by simp) (fun hh => by simp at hh) rfl (by simp) (Nat.le_refl _) (by simpa using hmax) (addB_none st _) (fun r => by rw [List.nil_append]; exact getB_addB st _ r)
    simpa using this
  · -- to a row
    rename_i y0 ys0 r z len fl hdx
    split at h3 <;> first | (cases h3; done) | skip
    rename_i hzz
    subst hzz
    obtain ⟨xs, h4, h5⟩ := bind_some' h3
    obtain ⟨vs, h6, h7⟩ := bind_some' h5
    have hbk := rowOf_some h4
    unfold appRow at h7
    split at h7 <;> first | (cases h7; done) | skip
    rename_i hcond
    obtain ⟨hlen, hl0, hmax⟩ := hcond
    obtain ⟨p, h8, rfl⟩ := map_some' h7
    rw [hdx] at hd
    generalize hv : a.eval x = v at hd
    cases hd with | own _ _ _ _ _ _ c ad hlv hc hzr hadr =>
    have had := hadr hl0
    subst had
    rw [Nat.zero_mul] at hv
    obtain ⟨fv, Ev, hcell, hvn⟩ := els_row h.s hbk h6
    rw [hzr] at Ev hcell
    generalize hys : y0 :: ys0 = ys at *
    have hy0 : ys.length ≠ 0 := by rw [← hys]; simp
    obtain ⟨k1, k2, k3, k4⟩ := addAt_some h8
    subst hlen
    by_cases hroom : vs.length + ys.length ≤ c
    · -- in its place
      have hfl : fl = false := by
        cases fl with
        | false => rfl
        | true => have := hc.2.1 rfl; omega
      have hcpr := hc.2.2 hfl
      rw [Nat.zero_add] at hcpr
      have hB := h.s.blk r _ hbk
      simp only [RelB] at hB
      have e1 : (vs.length + ys.length) * inf.size = vs.length * inf.size + ys.length * inf.size := Nat.add_mul _ _ _
      have hcz : (vs.length + ys.length) * inf.size ≤ c * inf.size := Nat.mul_le_mul_right _ hroom
      have hrun := run_append_room_src w t u o.type e inf (of_uSlc P ht) hi (g.be r) 0 vs.length c (a.eval y) ys.length _ Sr hroom (fun j hj => by rw [cellL_len] at hj; exact (hB.1.2 _ (by omega)).1) (fun j hj => by rw [cellL_len] at hj; exact (hB.1.2 _ (by omega)).2)
      rw [Nat.zero_add] at hrun
      obtain ⟨m1, m2, m3, m4⟩ := kill_poke (vs.length * inf.size) (cellL ys.length inf.size f) h.s hbk
      have hr1 : getB (setB st r .dead) p.2 = none := k1
      generalize hw' : w.setCells (g.be r) (vs.length * inf.size) (cellL ys.length inf.size f) = w' at *
      have hbe1 : (g.again r p.2 inf.size ((vs ++ ys).map D.v).length).be p.2 = g.be r := by simp [Gh.again]
      have hsz1 : (g.again r p.2 inf.size ((vs ++ ys).map D.v).length).sz p.2 = inf.size := by simp [Gh.again]
      have hcp1 : (g.again r p.2 inf.size ((vs ++ ys).map D.v).length).cp p.2 = g.cp r := by simp [Gh.again]
      have hS := again_S (r := r) (r' := p.2) (z := inf.size) (m := ((vs ++ ys).map D.v).length) (b0 := .row ((vs ++ ys).map .v)) m1 hlv hr1 k3 m4 k2 (by
        refine ⟨⟨by simp [Gh.again], fun j hj => ?_⟩, fun i hi => ?_⟩
        · rw [hcp1] at hj
          rw [hbe1, ← hw', World.frozen?_setCells]
          exact ⟨World.isSome_setCells _ _ _ w _ (hB.1.2 j hj).1, (hB.1.2 j hj).2⟩
        · have hi' : i < vs.length + ys.length := by simpa using hi
          have EE := Ev.append E
          simp only [List.getElem_map, cellsOf_v]
          refine ⟨by rw [hsz1, List.length_map]; exact EE.len i (by simpa using hi), fun j hj => ?_⟩
          rw [List.length_map] at hj
          have hjz : j < inf.size := by rw [← EE.len i (by simpa using hi)]; exact hj
          refine ⟨EE.cell i (by simpa using hi) j hj, by simp [refsBelow], Els2 vs.length fv f i j, ?_, ?_, again_D m1 hr1 (m3 (.v _ _ _ (EE.rel i (by simpa using hi) j hj)))⟩
          · rw [hbe1, hsz1, ← hw']
            by_cases h1 : i < vs.length
            · have h2 := mul_at h1 hjz
              rw [World.cell?_setCells_out (g.be r) _ _ w _ (fun _ _ => .inl h2), hcell i j h1 hjz]
              simp [Els2, h1]
            · have h3 : i - vs.length < ys.length := by omega
              have h4 := cellL_at f h3 hjz
              obtain ⟨h5, h6⟩ := List.getElem?_eq_some_iff.1 h4
              have h7 := World.cell?_setCells_in (g.be r) (cellL ys.length inf.size f) (vs.length * inf.size) w (fun q hq => by
                rw [cellL_len] at hq
                exact (hB.1.2 _ (by omega)).1) _ h5
              have e2 : i * inf.size = vs.length * inf.size + (i - vs.length) * inf.size := by rw [← Nat.add_mul]; congr 1; omega
              have e3 : i * inf.size + j = vs.length * inf.size + ((i - vs.length) * inf.size + j) := by omega
              rw [e3, h7, h6]
              simp [Els2, h1]
          · rw [hbe1, hsz1, ← hw', World.frozen?_setCells]
            have := mul_at hi' hjz
            exact (hB.1.2 _ (by omega)).2)
      have hx1 := again_ext (r := r) (z := inf.size) (m := ((vs ++ ys).map D.v).length) m1 hr1
      refine res_ok (run _ _ (by rw [hv]; exact hrun)) ⟨_, m2.trans hx1, ⟨hS, fun i t hi => again_D m1 hr1 (m3 (h.e i t hi)), fun j t hj => again_D m1 hr1 (m3 (h.t j t hj))⟩, ?_⟩
      have := RelD.own (w := w') (g := g.again r p.2 inf.size ((vs ++ ys).map D.v).length) (.tmp τ.length) p.2 inf.size 0 (vs.length + ys.length) false c ⟨g.be r, 0, none⟩ (.inr rfl) ⟨hroom, (fun hh => by cases hh), fun _ => by rw [hcp1, Nat.zero_add]; exact hcpr⟩ hsz1 (fun _ => by rw [hbe1, Nat.zero_mul])
      exact this
    · -- a new one
      obtain ⟨m1, m2, m3, m4⟩ := kill_poke 0 [] h.s hbk
      have hw0 : w.setCells (g.be r) 0 [] = w := rfl
      rw [hw0] at m1 m2
      have hA : RelA w g μ τ env ts (setB st r .dead) a.tmps := ⟨m1, h.e, h.t⟩
      exact grow (some ⟨g.be r, 0, none⟩) vs fv c g (setB st r .dead) p.1 p.2 hA (Ext.refl w g) hv Ev hy0 (fun _ => ⟨_, _, rfl, fun i j hi hj => by rw [Nat.zero_add]; exact hcell i j hi hj⟩) rfl (by omega) hc.1 hmax k1 k2
theorem cpy_ok (h : RelA w g μ τ env ts st a.tmps) {c : Call} {x y : Operand} {t u e : TypeId} {x' y' : Opd} {sz : Nat} (hop : o.op = .call c)
    (hb : builtinOf c = some .copy) (ha : c.args.toList = [x, y]) (hat : c.argTypes.toList = [t, u]) (hx : chkO μ τ x x' = true) (hy : chkO μ τ y y' = true) (ht : uSlc P t = some e) (hz : szT P e = some sz)
    (hu : (uStr P u || (uSlc P u).isSome) = true) (he : evOp R env ts st (.cpy sz x' y') = some q) : OpRes P o a w (Post w g μ τ a.tmps q) := by
  simp only [evOp] at he
  obtain ⟨ys, h1, h2⟩ := bind_some' he
  obtain ⟨qq, h3, rfl⟩ := map_some' h2
  obtain ⟨f, E, S⟩ := elems_rel h.s (rd_rel h hy (fun _ => .nil)) h1
  have Sr := src_of (P := P) E S hu
  have hd := rd_rel h hx (fun _ => .nil)
  have hargs : c.args = #[x, y] := by rw [← ha]
  have hargT : c.argTypes = #[t, u] := by rw [← hat]
  unfold opCpy at h3
  split at h3 <;> first | (cases h3; done) | skip
  rename_i r z off len fl hdx
  split at h3 <;> first | (cases h3; done) | skip
  rename_i hzz
  subst hzz
  obtain ⟨xs, h4, h5⟩ := bind_some' h3
  have hbk := rowOf_some h4
  unfold cpyRow at h5
  split at h5 <;> cases h5
  rename_i hcond
  obtain ⟨hy0, hyl, hle⟩ := hcond
  rw [hdx] at hd
  generalize hv : a.eval x = v at hd
  cases hd with | own _ _ _ _ _ _ cc ad hlv hc hzr hadr =>
  have had := hadr (by omega)
  subst had
  obtain ⟨hM, hL, ho, hbs⟩ := h.s.be r hlv
  have hB := h.s.blk r _ hbk
  simp only [RelB] at hB
  replace hB := hB.2
  have hin : ∀ k, k < (cellL ys.length z f).length → (w.cell? ⟨g.be r, off * z + k, none⟩).isSome = true ∧ w.frozen? ⟨g.be r, off * z + k, none⟩ = false := fun k hk => by
    rw [cellL_len] at hk
    have hpos : 0 < z := Nat.pos_of_ne_zero fun e => by rw [e, Nat.mul_zero] at hk; omega
    have hi : k / z < ys.length := Nat.div_lt_of_lt_mul (by rw [Nat.mul_comm]; exact hk)
    have hj : k % z < z := Nat.mod_lt _ hpos
    obtain ⟨q1, q2⟩ := hB (off + k / z) (by omega)
    obtain ⟨_, _, v', e1, e2, _⟩ := q2 (k % z) (by omega)
    have hk2 : (off + k / z) * g.sz r + k % z = off * z + k := by
      rw [hzr, Nat.add_mul, Nat.add_assoc]
      congr 1
      rw [Nat.mul_comm]; exact Nat.div_add_mod k z
    rw [hk2] at e1 e2
    rw [e1]; exact ⟨rfl, e2⟩
  have run : (execOp a.eval o).run P w = .ok (.value (goInt ys.length)) (w.setCells (g.be r) (off * z) (cellL ys.length z f)) := by
    have hst := run_storeCells_cells (P := P) (g.be r) (off * z) (cellL ys.length z f) 0 w (fun j hj => by rw [Nat.add_zero]; exact (hin j hj).1) (fun j hj => by rw [Nat.add_zero]; exact (hin j hj).2) (cellL_one E)
    rw [Nat.add_zero] at hst
    have hmin : Nat.min ys.length len = ys.length := Nat.min_eq_left hyl
    have hcp : (Builtin.copy_ #[t, u] o.type #[.slice (some ⟨g.be r, off * z, none⟩) len cc, a.eval y]).run P w = .ok (goInt ys.length) (w.setCells (g.be r) (off * z) (cellL ys.length z f)) := by
      simp [Builtin.copy_, run_underlying (of_uSlc P ht), Sr.len, hmin, sizeOf_run hz, Sr.cells, hst]
    simp only [execOp, hop, resolve, builtinOf_eq hb, hargs, hargT]
    simp only [Sem.run_bind, Sem.run_pure, Result.andThen_ok, invoke, builtin, List.map_toArray, List.map_cons, List.map_nil, hv]
    rw [hcp]
    rfl
  have hmv : g.mv id = g := by simp [Gh.mv]
  have hpl : (putAt xs off (ys.map D.v)).length = xs.length := putAt_len _ _ _ (by simp; omega)
  have hget := fun i => putAt_get xs (ys.map D.v) off (by simp; omega) i
  have hat : ∀ i (hi : i < (putAt xs off (ys.map D.v)).length), (off ≤ i ∧ ∃ hi2 : i - off < ys.length, (putAt xs off (ys.map D.v))[i] = .v ys[i - off]) ∨ ((i < off ∨ off + ys.length ≤ i) ∧ ∃ hi2 : i < xs.length, (putAt xs off (ys.map D.v))[i] = xs[i]) := fun i hi => by
    have e := hget i
    rw [List.getElem?_eq_getElem hi] at e
    by_cases hr : off ≤ i ∧ i < off + (ys.map D.v).length
    · rw [if_pos hr] at e
      have hr2 : i - off < ys.length := by have := hr.2; simp at this; omega
      rw [List.getElem?_eq_getElem (by simp; exact hr2)] at e
      exact .inl ⟨hr.1, hr2, by have := Option.some.inj e; simpa using this⟩
    · rw [if_neg hr, List.getElem?_eq_getElem (by omega)] at e
      simp at hr
      exact .inr ⟨by omega, by omega, Option.some.inj e⟩
  have hS : RelS (w.setCells (g.be r) (off * z) (cellL ys.length z f)) (g.mv id) (setB st r (.row (putAt xs off (ys.map .v)))) := by
    refine set_blk h.s hbk rfl rfl (fun p hp => hp) (fun r i j => rfl) hin hpl (fun i hi => ?_) (fun i hi j hj => ?_)
    · rcases hat i hi with ⟨_, hi2, e⟩ | ⟨_, hi2, e⟩
      · rw [e, cellsOf_v, List.length_map, hzr]; exact E.len _ hi2
      · rw [e]; exact (hB i hi2).1
    · rcases hat i hi with ⟨k1, hi2, e⟩ | ⟨k1, hi2, e⟩
      · left
        have hce : cellsOf (putAt xs off (ys.map D.v))[i] = (cellsV ys[i - off]).map .v := by rw [e, cellsOf_v]
        have hj' : j < (cellsV ys[i - off]).length := by have := hj; rw [hce, List.length_map] at this; exact this
        have hjz : j < z := by rw [← E.len _ hi2]; exact hj'
        have e4 : (cellsOf (putAt xs off (ys.map D.v))[i])[j] = .v (cellsV ys[i - off])[j] := by simp only [hce, List.getElem_map]
        refine ⟨(i - off) * z + j, f (i - off) j, fun _ => .cell r i j, ?_, cellL_at f hi2 hjz, ?_, ?_, ?_, rfl⟩
        · rw [hzr, ← Nat.add_assoc, ← Nat.add_mul]; congr 2; omega
        · rw [e4]; exact E.cell _ hi2 j hj'
        · rw [e4]; simp [refsBelow]
        · rw [e4]; exact .v _ _ _ (E.rel _ hi2 j hj')
      · right
        have hj' : j < (cellsOf xs[i]).length := by rw [← e]; exact hj
        refine ⟨?_, hi2, hj', by simp only [e]⟩
        have hjz : j < z := by rw [← hzr, ← (hB i hi2).1]; exact hj'
        rw [cellL_len, hzr]
        rcases k1 with k1 | k1
        · left
          have : (i + 1) * z ≤ off * z := Nat.mul_le_mul_right _ k1
          rw [Nat.add_mul, Nat.one_mul] at this
          omega
        · right
          have : (off + ys.length) * z ≤ i * z := Nat.mul_le_mul_right _ k1
          rw [Nat.add_mul] at this
          omega
  rw [hmv] at hS
  have mono : ∀ {pl : Nat → Pl} {d : D} {v : Value}, RelD w g pl d v → RelD (w.setCells (g.be r) (off * z) (cellL ys.length z f)) g pl d v := fun hd => poke_mono h.s hL ho hd
  exact res_ok run ⟨g, poke_ext hM hL, ⟨hS, fun i t hi => mono (h.e i t hi), fun j t hj => mono (h.t j t hj)⟩, .v _ _ _ (.int _ _)⟩
theorem keyOf_rel {kd : Nat} {pl : Nat → Pl} {d : D} {v : Value} {k : V} (h : RelD w g pl d v) (hk : keyOfD kd d = some k) : KeyR k v ∧ ∃ x, d = .v x ∧ k = x ∧ ((kd = 0 ∧ ∃ b, x = .bool b) ∨ (kd = 1 ∧ ∃ q n, x = .int q n) ∨ (kd = 2 ∧ ∃ s, x = .str s)) := by
  unfold keyOfD at hk
  split at hk <;> first | (cases hk; done) | skip
  all_goals
    split at hk <;> cases hk
    rename_i hkd
    cases h with | v _ _ _ h =>
    cases h
    first
      | exact ⟨rfl, _, rfl, rfl, .inl ⟨hkd, _, rfl⟩⟩
      | exact ⟨⟨rfl, rfl⟩, _, rfl, rfl, .inr (.inl ⟨hkd, _, _, rfl⟩)⟩
      | exact ⟨rfl, _, rfl, rfl, .inr (.inr ⟨hkd, _, rfl⟩)⟩
def OfKind (d : TypeDesc) (k : V) : Prop := ((∃ b, k = .bool b) ∧ d = .bool) ∨ ((∃ q n, k = .int q n) ∧ ∃ q, d = .int q) ∨ ((∃ s, k = .str s) ∧ d = .string)
theorem ofKind {t : TypeId} {kd : Nat} (hc : clsT P t = some kd) {x : V} (h : (kd = 0 ∧ ∃ b, x = .bool b) ∨ (kd = 1 ∧ ∃ q n, x = .int q n) ∨ (kd = 2 ∧ ∃ s, x = .str s)) : ∃ d, P.underlying t = some d ∧ OfKind d x := by
  unfold clsT at hc
  split at hc <;> cases hc
  · exact ⟨_, by assumption, .inl ⟨by simpa using h, rfl⟩⟩
  · exact ⟨_, by assumption, .inr (.inl ⟨by simpa using h, _, rfl⟩)⟩
  · exact ⟨_, by assumption, .inr (.inr ⟨by simpa using h, rfl⟩)⟩
theorem barr_eq {a b : ByteArray} : (a == b) = (a.data.toList == b.data.toList) := by
  by_cases h : a = b
  · subst h; rw [(MapKept.bytes_beq a a).2 rfl, beq_self_eq_true]
  · have h2 : ¬ a.data.toList = b.data.toList := fun e => h (by cases a; cases b; congr 1; exact Array.ext' e)
    rw [beq_eq_false_iff_ne.2 h2]
    cases hb : (a == b) with
    | false => rfl
    | true => exact absurd ((MapKept.bytes_beq a b).1 hb) h
theorem keyEq_rel {d : TypeDesc} {x y : V} {u v : Value} (hd : OfKind d x) (hx : KeyR x u) (hy : KeyR y v) {t : Bool} (h : keyEq x y = some t) : Instr.sameNow d u v = some t := by
  unfold keyEq at h
  split at h <;> first | (cases h; done) | skip
  · split at h <;> cases h
    rename_i hk
    subst hk
    cases u <;> simp only [KeyR] at hx <;> first | (exact hx.elim; done) | skip
    cases v <;> simp only [KeyR] at hy <;> first | (exact hy.elim; done) | skip
    obtain ⟨rfl, rfl⟩ := hx
    obtain ⟨rfl, rfl⟩ := hy
    rcases hd with ⟨⟨_, e⟩, _⟩ | ⟨_, q, rfl⟩ | ⟨⟨_, e⟩, _⟩ <;> first | (cases e; done) | skip
    simp [Instr.sameNow]
  · cases h
    cases u <;> simp only [KeyR] at hx <;> first | (exact hx.elim; done) | skip
    cases v <;> simp only [KeyR] at hy <;> first | (exact hy.elim; done) | skip
    subst hx hy
    rcases hd with ⟨⟨_, e⟩, _⟩ | ⟨⟨_, _, e⟩, _⟩ | ⟨_, rfl⟩ <;> first | (cases e; done) | skip
    simp only [Instr.sameNow, barr_eq]
  · cases h
    cases u <;> simp only [KeyR] at hx <;> first | (exact hx.elim; done) | skip
    cases v <;> simp only [KeyR] at hy <;> first | (exact hy.elim; done) | skip
    subst hx hy
    rcases hd with ⟨_, rfl⟩ | ⟨⟨_, _, e⟩, _⟩ | ⟨⟨_, e⟩, _⟩ <;> first | (cases e; done) | skip
    simp only [Instr.sameNow]
theorem keyEq_true {x y : V} {v : Value} (h : keyEq x y = some true) (hx : KeyR x v) : KeyR y v := by
  unfold keyEq at h
  split at h <;> first | (cases h; done) | skip
  · split at h <;> first | (cases h; done) | skip
    rename_i hk
    have e := Option.some.inj h
    subst hk
    rw [eq_of_beq e] at hx; exact hx
  · have e := Option.some.inj h
    rw [eq_of_beq e] at hx; exact hx
  · have e := Option.some.inj h
    rw [eq_of_beq e] at hx; exact hx
theorem keyEq_same {x y : V} {u v : Value} (h : keyEq x y = some true) (hx : KeyR x u) (hy : KeyR y v) : u = v := by
  have h1 := keyEq_true h hx
  cases y <;> cases u <;> simp only [KeyR] at h1 <;> first | (exact h1.elim; done) | skip
  all_goals (cases v <;> simp only [KeyR] at hy <;> first | (exact hy.elim; done) | skip)
  · exact congrArg _ (h1.symm.trans hy)
  · rw [← h1.1, ← h1.2, ← hy.1, ← hy.2]
  · rename_i s a b
    have : a = b := by cases a; cases b; congr 1; exact Array.ext' (h1.trans hy.symm)
    rw [this]
theorem checkKey_run {t : TypeId} {d : TypeDesc} (hu : P.underlying t = some d) {x : V} {v : Value} (hd : OfKind d x) (em : Bool) : (Instr.checkKey em 10000 t v).run P w = .ok () w := by
  unfold Instr.checkKey
  simp only [Sem.run_bind, run_underlying hu, Result.andThen]
  rcases hd with ⟨_, rfl⟩ | ⟨_, q, rfl⟩ | ⟨_, rfl⟩ <;> rfl
theorem stays_run {x : V} {v : Value} (hx : KeyR x v) : (Instr.keyThatStays v v).run P w = .ok v w := by
  have : Instr.sameBits 10000 v v = true := by
    cases x <;> cases v <;> simp only [KeyR] at hx <;> first | (exact hx.elim; done) | (simp [Instr.sameBits]; done) | (simp only [Instr.sameBits]; exact (MapKept.bytes_beq _ _).2 rfl)
  simp [Instr.keyThatStays, this]

theorem find_rel {d : TypeDesc} {k : V} {u : Value} (hd : OfKind d k) (hk : KeyR k u) : ∀ (es : List (V × D)) (as : List MapEntry) (i : Nat) (r : Option D), es.length = as.length → (∀ j (h : j < es.length) (h' : j < as.length), KeyR es[j].1 as[j].key) → mfind k es = some r →
    (r = none ∧ Instr.findNow d u as i = some none) ∨ ∃ j, ∃ (h : j < es.length) (h' : j < as.length), r = some es[j].2 ∧ Instr.findNow d u as i = some (some (i + j, as[j].val)) ∧ as[j].key = u
  | [], [], i, r, _, _, h => by
    simp only [mfind] at h; cases h
    exact .inl ⟨rfl, rfl⟩
  | [], b :: as, i, r, hl, _, _ => by simp at hl
  | e :: es, [], i, r, hl, _, _ => by simp at hl
  | e :: es, b :: as, i, r, hl, hr, h => by
    simp only [mfind] at h
    obtain ⟨t, h1, h2⟩ := bind_some' h
    have h3 := keyEq_rel hd hk (hr 0 (by simp) (by simp)) h1
    simp only [List.getElem_cons_zero] at h3
    cases t with
    | true =>
      simp only [if_true] at h2; cases h2
      exact .inr ⟨0, by simp, by simp, rfl, by simp [Instr.findNow, h3], (keyEq_same h1 hk (hr 0 (by simp) (by simp))).symm⟩
    | false =>
      simp only [Bool.false_eq_true, if_false] at h2
      rcases find_rel hd hk es as (i + 1) r (by simpa using hl) (fun j h h' => by have := hr (j + 1) (by simpa using h) (by simpa using h'); simpa using this) h2 with ⟨rfl, h4⟩ | ⟨j, h5, h6, rfl, h7, h8⟩
      · exact .inl ⟨rfl, by simp only [Instr.findNow, h3]; exact h4⟩
      · exact .inr ⟨j + 1, by simpa using h5, by simpa using h6, by simp, by simp only [Instr.findNow, h3, h7, List.getElem_cons_succ]; congr 3; omega, by simpa using h8⟩
theorem put_rel' {d : TypeDesc} {k : V} {u : Value} {x : D} (hd : OfKind d k) (hk : KeyR k u) : ∀ (es : List (V × D)) (as : List MapEntry) (i : Nat) (es' : List (V × D)), es.length = as.length → (∀ j (h : j < es.length) (h' : j < as.length), KeyR es[j].1 as[j].key) → mput k x es = some es' →
    (es' = es ++ [(k, x)] ∧ Instr.findNow d u as i = some none) ∨ ∃ j, ∃ (h : j < es.length) (h' : j < as.length), es' = es.set j (es[j].1, x) ∧ Instr.findNow d u as i = some (some (i + j, as[j].val)) ∧ as[j].key = u
  | [], [], i, es', _, _, h => by
    simp only [mput] at h; cases h
    exact .inl ⟨rfl, rfl⟩
  | [], b :: as, i, es', hl, _, _ => by simp at hl
  | e :: es, [], i, es', hl, _, _ => by simp at hl
  | e :: es, b :: as, i, es', hl, hr, h => by
    simp only [mput] at h
    obtain ⟨t, h1, h2⟩ := bind_some' h
    have h3 := keyEq_rel hd hk (hr 0 (by simp) (by simp)) h1
    simp only [List.getElem_cons_zero] at h3
    cases t with
    | true =>
      simp only [if_true] at h2; cases h2
      exact .inr ⟨0, by simp, by simp, by simp, by simp [Instr.findNow, h3], (keyEq_same h1 hk (hr 0 (by simp) (by simp))).symm⟩
    | false =>
      simp only [Bool.false_eq_true, if_false] at h2
      obtain ⟨es2, h4, rfl⟩ := map_some' h2
      rcases put_rel' hd hk es as (i + 1) es2 (by simpa using hl) (fun j h h' => by have := hr (j + 1) (by simpa using h) (by simpa using h'); simpa using this) h4 with ⟨rfl, h5⟩ | ⟨j, h5, h6, rfl, h7, h8⟩
      · exact .inl ⟨rfl, by simp only [Instr.findNow, h3]; exact h5⟩
      · exact .inr ⟨j + 1, by simpa using h5, by simpa using h6, by simp, by simp only [Instr.findNow, h3, h7, List.getElem_cons_succ]; congr 3; omega, by simpa using h8⟩
theorem mapV_cell {n : Nat} {d : D} (h : mapV n d = true) : d.isCell = true ∧ cp1 d = d := by
  unfold mapV at h
  split at h <;> first | (cases h; done) | skip
  rename_i h1 h2 h3 h4 h5
  cases d <;> first | exact ⟨rfl, rfl⟩ | skip
  · rename_i x
    cases x <;> first | exact ⟨rfl, rfl⟩ | exact absurd rfl (h1 _)
  · exact absurd rfl (h5 _ _)
  · exact absurd rfl (h2 _)
  · exact absurd rfl (h3 _)
  · exact absurd rfl h4
theorem mapOf_rel (hS : RelS w g st) {pl : Nat → Pl} {d : D} {v : Value} (hd : RelD w g pl d v) {es : List (V × D)} (h : mapOf st d = some es) :
    (v = .map none ∧ es = []) ∨ ∃ r arr clock, d = .map r ∧ v = .map (some (g.be r)) ∧ getB st r = some (.mp es) ∧ w.heap[g.be r]? = some (.map arr clock) ∧ arr.size = es.length ∧
      (∀ i (h : i < es.length) (h' : i < arr.size), KeyR es[i].1 arr[i].key ∧ mapV (r.lvl + 1) es[i].2 = true ∧ RelD w g (fun _ => .cell r i 0) es[i].2 arr[i].val) := by
  unfold mapOf at h
  split at h <;> first | (cases h; done) | skip
  · rename_i r
    unfold mpOf at h
    split at h <;> cases h
    rename_i hb
    cases hd
    obtain ⟨arr, clock, h1, h2, h3⟩ := hS.blk r _ hb
    exact .inr ⟨r, arr, clock, rfl, rfl, hb, h1, h2, h3⟩
  · cases h
    cases hd with | v _ _ _ hd =>
    cases hd
    exact .inl ⟨rfl, rfl⟩
theorem chkC_relD {zv : Value} {z : D} (h : chkC zv z = true) (pl : Nat → Pl) : RelD w g pl z zv := by
  have hz : chkZ [zv] [z] = true := by simp [chkZ, h]
  unfold chkC at h
  split at h <;> first | (cases h; done) | skip
  all_goals first
    | (simp only [Bool.and_eq_true, decide_eq_true_eq] at h; obtain ⟨rfl, rfl⟩ := h; exact .v _ _ _ (.int _ _))
    | exact .nils _ _
    | exact .v _ _ _ .nilp
    | exact .v _ _ _ .nili
    | exact .v _ _ _ .nilf
    | exact .v _ _ _ .nilm
    | (rw [← eq_of_beq h]; first | exact .v _ _ _ (.bool _) | exact .v _ _ _ (.str _))
theorem look_ok (h : RelA w g μ τ env ts st a.tmps) {t kt et : TypeId} {x k : Operand} {x' k' : Opd} {kd : Nat} {ok : Bool} {z : D} {zv : Value} (hop : o.op = .lookup t x k ok) (hu : P.underlying t = some (.map kt et))
    (hk : clsT P kt = some kd) (hz : zeroT P et = some zv) (hzc : chkC zv z = true) (h1 : chkO μ τ x x' = true) (h2 : chkO μ τ k k' = true) (he : evOp R env ts st (.look kd ok z x' k') = some q) : OpRes P o a w (Post w g μ τ a.tmps q) := by
  simp only [evOp] at he
  obtain ⟨kv, h3, h4⟩ := bind_some' he
  obtain ⟨es, h5, h6⟩ := bind_some' h4
  obtain ⟨r, h7, rfl⟩ := map_some' h6
  obtain ⟨k1, y, _, rfl, k2⟩ := keyOf_rel (rd_rel h h2 (fun _ => .nil)) h3
  obtain ⟨d, hd1, hd2⟩ := ofKind hk k2
  have hz0 := zeroV_run (w := w) hz
  have fin : ∀ (d : D) (v : Value), (∀ pl, RelD w g pl d v) → RelD w g (.tmp τ.length) (if ok = true then .tup [d, .v (.bool true)] else d) (if ok then .tuple #[v, .bool true] else v) ∧ RelD w g (.tmp τ.length) (if ok = true then .tup [d, .v (.bool false)] else d) (if ok then .tuple #[v, .bool false] else v) := fun d v hv => by
    cases ok with
    | false => exact ⟨hv _, hv _⟩
    | true => exact ⟨.tup _ _ _ rfl (fun i hi => by match i, hi with | 0, _ => exact hv _ | 1, _ => exact .v _ _ _ (.bool _)), .tup _ _ _ rfl (fun i hi => by match i, hi with | 0, _ => exact hv _ | 1, _ => exact .v _ _ _ (.bool _))⟩
  rcases mapOf_rel h.s (rd_rel h h1 (fun _ => .nil)) h5 with ⟨hv, rfl⟩ | ⟨rr, arr, clock, hdm, hv, hb, m1, m2, m3⟩
  · simp only [mfind] at h7; cases h7
    refine res_val h (v := if ok then .tuple #[zv, .bool false] else zv) ?_ (fin z zv (chkC_relD hzc)).2
    simp only [execOp, hop, hv]
    refine run_v ?_
    have hf : Instr.findNow d (a.eval k) [] 0 = some none := rfl
    simp [Instr.lookup, run_underlying hu, Result.andThen, checkKey_run (w := w) hd1 hd2, MapKept.run_findKey hd1 hf, hz0]
  · rcases find_rel hd2 k1 es arr.toList 0 r (by simpa using m2.symm) (fun j hj hj' => by have := (m3 j hj (by simpa using hj')).1; simpa using this) h7 with ⟨rfl, hf⟩ | ⟨j, hj, hj', rfl, hf, _⟩
    · refine res_val h (v := if ok then .tuple #[zv, .bool false] else zv) ?_ (fin z zv (chkC_relD hzc)).2
      simp only [execOp, hop, hv]
      refine run_v ?_
      simp [Instr.lookup, run_underlying hu, Result.andThen, MapKept.run_getObj_map m1, checkKey_run (w := w) hd1 hd2, MapKept.run_findKey hd1 hf, hz0]
    · obtain ⟨_, n2, n3⟩ := m3 j hj (by simpa using hj')
      obtain ⟨c1, c2⟩ := mapV_cell n2
      have hvv : ∀ pl, RelD w g pl es[j].2 (arr[j]'(by simpa using hj')).val := fun pl => by have := (n3.cp1 c1 (pl' := pl)).1; rw [c2] at this; exact this
      refine res_val h (v := if ok then .tuple #[(arr[j]'(by simpa using hj')).val, .bool true] else (arr[j]'(by simpa using hj')).val) ?_ (fin _ _ hvv).1
      simp only [execOp, hop, hv]
      refine run_v ?_
      simp [Instr.lookup, run_underlying hu, Result.andThen, MapKept.run_getObj_map m1, checkKey_run (w := w) hd1 hd2, MapKept.run_findKey hd1 hf]
theorem lenm_run {t kt et ty : TypeId} (hu : P.underlying t = some (.map kt et)) (hS : RelS w g st) {pl : Nat → Pl} {d : D} {v : Value} (hd : RelD w g pl d v) {es : List (V × D)} (h : mapOf st d = some es) :
    (Builtin.len_ #[t] ty #[v]).run P w = .ok (.int .i64 es.length) w := by
  rcases mapOf_rel hS hd h with ⟨rfl, rfl⟩ | ⟨r, arr, clock, rfl, rfl, hb, m1, m2, m3⟩
  · simp [Builtin.len_, run_underlying hu, Result.andThen, goInt]
  · simp [Builtin.len_, run_underlying hu, Result.andThen, goInt, MapKept.run_getObj_map m1, m2]

theorem set_mp {r : Ref} {es es' : List (V × D)} {arr arr' : Array MapEntry} {clock clock' : Nat} (hS : RelS w g st) (hb : getB st r = some (.mp es)) (hw : w.heap[g.be r]? = some (.map arr clock)) (hl : arr'.size = es'.length)
    (hr : ∀ i (h : i < es'.length) (h' : i < arr'.size), KeyR es'[i].1 arr'[i].key ∧ mapV (r.lvl + 1) es'[i].2 = true ∧ RelD w g (fun _ => .cell r i 0) es'[i].2 arr'[i].val) :
    Ext w { w with heap := w.heap.setIfInBounds (g.be r) (.map arr' clock') } g g ∧ RelS { w with heap := w.heap.setIfInBounds (g.be r) (.map arr' clock') } g (setB st r (.mp es')) ∧
      ∀ {pl : Nat → Pl} {d : D} {v : Value}, RelD w g pl d v → RelD { w with heap := w.heap.setIfInBounds (g.be r) (.map arr' clock') } g pl d v := by
  have hlv : g.live r := (hS.live r).2 ⟨_, hb⟩
  obtain ⟨hM, hL, ho, hsz⟩ := hS.be r hlv
  generalize hw' : ({ w with heap := w.heap.setIfInBounds (g.be r) (.map arr' clock') } : World) = w'
  have hheap : w'.heap = w.heap.setIfInBounds (g.be r) (.map arr' clock') := by rw [← hw']
  have hsame : w'.heap[g.be r]? = some (.map arr' clock') := by rw [hheap]; exact (MapKept.heap_set hw).1
  have hoth : ∀ b, b ≠ g.be r → w'.heap[b]? = w.heap[b]? := fun b hne => by rw [hheap]; exact (MapKept.heap_set hw).2 b hne
  have hhs : w'.heap.size = w.heap.size := by rw [hheap]; simp
  have cells : ∀ b o, b ≠ g.be r → w'.cell? ⟨b, o, none⟩ = w.cell? ⟨b, o, none⟩ ∧ w'.frozen? ⟨b, o, none⟩ = w.frozen? ⟨b, o, none⟩ := fun b o hne => cell_heap (hoth b hne) o
  have keeps : Keeps w w' g g := ⟨fun b o hh => (cells b o (fun e => by rw [e, hL] at hh; omega)).1, fun _ => Nat.le_refl _⟩
  have ownne : ∀ b p, g.own b = some p → b ≠ g.be r := fun b p hp e => by rw [e, ho] at hp; cases hp
  have mono : ∀ {pl : Nat → Pl} {d : D} {v : Value}, RelD w g pl d v → RelD w' g pl d v := fun hd =>
    hd.mono keeps hS.nil (fun b k hk => ⟨hk, rfl, fun o => by rw [(cells b o (ownne b _ hk)).1, (cells b o (ownne b _ hk)).2]; exact ⟨id, id⟩⟩) (fun r hr => ⟨hr, rfl, rfl, rfl, rfl⟩)
  have hget := getB_setB (.mp es') hb
  refine ⟨⟨by rw [← hw'], by rw [← hw'], by rw [← hw'], by omega, keeps.cell, keeps.L, fun b hbn hm => ⟨hoth b (fun e => hm (e ▸ hM)), rfl, hm⟩, fun r hr => ⟨hr, rfl, rfl, rfl, rfl⟩⟩, ⟨fun r' => ?_, fun r' bl hbl => ?_, fun r' hr' => ?_, fun r1 r2 q1 q2 q3 => ?_, fun b p hp => ?_, hS.nil, fun b hbn => ?_, gl_keep keeps.cell keeps.L (by omega) (fun b hbn hm => ⟨hm, hoth b (fun e => hm (e ▸ hM))⟩) hS.gl⟩, mono⟩
  · rw [hget]
    by_cases e : r' = r
    · subst e; rw [if_pos rfl]; exact ⟨fun _ => ⟨_, rfl⟩, fun _ => hlv⟩
    · rw [if_neg e]; exact hS.live r'
  · rw [hget] at hbl
    by_cases e : r' = r
    · subst e
      rw [if_pos rfl] at hbl
      cases hbl
      refine ⟨arr', clock', hsame, hl, fun i h h' => ?_⟩
      obtain ⟨h1, h2, h3⟩ := hr i h h'
      exact ⟨h1, h2, mono h3⟩
    · rw [if_neg e] at hbl
      have hlv' : g.live r' := (hS.live r').2 ⟨_, hbl⟩
      have hB := hS.blk r' _ hbl
      by_cases hdd : bl = .dead
      · subst hdd; trivial
      have hne : g.be r' ≠ g.be r := fun e' => by
        rcases hS.inj _ _ hlv' hlv e' with h | ⟨_, h | h⟩
        · exact e h
        · rw [hbl] at h; exact hdd (Option.some.inj h)
        · rw [hb] at h; cases h
      cases bl with
      | dead => trivial
      | it s pos => exact ⟨(hoth _ hne).trans hB.1, hB.2⟩
      | mp es2 =>
        obtain ⟨arr2, clock2, h8, h9, h10⟩ := hB
        refine ⟨arr2, clock2, by rw [hoth _ hne]; exact h8, h9, fun i hi hi' => ?_⟩
        obtain ⟨h11, h12, h13⟩ := h10 i hi hi'
        exact ⟨h11, h12, mono h13⟩
      | row zs =>
        simp only [RelB] at hB ⊢
        refine ⟨⟨hB.1.1, fun j hj => by rw [(cells _ _ hne).1, (cells _ _ hne).2]; exact hB.1.2 j hj⟩, fun i hi => ?_⟩
        obtain ⟨h2, h3⟩ := hB.2 i hi
        refine ⟨h2, fun j hj => ?_⟩
        obtain ⟨h4, h5, v, h6, h7, h8⟩ := h3 j hj
        exact ⟨h4, h5, v, by rw [(cells _ _ hne).1]; exact h6, by rw [(cells _ _ hne).2]; exact h7, mono h8⟩
  · obtain ⟨h1, h2, h3, h4⟩ := hS.be r' hr'
    exact ⟨h1, h2, h3, by rw [hhs]; exact h4⟩
  · rcases hS.inj r1 r2 q1 q2 q3 with h | ⟨q4, h | h⟩
    · exact .inl h
    · refine .inr ⟨q4, .inl ?_⟩
      rw [hget, if_neg (fun e => by rw [e, hb] at h; cases h)]; exact h
    · refine .inr ⟨q4, .inr ?_⟩
      rw [hget, if_neg (fun e => by rw [e, hb] at h; cases h)]; exact h
  · obtain ⟨h1, h2⟩ := hS.own b p hp
    exact ⟨h1, by rw [hhs]; exact h2⟩
  · rw [hhs] at hbn
    exact hS.fresh b hbn
theorem mupd_ok (h : RelA w g μ τ env ts st a.tmps) {t kt et : TypeId} {x k v : Operand} {x' k' v' : Opd} {kd : Nat} (hop : o.op = .mapUpdate t x k v) (hu : P.underlying t = some (.map kt et))
    (hk : clsT P kt = some kd) (h1 : chkO μ τ x x' = true) (h2 : chkO μ τ k k' = true) (h3 : chkO μ τ v v' = true) (he : evOp R env ts st (.mupd kd x' k' v') = some q) : OpRes P o a w (Post w g μ τ a.tmps q) := by
  simp only [evOp] at he
  obtain ⟨kv, h4, h5⟩ := bind_some' he
  obtain ⟨st', h6, rfl⟩ := map_some' h5
  obtain ⟨k1, _, _, rfl, k2⟩ := keyOf_rel (rd_rel h h2 (fun _ => .nil)) h4
  obtain ⟨d, hd1, hd2⟩ := ofKind hk k2
  unfold mupdD at h6
  split at h6 <;> first | (cases h6; done) | skip
  rename_i r hx
  split at h6 <;> first | (cases h6; done) | skip
  rename_i hmv
  obtain ⟨es, h7, h8⟩ := bind_some' h6
  obtain ⟨es', h9, rfl⟩ := map_some' h8
  have hxm := rd_rel h h1 (fun _ => .nil)
  rw [hx] at hxm
  generalize hv : a.eval x = vx at hxm
  cases hxm
  unfold mpOf at h7
  split at h7 <;> cases h7
  rename_i hb
  obtain ⟨arr, clock, m1, m2, m3⟩ := h.s.blk r _ hb
  have hval : ∀ pl, RelD w g pl (rd env ts v') (a.eval v) := fun pl => rd_rel h h3 pl
  rcases put_rel' hd2 k1 es arr.toList 0 es' (by simpa using m2.symm) (fun j hj hj' => by have := (m3 j hj (by simpa using hj')).1; simpa using this) h9 with ⟨rfl, hf⟩ | ⟨j, hj, hj', rfl, hf, hkey⟩
  · obtain ⟨e1, e2, e3⟩ := set_mp (arr' := arr.push ⟨a.eval k, a.eval v, clock⟩) (clock' := clock + 1) (es' := es ++ [(kv, rd env ts v')]) h.s hb m1 (by simp [m2]) (fun i hi hi' => by
      by_cases hlt : i < es.length
      · obtain ⟨n1, n2, n3⟩ := m3 i hlt (by omega)
        rw [List.getElem_append_left hlt, Array.getElem_push_lt (by omega)]
        exact ⟨n1, n2, n3⟩
      · have hi2 : i = es.length := by simp at hi; omega
        subst hi2
        have e1 : (es ++ [(kv, rd env ts v')])[es.length]'hi = (kv, rd env ts v') := by simp
        have e2 : (arr.push ⟨a.eval k, a.eval v, clock⟩)[es.length]'hi' = ⟨a.eval k, a.eval v, clock⟩ := by
          rw [Array.getElem_push]; rw [dif_neg (by omega)]
        rw [e1, e2]
        exact ⟨k1, hmv, hval _⟩)
    refine res_skip ?_ ⟨g, e1, ⟨e2, fun i t hi => e3 (h.e i t hi), fun j t hj => e3 (h.t j t hj)⟩, .undef _ _⟩
    simp only [execOp, hop, hv]
    refine run_u ?_
    simp [Instr.mapUpdate, run_underlying hu, MapKept.run_getObj_map m1, checkKey_run (w := w) hd1 hd2, MapKept.run_findKey hd1 hf, MapKept.run_setObj_map _ m1, Result.andThen]
  · obtain ⟨e1, e2, e3⟩ := set_mp (arr' := arr.modify j (fun e' => { e' with key := a.eval k, val := a.eval v })) (clock' := clock) (es' := es.set j (es[j].1, rd env ts v')) h.s hb m1 (by simp [m2]) (fun i hi hi' => by
      have hil : i < es.length := by simpa using hi
      obtain ⟨n1, n2, n3⟩ := m3 i hil (by omega)
      by_cases hij : j = i
      · subst hij
        rw [List.getElem_set_self, Array.getElem_modify, if_pos rfl]
        have := m3 j hj (by omega)
        refine ⟨?_, hmv, hval _⟩
        have hk2 : (arr[j]'(by omega)).key = a.eval k := by simpa using hkey
        have h9 := this.1
        exact Eq.mp (congrArg (KeyR es[j].1) hk2) h9
      · rw [List.getElem_set_ne hij, Array.getElem_modify, if_neg hij]
        exact ⟨n1, n2, n3⟩)
    refine res_skip ?_ ⟨g, e1, ⟨e2, fun i t hi => e3 (h.e i t hi), fun j t hj => e3 (h.t j t hj)⟩, .undef _ _⟩
    simp only [execOp, hop, hv]
    refine run_u ?_
    have hjl : j < arr.size := by simpa using hj'
    have hkk : arr[j].key = a.eval k := by simpa using hkey
    simp [Instr.mapUpdate, run_underlying hu, MapKept.run_getObj_map m1, checkKey_run (w := w) hd1 hd2, MapKept.run_findKey hd1 hf, hjl, hkk, stays_run k1, MapKept.run_setObj_map _ m1, Result.andThen]
end
end Go.Q
namespace Go.Q
variable [Known]
section
variable {P : Program} {w : World} {g : Gh} {μ : List Nat} {τ : List (Option Nat)} {env ts : List D} {st : St} {a : Act} {o : Oper} {q : Rg} {R : Run}

theorem loadT_ok (h : RelA w g μ τ env ts st a.tmps) {t : TypeId} {p : Operand} {y : Opd} {ys : List Opd} (hop : o.op = .load t p) (hp : chkO μ τ p y = true) (ho : osz P t none = true)
    (he : evOp R env ts st (.loadT y ys) = some q) : OpRes P o a w (Post w g μ τ a.tmps q) := by
  simp only [evOp] at he
  split at he <;> first | (cases he; done) | skip
  obtain ⟨pr, h1, rfl⟩ := map_some' he
  have hpr := rd_rel h hp (fun _ => .nil)
  unfold opLoadT at h1
  split at h1 <;> first | (cases h1; done) | skip
  rename_i r i off hd
  obtain ⟨xs, h2, h3⟩ := bind_some' h1
  have hb := rowOf_some h2
  unfold ldTE at h3
  obtain ⟨d, h4, h5⟩ := bind_some' h3
  obtain ⟨c, h6, rfl⟩ := map_some' h5
  obtain ⟨hi, rfl⟩ := List.getElem?_eq_some_iff.1 h4
  obtain ⟨hj0, rfl⟩ := List.getElem?_eq_some_iff.1 h6
  rw [hd] at hpr
  generalize hv : a.eval p = v at hpr
  cases hpr with | ptr _ _ _ _ hlv =>
  have hB := h.s.blk r _ hb
  simp only [RelB] at hB
  obtain ⟨hBn, hBi⟩ := hB
  obtain ⟨hBl, hBc⟩ := hBi i hi
  obtain ⟨k1, k2, u, k3, k4, k5⟩ := hBc off hj0
  have hu : ∃ dd, P.underlying t = some dd ∧ dd.isRow = false := by
    rcases osz_true ho with ⟨d', n, e1, e2, e3, e4⟩ | ⟨d', e1, e2, _, e4⟩
    · cases e4
    · exact ⟨d', e1, e2⟩
  obtain ⟨dd, hu1, hu2⟩ := hu
  let f : Pl → Pl := fun p => if p = .cell r i off then .tmp τ.length 0 else p
  have fn : f .nil = .nil := by simp [f]
  have fn' : ∀ p, f p = .nil → p = .nil := fun p hp => by simp only [f] at hp; split at hp <;> first | exact hp | (cases hp; done)
  have fe : ∀ j, f (.env j) = .env j := fun j => by simp [f]
  have ft : ∀ j k, f (.tmp j k) = .tmp j k := fun j k => by simp [f]
  have fc : ∀ r' i' j', ¬ (r' = r ∧ i' = i ∧ j' = off) → f (.cell r' i' j') = .cell r' i' j' := fun r' i' j' hh => by
    simp only [f]; rw [if_neg]; rintro e; cases e; exact hh ⟨rfl, rfl, rfl⟩
  have f0 : f (.cell r i off) = .tmp τ.length 0 := by simp [f]
  have hcs : cellsOf (unCells xs[i] ((cellsOf xs[i]).set off (cp1 (cellsOf xs[i])[off]))) = (cellsOf xs[i]).set off (cp1 (cellsOf xs[i])[off]) := by
    unfold unCells
    split
    · exact cellsOf_mkAgg _
    · rename_i hag
      have hd1 := cellsOf_not (by simpa using hag)
      have hz : off = 0 := by rw [hd1] at hj0; simpa using hj0
      subst hz
      have hk := (k5.cp1 (pl' := fun _ => .nil) k1).2
      generalize hcc : cp1 (cellsOf xs[i])[0] = c at hk ⊢
      rw [hd1]
      simp only [List.set_cons_zero, List.headD_cons]
      exact cellsOf_cell hk
  have hget := getB_setB (.row (xs.set i (unCells xs[i] ((cellsOf xs[i]).set off (cp1 (cellsOf xs[i])[off]))))) hb
  have hRB : ∀ r' bl, getB st r' = some bl → r' ≠ r → RelB w (g.mv f) r' bl := fun r' bl hbl hne => by
    have := h.s.blk r' bl hbl
    cases bl with
    | dead => trivial
    | it s pos => exact this
    | row zs =>
      simp only [RelB] at this ⊢
      refine ⟨this.1, fun i hi => ?_⟩
      obtain ⟨e1, e2⟩ := this.2 i hi
      refine ⟨e1, fun j hj => ?_⟩
      obtain ⟨e3, e4, v, e5, e6, e7⟩ := e2 j hj
      exact ⟨e3, e4, v, e5, e6, e7.mv (fun _ => fc _ _ _ (fun hh => hne hh.1)) fn⟩
    | mp es =>
      obtain ⟨arr, clock, e8, e9, e10⟩ := this
      refine ⟨arr, clock, e8, e9, fun i hi hi' => ?_⟩
      obtain ⟨e11, e12, e13⟩ := e10 i hi hi'
      exact ⟨e11, e12, e13.mv (fun _ => fc _ _ _ (fun hh => hne hh.1)) fn⟩
  have hS : RelS w (g.mv f) (setB st r (.row (xs.set i (unCells xs[i] ((cellsOf xs[i]).set off (cp1 (cellsOf xs[i])[off])))))) := by
    refine ⟨fun r' => ?_, fun r' bl hbl => ?_, fun r' hr' => ?_, (fun r1 r2 q1 q2 q3 => by
      rcases h.s.inj r1 r2 q1 q2 q3 with hh | ⟨q4, hh | hh⟩
      · exact .inl hh
      · refine .inr ⟨q4, .inl ?_⟩
        rw [hget, if_neg (fun e => by rw [e, hb] at hh; cases hh)]; exact hh
      · refine .inr ⟨q4, .inr ?_⟩
        rw [hget, if_neg (fun e => by rw [e, hb] at hh; cases hh)]; exact hh), fun b p hb => ?_, fun b hb => ?_, h.s.fresh, h.s.gl⟩
    · rw [hget]
      by_cases e : r' = r
      · subst e; rw [if_pos rfl]; exact ⟨fun _ => ⟨_, rfl⟩, fun _ => hlv⟩
      · rw [if_neg e]; exact h.s.live r'
    · rw [hget] at hbl
      by_cases e : r' = r
      · subst e
        rw [if_pos rfl] at hbl
        cases hbl
        simp only [RelB]
        refine ⟨by rw [List.length_set]; exact hBn, fun i' hi' => ?_⟩
        have hi2 : i' < xs.length := by simpa using hi'
        obtain ⟨e1, e2⟩ := hBi i' hi2
        by_cases e' : i = i'
        · subst e'
          have hg2 : (xs.set i (unCells xs[i] ((cellsOf xs[i]).set off (cp1 (cellsOf xs[i])[off]))))[i] = unCells xs[i] ((cellsOf xs[i]).set off (cp1 (cellsOf xs[i])[off])) := by simp
          simp only [hg2, hcs, List.length_set]
          refine ⟨e1, fun j hj => ?_⟩
          obtain ⟨e3, e4, v, e5, e6, e7⟩ := e2 j hj
          by_cases ej : off = j
          · subst ej
            simp only [List.getElem_set_self]
            refine ⟨(e7.cp1 (pl' := fun _ => .nil) e3).2, ?_, v, e5, e6, ?_⟩
            · revert e4
              generalize (cellsOf xs[i])[off] = c
              intro e4
              cases c <;> first | exact e4 | rfl
            · exact ((e7.mv (f := f) (pl' := fun _ => .tmp τ.length 0) (fun _ => f0) fn).cp1 e3).1
          · simp only [List.getElem_set_ne ej]
            exact ⟨e3, e4, v, e5, e6, e7.mv (fun _ => fc _ _ _ (fun hh => ej hh.2.2.symm)) fn⟩
        · simp only [List.getElem_set_ne e']
          refine ⟨e1, fun j hj => ?_⟩
          obtain ⟨e3, e4, v, e5, e6, e7⟩ := e2 j hj
          exact ⟨e3, e4, v, e5, e6, e7.mv (fun _ => fc _ _ _ (fun hh => e' hh.2.1.symm)) fn⟩
      · rw [if_neg e] at hbl
        exact hRB r' bl hbl e
    · obtain ⟨e1, e2, e3, e4⟩ := h.s.be r' hr'
      exact ⟨e1, e2, by simp [Gh.mv, e3], e4⟩
    · simp only [Gh.mv, Option.map_eq_some_iff] at hb
      obtain ⟨p', hp1, rfl⟩ := hb
      exact h.s.own b p' hp1
    · simp only [Gh.mv, Option.map_eq_some_iff] at hb
      obtain ⟨p', hp1, hp2⟩ := hb
      exact h.s.nil b (fn' p' hp2 ▸ hp1)
  refine res_ok (v := u) (w' := w) ?_ ⟨g.mv f, Ext.mv f, ⟨hS, fun j t' hj => (h.e j t' hj).mv (fun _ => fe j) fn, fun j t' hj => (h.t j t' hj).mv (fun k => ft _ _) fn⟩, ?_⟩
  · simp only [execOp, hop, hv]
    exact run_v (load_run_one hu1 hu2 (by rw [← k3]))
  · have := k5.mv (f := f) (pl' := fun _ => .tmp τ.length 0) (fun _ => f0) fn
    exact this.place k1 rfl

mutual
theorem refs_upL (n : Nat) : ∀ (d : D), refsBelow 0 d = true → refsBelow n d = true
  | .own r _ _ _ _, h => by simp [refsBelow] at h
  | .arr r _ _ _, h => by simp [refsBelow] at h
  | .ptr r _ _, h => by simp [refsBelow] at h
  | .map r, h => by simp [refsBelow] at h
  | .clo _ fs cs, h => by
    simp only [refsBelow, Bool.and_eq_true] at h ⊢
    exact ⟨refs_upLs n fs h.1, refs_upLs n cs h.2⟩
  | .ifc _ d, h => by simp only [refsBelow] at h ⊢; exact refs_upL n d h
  | .agg ds, h => by simp only [refsBelow] at h ⊢; exact refs_upLs n ds h
  | .tup ds, h => by simp only [refsBelow] at h ⊢; exact refs_upLs n ds h
  | .v _, _ => rfl
  | .nils _, _ => rfl
  | .lin _ _, _ => rfl
  | .va _ _, _ => rfl
  | .undef, _ => rfl
theorem refs_upLs (n : Nat) : ∀ (ds : List D), refsBelows 0 ds = true → refsBelows n ds = true
  | [], _ => rfl
  | d :: r, h => by
    simp only [refsBelows, Bool.and_eq_true] at h ⊢
    exact ⟨refs_upL n d h.1, refs_upLs n r h.2⟩
end
theorem refs0_at : ∀ {ds : List D}, refsBelows 0 ds = true → ∀ i (h : i < ds.length), refsBelow 0 ds[i] = true
  | d :: r, h, i, hi => by
    simp only [refsBelows, Bool.and_eq_true] at h
    cases i with
    | zero => exact h.1
    | succ i => exact refs0_at h.2 i (by simpa using hi)
theorem refs_up {d : D} : ∀ {n : Nat}, refsBelow 0 d = true → refsBelow n d = true := fun {n} h => refs_upL n d h
theorem RelD.loose {w w' : World} {g g' : Gh} {pl : Nat → Pl} {d : D} {v : Value} (h : RelD w g pl d v) (hb : refsBelow 0 d = true) (hk : Keeps w w' g g') (hn : ∀ b, g.own b ≠ some .nil) :
    ∀ pl' : Nat → Pl, (∀ b k, g.own b = some (pl k) → g'.own b = some (pl' k) ∧ g'.L b = g.L b ∧ ∀ o, ((w.cell? ⟨b, o, none⟩).isSome = true → (w'.cell? ⟨b, o, none⟩).isSome = true) ∧ (w.frozen? ⟨b, o, none⟩ = false → w'.frozen? ⟨b, o, none⟩ = false)) → RelD w' g' pl' d v := by
  induction h with
  | v pl x v h => exact fun pl' _ => .v pl' x v (h.mono hk.cell hk.L)
  | nils pl z => exact fun pl' _ => .nils pl' z
  | lin pl z xs v h hs =>
    intro pl' hp
    refine .lin pl' z xs v (h.mono hk.cell hk.L) ?_
    cases v <;> first | exact hs.elim | skip
    rename_i a n c
    rcases hs with hs | ⟨b, o, h1, h2, h3, h4, h5⟩
    · exact .inl hs
    · obtain ⟨h6, h7, h8⟩ := hp b 0 h2
      exact .inr ⟨b, o, h1, h6, h7.trans h3, h4, fun j hj => ⟨(h8 j).1 (h5 j hj).1, (h8 j).2 (h5 j hj).2⟩⟩
  | own pl r z off len x c ad hl hc hz ha => simp [refsBelow] at hb
  | arr pl r i off len c ad hl hc ha => simp [refsBelow] at hb
  | ptr pl r i off hl => simp [refsBelow] at hb
  | va pl cs off b o f h1 h2 h3 h4 =>
    exact fun pl' _ => .va pl' cs off b o f (fun j hj => Nat.lt_of_lt_of_le (h1 j hj) (hk.L b)) (fun j hj => by rw [hk.cell b _ (h1 j hj)]; exact h2 j hj) h3 (fun j hj => (h4 j hj).mono hk.cell hk.L)
  | map pl r hl => simp [refsBelow] at hb
  | clo pl f fs cs vf vc h1 h2 hf hc ih1 ih2 =>
    simp only [refsBelow, Bool.and_eq_true] at hb
    exact fun pl' _ => .clo pl' f fs cs vf vc h1 h2 (fun i hi => ih1 i hi (refs0_at hb.1 i hi) _ fun b k hb => absurd hb (hn b)) (fun i hi => ih2 i hi (refs0_at hb.2 i hi) _ fun b k hb => absurd hb (hn b))
  | ifc pl t d v h ih =>
    simp only [refsBelow] at hb
    exact fun pl' _ => .ifc pl' t d v (ih hb _ fun b k hb => absurd hb (hn b))
  | agg pl ds cs hl hk' hr' ih =>
    simp only [refsBelow] at hb
    exact fun pl' hp => .agg pl' ds cs hl hk' (fun i hi => ih i hi (refs0_at hb i hi) _ fun b k hb => hp b i hb)
  | tup pl ds cs hl hr' ih =>
    simp only [refsBelow] at hb
    exact fun pl' hp => .tup pl' ds cs hl (fun i hi => ih i hi (refs0_at hb i hi) _ fun b k hb => hp b i hb)
  | undef pl v => exact fun pl' _ => .undef pl' v
theorem cells_refs0 {d : D} (h : refsBelow 0 d = true) : ∀ i (hi : i < (cellsOf d).length), refsBelow 0 (cellsOf d)[i] = true := fun i hi => by
  cases d with
  | v x => simp only [cellsOf_v, List.getElem_map]; rfl
  | agg ds => simp only [refsBelow] at h; exact refs0_at h i hi
  | _ => simp only [cellsOf, List.length_singleton] at hi ⊢; have : i = 0 := by omega
         subst this; exact h
def Pl.inB (r : Ref) : Pl → Bool
  | .cell r' _ _ => decide (r' = r)
  | _ => false
def Pl.toB (r : Ref) : Pl → Pl
  | .cell _ i j => .cell r i j
  | p => p
theorem toB_cell {r r' : Ref} {p : Pl} (h : p.isCell = true) : (p.toB r).isCell = true := by cases p <;> first | rfl | cases h
def bLent (g : Gh) (r : Ref) (b : Nat) : Prop := b = g.be r ∨ ∃ p, g.own b = some p ∧ p.inB r = true
noncomputable def Gh.lendB (g : Gh) (r : Ref) : Gh where
  L := g.L
  M := bLent g r
  own := fun b => (g.own b).bind fun p => if p.inB r = true then some (p.toB ⟨0, 0⟩) else none
  be := fun _ => g.be r
  sz := fun _ => g.sz r
  n := fun _ => g.n r
  cp := fun _ => g.cp r
  live := fun r' => r' = ⟨0, 0⟩
noncomputable def Gh.backB (g g1 : Gh) (r : Ref) (n : Nat) : Gh :=
  open Classical in
  { g with
    L := g1.L
    M := fun b => g1.M b ∨ (g.M b ∧ ¬ bLent g r b)
    own := fun b => if b < n ∧ ¬ bLent g r b then g.own b else (g1.own b).bind fun p => if p.isCell = true then some (p.toB r) else none }
theorem callB_core {f : FuncId} {r : Ref} {x x' : D} {rr : D} {tmps : Array Value} (hR : ROk P R) (h : RelA w g μ τ env ts st tmps) (hb : getB st r = some (.row [x])) (hx : refsBelow 0 x = true) (hx' : refsBelow 0 x' = true)
    (hc : R f [.ptr ⟨0, 0⟩ 0 0] [[.row [x]]] = some (rr, [[.row [x']]])) (hfl : flatR rr = true) (hlen : (cellsOf x').length = (cellsOf x).length) :
    FnOk P f ∧ Calls P f #[.pointer (some ⟨g.be r, 0, none⟩)] w fun e w' => ∃ v, e = .returned v ∧ Post w g μ τ tmps (rr, env, ts, setB st r (.row [x'])) v w' := by
  obtain ⟨hf, hC⟩ := hR f _ _ _ hc
  refine ⟨hf, ?_⟩
  have hlv : g.live r := (h.s.live r).2 ⟨_, hb⟩
  obtain ⟨hM, hL, ho, hsz⟩ := h.s.be r hlv
  have hB := h.s.blk r _ hb
  simp only [RelB] at hB
  have nl : ∀ b p, (g.lendB r).own b = some p → ∃ p0, g.own b = some p0 ∧ p0.inB r = true ∧ p = p0.toB ⟨0, 0⟩ := fun b p hp => by
    obtain ⟨p0, h1, h2⟩ := bind_some' hp
    split at h2 <;> cases h2
    exact ⟨p0, h1, by assumption, rfl⟩
  have inC : ∀ {p : Pl}, p.inB r = true → ∃ i j, p = .cell r i j := fun {p} hp => by
    cases p <;> simp [Pl.inB] at hp
    subst hp; exact ⟨_, _, rfl⟩
  have gb : ∀ r' : Ref, getB [[Blk.row [x]]] r' = if r' = ⟨0, 0⟩ then some (.row [x]) else none := fun r' => by
    obtain ⟨l, k⟩ := r'
    simp only [getB, List.length_nil]
    by_cases e : l = 0
    · subst e
      cases k with
      | zero => simp
      | succ k => simp
    · simp [e]
  have lentM : ∀ b, bLent g r b → g.M b ∧ b < w.heap.size := fun b hb => by
    rcases hb with rfl | ⟨p, h1, _⟩
    · exact ⟨hM, hsz⟩
    · exact h.s.own b p h1
  have lS : RelS w (g.lendB r) [[.row [x]]] := by
    refine ⟨fun r' => ?_, fun r' bl hbl => ?_, fun r' hr' => ?_, fun r1 r2 h1 h2 _ => ?_, fun b p hp => ?_, fun b hp => ?_, fun b hb => ?_, ⟨h.s.gl.1, fun p hp => ⟨fun hm => (h.s.gl.2 p hp).1 (lentM _ hm).1, (h.s.gl.2 p hp).2⟩⟩⟩
    · rw [gb]
      constructor
      · intro e
        have e : r' = ⟨0, 0⟩ := e
        rw [if_pos e]; exact ⟨_, rfl⟩
      · rintro ⟨bl, e⟩
        split at e
        · assumption
        · cases e
    · rw [gb] at hbl
      split at hbl <;> cases hbl
      rename_i e
      subst e
      simp only [RelB]
      refine ⟨hB.1, fun i hi => ?_⟩
      obtain ⟨h1, h2⟩ := hB.2 i hi
      refine ⟨h1, fun j hj => ?_⟩
      obtain ⟨h3, h4, v, h5, h6, h7⟩ := h2 j hj
      have hi0 : i = 0 := by simpa using hi
      subst hi0
      have hr0 : refsBelow 0 (cellsOf x)[j] = true := cells_refs0 hx j hj
      refine ⟨h3, refs_up hr0, v, h5, h6, RelD.loose (w' := w) (g' := g.lendB r) h7 hr0 ⟨fun _ _ _ => rfl, fun _ => Nat.le_refl _⟩ h.s.nil (fun _ => .cell ⟨0, 0⟩ 0 j) fun b k hb => ⟨?_, rfl, fun _ => ⟨id, id⟩⟩⟩
      simp [Gh.lendB, hb, Pl.inB, Pl.toB]
    · exact ⟨.inl rfl, hL, by simp [Gh.lendB, ho], hsz⟩
    · have h1 : r1 = ⟨0, 0⟩ := h1
      have h2 : r2 = ⟨0, 0⟩ := h2
      rw [h1, h2]; exact .inl rfl
    · obtain ⟨p0, h1, h2, rfl⟩ := nl b p hp
      exact ⟨.inr ⟨p0, h1, h2⟩, (h.s.own b p0 h1).2⟩
    · obtain ⟨p0, h1, h2, h3⟩ := nl b _ hp
      obtain ⟨i, j, rfl⟩ := inC h2
      cases h3
    · exact ⟨(h.s.fresh b hb).1, fun hm => (h.s.fresh b hb).2 (lentM b hm).1⟩
  refine Calls.mono (hC #[.pointer (some ⟨g.be r, 0, none⟩)] w (g.lendB r) rfl (fun i hi => ?_) lS (fun b p hp => ?_)) fun e w' he => ?_
  · have hi0 : i = 0 := by simpa using hi
    subst hi0
    have := RelD.ptr (w := w) (g := g.lendB r) (fun _ => .nil) ⟨0, 0⟩ 0 0 rfl
    simpa [Gh.lendB] using this
  · obtain ⟨p0, h1, h2, rfl⟩ := nl b p hp
    obtain ⟨i, j, rfl⟩ := inC h2
    rfl
  obtain ⟨v, g1, rfl, B⟩ := he
  obtain ⟨n1, n2, n3, n4, n5⟩ := B.ext.refs ⟨0, 0⟩ rfl
  have n2 : g1.be ⟨0, 0⟩ = g.be r := n2
  have n3 : g1.sz ⟨0, 0⟩ = g.sz r := n3
  have n4 : g1.n ⟨0, 0⟩ = g.n r := n4
  have n5 : g1.cp ⟨0, 0⟩ = g.cp r := n5
  have old : ∀ b, b < w.heap.size → ¬ bLent g r b → w'.heap[b]? = w.heap[b]? ∧ g1.L b = g.L b ∧ ¬ g1.M b := fun b hb hm => B.ext.old b hb hm
  have ownL : ∀ b, b < w.heap.size → ¬ bLent g r b → (g.backB g1 r w.heap.size).own b = g.own b := fun b hb hm => by simp only [Gh.backB]; rw [if_pos ⟨hb, hm⟩]
  have own1 : ∀ b p, g1.own b = some p → ¬ (b < w.heap.size ∧ ¬ bLent g r b) := fun b p hp hh => (old b hh.1 hh.2).2.2 (B.s.own b p hp).1
  have keep : Keeps w w' g (g.backB g1 r w.heap.size) := ⟨B.ext.cell, B.ext.L⟩
  have ext : Ext w w' g (g.backB g1 r w.heap.size) := ⟨B.ext.os, B.ext.tape, B.ext.output, B.ext.size, B.ext.cell, B.ext.L, fun b hb hm => by
    have hl : ¬ bLent g r b := fun hh => hm (lentM b hh).1
    obtain ⟨h1, h2, h3⟩ := old b hb hl
    exact ⟨h1, h2, fun hh => hh.elim h3 (fun hh => hm hh.1)⟩, fun r hr => ⟨hr, rfl, rfl, rfl, rfl⟩⟩
  have mine : ∀ {pl : Nat → Pl} {d : D} {v : Value}, (∀ k, (pl k).inB r = false) → RelD w g pl d v → RelD w' (g.backB g1 r w.heap.size) pl d v := fun hpl hd =>
    hd.mono keep h.s.nil (fun b k hb => by
      have hbs := (h.s.own b _ hb).2
      have hnl : ¬ bLent g r b := by
        rintro (rfl | ⟨p, h1, h2⟩)
        · rw [ho] at hb; cases hb
        · rw [hb] at h1; cases h1; rw [hpl k] at h2; cases h2
      refine ⟨by rw [ownL b hbs hnl]; exact hb, (old b hbs hnl).2.1, fun o' => ?_⟩
      obtain ⟨h1, h2⟩ := cell_heap (old b hbs hnl).1 o'
      rw [h1, h2]; exact ⟨id, id⟩) (fun r hr => ⟨hr, rfl, rfl, rfl, rfl⟩)
  have hget := getB_setB (.row [x']) hb
  have hB1 := B.s.blk ⟨0, 0⟩ (.row [x']) (by simp [getB])
  simp only [RelB, n2, n3, n4, n5] at hB1
  have hS : RelS w' (g.backB g1 r w.heap.size) (setB st r (.row [x'])) := by
    refine ⟨fun r' => ?_, fun r' bl hbl => ?_, fun r' hr' => ?_, (fun r1 r2 q1 q2 q3 => by
      rcases h.s.inj r1 r2 q1 q2 q3 with hh | ⟨q4, hh | hh⟩
      · exact .inl hh
      · refine .inr ⟨q4, .inl ?_⟩
        rw [hget, if_neg (fun e => by rw [e, hb] at hh; cases hh)]; exact hh
      · refine .inr ⟨q4, .inr ?_⟩
        rw [hget, if_neg (fun e => by rw [e, hb] at hh; cases hh)]; exact hh), fun b p hp => ?_, fun b hp => ?_, fun b hb => ?_, ⟨B.s.gl.1, fun p hp => ⟨fun hm => hm.elim (B.s.gl.2 p hp).1 (fun hh => (h.s.gl.2 p hp).1 hh.1), (B.s.gl.2 p hp).2⟩⟩⟩
    · rw [hget]
      by_cases e : r' = r
      · subst e; rw [if_pos rfl]; exact ⟨fun _ => ⟨_, rfl⟩, fun _ => hlv⟩
      · rw [if_neg e]; exact h.s.live r'
    · rw [hget] at hbl
      by_cases e : r' = r
      · subst e
        rw [if_pos rfl] at hbl
        cases hbl
        simp only [RelB]
        refine ⟨hB1.1, fun i hi => ?_⟩
        obtain ⟨h1, h2⟩ := hB1.2 i hi
        refine ⟨h1, fun j hj => ?_⟩
        obtain ⟨h3, h4, v, h5, h6, h7⟩ := h2 j hj
        have hi0 : i = 0 := by simpa using hi
        subst hi0
        have hr0 : refsBelow 0 (cellsOf x')[j] = true := cells_refs0 hx' j hj
        refine ⟨h3, refs_up hr0, v, h5, h6, RelD.loose (w' := w') (g' := g.backB g1 r' w.heap.size) h7 hr0 ⟨fun _ _ _ => rfl, fun _ => Nat.le_refl _⟩ B.s.nil (fun _ => .cell r' 0 j) fun b k hb => ⟨?_, rfl, fun _ => ⟨id, id⟩⟩⟩
        simp only [Gh.backB]
        rw [if_neg (own1 b _ hb), hb]
        simp [Pl.isCell, Pl.toB]
      · rw [if_neg e] at hbl
        have hlv' : g.live r' := (h.s.live r').2 ⟨_, hbl⟩
        have hbe := h.s.be r' hlv'
        have hB' := h.s.blk r' _ hbl
        by_cases hdd : bl = .dead
        · subst hdd; trivial
        have hnl : ¬ bLent g r (g.be r') := by
          rintro (hh | ⟨p, h1, _⟩)
          · rcases h.s.inj _ _ hlv' hlv hh with hh | ⟨_, hh | hh⟩
            · exact e hh
            · rw [hbl] at hh; exact hdd (Option.some.inj hh)
            · rw [hb] at hh; cases hh
          · rw [hbe.2.2.1] at h1; cases h1
        have hh := (old _ hbe.2.2.2 hnl).1
        have pin : ∀ i j, (Pl.cell r' i j).inB r = false := fun i j => by simp [Pl.inB, e]
        cases bl with
        | dead => trivial
        | it s pos => exact ⟨hh.trans hB'.1, hB'.2⟩
        | mp es =>
          obtain ⟨arr, clock, h8, h9, h10⟩ := hB'
          refine ⟨arr, clock, hh.trans h8, h9, fun i hi hi' => ?_⟩
          obtain ⟨h11, h12, h13⟩ := h10 i hi hi'
          exact ⟨h11, h12, mine (fun _ => pin _ _) h13⟩
        | row zs =>
          simp only [RelB] at hB' ⊢
          refine ⟨⟨hB'.1.1, fun j hj => by
            obtain ⟨c1, c2⟩ := cell_heap hh j
            show (w'.cell? ⟨g.be r', j, none⟩).isSome = true ∧ w'.frozen? ⟨g.be r', j, none⟩ = false
            rw [c1, c2]; exact hB'.1.2 j hj⟩, fun i hi => ?_⟩
          obtain ⟨h2, h3⟩ := hB'.2 i hi
          refine ⟨h2, fun j hj => ?_⟩
          obtain ⟨h4, h5, v, h6, h7, h8⟩ := h3 j hj
          obtain ⟨c1, c2⟩ := cell_heap hh (i * g.sz r' + j)
          exact ⟨h4, h5, v, c1.trans h6, c2.trans h7, mine (fun _ => pin _ _) h8⟩
    · have hbe := h.s.be r' hr'
      by_cases e : g.be r' = g.be r
      · obtain ⟨m1, m2, m3, m4⟩ := B.s.be ⟨0, 0⟩ n1
        rw [n2] at m1 m2 m3 m4
        show (g.backB g1 r w.heap.size).M (g.be r') ∧ (g.backB g1 r w.heap.size).L (g.be r') = 0 ∧ (g.backB g1 r w.heap.size).own (g.be r') = none ∧ g.be r' < w'.heap.size
        rw [e]
        refine ⟨.inl m1, m2, ?_, m4⟩
        simp only [Gh.backB]
        rw [if_neg (fun hh => hh.2 (.inl rfl)), m3]; rfl
      · have hnl : ¬ bLent g r (g.be r') := by
          rintro (hh | ⟨p, h1, _⟩)
          · exact e hh
          · rw [hbe.2.2.1] at h1; cases h1
        refine ⟨.inr ⟨hbe.1, hnl⟩, (old _ hbe.2.2.2 hnl).2.1.trans hbe.2.1, (ownL _ hbe.2.2.2 hnl).trans hbe.2.2.1, Nat.lt_of_lt_of_le hbe.2.2.2 B.ext.size⟩
    · by_cases hl : b < w.heap.size ∧ ¬ bLent g r b
      · rw [ownL b hl.1 hl.2] at hp
        have := h.s.own b p hp
        exact ⟨.inr ⟨this.1, hl.2⟩, Nat.lt_of_lt_of_le this.2 B.ext.size⟩
      · simp only [Gh.backB] at hp
        rw [if_neg hl] at hp
        obtain ⟨p1, h1, _⟩ := bind_some' hp
        have := B.s.own b p1 h1
        exact ⟨.inl this.1, this.2⟩
    · by_cases hl : b < w.heap.size ∧ ¬ bLent g r b
      · rw [ownL b hl.1 hl.2] at hp
        exact h.s.nil b hp
      · simp only [Gh.backB] at hp
        rw [if_neg hl] at hp
        obtain ⟨p1, h1, h2⟩ := bind_some' hp
        split at h2 <;> first | (cases h2; done) | skip
        rename_i hcl
        cases p1 <;> first | (cases hcl; done) | (cases h2; done)
    · refine ⟨(B.s.fresh b hb).1, fun hm => hm.elim (B.s.fresh b hb).2 (fun hh => ?_)⟩
      exact (h.s.fresh b (Nat.le_trans B.ext.size hb)).2 hh.1
  exact ⟨v, rfl, g.backB g1 r w.heap.size, ext, ⟨hS, fun i t hi => mine (fun _ => rfl) (h.e i t hi), fun j t hj => mine (fun _ => rfl) (h.t j t hj)⟩, flatR_rel B.r hfl⟩
end
end Go.Q
namespace Go.Q
variable [Known]
section
variable {P : Program} {w : World} {g : Gh} {μ : List Nat} {τ : List (Option Nat)} {env ts : List D} {st : St} {a : Act} {o : Oper} {q : Rg} {R : Run}

theorem bcall_run {c : Call} {b : Builtin} (hop : o.op = .call c) (hb : builtinOf c = some b) : (execOp a.eval o).run P w = (builtin b c.argTypes o.type (c.args.map fun | .const _ => true | _ => false) (c.args.map a.eval)).run P w := by
  simp only [execOp, hop, resolve, builtinOf_eq hb]
  rfl
theorem call_fn_run {c : Call} {f : FuncId} {first cap : Array Value} {x : Operand} (hop : o.op = .call c) (hc : c.callee = .value x) (hx : a.eval x = .func (.func f) first cap) (hf : FnOk P f) :
    (execOp a.eval o).run P w = .ok (.enter f (first ++ c.args.map a.eval ++ cap)) w := by
  simp only [execOp, hop, resolve, hc, hx, Deferred.ofValue, Sem.run_bind, Sem.run_pure, Result.andThen_ok, invoke]
  exact call_run hf
theorem res_enter {f : FuncId} {args : Array Value} {Po : Value → World → Prop} (hr : (execOp a.eval o).run P w = .ok (.enter f args) w) (hC : Calls P f args w fun e w' => ∃ v, e = .returned v ∧ Po v w') : OpRes P o a w Po := by
  unfold OpRes; rw [hr]; exact hC

theorem call_ok (hR : ROk P R) (h : RelA w g μ τ env ts st a.tmps) {c : Call} {f : FuncId} {ys : List Opd} {gen : Bool} (hop : o.op = .call c) (hc : c.callee = .value (.func f)) (hl : chkL μ τ c.args.toList ys = true)
    (he : evOp R env ts st (.call gen f ys) = some q) : OpRes P o a w (Post w g μ τ a.tmps q) := by
  simp only [evOp] at he
  obtain ⟨p, h1, rfl⟩ := map_some' he
  obtain ⟨l1, r1⟩ := argsRel h hl
  have hsz : (ys.map (rd env ts)).length = (#[] ++ c.args.map a.eval ++ #[]).size := by rw [l1]; simp
  have hv : ∀ i (hi : i < (ys.map (rd env ts)).length), RelD w g (fun _ => .nil) (ys.map (rd env ts))[i] ((#[] ++ c.args.map a.eval ++ #[])[i]'(hsz ▸ hi)) := fun i hi => by
    have := r1 i hi (fun _ => .nil)
    simpa using this
  have fin : FnOk P f ∧ Calls P f (#[] ++ c.args.map a.eval ++ #[]) w fun e w' => ∃ v, e = .returned v ∧ Post w g μ τ a.tmps (p.1, env, ts, p.2) v w' := by
    unfold opCall at h1
    split at h1
    · exact gen_core hR h (st' := p.2) (r := p.1) h1 hsz hv
    · obtain ⟨xs, h2, h3⟩ := bind_some' h1
      obtain ⟨p', h4, h5⟩ := bind_some' h3
      obtain ⟨r, st1⟩ := p'
      unfold backD at h5
      split at h5 <;> first | (cases h5; done) | skip
      rename_i r' hh
      cases hh
      split at h5
      · split at h5 <;> cases h5
        rename_i hf
        exact pure_core hR h h2 h4 (fun _ => hf) hsz hv (st1 := [])
      · cases h5
        rename_i hrow
        exact pure_core hR h h2 h4 (fun hh => absurd hh hrow) hsz hv (st1 := [])
  exact res_enter (call_fn_run hop hc rfl fin.1) fin.2

theorem cat3 {fs X cs : List D} {vf A vc : Array Value} (e1 : fs.length = vf.size) (l2 : X.length = A.size) (e2 : cs.length = vc.size)
    (hf : ∀ i (h : i < fs.length), RelD w g (fun _ => .nil) fs[i] (vf[i]'(e1 ▸ h))) (hx : ∀ i (h : i < X.length), RelD w g (fun _ => .nil) X[i] (A[i]'(l2 ▸ h))) (hc : ∀ i (h : i < cs.length), RelD w g (fun _ => .nil) cs[i] (vc[i]'(e2 ▸ h))) :
    ∃ hl : (fs ++ X ++ cs).length = (vf ++ A ++ vc).size, ∀ i (h : i < (fs ++ X ++ cs).length), RelD w g (fun _ => .nil) (fs ++ X ++ cs)[i] ((vf ++ A ++ vc)[i]'(hl ▸ h)) := by
  refine ⟨by simp only [List.length_append, Array.size_append]; omega, fun i hi => ?_⟩
  have hi' : i < fs.length + X.length + cs.length := by simp only [List.length_append] at hi; exact hi
  by_cases i1 : i < fs.length
  · have := hf i i1
    rw [List.getElem_append_left (by simp only [List.length_append]; omega), List.getElem_append_left i1]
    rw [Array.getElem_append_left (by simp only [Array.size_append]; omega), Array.getElem_append_left (by omega)]
    exact this
  · by_cases i2 : i < fs.length + X.length
    · have := hx (i - fs.length) (by omega)
      rw [List.getElem_append_left (by simp only [List.length_append]; omega), List.getElem_append_right (by omega)]
      rw [Array.getElem_append_left (by simp only [Array.size_append]; omega), Array.getElem_append_right (by omega)]
      simp only [← e1]
      exact this
    · have := hc (i - (fs.length + X.length)) (by omega)
      rw [List.getElem_append_right (by simp only [List.length_append]; omega), Array.getElem_append_right (by simp only [Array.size_append]; omega)]
      simp only [List.length_append, Array.size_append, ← e1, ← l2]
      exact this

theorem callB_ok (hR : ROk P R) (h : RelA w g μ τ env ts st a.tmps) {c : Call} {f : FuncId} {y : Opd} {ys : List (Opd × Nat × Option Nat)} (hop : o.op = .call c) (hc : c.callee = .value (.func f)) (hl : chkL μ τ c.args.toList [y] = true)
    (he : evOp R env ts st (.callB f y ys) = some q) : OpRes P o a w (Post w g μ τ a.tmps q) := by
  simp only [evOp] at he
  obtain ⟨p, h1, h2⟩ := bind_some' he
  split at h2 <;> first | (cases h2; done) | skip
  obtain rfl := Option.some.inj h2
  unfold callBD at h1
  split at h1 <;> first | (cases h1; done) | skip
  rename_i r i off hd
  split at h1 <;> first | (cases h1; done) | skip
  rename_i hz
  obtain ⟨rfl, rfl⟩ := hz
  obtain ⟨xs, h3, h4⟩ := bind_some' h1
  have hb := rowOf_some h3
  unfold callBr at h4
  split at h4 <;> first | (cases h4; done) | skip
  rename_i x
  split at h4 <;> first | (cases h4; done) | skip
  rename_i hx
  obtain ⟨pp, h5, h6⟩ := bind_some' h4
  unfold callBe at h6
  split at h6 <;> first | (cases h6; done) | skip
  rename_i v x'
  split at h6 <;> first | (cases h6; done) | skip
  rename_i hcond
  obtain rfl := Option.some.inj h6
  obtain ⟨c1, c2, c3⟩ := hcond
  obtain ⟨l1, r1⟩ := argsRel h hl
  have hr := r1 0 (by simp) (fun _ => .nil)
  have hsz : c.args.size = 1 := by simpa using l1.symm
  have ha : c.args.map a.eval = #[.pointer (some ⟨g.be r, 0, none⟩)] := by
    apply Array.ext
    · simpa using hsz
    · intro i hi hj
      have hi0 : i = 0 := by simp at hj; omega
      subst hi0
      simp only [List.map_cons, List.map_nil, List.getElem_cons_zero, hd] at hr
      have e2 : (c.args.map a.eval)[0] = ((c.args.toList.map a.eval)[0]'(by simp [hsz])) := by simp
      rw [e2]
      generalize ((c.args.toList.map a.eval)[0]'(by simp [hsz])) = u at hr
      cases hr
      simp
  have fin := callB_core hR h hb hx c2 h5 c1 c3
  refine res_enter (call_fn_run hop hc rfl fin.1) ?_
  rw [ha]
  simpa using fin.2

theorem callv_ok (hR : ROk P R) (h : RelA w g μ τ env ts st a.tmps) {c : Call} {x : Operand} {y : Opd} {ys : List Opd} (hop : o.op = .call c) (hc : c.callee = .value x) (hx : chkO μ τ x y = true) (hl : chkL μ τ c.args.toList ys = true)
    (he : evOp R env ts st (.callv y ys) = some q) : OpRes P o a w (Post w g μ τ a.tmps q) := by
  simp only [evOp] at he
  obtain ⟨p, h1, rfl⟩ := map_some' he
  obtain ⟨l1, r1⟩ := argsRel h hl
  have hxr := rd_rel h hx (fun _ => .nil)
  generalize hX : ys.map (rd env ts) = X at h1 l1 r1
  have l2 : X.length = (c.args.map a.eval).size := by rw [l1]; simp
  have r2 : ∀ i (hi : i < X.length), RelD w g (fun _ => .nil) X[i] ((c.args.map a.eval)[i]'(l2 ▸ hi)) := fun i hi => by
    have := r1 i hi (fun _ => .nil)
    simpa using this
  unfold callV at h1
  split at h1 <;> first | (cases h1; done) | skip
  · rename_i f hd
    rw [hd] at hxr
    have hxr := hxr.toV
    generalize hv : a.eval x = v at hxr
    cases hxr
    have fin := gen_core hR h (st' := p.2) (r := p.1) h1 (vals := #[] ++ c.args.map a.eval ++ #[]) (by rw [l2]; simp) (fun i hi => by have := r2 i hi; simpa using this)
    exact res_enter (call_fn_run hop hc hv fin.1) fin.2
  · rename_i f fs cs hd
    rw [hd] at hxr
    generalize hv : a.eval x = v at hxr
    cases hxr with | clo _ _ _ _ vf vc e1 e2 hf hcs =>
    obtain ⟨hh, hcat⟩ := cat3 e1 l2 e2 hf r2 hcs
    have fin := gen_core hR h (st' := p.2) (r := p.1) h1 (vals := vf ++ c.args.map a.eval ++ vc) hh hcat
    exact res_enter (call_fn_run hop hc hv fin.1) fin.2
end
end Go.Q

namespace Go.Q
variable [Known]
section
variable {P : Program} {w : World} {g : Gh} {μ : List Nat} {τ : List (Option Nat)} {env ts : List D} {st : St} {a : Act} {o : Oper} {q : Rg} {R : Run}

theorem res_free {d : D} {s : Sem Value} {r : Value} (h : RelA w g μ τ env ts st a.tmps) (hx : execOp a.eval o = (do pure (.value (← s)) : Sem Next)) (hr : s.run P w = .ok r w) (hd : ∀ pl, RelD w g pl d r) : OpRes P o a w (Post w g μ τ a.tmps (d, env, ts, st)) :=
  res_val h (by rw [hx]; exact run_v hr) (hd _)
theorem and4 {a b c d : Bool} (h : (a && b && c && d) = true) : a = true ∧ b = true ∧ c = true ∧ d = true := by
  simp only [Bool.and_eq_true] at h; exact ⟨h.1.1.1, h.1.1.2, h.1.2, h.2⟩
theorem and3 {a b c : Bool} (h : (a && b && c) = true) : a = true ∧ b = true ∧ c = true := by
  simp only [Bool.and_eq_true] at h; exact ⟨h.1.1, h.1.2, h.2⟩
theorem and2 {a b : Bool} (h : (a && b) = true) : a = true ∧ b = true := by simpa using h
theorem evOp_sound (hR : ROk P R) (h : RelA w g μ τ env ts st a.tmps) (hts : ts.length = τ.length) {s : SOp} (hc : chkOp μ τ P o.op s = true)
    (he : evOp R env ts st s = some q) : OpRes P o a w (Post w g μ τ a.tmps q) := by
  have hlv : ∀ r, g.live r → r.lvl < st.length := fun r hr => by
    obtain ⟨b, hb⟩ := (h.s.live r).1 hr
    exact getB_lvl hb
  have args2 : ∀ {c : Call} {x y : Operand}, c.args.toList = [x, y] → c.args = #[x, y] := fun e => by rw [← e]
  have args1 : ∀ {c : Call} {x : Operand}, c.args.toList = [x] → c.args = #[x] := fun e => by rw [← e]
  have types1 : ∀ {c : Call} {t : TypeId}, c.argTypes.toList = [t] → c.argTypes = #[t] := fun e => by rw [← e]
  cases s with
  | mov y =>
    simp only [chkOp] at hc
    split at hc <;> first | (cases hc; done) | skip
    · exact mov_ok h (.inl (by assumption)) hc he
    · exact mov_ok h (.inr (by assumption)) hc he
  | take y =>
    simp only [chkOp] at hc
    split at hc <;> first | (cases hc; done) | skip
    · exact take_ok h hts (.inl (by assumption)) hc he
    · exact take_ok h hts (.inr (by assumption)) hc he
  | pick c a b =>
    simp only [chkOp] at hc
    split at hc <;> first | (cases hc; done) | skip
    obtain ⟨h1, h2, h3⟩ := and3 hc
    exact pick_ok h (by assumption) h1 h2 h3 he
  | alloc esc z =>
    simp only [chkOp] at hc
    split at hc <;> first | (cases hc; done) | skip
    obtain ⟨zv, h1, h2⟩ := of_orF hc
    exact alloc_ok h (by assumption) h1 h2 he
  | box esc y =>
    simp only [chkOp] at hc
    split at hc <;> first | (cases hc; done) | skip
    exact box_ok h hts (by assumption) hc he hlv
  | build zs ps =>
    simp only [chkOp] at hc
    split at hc <;> first | (cases hc; done) | skip
    rename_i t parts hop
    obtain ⟨h1, h2⟩ := and2 hc
    obtain ⟨zv, h3, h4⟩ := of_orF h1
    simp only [evOp] at he
    obtain ⟨cs, h5, rfl⟩ := map_some' he
    have hp : (∃ fs, uStruct P t = some fs ∧ fieldsOk P fs = true ∧ chkPs μ τ (plStruct P fs) parts.toList ps = true) ∨
      (∃ q s, uArr P t = some q ∧ szT P q.2 = some s ∧ chkPs μ τ (fun i => some (i * s, s)) parts.toList ps = true) := by
      split at h2 <;> first | (cases h2; done) | skip
      · rename_i fs hf
        exact .inl ⟨fs, hf, (and2 h2).1, (and2 h2).2⟩
      · rename_i q _ hq
        obtain ⟨s, h6, h7⟩ := of_orF h2
        exact .inr ⟨q, s, hq, h6, h7⟩
    obtain ⟨r, h6, h7⟩ := build_ok h h3 h4 h5 hp
    exact res_free h (by simp only [execOp, hop]) h6 h7
  | lit sz ys =>
    simp only [chkOp] at hc
    split at hc <;> first | (cases hc; done) | skip
    · obtain ⟨e, h1, h2⟩ := of_orF hc
      simp only [Bool.and_eq_true, beq_iff_eq, decide_eq_true_eq] at h2
      obtain ⟨⟨⟨⟨h3, h4⟩, h5⟩, h6⟩, h7⟩ := h2
      exact lit_ok h (by assumption) h1 h3 h4 h5 h6 h7 he
    · obtain ⟨e, h1, h2⟩ := of_orF hc
      obtain ⟨inf, h3, h4⟩ := of_orF h2
      simp only [Bool.and_eq_true, beq_iff_eq, decide_eq_true_eq] at h4
      obtain ⟨⟨⟨⟨⟨⟨⟨rfl, k1⟩, k2⟩, k3⟩, k4⟩, k5⟩, k6⟩, k7⟩ := h4
      exact mkl_ok h (by assumption) k4 k5 h1 h3 k1 k2 k3 k6 k7 he
  | litO sz ys =>
    simp only [chkOp] at hc
    split at hc <;> first | (cases hc; done) | skip
    obtain ⟨e, h1, h2⟩ := of_orF hc
    simp only [Bool.and_eq_true, beq_iff_eq, decide_eq_true_eq] at h2
    obtain ⟨⟨⟨⟨h3, h4⟩, h5⟩, h6⟩, h7⟩ := h2
    exact litO_ok h (by assumption) h1 h3 h4 h5 h6 h7 he
  | litD ys =>
    simp only [chkOp] at hc
    split at hc <;> first | (cases hc; done) | skip
    obtain ⟨e, h1, h2⟩ := of_orF hc
    simp only [Bool.and_eq_true, beq_iff_eq, decide_eq_true_eq] at h2
    obtain ⟨⟨⟨⟨h3, h4⟩, h5⟩, h6⟩, h7⟩ := h2
    exact litD_ok h (by assumption) h1 h3 h4 h5 h6 h7 he
  | callP f xs =>
    simp only [evOp] at he
    split at he <;> first | (cases he; done) | skip
    simp only [chkOp] at hc
    split at hc <;> first | (cases hc; done) | skip
    rename_i c hop
    split at hc <;> first | (cases hc; done) | skip
    rename_i g' hcal
    simp only [Bool.and_eq_true, beq_iff_eq] at hc
    obtain ⟨rfl, h2⟩ := hc
    exact call_ok hR h hop hcal h2 he
  | appO sz bytes x y ps =>
    simp only [chkOp] at hc
    split at hc <;> first | (cases hc; done) | skip
    rename_i c hop
    split at hc <;> first | (cases hc; done) | skip
    rename_i x' y' t u hb ha ht
    obtain ⟨h1, h2, h3, h4⟩ := and4 hc
    obtain ⟨e, h5, h6⟩ := of_orF h3
    obtain ⟨inf, h7, h8⟩ := of_orF h6
    simp only [Bool.and_eq_true, beq_iff_eq, bne_iff_ne, ne_eq] at h8
    obtain ⟨⟨⟨⟨h9, h10⟩, h11⟩, h12⟩, h13⟩ := h8
    obtain ⟨zv, h14, h15⟩ := of_orF h13
    exact appO_ok h hop hb ha ht h1 h2 h5 h7 h9 h10 h11 h14 (by simpa using h15) h4 he
  | load s y =>
    simp only [chkOp] at hc
    split at hc <;> first | (cases hc; done) | skip
    rename_i t x hop
    obtain ⟨h1, h2⟩ := and2 hc
    simp only [evOp] at he
    obtain ⟨d, h3, rfl⟩ := map_some' he
    obtain ⟨r, h4, h5⟩ := load_ok h.s (rd_rel h h1 (fun _ => .nil)) h3 h2
    exact res_free h (by simp only [execOp, hop]) h4 h5
  | loadR y0 s y =>
    simp only [chkOp] at hc
    simp only [evOp] at he
    split at he <;> first | (cases he; done) | skip
    rename_i hsame
    split at hc <;> first | (cases hc; done) | skip
    rename_i t x hop
    obtain ⟨h1, h2⟩ := and2 hc
    obtain ⟨d, h3, rfl⟩ := map_some' he
    obtain ⟨r, h4, h5⟩ := load_ok h.s (rd_rel h h1 (fun _ => .nil)) h3 h2
    exact res_free h (by simp only [execOp, hop]) h4 h5
  | loadT y ys =>
    simp only [chkOp] at hc
    split at hc <;> first | (cases hc; done) | skip
    obtain ⟨h1, h2⟩ := and2 hc
    exact loadT_ok h (by assumption) h1 h2 he
  | callB f y ys =>
    simp only [chkOp] at hc
    split at hc <;> first | (cases hc; done) | skip
    split at hc <;> first | (cases hc; done) | skip
    rename_i hop _ gf hcal
    obtain ⟨h1, h2⟩ := and2 hc
    have h1 : f = gf := by simpa using h1
    subst h1
    exact callB_ok hR h hop hcal h2 he
  | loadF y off s y' =>
    simp only [evOp] at he
    simp only [chkOp] at hc
    split at he <;> first | (cases he; done) | skip
    split at hc <;> first | (cases hc; done) | skip
    rename_i t x hop
    obtain ⟨h1, h2⟩ := and2 hc
    obtain ⟨d, h3, rfl⟩ := map_some' he
    obtain ⟨r, h4, h5⟩ := load_ok h.s (rd_rel h h1 (fun _ => .nil)) h3 h2
    exact res_free h (by simp only [execOp, hop]) h4 h5
  | store sz y z =>
    simp only [chkOp] at hc
    split at hc <;> first | (cases hc; done) | skip
    obtain ⟨h1, h2, h3⟩ := and3 hc
    exact store_ok h hts (by assumption) h1 h2 (by simpa using h3) he
  | storeS sz y z ys =>
    simp only [chkOp] at hc
    split at hc <;> first | (cases hc; done) | skip
    obtain ⟨h1, h2, h3⟩ := and3 hc
    exact store_ok h hts (by assumption) h1 h2 (by simpa using h3) (R := R) (q := q) (by
      simp only [evOp] at he ⊢
      split at he <;> first | exact he | cases he)
  | bin op x y =>
    simp only [chkOp] at hc
    split at hc <;> first | (cases hc; done) | skip
    rename_i o' t x' y' z hop
    obtain ⟨h1, h2, h3⟩ := and3 hc
    simp only [decide_eq_true_eq] at h1
    subst h1
    simp only [evOp] at he
    obtain ⟨d, h4, rfl⟩ := map_some' he
    obtain ⟨r, h5, h6⟩ := bin_ok t x' y' (rd_rel h h2 (fun _ => .nil)) (rd_rel h h3 (fun _ => .nil)) h4 (P := P)
    exact res_free h (by simp only [execOp, hop]) h5 h6
  | eq k neg x y =>
    simp only [chkOp] at hc
    split at hc <;> first | (cases hc; done) | skip
    rename_i o' t x' y' z hop
    obtain ⟨h1, h2, h3, h4⟩ := and4 hc
    simp only [decide_eq_true_eq] at h1
    simp only [evOp] at he
    obtain ⟨b, h5, rfl⟩ := map_some' he
    have := eq_ok (P := P) (ox := x') (oy := y') neg (rd_rel h h3 (fun _ => .nil)) (rd_rel h h4 (fun _ => .nil)) h5 h2 h4 (fun d e => by subst e; rfl)
    exact res_free h (by simp only [execOp, hop, h1]) this (fun pl => .v _ _ _ (.bool _))
  | un op x =>
    simp only [chkOp] at hc
    split at hc <;> first | (cases hc; done) | skip
    rename_i o' t x' hop
    obtain ⟨h1, h2⟩ := and2 hc
    simp only [decide_eq_true_eq] at h1
    subst h1
    simp only [evOp] at he
    obtain ⟨d, h4, rfl⟩ := map_some' he
    obtain ⟨r, h5, h6⟩ := un_ok (rd_rel h h2 (fun _ => .nil)) h4 (P := P)
    exact res_free h (by simp only [execOp, hop]) h5 h6
  | cvi k x =>
    simp only [chkOp] at hc
    split at hc <;> first | (cases hc; done) | skip
    obtain ⟨h1, h2, h3⟩ := and3 hc
    exact cvi_ok h (by assumption) (by simpa using h1) h2 h3 he
  | s2b x =>
    simp only [chkOp] at hc
    split at hc <;> first | (cases hc; done) | skip
    obtain ⟨h1, h2, h3⟩ := and3 hc
    obtain ⟨e, h4, h5⟩ := of_orF h2
    exact s2b_ok h (by assumption) h3 h1 h4 (by simpa using h5) he
  | s2o x =>
    simp only [chkOp] at hc
    split at hc <;> first | (cases hc; done) | skip
    obtain ⟨h1, h2, h3⟩ := and3 hc
    obtain ⟨e, h4, h5⟩ := of_orF h2
    exact s2o_ok h (by assumption) h3 h1 h4 (by simpa using h5) he
  | b2s x =>
    simp only [chkOp] at hc
    split at hc <;> first | (cases hc; done) | skip
    obtain ⟨h1, h2, h3⟩ := and3 hc
    obtain ⟨e, h4, h5⟩ := of_orF h2
    exact b2s_ok h (by assumption) h3 h1 h4 (by simpa using h5) he
  | sub sz x lo hi mx =>
    simp only [chkOp] at hc
    split at hc <;> first | (cases hc; done) | skip
    rename_i hop
    simp only [Bool.and_eq_true] at hc
    obtain ⟨⟨⟨⟨h1, h2⟩, h3⟩, h4⟩, h5⟩ := hc
    obtain ⟨e, h6, h7⟩ := of_orF h5
    simp only [evOp] at he
    obtain ⟨d, h8, rfl⟩ := map_some' he
    obtain ⟨r, h9, h10⟩ := sub_ok (rd_rel h h1 (fun _ => .nil)) (opt_rel h h2) (opt_rel h h3) (opt_rel h h4) h8 h6 (by simpa using h7)
    exact res_free h (by simp only [execOp, hop]) h9 h10
  | subA n x lo hi mx =>
    simp only [chkOp] at hc
    split at hc <;> first | (cases hc; done) | skip
    rename_i hop
    simp only [Bool.and_eq_true] at hc
    obtain ⟨⟨⟨⟨h1, h2⟩, h3⟩, h4⟩, h5⟩ := hc
    obtain ⟨e, h6, h7⟩ := of_orF h5
    simp only [Bool.and_eq_true, beq_iff_eq] at h7
    simp only [evOp] at he
    obtain ⟨d, h8, rfl⟩ := map_some' he
    obtain ⟨r, h9, h10⟩ := subA_ok (rd_rel h h1 (fun _ => .nil)) (opt_rel h h2) (opt_rel h h3) (opt_rel h h4) h8 (e := e.2) (by rw [h6, ← h7.1]) h7.2
    exact res_free h (by simp only [execOp, hop]) h9 h10
  | nck x =>
    simp only [chkOp] at hc
    split at hc <;> first | (cases hc; done) | skip
    rename_i hop
    exact nck_ok h hop hc he
  | fa off x =>
    simp only [chkOp] at hc
    split at hc <;> first | (cases hc; done) | skip
    rename_i hop
    obtain ⟨h1, h2⟩ := and2 hc
    obtain ⟨fs, h3, h4⟩ := of_orF h2
    obtain ⟨f, h5, h6⟩ := of_orF h4
    obtain ⟨h7, h8⟩ := and2 h6
    obtain ⟨s, h9, h10⟩ := of_orF h8
    simp only [evOp] at he
    obtain ⟨d, h11, rfl⟩ := map_some' he
    obtain ⟨r, h12, h13⟩ := fa_ok (rd_rel h h1 (fun _ => .nil)) h11 h3 h5 (by simpa using h7) h9 (by simpa using h10)
    exact res_free h (by simp only [execOp, hop]) h12 h13
  | fld off s x =>
    simp only [chkOp] at hc
    split at hc <;> first | (cases hc; done) | skip
    rename_i hop
    obtain ⟨h1, h2⟩ := and2 hc
    obtain ⟨fs, h3, h4⟩ := of_orF h2
    obtain ⟨f, h5, h6⟩ := of_orF h4
    obtain ⟨h7, h8⟩ := and2 h6
    simp only [evOp] at he
    obtain ⟨d, h11, rfl⟩ := map_some' he
    obtain ⟨r, h12, h13⟩ := fld_ok (rd_rel h h1 (fun _ => .nil)) h11 h3 h5 (by simpa using h7) h8
    exact res_free h (by simp only [execOp, hop]) h12 h13
  | ia sz x i =>
    simp only [chkOp] at hc
    split at hc <;> first | (cases hc; done) | skip
    rename_i hop
    obtain ⟨h1, h2, h3⟩ := and3 hc
    obtain ⟨e, h4, h5⟩ := of_orF h3
    simp only [evOp] at he
    obtain ⟨d, h11, rfl⟩ := map_some' he
    obtain ⟨r, h12, h13⟩ := ia_ok (rd_rel h h1 (fun _ => .nil)) (rd_rel h h2 (fun _ => .nil)) h11 h4 (by simpa using h5)
    exact res_free h (by simp only [execOp, hop]) h12 h13
  | iaA len sz x i =>
    simp only [chkOp] at hc
    split at hc <;> first | (cases hc; done) | skip
    rename_i hop
    obtain ⟨h1, h2, h3⟩ := and3 hc
    obtain ⟨e, h4, h5⟩ := of_orF h3
    simp only [Bool.and_eq_true, beq_iff_eq] at h5
    simp only [evOp] at he
    obtain ⟨d, h11, rfl⟩ := map_some' he
    obtain ⟨r, h12, h13⟩ := iaA_ok (rd_rel h h1 (fun _ => .nil)) (rd_rel h h2 (fun _ => .nil)) h11 (e := e.2) (by rw [h4, ← h5.1]) h5.2
    exact res_free h (by simp only [execOp, hop]) h12 h13
  | idx x i =>
    simp only [chkOp] at hc
    split at hc <;> first | (cases hc; done) | skip
    rename_i hop
    obtain ⟨h1, h2, h3⟩ := and3 hc
    simp only [evOp] at he
    obtain ⟨d, h11, rfl⟩ := map_some' he
    obtain ⟨r, h12, h13⟩ := idx_ok (rd_rel h h1 (fun _ => .nil)) (rd_rel h h2 (fun _ => .nil)) h11 h3
    exact res_free h (by simp only [execOp, hop]) h12 h13
  | idxA len sz s x i =>
    simp only [chkOp] at hc
    split at hc <;> first | (cases hc; done) | skip
    rename_i hop
    obtain ⟨h1, h2, h3⟩ := and3 hc
    obtain ⟨e, h4, h5⟩ := of_orF h3
    obtain ⟨h6, h7, h8⟩ := and3 h5
    simp only [beq_iff_eq] at h6 h7
    simp only [evOp] at he
    obtain ⟨d, h11, rfl⟩ := map_some' he
    obtain ⟨r, h12, h13⟩ := idxA_ok (rd_rel h h1 (fun _ => .nil)) (rd_rel h h2 (fun _ => .nil)) h11 (e := e.2) (by rw [h4, ← h6]) h7 h8
    exact res_free h (by simp only [execOp, hop]) h12 h13
  | len x =>
    simp only [chkOp] at hc
    split at hc <;> first | (cases hc; done) | skip
    rename_i c hop
    split at hc <;> first | (cases hc; done) | skip
    rename_i x' t' hb ha ht
    obtain ⟨h1, h2⟩ := and2 hc
    obtain ⟨e, h3⟩ := Option.isSome_iff_exists.1 h2
    simp only [evOp] at he
    obtain ⟨n, h4, rfl⟩ := map_some' he
    have := len_ok (P := P) o.type (rd_rel h h1 (fun _ => .nil)) h4 h3
    refine res_val h (v := .int .i64 n) ?_ (.v _ _ _ (.int _ _))
    rw [bcall_run hop hb, args1 ha, types1 ht]
    exact run_v (by simpa using this)
  | capn x =>
    simp only [chkOp] at hc
    split at hc <;> first | (cases hc; done) | skip
    rename_i c hop
    split at hc <;> first | (cases hc; done) | skip
    rename_i x' t' hb ha ht
    obtain ⟨h1, h2⟩ := and2 hc
    obtain ⟨e, h3⟩ := Option.isSome_iff_exists.1 h2
    simp only [evOp] at he
    obtain ⟨n, h4, rfl⟩ := map_some' he
    have := cap_ok (P := P) o.type (rd_rel h h1 (fun _ => .nil)) h4 h3
    refine res_val h (v := .int .i64 n) ?_ (.v _ _ _ (.int _ _))
    rw [bcall_run hop hb, args1 ha, types1 ht]
    exact run_v (by simpa using this)
  | mkmap esc =>
    simp only [chkOp] at hc
    split at hc <;> first | (cases hc; done) | skip
    exact mkmap_ok h (by assumption) he
  | look kd ok z x k =>
    simp only [chkOp] at hc
    split at hc <;> first | (cases hc; done) | skip
    rename_i t x1 k1 ok1 hop
    simp only [Bool.and_eq_true] at hc
    obtain ⟨⟨⟨h1, h2⟩, h3⟩, h4⟩ := hc
    obtain ⟨q0, h5, h6⟩ := of_orF h4
    obtain ⟨h7, h8⟩ := and2 h6
    obtain ⟨zv, h9, h10⟩ := of_orF h8
    have := eq_of_beq h1
    subst this
    exact look_ok h hop (of_uMap P h5) (eq_of_beq h7) h9 h10 h2 h3 he
  | mupd kd x k v =>
    simp only [chkOp] at hc
    split at hc <;> first | (cases hc; done) | skip
    rename_i t x1 k1 v1 hop
    simp only [Bool.and_eq_true] at hc
    obtain ⟨⟨⟨h1, h2⟩, h3⟩, h4⟩ := hc
    obtain ⟨q0, h5, h6⟩ := of_orF h4
    exact mupd_ok h hop (of_uMap P h5) (eq_of_beq h6) h1 h2 h3 he
  | lenm x =>
    simp only [chkOp] at hc
    split at hc <;> first | (cases hc; done) | skip
    rename_i c hop
    split at hc <;> first | (cases hc; done) | skip
    rename_i x' t' hb ha ht
    obtain ⟨h1, h2⟩ := and2 hc
    obtain ⟨e, h3⟩ := Option.isSome_iff_exists.1 h2
    simp only [evOp] at he
    obtain ⟨es, h4, rfl⟩ := map_some' he
    refine res_val h (v := .int .i64 es.length) ?_ (.v _ _ _ (.int _ _))
    rw [bcall_run hop hb, args1 ha, types1 ht]
    have := lenm_run (ty := o.type) (of_uMap P h3) h.s (rd_rel h h1 (fun _ => .nil)) h4
    exact run_v (by simpa using this)
  | lens x =>
    simp only [chkOp] at hc
    split at hc <;> first | (cases hc; done) | skip
    rename_i c hop
    split at hc <;> first | (cases hc; done) | skip
    rename_i x' t' hb ha ht
    obtain ⟨h1, h2⟩ := and2 hc
    simp only [evOp] at he
    obtain ⟨n, h4, rfl⟩ := map_some' he
    have := lens_ok (P := P) o.type (rd_rel h h1 (fun _ => .nil)) h4 h2
    refine res_val h (v := .int .i64 n.length) ?_ (.v _ _ _ (.int _ _))
    rw [bcall_run hop hb, args1 ha, types1 ht]
    exact run_v (by simpa using this)
  | subs x lo hi =>
    simp only [chkOp] at hc
    split at hc <;> first | (cases hc; done) | skip
    rename_i hop
    obtain ⟨h1, h2, h3, h4⟩ := and4 hc
    simp only [evOp] at he
    obtain ⟨d, h11, rfl⟩ := map_some' he
    obtain ⟨r, h12, h13⟩ := subs_ok (rd_rel h h1 (fun _ => .nil)) (opt_rel h h2) (opt_rel h h3) h11 h4
    exact res_free h (by simp only [execOp, hop]; rfl) h12 h13
  | cst d =>
    simp only [chkOp] at hc
    split at hc <;> first | (cases hc; done) | skip
    rename_i c hop
    split at hc <;> first | (cases hc; done) | skip
    rename_i x' t' hb ha ht
    split at hc <;> first | (cases hc; done) | skip
    rename_i qq n hu
    simp only [decide_eq_true_eq] at hc
    subst hc
    simp only [evOp] at he
    cases he
    have hu := of_uArr P hu
    refine res_val h (v := .int .i64 qq.1) ?_ (.v _ _ _ (.int _ _))
    rw [bcall_run hop hb, args1 ha, types1 ht]
    refine run_v ?_
    simp [Builtin.len_, run_underlying hu, goInt]
  | subl sz x l =>
    simp only [chkOp] at hc
    split at hc <;> first | (cases hc; done) | skip
    rename_i hop
    simp only [Bool.and_eq_true] at hc
    obtain ⟨⟨h1, h2⟩, h5⟩ := hc
    obtain ⟨e, h6, h7⟩ := of_orF h5
    exact subl_ok h hts hop h1 h2 h6 (by simpa using h7) he
  | app sz bytes x y =>
    simp only [chkOp] at hc
    split at hc <;> first | (cases hc; done) | skip
    rename_i c hop
    split at hc <;> first | (cases hc; done) | skip
    rename_i x' y' t u hb ha ht
    obtain ⟨h1, h2, h3, h4⟩ := and4 hc
    obtain ⟨e, h5, h6⟩ := of_orF h3
    obtain ⟨inf, h7, h8⟩ := of_orF h6
    simp only [Bool.and_eq_true, beq_iff_eq, bne_iff_ne, ne_eq] at h8
    obtain ⟨⟨⟨⟨h9, h10⟩, h11⟩, h12⟩, h13⟩ := h8
    obtain ⟨zv, h14, h15⟩ := of_orF h13
    exact app_ok h hts hop hb ha ht h1 h2 h5 h7 h9 h10 h11 h14 (by simpa using h15) h4 he
  | cpy sz x y =>
    simp only [chkOp] at hc
    split at hc <;> first | (cases hc; done) | skip
    rename_i c hop
    split at hc <;> first | (cases hc; done) | skip
    rename_i x' y' t u hb ha ht
    obtain ⟨h1, h2, h3, h4⟩ := and4 hc
    obtain ⟨e, h5, h6⟩ := of_orF h3
    exact cpy_ok h hop hb ha ht h1 h2 h5 (by simpa using h6) h4 he
  | make sz bytes z n c =>
    simp only [chkOp] at hc
    split at hc <;> first | (cases hc; done) | skip
    obtain ⟨h1, h2, h3⟩ := and3 hc
    obtain ⟨e, h5, h6⟩ := of_orF h3
    obtain ⟨inf, h7, h8⟩ := of_orF h6
    obtain ⟨h9, h10, h11, h12⟩ := and4 h8
    obtain ⟨zv, h14, h15⟩ := of_orF h12
    exact make_ok h (by assumption) h1 h2 h5 h7 (by simpa using h9) (by simpa using h10) (by simpa using h11) h14 h15 he
  | call gen f ys =>
    simp only [chkOp] at hc
    split at hc <;> first | (cases hc; done) | skip
    rename_i c hop
    split at hc <;> first | (cases hc; done) | skip
    rename_i f' hcal
    simp only [Bool.and_eq_true, beq_iff_eq] at hc
    obtain ⟨h1, h2⟩ := hc
    subst h1
    exact call_ok hR h hop hcal h2 he
  | callv y ys =>
    simp only [chkOp] at hc
    split at hc <;> first | (cases hc; done) | skip
    rename_i c hop
    split at hc <;> first | (cases hc; done) | skip
    obtain ⟨h1, h2⟩ := and2 hc
    exact callv_ok hR h hop (by assumption) h1 h2 he
  | mkf f fs cs =>
    simp only [chkOp] at hc
    split at hc <;> first | (cases hc; done) | skip
    rename_i hop
    simp only [Bool.and_eq_true, beq_iff_eq] at hc
    obtain ⟨⟨h1, h2⟩, h3⟩ := hc
    subst h1
    exact mkf_ok h hop h2 h3 he
  | mki t y =>
    simp only [chkOp] at hc
    split at hc <;> first | (cases hc; done) | skip
    rename_i hop
    simp only [Bool.and_eq_true, beq_iff_eq] at hc
    obtain ⟨⟨h1, h2⟩, h3⟩ := hc
    subst h1
    split at h3 <;> first | (cases h3; done) | skip
    rename_i d hne hd
    exact mki_ok h hop hd (fun m e => hne m e) h2 he
  | ext i y =>
    simp only [chkOp] at hc
    split at hc <;> first | (cases hc; done) | skip
    rename_i hop
    simp only [Bool.and_eq_true, beq_iff_eq] at hc
    obtain ⟨h1, h2⟩ := hc
    subst h1
    exact ext_ok h hts hop h2 he
  | s2a n y =>
    simp only [chkOp] at hc
    split at hc <;> first | (cases hc; done) | skip
    rename_i hop
    obtain ⟨h1, h2⟩ := and2 hc
    obtain ⟨qq, h3, h4⟩ := of_orF h2
    simp only [Bool.and_eq_true, beq_iff_eq, bne_iff_ne, ne_eq] at h4
    obtain ⟨⟨h5, h6⟩, h7⟩ := h4
    simp only [evOp] at he
    obtain ⟨d, h11, rfl⟩ := map_some' he
    obtain ⟨r, h12, h13⟩ := s2a_ok (rd_rel h h1 (fun _ => .nil)) h11 h6 (e := qq.2) (by rw [h3, ← h5]) h7
    exact res_free h (by simp only [execOp, hop]) h12 h13
  | mx x y =>
    simp only [chkOp] at hc
    split at hc <;> first | (cases hc; done) | skip
    rename_i c hop
    split at hc <;> first | (cases hc; done) | skip
    rename_i x' y' hb ha
    obtain ⟨h1, h2⟩ := and2 hc
    simp only [evOp] at he
    obtain ⟨d, h11, rfl⟩ := map_some' he
    obtain ⟨r, h12, h13⟩ := max_ok c.argTypes o.type (rd_rel h h1 (fun _ => .nil)) (rd_rel h h2 (fun _ => .nil)) h11 (P := P)
    refine res_val h (v := r) ?_ (h13 _)
    rw [bcall_run hop hb, args2 ha]
    exact run_v (by simpa using h12)
  | mn x y =>
    simp only [chkOp] at hc
    split at hc <;> first | (cases hc; done) | skip
    rename_i c hop
    split at hc <;> first | (cases hc; done) | skip
    rename_i x' y' hb ha
    obtain ⟨h1, h2⟩ := and2 hc
    simp only [evOp] at he
    obtain ⟨d, h11, rfl⟩ := map_some' he
    obtain ⟨r, h12, h13⟩ := min_ok c.argTypes o.type (rd_rel h h1 (fun _ => .nil)) (rd_rel h h2 (fun _ => .nil)) h11 (P := P)
    refine res_val h (v := r) ?_ (h13 _)
    rw [bcall_run hop hb, args2 ha]
    exact run_v (by simpa using h12)
  | clr sz z x' =>
    simp only [chkOp] at hc
    split at hc <;> first | (cases hc; done) | skip
    split at hc <;> first | (cases hc; done) | skip
    rename_i h1 h2 h3
    obtain ⟨k1, k2⟩ := and2 hc
    obtain ⟨e, k3, k4⟩ := of_orF k2
    simp only [Bool.and_eq_true, beq_iff_eq, bne_iff_ne, ne_eq] at k4
    obtain ⟨⟨k5, k6⟩, k7⟩ := k4
    obtain ⟨zv, k8, k9⟩ := of_orF k7
    obtain ⟨k10, k11⟩ := and2 k9
    exact clr_ok h (by assumption) h1 h2 h3 k1 k3 k5 k6 k8 k10 (by simpa using k11) he
  | die => simp [evOp] at he
end
end Go.Q
