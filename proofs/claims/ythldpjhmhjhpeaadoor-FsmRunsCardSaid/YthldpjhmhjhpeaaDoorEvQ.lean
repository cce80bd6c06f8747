/- Calls with pure data. No condition. -/
import Derived.Test.YthldpjhmhjhpeaaDoorEvN
set_option linter.unusedVariables false
set_option linter.unusedSimpArgs false
set_option linter.unusedSectionVars false
namespace Go.Q
variable [Known]

def blockSize (w : World) (b : Nat) : Nat := match w.heap[b]? with
  | some (.cells c _ _) => c.size
  | _ => 0
theorem cell_lt {w : World} {b o : Nat} {v : Value} (h : w.cell? ⟨b, o, none⟩ = some v) : o < blockSize w b := by
  unfold World.cell? at h
  unfold blockSize
  split at h <;> first | (cases h; done) | skip
  rename_i hb
  simp only at hb
  rw [hb]
  simp at h
  obtain ⟨h1, _⟩ := Array.getElem?_eq_some_iff.1 h
  exact h1

section
variable {P : Program} {w : World} {g : Gh} {μ : List Nat} {τ : List (Option Nat)} {env ts : List D} {st : St} {a : Act} {o : Oper} {q : Rg} {R : Run}

def rowRef : D → Option Ref
  | .own r _ _ _ _ => some r
  | .arr r _ _ _ => some r
  | _ => none
theorem rdV_rel {pl : Nat → Pl} {d : D} {x : V} {v : Value} {L : Nat → Nat} (hS : RelS w g st) (hd : RelD w g pl d v) (hx : rdV st d = some x) (hL : ∀ b, g.L b ≤ L b) (hr : ∀ r, rowRef d = some r → g.live r → blockSize w (g.be r) ≤ L (g.be r)) : RelV w L x v := by
  cases hrow : isRow d with
  | false => exact (toV_rel hd (rdV_plain hx hrow)).mono (fun _ _ _ => rfl) hL
  | true =>
    have key : ∀ z ys, x = .slc z ys → elems z st d = some ys → (∀ b o n c, v = .slice (some ⟨b, o, none⟩) n c → n ≠ 0 → blockSize w b ≤ L b) → RelV w L x v := fun z ys e hel hbs => by
      subst e
      obtain ⟨f, E, S⟩ := elems_rel hS hd hel
      cases S with
      | str b _ _ _ =>
        exfalso
        cases d <;> first | (cases hrow; done) | (cases hd; done)
      | sl ad c hc hcell =>
        by_cases h0 : ys.length = 0
        · have : ys = [] := List.length_eq_zero_iff.1 h0
          subst this
          exact .slc0 _ _ _
        · obtain ⟨b, o, rfl, h1⟩ := hcell h0
          exact .slc z ys b o c f hc E.len (fun i j hi hj => Nat.lt_of_lt_of_le (cell_lt (h1 i j hi hj)) (hbs b o _ c rfl h0)) h1 E.cell (fun i hi j hj => (E.rel i hi j hj).mono (fun _ _ _ => rfl) hL)
    cases d <;> first | (cases hrow; done) | skip
    · rename_i r z off len fl
      have hx' := hx
      simp only [rdV] at hx
      unfold rowV at hx
      split at hx <;> first | (cases hx; done) | skip
      split at hx <;> first | (cases hx; done) | skip
      obtain ⟨ys, _, rfl⟩ := map_some' hx
      refine key z ys rfl (by simp only [elems, hx', Option.bind, slcOf, if_true]) (fun b o n c e hn => ?_)
      subst e
      cases hd with | own _ _ _ _ _ _ _ _ hl _ _ ha =>
      have := ha hn
      cases this
      exact hr r rfl hl
    · rename_i r i off len
      have hx' := hx
      simp only [rdV] at hx
      unfold arrV at hx
      split at hx <;> first | (cases hx; done) | skip
      split at hx <;> first | (cases hx; done) | skip
      obtain ⟨ys, _, rfl⟩ := map_some' hx
      refine key 1 ys rfl (by simp only [elems, hx', Option.bind, slcOf, if_true]) (fun b o n c e hn => ?_)
      subst e
      cases hd with | arr _ _ _ _ _ _ _ hl _ ha =>
      have := ha hn
      cases this
      exact hr r rfl hl

theorem flats_at : ∀ {xs : List V}, flats xs = true → ∀ i (h : i < xs.length), flat xs[i] = true
  | [], _, i, h => by simp at h
  | x :: r, hf, i, h => by
    simp only [flats, Bool.and_eq_true] at hf
    cases i with
    | zero => exact hf.1
    | succ i => exact flats_at hf.2 i (by simpa using h)
theorem flat_rel {w' : World} {L L' : Nat → Nat} {x : V} {v : Value} (h : RelV w L x v) (hf : flat x = true) : RelV w' L' x v := by
  induction h with
  | bool b => exact .bool b
  | int k n => exact .int k n
  | str s => exact .str s
  | slc0 sz a c => simp [flat] at hf
  | slc => simp [flat] at hf
  | agg xs cs hl hk hr ih =>
    simp only [flat] at hf
    exact .agg xs cs hl hk (fun i hi => ih i hi (flats_at hf i hi))
  | nilp => exact .nilp
  | nili => exact .nili
  | nilf => exact .nilf
  | nilm => exact .nilm
  | iface => simp [flat] at hf
  | fn f => exact .fn f
  | pt => simp [flat] at hf
theorem flatDs_at : ∀ {xs : List D}, flatDs xs = true → ∀ i (h : i < xs.length), flatD xs[i] = true
  | [], _, i, h => by simp at h
  | x :: r, hf, i, h => by
    simp only [flatDs, Bool.and_eq_true] at hf
    cases i with
    | zero => exact hf.1
    | succ i => exact flatDs_at hf.2 i (by simpa using h)
theorem flatD_rel {w' : World} {g' : Gh} {pl pl' : Nat → Pl} {d : D} {v : Value} (h : RelD w g pl d v) (hf : flatD d = true) : RelD w' g' pl' d v := by
  cases d <;> simp only [flatD] at hf <;> first | (cases hf; done) | skip
  exact .v _ _ _ (flat_rel h.toV hf)
theorem flatR_rel {w' : World} {g' : Gh} {pl pl' : Nat → Pl} {d : D} {v : Value} (h : RelD w g pl d v) (hf : flatR d = true) : RelD w' g' pl' d v := by
  cases d <;> simp only [flatR] at hf <;> first | (cases hf; done) | skip
  · exact .v _ _ _ (flat_rel h.toV hf)
  · cases h with | tup _ ds cs hl hr =>
    exact .tup _ _ _ hl (fun i hi => flatD_rel (hr i hi) (flatDs_at hf i hi))

def Gh.shut (g : Gh) (L : Nat → Nat) : Gh := { g with L := L, M := fun _ => False, own := fun _ => none, live := fun _ => False }
noncomputable def Gh.back (g g1 : Gh) (n k : Nat) : Gh :=
  { g with L := fun b => if b < n then g.L b else g1.L b, M := fun b => if b < n then g.M b else g1.M b,
           own := fun b => if b < n then g.own b else (g1.own b).bind fun p => if p.isRes = true then some (moveRes k p) else none }

theorem pure_core {f : FuncId} {ds : List D} {xs : List V} {st1 : St} {r : D} {vals : Array Value} {tmps : Array Value} (hR : ROk P R) (h : RelA w g μ τ env ts st tmps) (hx : rdVs st ds = some xs) (hc : R f (xs.map .v) [] = some (r, []))
    (hflat : anyRow ds = true → flatR r = true) (hl : ds.length = vals.size) (hv : ∀ i (h : i < ds.length), RelD w g (fun _ => .nil) ds[i] (vals[i]'(hl ▸ h))) :
    FnOk P f ∧ Calls P f vals w fun e w' => ∃ v, e = .returned v ∧ Post w g μ τ tmps (r, env, ts, st) v w' := by
  obtain ⟨hf, hC⟩ := hR f (xs.map .v) [] _ hc
  refine ⟨hf, ?_⟩
  obtain ⟨hxl, hxa⟩ := rdVs_at hx
  -- what may be read
  obtain ⟨L, hL1, hL2, hL3⟩ : ∃ L : Nat → Nat, (∀ b, g.L b ≤ L b) ∧ (anyRow ds = true → ∀ b, blockSize w b ≤ L b) ∧ ((∀ b, w.heap.size ≤ b → L b = 0) ∧ (anyRow ds = false → L = g.L)) := by
    cases hrow : anyRow ds with
    | false => exact ⟨g.L, fun _ => Nat.le_refl _, (fun hh => by cases hh), fun b hb => (h.s.fresh b hb).1, fun _ => rfl⟩
    | true =>
      refine ⟨fun b => max (g.L b) (blockSize w b), fun b => Nat.le_max_left _ _, fun _ b => Nat.le_max_right _ _, fun b hb => ?_, (fun hh => by cases hh)⟩
      have h1 := (h.s.fresh b hb).1
      have h2 : blockSize w b = 0 := by unfold blockSize; rw [Array.getElem?_eq_none hb]
      show max (g.L b) (blockSize w b) = 0
      rw [h1, h2]; rfl
  obtain ⟨hL3, hL4⟩ := hL3
  have anyAt : ∀ (l : List D) i (hi : i < l.length), isRow l[i] = true → anyRow l = true := fun l => by
    induction l with
    | nil => intro i hi; simp at hi
    | cons d l ih =>
      intro i hi hr
      simp only [anyRow, Bool.or_eq_true]
      cases i with
      | zero => exact .inl hr
      | succ i => exact .inr (ih i (by simpa using hi) hr)
  have lS : RelS w (g.shut L) [] := ⟨fun r => ⟨fun hh => hh.elim, fun ⟨b, hb⟩ => by simp [getB] at hb⟩, fun r b hb => by simp [getB] at hb, fun r hr => hr.elim, fun r r' hr => hr.elim, fun b p hb => (by simp [Gh.shut] at hb), fun b hb => (by simp [Gh.shut] at hb), fun b hb => ⟨hL3 b hb, fun hh => hh⟩, gl_keep (g' := g.shut L) (fun _ _ _ => rfl) hL1 h.s.gl⟩
  refine Calls.mono (hC vals w (g.shut L) (by simp [hxl, hl]) (fun i hi => ?_) lS (fun b p hb => by simp [Gh.shut] at hb)) fun e w' he => ?_
  · have hi' : i < ds.length := by simpa [hxl] using hi
    simp only [List.getElem_map]
    refine .v _ _ _ (rdV_rel h.s (hv i hi') (hxa i hi' (by omega)) hL1 (fun r hrr _ => hL2 (anyAt ds i hi' (by cases hd : ds[i] <;> rw [hd] at hrr <;> first | rfl | cases hrr)) _))
  obtain ⟨v, g1, rfl, B⟩ := he
  have old : ∀ b, b < w.heap.size → w'.heap[b]? = w.heap[b]? ∧ g1.L b = L b ∧ ¬ g1.M b := fun b hb => B.ext.old b hb (fun hm => hm)
  have gsz : ∀ b p, g1.own b = some p → ¬ b < w.heap.size := fun b p hb hlt => (old b hlt).2.2 (B.s.own b p hb).1
  have G : Grow w w' g (g.back g1 w.heap.size τ.length) := by
    refine ⟨B.ext.os, B.ext.tape, B.ext.output, B.ext.size, fun b hb => (old b hb).1, fun b hb => ?_, fun b hb => ?_, fun b hb => ?_, fun r hr => ⟨hr, rfl, rfl, rfl⟩, fun b p hb hp => ?_, fun b hb => ?_⟩
    · simp only [Gh.back]; rw [if_pos hb]
    · simp only [Gh.back]; rw [if_pos hb]
    · simp only [Gh.back]; rw [if_pos hb]
    · simp only [Gh.back] at hp ⊢
      rw [if_neg (by omega)] at hp ⊢
      obtain ⟨p', h1, h2⟩ := bind_some' hp
      obtain ⟨h3, h4⟩ := B.s.own b p' h1
      split at h2 <;> cases h2
      rename_i hres
      obtain ⟨k, rfl⟩ := res_of hres
      exact ⟨h3, h4, fun e => by cases e⟩
    · have hs := B.ext.size
      obtain ⟨h1, h2⟩ := B.s.fresh b hb
      simp only [Gh.back]
      rw [if_neg (by omega), if_neg (by omega)]
      exact ⟨h1, h2⟩
  refine ⟨v, rfl, g.back g1 w.heap.size τ.length, G.ext h.s, G.relA h (fun r => Iff.rfl), ?_⟩
  show RelD w' _ (.tmp τ.length) r v
  cases hrow : anyRow ds with
  | true => exact flatR_rel B.r (hflat hrow)
  | false =>
    have hLg := hL4 hrow
    have h1 : RelD w' (g1.mv (moveRes τ.length)) (.tmp τ.length) r v := B.r.mv (fun k => rfl) rfl
    refine h1.mono ⟨fun _ _ _ => rfl, fun b => ?_⟩ (fun b hb => ?_) (fun b k hb => ?_) (fun r hr => ?_)
    · show g1.L b ≤ _
      simp only [Gh.back]
      by_cases hb : b < w.heap.size
      · rw [if_pos hb, (old b hb).2.1, hLg]; exact Nat.le_refl _
      · rw [if_neg hb]; exact Nat.le_refl _
    · simp only [Gh.mv, Option.map_eq_some_iff] at hb
      obtain ⟨p', h1, h2⟩ := hb
      rcases B.own b p' h1 with h3 | h3
      · obtain ⟨r, i, j, rfl⟩ := cell_of h3; cases h2
      · obtain ⟨k, rfl⟩ := res_of h3; cases h2
    · simp only [Gh.mv, Option.map_eq_some_iff] at hb
      obtain ⟨p', h1, h2⟩ := hb
      have hge := gsz b p' h1
      refine ⟨?_, ?_, fun _ => ⟨id, id⟩⟩
      · simp only [Gh.back]
        rw [if_neg hge, h1]
        rcases B.own b p' h1 with h3 | h3
        · obtain ⟨r, i, j, rfl⟩ := cell_of h3; cases h2
        · simp only [Option.bind, h3, if_true]; rw [h2]
      · show (g.back g1 w.heap.size τ.length).L b = g1.L b
        simp only [Gh.back]; rw [if_neg hge]
    · have : g1.live r := hr
      obtain ⟨b, hb⟩ := (B.s.live r).1 this
      simp [getB] at hb
end
end Go.Q
