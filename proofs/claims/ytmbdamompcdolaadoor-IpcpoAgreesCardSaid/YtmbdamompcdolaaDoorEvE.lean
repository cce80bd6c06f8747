/- Copies, cells, places: small laws of the relation between the abstract machine's data and memory. No condition. -/
import Derived.Test.YtmbdamompcdolaaDoorEvC
set_option linter.unusedVariables false
set_option linter.unusedSimpArgs false
namespace Go.Q

theorem allV_map : ∀ (xs : List V), allV (xs.map .v) = some xs
  | [] => rfl
  | x :: xs => by simp [allV, allV_map xs]
theorem allV_some : ∀ {ds : List D} {xs : List V}, allV ds = some xs → ds = xs.map .v
  | [], xs, h => by simp [allV] at h; subst h; rfl
  | d :: r, xs, h => by
    cases d <;> simp only [allV] at h <;> first | (cases h; done) | skip
    obtain ⟨ys, h1, rfl⟩ := map_some' h
    simp [allV_some h1]
theorem cellsOf_v (x : V) : cellsOf (.v x) = (cellsV x).map .v := by cases x <;> rfl
theorem mkAgg_map (xs : List V) : mkAgg (xs.map .v) = .v (.agg xs) := by simp [mkAgg, mkAgg1, allV_map]

section
variable {w : World} {g : Gh}

theorem RelD.place {pl pl' : Nat → Pl} {d : D} {v : Value} (h : RelD w g pl d v) (hc : d.isCell = true) (h0 : pl 0 = pl' 0) : RelD w g pl' d v := by
  cases h <;> first
    | (simp [D.isCell] at hc; done)
    | skip
  case v x h => exact .v _ _ _ h
  case nils z => exact .nils _ z
  case lin z xs h hs => exact .lin _ z xs _ h (h0 ▸ hs)
  case own r z off len x c ad hl hc' hz ha => exact .own _ r z off len x c ad hl hc' hz ha
  case arr r i off len c ad hl hc' ha => exact .arr _ r i off len c ad hl hc' ha
  case ptr r i off hl => exact .ptr _ r i off hl
  case va cs off b o f h1 h2 h3 h4 => exact .va _ cs off b o f h1 h2 h3 h4
  case map r hl => exact .map _ r hl
  case clo f fs cs vf vc h1 h2 h3 h4 => exact .clo _ f fs cs vf vc h1 h2 h3 h4
  case ifc t d v h => exact .ifc _ t d v h

theorem RelD.cp1 {pl pl' : Nat → Pl} {d : D} {v : Value} (h : RelD w g pl d v) (hc : d.isCell = true) : RelD w g pl' (cp1 d) v ∧ (Q.cp1 d).isCell = true := by
  cases h <;> first
    | (simp [D.isCell] at hc; done)
    | skip
  case v x h => exact ⟨.v _ _ _ h, hc⟩
  case nils z => exact ⟨.nils _ z, rfl⟩
  case lin z xs h hs => exact ⟨.v _ _ _ h, rfl⟩
  case own r z off len x c ad hl hc' hz ha => exact ⟨.own _ r z off len x c ad hl hc' hz ha, rfl⟩
  case arr r i off len c ad hl hc' ha => exact ⟨.arr _ r i off len c ad hl hc' ha, rfl⟩
  case ptr r i off hl => exact ⟨.ptr _ r i off hl, rfl⟩
  case va cs off b o f h1 h2 h3 h4 => exact ⟨.va _ cs off b o f h1 h2 h3 h4, rfl⟩
  case map r hl => exact ⟨.map _ r hl, rfl⟩
  case clo f fs cs vf vc h1 h2 h3 h4 => exact ⟨.clo _ f fs cs vf vc h1 h2 h3 h4, rfl⟩
  case ifc t d v h => exact ⟨.ifc _ t d v h, rfl⟩

theorem RelD.toV {pl : Nat → Pl} {x : V} {v : Value} (h : RelD w g pl (.v x) v) : RelV w g.L x v := by cases h; assumption

theorem mkAgg_rel {pl : Nat → Pl} {ds : List D} {cs : Array Value} (hl : ds.length = cs.size) (hk : ∀ i (h : i < ds.length), ds[i].isCell = true)
    (hr : ∀ i (h : i < ds.length), RelD w g (fun _ => pl i) ds[i] (cs[i]'(hl ▸ h))) : RelD w g pl (mkAgg ds) (.agg cs) := by
  unfold mkAgg
  cases h : allV ds with
  | none => exact .agg pl ds cs hl hk hr
  | some xs =>
    obtain rfl := allV_some h
    refine .v _ _ _ (.agg xs cs (by simpa using hl) (fun i hi => ?_) (fun i hi => ?_))
    · have := hk i (by simpa using hi)
      simpa [D.isCell] using this
    · have := hr i (by simpa using hi)
      simp only [List.getElem_map] at this
      exact this.toV

theorem RelD.cpA {pl pl' : Nat → Pl} {d : D} {v : Value} (h : RelD w g pl d v) : RelD w g pl' (cpA d) v := by
  by_cases hc : d.isCell = true
  · have := (h.cp1 (pl' := pl') hc).1
    cases d <;> first | exact this | (simp [D.isCell] at hc; done)
  · cases h <;> first | (simp [D.isCell] at hc; done) | skip
    case v x h => exact .v _ _ _ h
    case agg ds cs hl hk hr =>
      refine mkAgg_rel (by simpa using hl) (fun i hi => ?_) (fun i hi => ?_)
      · simp only [List.getElem_map]; exact ((hr i (by simpa using hi)).cp1 (pl' := pl') (hk i (by simpa using hi))).2
      · simp only [List.getElem_map]; exact ((hr i (by simpa using hi)).cp1 (hk i (by simpa using hi))).1
    case tup ds cs hl hr => exact .undef _ _
    case undef => exact .undef _ _

theorem RelD.cp {pl pl' : Nat → Pl} {d : D} {v : Value} (h : RelD w g pl d v) : RelD w g pl' (cp d) v := by
  cases d with
  | tup ds =>
    cases h
    case tup cs hl hr =>
      exact .tup _ _ _ (by simpa using hl) (fun i hi => by simp only [List.getElem_map]; exact (hr i (by simpa using hi)).cpA)
  | _ => exact h.cpA

/-- one cell -/
theorem RelD.one {pl : Nat → Pl} {d : D} {v : Value} (h : RelD w g pl d v) (hc : d.isCell = true) : v.oneCell' = true := by
  cases h <;> first
    | rfl
    | (simp [D.isCell] at hc; done)
    | skip
  case v x h => cases h <;> first | rfl | (simp [D.isCell, V.isCell] at hc; done)
  case lin z xs h hs => cases h <;> rfl
theorem RelV.one {L : Nat → Nat} {x : V} {v : Value} (h : RelV w L x v) (hc : x.isCell = true) : v.oneCell' = true := by
  cases h <;> first | rfl | (simp [V.isCell] at hc; done)
theorem cells_one {v : Value} (h : v.oneCell' = true) : v.cells = #[v] := by cases v <;> first | rfl | (simp [Value.oneCell'] at h; done)

/-- the cells of what may lie in cells -/
theorem RelD.cells {pl : Nat → Pl} {d : D} {v : Value} (h : RelD w g pl d v) (hg : goodD d = true) :
    ∃ hl : (cellsOf d).length = v.cells.size, ∀ i (hi : i < (cellsOf d).length), (cellsOf d)[i].isCell = true ∧ RelD w g (fun _ => pl i) (cellsOf d)[i] (v.cells[i]'(hl ▸ hi)) := by
  by_cases hc : d.isCell = true
  · have h1 : cellsOf d = [d] := by
      cases d <;> first | rfl | (simp [D.isCell] at hc; done) | skip
      rename_i x; cases x <;> first | rfl | (simp [D.isCell, V.isCell] at hc; done)
    have h2 := cells_one (h.one hc)
    refine ⟨by simp [h1, h2], fun i hi => ?_⟩
    have hi0 : i = 0 := by simp [h1] at hi; exact hi
    subst hi0
    simp only [h1, h2, List.getElem_cons_zero]
    exact ⟨hc, h.place hc rfl⟩
  · cases h <;> first | (simp [D.isCell] at hc; done) | (simp [goodD] at hg; done) | skip
    case v x h =>
      cases h <;> first | (simp [D.isCell, V.isCell] at hc; done) | skip
      case agg xs cs hl hk hr =>
        refine ⟨by simp [cellsOf, Value.cells, hl], fun i hi => ?_⟩
        have hi' : i < xs.length := by simpa [cellsOf] using hi
        simp only [cellsOf, List.getElem_map, Value.cells]
        exact ⟨by simpa [D.isCell] using hk i hi', .v _ _ _ (hr i hi')⟩
    case agg ds cs hl hk hr => exact ⟨hl, fun i hi => ⟨hk i hi, hr i hi⟩⟩
end

/-! ### Places -/
/-- A value goes to another place. -/
def Gh.mv (g : Gh) (f : Pl → Pl) : Gh := { g with own := fun b => (g.own b).map f }
theorem Gh.mv_own {g : Gh} {f : Pl → Pl} {b : Nat} {p : Pl} (h : g.own b = some p) : (g.mv f).own b = some (f p) := by simp [Gh.mv, h]
theorem RelV.mv {w : World} {g : Gh} {f : Pl → Pl} {x : V} {v : Value} (h : RelV w g.L x v) : RelV w (g.mv f).L x v := h
theorem RelD.mv {w : World} {g : Gh} {f : Pl → Pl} {pl pl' : Nat → Pl} {d : D} {v : Value} (h : RelD w g pl d v) (hf : ∀ k, f (pl k) = pl' k) (hn : f .nil = .nil) :
    RelD w (g.mv f) pl' d v := by
  induction h generalizing pl' with
  | v pl x v h => exact .v _ x v h
  | nils pl z => exact .nils _ z
  | lin pl z xs v h hs =>
    refine .lin _ z xs v h ?_
    cases v <;> first | exact hs.elim | skip
    rename_i a n c
    rcases hs with hs | ⟨b, o, h1, h2, h3⟩
    · exact .inl hs
    · exact .inr ⟨b, o, h1, by rw [Gh.mv_own h2, hf 0], h3⟩
  | own pl r z off len x c ad hl hc hz ha => exact .own _ r z off len x c ad hl hc hz ha
  | arr pl r i off len c ad hl hc ha => exact .arr _ r i off len c ad hl hc ha
  | ptr pl r i off hl => exact .ptr _ r i off hl
  | va pl cs off b o f h1 h2 h3 h4 => exact .va _ cs off b o f h1 h2 h3 h4
  | map pl r hl => exact .map _ r hl
  | clo pl f fs cs vf vc h1 h2 _ _ ih1 ih2 => exact .clo _ f fs cs vf vc h1 h2 (fun i hi => ih1 i hi fun _ => hn) (fun i hi => ih2 i hi fun _ => hn)
  | ifc pl t d v h ih => exact .ifc _ t d v (ih fun _ => hn)
  | agg pl ds cs hl hk hr ih => exact .agg _ ds cs hl hk (fun i hi => ih i hi fun _ => hf i)
  | tup pl ds cs hl hr ih => exact .tup _ ds cs hl (fun i hi => ih i hi fun _ => hf i)
  | undef pl v => exact .undef _ v
end Go.Q
