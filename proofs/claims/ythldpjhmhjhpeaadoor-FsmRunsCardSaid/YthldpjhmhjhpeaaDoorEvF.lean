/- Literals and new rows: what the abstract machine tells of them holds. No condition. -/
import Derived.Test.YthldpjhmhjhpeaaDoorEvZ
import Derived.Laws.IdiomStrings
set_option linter.unusedVariables false
set_option linter.unusedSimpArgs false
set_option linter.unusedSectionVars false
namespace Go.Q
variable [Known]
section
variable {P : Program} {w : World} {g : Gh}

/-! ### The parts of a literal -/
theorem foldl_put (off : Nat) : ∀ (l : List Value) (k : Nat) (cells : Array Value),
    ((l.zipIdx k).foldl (fun cs (q : Value × Nat) => cs.setIfInBounds (off + q.2) q.1) cells).size = cells.size ∧
    ∀ i, ((l.zipIdx k).foldl (fun cs (q : Value × Nat) => cs.setIfInBounds (off + q.2) q.1) cells)[i]? =
      if off + k ≤ i ∧ i < off + k + l.length ∧ i < cells.size then l[i - (off + k)]? else cells[i]?
  | [], k, cells => ⟨rfl, fun i => by rw [if_neg (by simp; omega)]; rfl⟩
  | v :: l, k, cells => by
    obtain ⟨h1, h2⟩ := foldl_put off l (k + 1) (cells.setIfInBounds (off + k) v)
    simp only [List.zipIdx_cons, List.foldl_cons]
    refine ⟨by rw [h1]; simp, fun i => ?_⟩
    rw [h2 i]
    simp only [Array.size_setIfInBounds, List.length_cons]
    by_cases hi : i = off + k
    · subst hi
      rw [if_neg (by omega)]
      by_cases hlt : off + k < cells.size
      · rw [if_pos (by omega)]
        simp [Array.getElem?_setIfInBounds, hlt]
      · rw [if_neg (by omega)]
        simp [Array.getElem?_setIfInBounds, hlt]
    · by_cases hc : off + (k + 1) ≤ i ∧ i < off + (k + 1) + l.length ∧ i < cells.size
      · rw [if_pos hc, if_pos (by omega)]
        obtain ⟨m, hm⟩ : ∃ m, i - (off + k) = m + 1 := ⟨i - (off + k) - 1, by omega⟩
        rw [hm, List.getElem?_cons_succ]
        congr 1
        omega
      · rw [if_neg hc, if_neg (by omega)]
        rw [Array.getElem?_setIfInBounds_ne (by omega)]

/-- cells of the abstract machine, and of memory's -/
def RelCs (w : World) (g : Gh) (cs : List D) (vs : Array Value) : Prop :=
  cs.length = vs.size ∧ ∀ i (h : i < cs.length), cs[i].isCell = true ∧ ∃ v, vs[i]? = some v ∧ ∀ pl, RelD w g pl cs[i] v
inductive RelPs (w : World) (g : Gh) (pl : Nat → Option (Nat × Nat)) : List (Nat × Nat × D) → List (Nat × Value) → Prop
  | nil : RelPs w g pl [] []
  | cons (i off sz d v ds vs) (hp : pl i = some (off, sz)) (h : ∀ p, RelD w g p d v) (hr : RelPs w g pl ds vs) : RelPs w g pl ((off, sz, d) :: ds) ((i, v) :: vs)

theorem putAt_len (cs new : List D) (off : Nat) (h : off + new.length ≤ cs.length) : (putAt cs off new).length = cs.length := by
  simp [putAt]; omega
theorem putAt_get (cs new : List D) (off : Nat) (h : off + new.length ≤ cs.length) (i : Nat) :
    (putAt cs off new)[i]? = if off ≤ i ∧ i < off + new.length then new[i - off]? else cs[i]? := by
  simp only [putAt]
  by_cases h1 : i < off
  · rw [if_neg (by omega), List.append_assoc, List.getElem?_append_left (by simp; omega), List.getElem?_take_of_lt h1]
  · by_cases h2 : i < off + new.length
    · rw [if_pos (by omega), List.getElem?_append_left (by simp; omega), List.getElem?_append_right (by simp; omega)]
      congr 1
      simp; omega
    · rw [if_neg (by omega), List.getElem?_append_right (by simp; omega), List.getElem?_drop]
      congr 1
      simp; omega

theorem fill_ok {pl : Nat → Option (Nat × Nat)} {ps : List (Nat × Nat × D)} {vs : List (Nat × Value)} (hps : RelPs w g pl ps vs) : ∀ {cs cs' : List D} {cells : Array Value}, RelCs w g cs cells → fillD cs ps = some cs' →
    ∃ cells', Instr.fill pl cells vs = some cells' ∧ RelCs w g cs' cells' := by
  induction hps with
  | nil =>
    intro cs cs' cells hc h
    simp only [fillD] at h; cases h
    exact ⟨cells, rfl, hc⟩
  | cons i off sz d v ds vs hp hd hr ih =>
    intro cs cs' cells hc h
    simp only [fillD] at h
    split at h <;> first | (cases h; done) | skip
    rename_i hcond
    obtain ⟨h1, h2, h3⟩ := hcond
    obtain ⟨hl, hcell⟩ := (hd (fun _ => .nil)).cells h3
    have hsz : v.cells.size = sz := by rw [← hl]; exact h1
    obtain ⟨hcl, hcc⟩ := hc
    have hnew : RelCs w g (putAt cs off (cellsOf d)) (v.cells.zipIdx.foldl (fun cs (q : Value × Nat) => cs.setIfInBounds (off + q.2) q.1) cells) := by
      have e : v.cells.zipIdx.foldl (fun cs (q : Value × Nat) => cs.setIfInBounds (off + q.2) q.1) cells = (v.cells.toList.zipIdx 0).foldl (fun cs (q : Value × Nat) => cs.setIfInBounds (off + q.2) q.1) cells := by
        rw [← Array.foldl_toList]; simp
      rw [e]
      obtain ⟨f1, f2⟩ := foldl_put off v.cells.toList 0 cells
      refine ⟨by rw [putAt_len _ _ _ (by omega), f1]; exact hcl, fun j hj => ?_⟩
      have hj' : j < cs.length := by rwa [putAt_len _ _ _ (by omega)] at hj
      have hg := putAt_get cs (cellsOf d) off (by omega) j
      rw [f2 j]
      by_cases hin : off ≤ j ∧ j < off + (cellsOf d).length
      · rw [if_pos hin] at hg
        rw [if_pos (by simp; omega)]
        have hk : j - off < (cellsOf d).length := by omega
        obtain ⟨hc1, hc2⟩ := hcell (j - off) hk
        have hget : (putAt cs off (cellsOf d))[j] = (cellsOf d)[j - off] := by
          rw [List.getElem?_eq_getElem hj, List.getElem?_eq_getElem hk] at hg; exact Option.some.inj hg
        rw [hget]
        refine ⟨hc1, _, by rw [Nat.add_zero, List.getElem?_eq_getElem (by simp; omega)], fun p => ?_⟩
        obtain ⟨_, h5⟩ := (hd p).cells h3
        have := (h5 (j - off) hk).2
        -- the cell, whatever the place
        obtain ⟨_, h6⟩ := (hd (fun _ => p 0)).cells h3
        have h7 := (h6 (j - off) hk).2.place hc1 (pl' := p) rfl
        simpa using h7
      · rw [if_neg hin] at hg
        rw [if_neg (by simp; omega)]
        have hget : (putAt cs off (cellsOf d))[j] = cs[j] := by
          rw [List.getElem?_eq_getElem hj, List.getElem?_eq_getElem hj'] at hg; exact Option.some.inj hg
        rw [hget]
        exact hcc j hj'
    obtain ⟨cells', h6, h7⟩ := ih hnew h
    refine ⟨cells', ?_, h7⟩
    simp only [Instr.fill, hp]
    rw [if_neg]
    · exact h6
    · simp only [hsz, ne_eq, not_true_eq_false, decide_false, Bool.false_or, decide_eq_true_eq]
      omega

theorem mkAgg_free {cs : List D} {vs : Array Value} (h : RelCs w g cs vs) (pl : Nat → Pl) : RelD w g pl (mkAgg cs) (.agg vs) := by
  obtain ⟨h1, h2⟩ := h
  refine mkAgg_rel h1 (fun i hi => (h2 i hi).1) (fun i hi => ?_)
  obtain ⟨v, h3, h4⟩ := (h2 i hi).2
  obtain ⟨_, rfl⟩ := Array.getElem?_eq_some_iff.1 h3
  exact h4 _

theorem chkZ_rel : ∀ {vs : List Value} {ds : List D}, chkZ vs ds = true → RelCs w g ds vs.toArray
  | [], [], _ => ⟨rfl, fun i h => by simp at h⟩
  | [], _ :: _, h => by simp [chkZ] at h
  | _ :: _, [], h => by simp [chkZ] at h
  | v :: vs, d :: ds, h => by
    simp only [chkZ, Bool.and_eq_true] at h
    obtain ⟨h1, h2⟩ := chkZ_rel h.2
    refine ⟨by simpa using h1, fun i hi => ?_⟩
    cases i with
    | zero =>
      refine ⟨?_, v, rfl, fun pl => chkC_rel h.1 pl⟩
      have := h.1
      unfold chkC at this
      split at this <;> first | rfl | cases this
    | succ i =>
      obtain ⟨h3, v', h4, h5⟩ := h2 i (by simpa using hi)
      exact ⟨h3, v', by simpa using h4, h5⟩

theorem ps_rel {μ τ env ts st} {a : Act} (h : RelA w g μ τ env ts st a.tmps) {pl : Nat → Option (Nat × Nat)} : ∀ {xs : List (Nat × Operand)} {ys : List (Nat × Nat × Opd)}, chkPs μ τ pl xs ys = true →
    RelPs w g pl (ys.map fun p => (p.1, p.2.1, rd env ts p.2.2)) (xs.map fun (i, x) => (i, a.eval x))
  | [], [], _ => .nil
  | [], _ :: _, h => by simp [chkPs] at h
  | _ :: _, [], h => by simp [chkPs] at h
  | (i, x) :: xs, (o, s, y) :: ys, hc => by
    simp only [chkPs, Bool.and_eq_true] at hc
    obtain ⟨⟨h1, h2⟩, h3⟩ := hc
    obtain ⟨q, hq, h1⟩ := of_orF h1
    simp at h1
    refine .cons i o s _ _ _ _ (by rw [hq, ← h1.1, ← h1.2]) (fun p => rd_rel h h2 p) (ps_rel h h3)

theorem mapM_run {α β : Type} (F : α → Sem β) (k : α → β) (w : World) : ∀ (l : List α), (∀ x ∈ l, (F x).run P w = .ok (k x) w) → (l.mapM F).run P w = .ok (l.map k) w
  | [], _ => rfl
  | x :: l, h => by
    rw [List.mapM_cons, Sem.run_bind, h x (by simp), Result.andThen_ok, Sem.run_bind, mapM_run F k w l (fun y hy => h y (by simp [hy]))]
    rfl
theorem fields_run {fs : Array Field} (h : fieldsOk P fs = true) (w : World) : (fs.mapM (m := Sem) fun f => do pure (f.offset, ← sizeOf f.type)).run P w = .ok (fs.map fun f => (f.offset, (szT P f.type).getD 0)) w := by
  rw [Array.mapM_eq_mapM_toList, Sem.run_map, mapM_run _ (fun f => (f.offset, (szT P f.type).getD 0)) w]
  · simp only [Result.andThen_ok]; congr 1; apply Array.ext'; simp
  · intro f hf
    simp only [fieldsOk, List.all_eq_true] at h
    obtain ⟨i, hi⟩ := Option.isSome_iff_exists.1 (h f hf)
    have hs : szT P f.type = some i.size := by simp [szT, hi]
    rw [Sem.run_bind, sizeOf_run hs, hs]
    rfl

theorem build_ok {μ τ env ts st} {a : Act} (h : RelA w g μ τ env ts st a.tmps) {t : TypeId} {parts : Array (Nat × Operand)} {zs : List D} {ps : List (Nat × Nat × Opd)} {cs : List D} {zv : Value}
    (hz : zeroT P t = some zv) (hzs : chkZ zv.cells.toList zs = true) (hc : fillD zs (ps.map fun p => (p.1, p.2.1, rd env ts p.2.2)) = some cs)
    (hp : (∃ fs, uStruct P t = some fs ∧ fieldsOk P fs = true ∧ chkPs μ τ (plStruct P fs) parts.toList ps = true) ∨
      (∃ q s, uArr P t = some q ∧ szT P q.2 = some s ∧ chkPs μ τ (fun i => some (i * s, s)) parts.toList ps = true)) :
    ∃ r, (Instr.build t (parts.map fun (i, x) => (i, a.eval x))).run P w = .ok r w ∧ ∀ pl, RelD w g pl (mkAgg cs) r := by
  obtain ⟨inf, hi, hzv⟩ := of_zeroT P hz
  have hZ := chkZ_rel (w := w) (g := g) hzs
  have el : (parts.map fun (i, x) => (i, a.eval x)).toList = parts.toList.map fun (i, x) => (i, a.eval x) := by simp
  rcases hp with ⟨fs, h1, h2, h3⟩ | ⟨q, s, h1, h2, h3⟩
  · obtain ⟨cells', h4, h5⟩ := fill_ok (ps_rel h h3) hZ hc
    have hu := of_uStruct P h1
    refine ⟨.agg cells', ?_, mkAgg_free h5⟩
    have e : (fun i => (fs.map fun f => (f.offset, (szT P f.type).getD 0))[i]?) = plStruct P fs := by
      funext i
      simp only [plStruct, Array.getElem?_map]
      cases hf : fs[i]? with
      | none => rfl
      | some f =>
        have : (P.info? f.type).isSome = true := by
          simp only [fieldsOk, List.all_eq_true] at h2
          exact h2 f (by simpa using Array.mem_of_getElem? hf)
        obtain ⟨inf', hi'⟩ := Option.isSome_iff_exists.1 this
        simp [szT, hi']
    simp only [Instr.build, Sem.run_bind, zeroValue, typeInfo, run_program, Result.andThen_ok, hi, Sem.run_pure, hzv, run_underlying hu, fields_run h2, el]
    rw [e]
    simp only [Array.toArray_toList] at h4
    rw [h4]
    rfl
  · obtain ⟨cells', h4, h5⟩ := fill_ok (ps_rel h h3) hZ hc
    have hu := of_uArr P h1
    refine ⟨.agg cells', ?_, mkAgg_free h5⟩
    simp only [Instr.build, Sem.run_bind, zeroValue, typeInfo, run_program, Result.andThen_ok, hi, Sem.run_pure, hzv, run_underlying hu, sizeOf_run h2, el]
    simp only [Array.toArray_toList] at h4
    rw [h4]
    rfl
end
end Go.Q
