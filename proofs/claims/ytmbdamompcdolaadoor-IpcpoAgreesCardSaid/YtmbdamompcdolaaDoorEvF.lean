/- Literals and new rows: what the abstract machine tells of them holds. No condition. -/
import Derived.Test.YtmbdamompcdolaaDoorEvX
import Derived.Laws.IdiomStrings
set_option linter.unusedVariables false
set_option linter.unusedSimpArgs false
set_option linter.unusedSectionVars false
namespace Go.Q
variable [Known]
section
variable {P : Program} {w : World} {g : Gh}

/-! ### The parts of a literal -/
theorem foldl_put (off : Nat) : ∀ (l : List Value) (k : Nat) (cells : Array Value),
    ((l.zipIdx k).foldl (fun cs (q : Value × Nat) => cs.setIfInBounds (off + q.2) q.1) cells).size = cells.size ∧
    ∀ i, ((l.zipIdx k).foldl (fun cs (q : Value × Nat) => cs.setIfInBounds (off + q.2) q.1) cells)[i]? =
      if off + k ≤ i ∧ i < off + k + l.length ∧ i < cells.size then l[i - (off + k)]? else cells[i]?
  | [], k, cells => ⟨rfl, fun i => by rw [if_neg (by simp; omega)]; rfl⟩
  | v :: l, k, cells => by
    obtain ⟨h1, h2⟩ := foldl_put off l (k + 1) (cells.setIfInBounds (off + k) v)
    simp only [List.zipIdx_cons, List.foldl_cons]
    refine ⟨by rw [h1]; simp, fun i => ?_⟩
    rw [h2 i]
    simp only [Array.size_setIfInBounds, List.length_cons]
    by_cases hi : i = off + k
    · subst hi
      rw [if_neg (by omega)]
      by_cases hlt : off + k < cells.size
      · rw [if_pos (by omega)]
        simp [Array.getElem?_setIfInBounds, hlt]
      · rw [if_neg (by omega)]
        simp [Array.getElem?_setIfInBounds, hlt]
    · by_cases hc : off + (k + 1) ≤ i ∧ i < off + (k + 1) + l.length ∧ i < cells.size
      · rw [if_pos hc, if_pos (by omega)]
        obtain ⟨m, hm⟩ : ∃ m, i - (off + k) = m + 1 := ⟨i - (off + k) - 1, by omega⟩
        rw [hm, List.getElem?_cons_succ]
        congr 1
        omega
      · rw [if_neg hc, if_neg (by omega)]
        rw [Array.getElem?_setIfInBounds_ne (by omega)]

/-- cells of the abstract machine, and of memory's -/
def RelCs (w : World) (g : Gh) (cs : List D) (vs : Array Value) : Prop :=
  cs.length = vs.size ∧ ∀ i (h : i < cs.length), cs[i].isCell = true ∧ ∃ v, vs[i]? = some v ∧ ∀ pl, RelD w g pl cs[i] v
inductive RelPs (w : World) (g : Gh) (pl : Nat → Option (Nat × Nat)) : List (Nat × Nat × D) → List (Nat × Value) → Prop
  | nil : RelPs w g pl [] []
  | cons (i off sz d v ds vs) (hp : pl i = some (off, sz)) (h : ∀ p, RelD w g p d v) (hr : RelPs w g pl ds vs) : RelPs w g pl ((off, sz, d) :: ds) ((i, v) :: vs)

theorem putAt_len (cs new : List D) (off : Nat) (h : off + new.length ≤ cs.length) : (putAt cs off new).length = cs.length := by
  simp [putAt]; omega
theorem putAt_get (cs new : List D) (off : Nat) (h : off + new.length ≤ cs.length) (i : Nat) :
    (putAt cs off new)[i]? = if off ≤ i ∧ i < off + new.length then new[i - off]? else cs[i]? := by
  simp only [putAt]
  by_cases h1 : i < off
  · rw [if_neg (by omega), List.append_assoc, List.getElem?_append_left (by simp; omega), List.getElem?_take_of_lt h1]
  · by_cases h2 : i < off + new.length
    · rw [if_pos (by omega), List.getElem?_append_left (by simp; omega), List.getElem?_append_right (by simp; omega)]
      congr 1
      simp; omega
    · rw [if_neg (by omega), List.getElem?_append_right (by simp; omega), List.getElem?_drop]
      congr 1
      simp; omega

theorem fill_ok {pl : Nat → Option (Nat × Nat)} {ps : List (Nat × Nat × D)} {vs : List (Nat × Value)} (hps : RelPs w g pl ps vs) : ∀ {cs cs' : List D} {cells : Array Value}, RelCs w g cs cells → fillD cs ps = some cs' →
    ∃ cells', Instr.fill pl cells vs = some cells' ∧ RelCs w g cs' cells' := by
  induction hps with
  | nil =>
    intro cs cs' cells hc h
    simp only [fillD] at h; cases h
    exact ⟨cells, rfl, hc⟩
  | cons i off sz d v ds vs hp hd hr ih =>
    intro cs cs' cells hc h
    simp only [fillD] at h
    split at h <;> first | (cases h; done) | skip
    rename_i hcond
    obtain ⟨h1, h2, h3⟩ := hcond
    obtain ⟨hl, hcell⟩ := (hd (fun _ => .nil)).cells h3
    have hsz : v.cells.size = sz := by rw [← hl]; exact h1
    obtain ⟨hcl, hcc⟩ := hc
    have hnew : RelCs w g (putAt cs off (cellsOf d)) (v.cells.zipIdx.foldl (fun cs (q : Value × Nat) => cs.setIfInBounds (off + q.2) q.1) cells) := by
      have e : v.cells.zipIdx.foldl (fun cs (q : Value × Nat) => cs.setIfInBounds (off + q.2) q.1) cells = (v.cells.toList.zipIdx 0).foldl (fun cs (q : Value × Nat) => cs.setIfInBounds (off + q.2) q.1) cells := by
        rw [← Array.foldl_toList]; simp
      rw [e]
      obtain ⟨f1, f2⟩ := foldl_put off v.cells.toList 0 cells
      refine ⟨by rw [putAt_len _ _ _ (by omega), f1]; exact hcl, fun j hj => ?_⟩
      have hj' : j < cs.length := by rwa [putAt_len _ _ _ (by omega)] at hj
      have hg := putAt_get cs (cellsOf d) off (by omega) j
      rw [f2 j]
      by_cases hin : off ≤ j ∧ j < off + (cellsOf d).length
      · rw [if_pos hin] at hg
        rw [if_pos (by simp; omega)]
        have hk : j - off < (cellsOf d).length := by omega
        obtain ⟨hc1, hc2⟩ := hcell (j - off) hk
        have hget : (putAt cs off (cellsOf d))[j] = (cellsOf d)[j - off] := by
          rw [List.getElem?_eq_getElem hj, List.getElem?_eq_getElem hk] at hg; exact Option.some.inj hg
        rw [hget]
        refine ⟨hc1, _, by rw [Nat.add_zero, List.getElem?_eq_getElem (by simp; omega)], fun p => ?_⟩
        obtain ⟨_, h5⟩ := (hd p).cells h3
        have := (h5 (j - off) hk).2
        -- the cell, whatever the place
        obtain ⟨_, h6⟩ := (hd (fun _ => p 0)).cells h3
        have h7 := (h6 (j - off) hk).2.place hc1 (pl' := p) rfl
        simpa using h7
      · rw [if_neg hin] at hg
        rw [if_neg (by simp; omega)]
        have hget : (putAt cs off (cellsOf d))[j] = cs[j] := by
          rw [List.getElem?_eq_getElem hj, List.getElem?_eq_getElem hj'] at hg; exact Option.some.inj hg
        rw [hget]
        exact hcc j hj'
    obtain ⟨cells', h6, h7⟩ := ih hnew h
    refine ⟨cells', ?_, h7⟩
    simp only [Instr.fill, hp]
    rw [if_neg]
    · exact h6
    · simp only [hsz, ne_eq, not_true_eq_false, decide_false, Bool.false_or, decide_eq_true_eq]
      omega

theorem mkAgg_free {cs : List D} {vs : Array Value} (h : RelCs w g cs vs) (pl : Nat → Pl) : RelD w g pl (mkAgg cs) (.agg vs) := by
  obtain ⟨h1, h2⟩ := h
  refine mkAgg_rel h1 (fun i hi => (h2 i hi).1) (fun i hi => ?_)
  obtain ⟨v, h3, h4⟩ := (h2 i hi).2
  obtain ⟨_, rfl⟩ := Array.getElem?_eq_some_iff.1 h3
  exact h4 _

theorem chkZ_rel : ∀ {vs : List Value} {ds : List D}, chkZ vs ds = true → RelCs w g ds vs.toArray
  | [], [], _ => ⟨rfl, fun i h => by simp at h⟩
  | [], _ :: _, h => by simp [chkZ] at h
  | _ :: _, [], h => by simp [chkZ] at h
  | v :: vs, d :: ds, h => by
    simp only [chkZ, Bool.and_eq_true] at h
    obtain ⟨h1, h2⟩ := chkZ_rel h.2
    refine ⟨by simpa using h1, fun i hi => ?_⟩
    cases i with
    | zero =>
      refine ⟨?_, v, rfl, fun pl => chkC_rel h.1 pl⟩
      have := h.1
      unfold chkC at this
      split at this <;> first | rfl | cases this
    | succ i =>
      obtain ⟨h3, v', h4, h5⟩ := h2 i (by simpa using hi)
      exact ⟨h3, v', by simpa using h4, h5⟩

theorem ps_rel {μ τ env ts st} {a : Act} (h : RelA w g μ τ env ts st a.tmps) {pl : Nat → Option (Nat × Nat)} : ∀ {xs : List (Nat × Operand)} {ys : List (Nat × Nat × Opd)}, chkPs μ τ pl xs ys = true →
    RelPs w g pl (ys.map fun p => (p.1, p.2.1, rd env ts p.2.2)) (xs.map fun (i, x) => (i, a.eval x))
  | [], [], _ => .nil
  | [], _ :: _, h => by simp [chkPs] at h
  | _ :: _, [], h => by simp [chkPs] at h
  | (i, x) :: xs, (o, s, y) :: ys, hc => by
    simp only [chkPs, Bool.and_eq_true] at hc
    obtain ⟨⟨h1, h2⟩, h3⟩ := hc
    obtain ⟨q, hq, h1⟩ := of_orF h1
    simp at h1
    refine .cons i o s _ _ _ _ (by rw [hq, ← h1.1, ← h1.2]) (fun p => rd_rel h h2 p) (ps_rel h h3)

theorem mapM_run {α β : Type} (F : α → Sem β) (k : α → β) (w : World) : ∀ (l : List α), (∀ x ∈ l, (F x).run P w = .ok (k x) w) → (l.mapM F).run P w = .ok (l.map k) w
  | [], _ => rfl
  | x :: l, h => by
    rw [List.mapM_cons, Sem.run_bind, h x (by simp), Result.andThen_ok, Sem.run_bind, mapM_run F k w l (fun y hy => h y (by simp [hy]))]
    rfl
theorem fields_run {fs : Array Field} (h : fieldsOk P fs = true) (w : World) : (fs.mapM (m := Sem) fun f => do pure (f.offset, ← sizeOf f.type)).run P w = .ok (fs.map fun f => (f.offset, (szT P f.type).getD 0)) w := by
  rw [Array.mapM_eq_mapM_toList, Sem.run_map, mapM_run _ (fun f => (f.offset, (szT P f.type).getD 0)) w]
  · simp only [Result.andThen_ok]; congr 1; apply Array.ext'; simp
  · intro f hf
    simp only [fieldsOk, List.all_eq_true] at h
    obtain ⟨i, hi⟩ := Option.isSome_iff_exists.1 (h f hf)
    have hs : szT P f.type = some i.size := by simp [szT, hi]
    rw [Sem.run_bind, sizeOf_run hs, hs]
    rfl

theorem build_ok {μ τ env ts st} {a : Act} (h : RelA w g μ τ env ts st a.tmps) {t : TypeId} {parts : Array (Nat × Operand)} {zs : List D} {ps : List (Nat × Nat × Opd)} {cs : List D} {zv : Value}
    (hz : zeroT P t = some zv) (hzs : chkZ zv.cells.toList zs = true) (hc : fillD zs (ps.map fun p => (p.1, p.2.1, rd env ts p.2.2)) = some cs)
    (hp : (∃ fs, uStruct P t = some fs ∧ fieldsOk P fs = true ∧ chkPs μ τ (plStruct P fs) parts.toList ps = true) ∨
      (∃ q s, uArr P t = some q ∧ szT P q.2 = some s ∧ chkPs μ τ (fun i => some (i * s, s)) parts.toList ps = true)) :
    ∃ r, (Instr.build t (parts.map fun (i, x) => (i, a.eval x))).run P w = .ok r w ∧ ∀ pl, RelD w g pl (mkAgg cs) r := by
  obtain ⟨inf, hi, hzv⟩ := of_zeroT P hz
  have hZ := chkZ_rel (w := w) (g := g) hzs
  have el : (parts.map fun (i, x) => (i, a.eval x)).toList = parts.toList.map fun (i, x) => (i, a.eval x) := by simp
  rcases hp with ⟨fs, h1, h2, h3⟩ | ⟨q, s, h1, h2, h3⟩
  · obtain ⟨cells', h4, h5⟩ := fill_ok (ps_rel h h3) hZ hc
    have hu := of_uStruct P h1
    refine ⟨.agg cells', ?_, mkAgg_free h5⟩
    have e : (fun i => (fs.map fun f => (f.offset, (szT P f.type).getD 0))[i]?) = plStruct P fs := by
      funext i
      simp only [plStruct, Array.getElem?_map]
      cases hf : fs[i]? with
      | none => rfl
      | some f =>
        have : (P.info? f.type).isSome = true := by
          simp only [fieldsOk, List.all_eq_true] at h2
          exact h2 f (by simpa using Array.mem_of_getElem? hf)
        obtain ⟨inf', hi'⟩ := Option.isSome_iff_exists.1 this
        simp [szT, hi']
    simp only [Instr.build, Sem.run_bind, zeroValue, typeInfo, run_program, Result.andThen_ok, hi, Sem.run_pure, hzv, run_underlying hu, fields_run h2, el]
    rw [e]
    simp only [Array.toArray_toList] at h4
    rw [h4]
    rfl
  · obtain ⟨cells', h4, h5⟩ := fill_ok (ps_rel h h3) hZ hc
    have hu := of_uArr P h1
    refine ⟨.agg cells', ?_, mkAgg_free h5⟩
    simp only [Instr.build, Sem.run_bind, zeroValue, typeInfo, run_program, Result.andThen_ok, hi, Sem.run_pure, hzv, run_underlying hu, sizeOf_run h2, el]
    simp only [Array.toArray_toList] at h4
    rw [h4]
    rfl
end
end Go.Q
set_option linter.unusedVariables false
set_option linter.unusedSimpArgs false
set_option linter.unusedSectionVars false
namespace Go.Q
variable [Known]
section
variable {P : Program} {w : World} {g : Gh} {μ : List Nat} {τ : List (Option Nat)} {env ts : List D} {st : St} {a : Act} {o : Oper}

theorem res_ok {v : Value} {w' : World} {Po : Value → World → Prop} (hr : (execOp a.eval o).run P w = .ok (.value v) w') (hp : Po v w') : OpRes P o a w Po := by
  unfold OpRes; rw [hr]; exact hp
theorem res_skip {w' : World} {Po : Value → World → Prop} (hr : (execOp a.eval o).run P w = .ok .skip w') (hp : Po undef w') : OpRes P o a w Po := by
  unfold OpRes; rw [hr]; exact hp
theorem run_v {s : Sem Value} {v : Value} {w' : World} (h : s.run P w = .ok v w') : ((do pure (.value (← s)) : Sem Next)).run P w = .ok (.value v) w' := by
  rw [Sem.run_bind, h]; rfl
theorem run_u {s : Sem Unit} {w' : World} (h : s.run P w = .ok () w') : ((do s; pure .skip : Sem Next)).run P w = .ok .skip w' := by
  rw [Sem.run_bind, h]; rfl

theorem RelA.mvA {f : Pl → Pl} (h : RelA w g μ τ env ts st a.tmps) (hS : RelS w (g.mv f) st) (hn : f .nil = .nil) (he : ∀ i, f (.env i) = .env i) (ht : ∀ j k, j < τ.length → f (.tmp j k) = .tmp j k) : RelA w (g.mv f) μ τ env ts st a.tmps where
  s := hS
  e := fun i t hi => (h.e i t hi).mv (fun _ => he i) hn
  t := fun j t hj => (h.t j t hj).mv (fun k => ht _ k (by have := idxOf_lt hj; omega)) hn

theorem getB_lvl : ∀ {st : St} {r : Ref} {b : Blk}, getB st r = some b → r.lvl < st.length
  | [], r, b, h => by simp [getB] at h
  | fr :: st, r, b, h => by
    rw [getB_cons] at h
    split at h
    · rename_i e; simp [e]
    · have := getB_lvl h; simp; omega
theorem refsBelows_of {n : Nat} : ∀ {ds : List D}, (∀ i (h : i < ds.length), refsBelow n ds[i] = true) → refsBelows n ds = true
  | [], _ => rfl
  | d :: r, h => by
    simp only [refsBelows, Bool.and_eq_true]
    exact ⟨h 0 (by simp), refsBelows_of fun i hi => h (i + 1) (by simpa using hi)⟩
theorem refsBelows_at {n : Nat} : ∀ {ds : List D}, refsBelows n ds = true → ∀ i (h : i < ds.length), refsBelow n ds[i] = true
  | [], _, i, h => by simp at h
  | d :: r, hr, i, h => by
    simp only [refsBelows, Bool.and_eq_true] at hr
    cases i with
    | zero => exact hr.1
    | succ i => exact refsBelows_at hr.2 i (by simpa using h)
theorem RelD.refs {pl : Nat → Pl} {d : D} {v : Value} {n : Nat} (h : RelD w g pl d v) (hn : ∀ r, g.live r → r.lvl < n) : refsBelow n d = true := by
  induction h with
  | v => rfl
  | nils => rfl
  | lin => rfl
  | own pl r z off len x c ad hl => simp only [refsBelow, decide_eq_true_eq]; exact hn r hl
  | arr pl r i off len c ad hl => simp only [refsBelow, decide_eq_true_eq]; exact hn r hl
  | ptr pl r i off hl => simp only [refsBelow, decide_eq_true_eq]; exact hn r hl
  | va => rfl
  | map pl r hl => simp only [refsBelow, decide_eq_true_eq]; exact hn r hl
  | clo pl f fs cs vf vc h1 h2 _ _ ih1 ih2 => simp only [refsBelow, Bool.and_eq_true]; exact ⟨refsBelows_of ih1, refsBelows_of ih2⟩
  | ifc pl t d v h ih => exact ih
  | agg pl ds cs hl hk hr ih => exact refsBelows_of ih
  | tup pl ds cs hl hr ih => exact refsBelows_of ih
  | undef => rfl
theorem refs_cells {n : Nat} {d : D} (h : refsBelow n d = true) : ∀ j (hj : j < (cellsOf d).length), refsBelow n (cellsOf d)[j] = true := by
  intro j hj
  cases d with
  | v x => simp only [cellsOf_v, List.getElem_map]; rfl
  | agg ds => exact refsBelows_at h j hj
  | _ =>
    obtain rfl : j = 0 := by simpa [cellsOf] using hj
    exact h

/-- a variable of its own, with a value whose right goes along -/
theorem box_core {d : D} {v : Value} {E : TypeId} {st' : St} {r0 : Ref} {env' ts' : List D} (h : RelA w g μ τ env' ts' st a.tmps) (hd : RelD w g (.tmp τ.length) d v) (hg : goodD d = true)
    (hr0 : getB st r0 = none) (hst : ∀ r, getB st' r = if r = r0 then some (.row [d]) else getB st r) (hb : refsBelow (r0.lvl + 1) d = true) :
    Post w g μ τ a.tmps (.ptr r0 0 0, env', ts', st') (.pointer (some ⟨w.heap.size, 0, none⟩)) (w.alloc (.cells v.cells E)) := by
  let f : Pl → Pl := fun p => match p with | .tmp b k => if b = τ.length then .cell r0 0 k else .tmp b k | p => p
  obtain ⟨hl, hc⟩ := hd.cells hg
  have hG := Gh.grow_blk (o := .cells v.cells E) (cellsOf d).length 1 h.s hr0
  have hS : RelS (w.alloc (.cells v.cells E)) ((g.blk r0 w.heap.size (cellsOf d).length 1).mv f) st' := by
    refine RelS.new_blk h.s hr0 hst rfl (fun p hp => by cases p <;> simp only [f] at hp <;> first | rfl | (cases hp; done) | (split at hp <;> cases hp)) (fun r i j => rfl) (fun i hi => ?_)
    obtain rfl : i = 0 := by simpa using hi
    refine ⟨rfl, fun j hj => ?_⟩
    obtain ⟨h1, h2⟩ := hc j hj
    refine ⟨h1, refs_cells hb j hj, v.cells[j]'(hl ▸ hj), _, ?_, h2, by simp [f]⟩
    rw [Nat.zero_mul, Nat.zero_add]
    exact Array.getElem?_eq_getElem _
  refine ⟨_, (hG.ext h.s).trans (Ext.mv f), ⟨hS, fun i t hi => ?_, fun j t hj => ?_⟩, ?_⟩
  · exact (hG.relD h.s (h.e i t hi)).mv (fun _ => rfl) rfl
  · have := idxOf_lt hj
    exact (hG.relD h.s (h.t j t hj)).mv (fun k => by
      have hne : ¬ τ.length - 1 - j = τ.length := by omega
      simp [f, hne]) rfl
  · have e1 : ((g.blk r0 w.heap.size (cellsOf d).length 1).mv f).be r0 = w.heap.size := by simp [Gh.blk, Gh.mv]
    have := RelD.ptr (w := w.alloc (.cells v.cells E)) (g := (g.blk r0 w.heap.size (cellsOf d).length 1).mv f) (.tmp τ.length) r0 0 0 (.inr rfl)
    rw [e1] at this
    simpa using this

theorem newVar_run (t : TypeId) (v : Value) : (newVar t v).run P w = .ok ⟨w.heap.size, 0, none⟩ (w.alloc (.cells v.cells t)) := rfl

theorem typeInfo_run {t : TypeId} {inf : TypeInfo} (hi : P.info? t = some inf) : (typeInfo t).run P w = .ok inf w := by
  simp only [typeInfo, Sem.run_bind, run_program, Result.andThen_ok, hi, Sem.run_pure]
theorem zeroV_run {t : TypeId} {zv : Value} (hz : zeroT P t = some zv) : (zeroValue t).run P w = .ok zv w := by
  obtain ⟨inf, hi, hzv⟩ := of_zeroT P hz
  simp only [zeroValue, Sem.run_bind, typeInfo_run hi, Result.andThen_ok, hzv, Sem.run_pure]

theorem box_ok (h : RelA w g μ τ env ts st a.tmps) (hts : ts.length = τ.length) {t : TypeId} {x : Operand} {esc : Bool} {y : Opd} {q : Rg} {R : Run} (hop : o.op = .box t x) (hc : chkO μ τ x y = true)
    (he : evOp R env ts st (.box esc y) = some q) (hlv : ∀ r, g.live r → r.lvl < st.length) : OpRes P o a w (Post w g μ τ a.tmps q) := by
  obtain ⟨f, h1, h2, h3, h4⟩ := take_rel h hts hc
  have run : (execOp a.eval o).run P w = .ok (.value (.pointer (some ⟨w.heap.size, 0, none⟩))) (w.alloc (.cells (a.eval x).cells t)) := by
    simp only [execOp, hop, Instr.box]
    exact run_v (by rw [Sem.run_bind, newVar_run]; rfl)
  have hext : Ext w w g (g.mv f) := Ext.mv f
  simp only [evOp] at he
  split at he <;> first | (cases he; done) | skip
  rename_i hg
  have hg : goodD (takeO env ts y).1 = true := by simpa using hg
  split at he
  · split at he <;> first | (cases he; done) | skip
    rename_i hb
    cases he
    obtain ⟨g', k1, k2, k3⟩ := box_core (E := t) h1 h2 hg (addBot_none st _) (getB_addBot st _) (by rw [(addBot_lvl st _).1]; simpa using hb)
    exact res_ok run ⟨g', hext.trans k1, k2, k3⟩
  · cases he
    have hl : ∀ r, g.live r → r.lvl < (addB st (.row [(takeO env ts y).1])).2.lvl + 1 := fun r hr => by
      have := hlv r hr
      cases st with
      | nil => simp at this
      | cons fr st => exact this
    obtain ⟨g', k1, k2, k3⟩ := box_core (E := t) h1 h2 hg (addB_none st _) (getB_addB st _) (h2.refs hl)
    exact res_ok run ⟨g', hext.trans k1, k2, k3⟩

/-- zero cells -/
theorem chkC_refs {v : Value} {d : D} (h : chkC v d = true) (n : Nat) : refsBelow n d = true := by
  unfold chkC at h
  split at h <;> first | rfl | cases h
theorem chkZ_refs : ∀ {vs : List Value} {ds : List D}, chkZ vs ds = true → ∀ n i (h : i < ds.length), refsBelow n ds[i] = true
  | [], [], _, n, i, h => by simp at h
  | [], _ :: _, h, _, _, _ => by simp [chkZ] at h
  | _ :: _, [], h, _, _, _ => by simp [chkZ] at h
  | v :: vs, d :: ds, h, n, i, hi => by
    simp only [chkZ, Bool.and_eq_true] at h
    cases i with
    | zero => exact chkC_refs h.1 n
    | succ i => exact chkZ_refs h.2 n i (by simpa using hi)

/-- blocks of zeros -/
theorem zeros_core {z : D} {zv : Value} {n : Nat} {C : Array Value} {E : TypeId} {st' : St} {r0 : Ref} (h : RelA w g μ τ env ts st a.tmps) (hz : chkZ zv.cells.toList (cellsOf z) = true)
    (hC : ∀ i j, i < n → j < zv.cells.size → C[i * zv.cells.size + j]? = zv.cells[j]?)
    (hr0 : getB st r0 = none) (hst : ∀ r, getB st' r = if r = r0 then some (.row (List.replicate n z)) else getB st r) :
    ∃ g', Ext w (w.alloc (.cells C E)) g g' ∧ RelA (w.alloc (.cells C E)) g' μ τ env ts st' a.tmps ∧ g'.live r0 ∧ g'.be r0 = w.heap.size ∧ g'.sz r0 = (cellsOf z).length ∧ g'.n r0 = n := by
  have hZ := chkZ_rel (w := w) (g := g) hz
  have hlen : (cellsOf z).length = zv.cells.size := by simpa using hZ.1
  have hG := Gh.grow_blk (o := .cells C E) (cellsOf z).length n h.s hr0
  have hmv : (g.blk r0 w.heap.size (cellsOf z).length n).mv id = g.blk r0 w.heap.size (cellsOf z).length n := by simp [Gh.mv]
  -- places: the cells of zeros hold no right
  have hS : RelS (w.alloc (.cells C E)) ((g.blk r0 w.heap.size (cellsOf z).length n).mv id) st' := by
    have hN : (List.replicate n z).length = n := by simp
    have := RelS.new_blk (cs := C) (E := E) (z := (cellsOf z).length) (f := id) h.s hr0 hst rfl (fun p hp => hp) (fun r i j => rfl) ?_
    rw [hN] at this; exact this
    intro i hi
    have hi' : i < n := by simpa using hi
    have e : (List.replicate n z)[i] = z := by simp
    rw [e]
    refine ⟨rfl, fun j hj => ?_⟩
    obtain ⟨h1, v, h2, h3⟩ := hZ.2 j hj
    refine ⟨h1, chkZ_refs hz _ j hj, v, fun _ => .cell r0 i j, ?_, h3 _, rfl⟩
    rw [hlen, hC i j hi' (by omega)]
    simpa using h2
  rw [hmv] at hS
  exact ⟨_, hG.ext h.s, ⟨hS, fun i t hi => hG.relD h.s (h.e i t hi), fun j t hj => hG.relD h.s (h.t j t hj)⟩, .inr rfl, by simp [Gh.blk], by simp [Gh.blk], by simp [Gh.blk]⟩

theorem alloc_ok (h : RelA w g μ τ env ts st a.tmps) {t : TypeId} {esc : Bool} {z : D} {q : Rg} {R : Run} (hop : o.op = .alloc t) {zv : Value} (hz : zeroT P t = some zv) (hzs : chkZ zv.cells.toList (cellsOf z) = true)
    (he : evOp R env ts st (.alloc esc z) = some q) : OpRes P o a w (Post w g μ τ a.tmps q) := by
  have run : (execOp a.eval o).run P w = .ok (.value (.pointer (some ⟨w.heap.size, 0, none⟩))) (w.alloc (.cells zv.cells t)) := by
    simp only [execOp, hop]
    refine run_v ?_
    simp only [Instr.alloc, Sem.run_bind, zeroV_run hz, Result.andThen_ok, newVar_run]
    rfl
  have core : ∀ (st' : St) (r0 : Ref), getB st r0 = none → (∀ r, getB st' r = if r = r0 then some (.row [z]) else getB st r) →
      Post w g μ τ a.tmps (.ptr r0 0 0, env, ts, st') (.pointer (some ⟨w.heap.size, 0, none⟩)) (w.alloc (.cells zv.cells t)) := by
    intro st' r0 hr0 hst
    obtain ⟨g', k1, k2, k3, k4, k5⟩ := zeros_core (n := 1) (C := zv.cells) (E := t) h hzs (fun i j hi hj => by
      obtain rfl : i = 0 := by omega
      rw [Nat.zero_mul, Nat.zero_add]) hr0 hst
    refine ⟨g', k1, k2, ?_⟩
    have := RelD.ptr (w := w.alloc (.cells zv.cells t)) (g := g') (.tmp τ.length) r0 0 0 k3
    rw [k4] at this
    simpa using this
  simp only [evOp] at he
  split at he
  · split at he <;> cases he
    exact res_ok run (core _ _ (addBot_none st _) (getB_addBot st _))
  · cases he; exact res_ok run (core _ _ (addB_none st _) (getB_addB st _))
end
end Go.Q
