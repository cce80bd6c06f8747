/- New rows: literals, make, the two conversions of bytes. No condition. -/
import Derived.Test.YtmbdamompcdolaaDoorEvF
import Derived.Laws.BytesArg
import Derived.Laws.IdiomStrings
set_option linter.unusedVariables false
set_option linter.unusedSimpArgs false
set_option linter.unusedSectionVars false
namespace Go.Q
variable [Known]
section
variable {P : Program} {w : World} {g : Gh} {μ : List Nat} {τ : List (Option Nat)} {env ts : List D} {st : St} {a : Act} {o : Oper}

theorem drewN_zero (w : World) : w.drewN 0 = w := rfl

/-- a slice over a new row, whose spare room is the new value's -/
theorem new_lin {sz c : Nat} {ys : List V} {f : Nat → Nat → Value} {ob : Obj} {tmps : Array Value} (n : Nat) (h : RelA w g μ τ env ts st tmps) (E : Els w g.L sz ys f) (hc : ys.length ≤ c)
    (hC : ∀ i j, i < ys.length → j < sz → ((w.drewN n).alloc ob).cell? ⟨w.heap.size, i * sz + j, none⟩ = some (f i j))
    (hs : ∀ j, j < c * sz → (((w.drewN n).alloc ob).cell? ⟨w.heap.size, j, none⟩).isSome = true ∧ ((w.drewN n).alloc ob).frozen? ⟨w.heap.size, j, none⟩ = false) :
    Post w g μ τ tmps (.lin sz ys, env, ts, st) (.slice (some ⟨w.heap.size, 0, none⟩) ys.length c) ((w.drewN n).alloc ob) := by
  have hG := Gh.grow_new (o := ob) (L := ys.length * sz) (p := some (.tmp τ.length 0)) h.s (by simp) n
  refine ⟨_, hG.ext h.s, hG.relA h (fun r => Iff.rfl), ?_⟩
  refine .lin _ sz ys _ (E.slc (fun x v hx => hx.mono (hG.keeps h.s).cell (hG.keeps h.s).L) (by simp [Gh.new]) hc hC) ?_
  exact .inr ⟨w.heap.size, 0, rfl, by simp [Gh.new], by simp [Gh.new], hc, fun j hj => hs j (by omega)⟩

/-! ### Literals -/
theorem relV_cells {x : V} {v : Value} (h : RelV w g.L x v) : ∃ hl : (cellsV x).length = v.cells.size, ∀ i (hi : i < (cellsV x).length), ((cellsV x)[i]).isCell = true ∧ RelV w g.L (cellsV x)[i] (v.cells[i]'(hl ▸ hi)) := by
  obtain ⟨hl, h2⟩ := (RelD.v (g := g) (fun _ => .nil) x v h).cells rfl
  rw [cellsOf_v] at hl
  refine ⟨by simpa using hl, fun i hi => ?_⟩
  obtain ⟨h3, h4⟩ := h2 i (by rw [cellsOf_v]; simpa using hi)
  simp only [cellsOf_v, List.getElem_map] at h3 h4
  exact ⟨by simpa [D.isCell] using h3, h4.toV⟩
theorem chkL_at : ∀ {xs : List Operand} {ys : List Opd}, chkL μ τ xs ys = true → xs.length = ys.length ∧ ∀ i (h : i < xs.length) (h' : i < ys.length), chkO μ τ xs[i] ys[i] = true
  | [], [], _ => ⟨rfl, fun i h => by simp at h⟩
  | [], _ :: _, h => by simp [chkL] at h
  | _ :: _, [], h => by simp [chkL] at h
  | x :: xs, y :: ys, h => by
    simp only [chkL, Bool.and_eq_true] at h
    obtain ⟨h1, h2⟩ := chkL_at h.2
    refine ⟨by simp [h1], fun i hi hi' => ?_⟩
    cases i with
    | zero => exact h.1
    | succ i => exact h2 i (by simpa using hi) (by simpa using hi')
theorem rdVs_at : ∀ {ds : List D} {xs : List V}, rdVs st ds = some xs → xs.length = ds.length ∧ ∀ i (h : i < ds.length) (h' : i < xs.length), rdV st ds[i] = some xs[i]
  | [], xs, h => by simp only [rdVs] at h; cases h; exact ⟨rfl, fun i h => by simp at h⟩
  | d :: r, xs, h => by
    simp only [rdVs] at h
    obtain ⟨x, h1, h2⟩ := bind_some' h
    obtain ⟨ys, h3, rfl⟩ := map_some' h2
    obtain ⟨h4, h5⟩ := rdVs_at h3
    refine ⟨by simp [h4], fun i hi hi' => ?_⟩
    cases i with
    | zero => exact h1
    | succ i => exact h5 i (by simpa using hi) (by simpa using hi')
theorem anyRow_at : ∀ {ds : List D}, anyRow ds = false → ∀ i (h : i < ds.length), isRow ds[i] = false
  | [], _, i, h => by simp at h
  | d :: r, hr, i, h => by
    simp only [anyRow, Bool.or_eq_false_iff] at hr
    cases i with
    | zero => exact hr.1
    | succ i => exact anyRow_at hr.2 i (by simpa using h)
theorem rdV_plain {d : D} {x : V} (h : rdV st d = some x) (hr : isRow d = false) : toV d = some x := by
  cases d <;> first | exact h | (simp [isRow] at hr; done)
theorem szs_at {sz : Nat} : ∀ {ys : List V}, szs sz ys = true → ∀ i (h : i < ys.length), (cellsV ys[i]).length = sz
  | [], _, i, h => by simp at h
  | y :: r, hr, i, h => by
    simp only [szs, Bool.and_eq_true, decide_eq_true_eq] at hr
    cases i with
    | zero => exact hr.1
    | succ i => exact szs_at hr.2 i (by simpa using h)

theorem fill_rows (sz : Nat) : ∀ (vs : List (Nat × Value)) (k : Nat) (cells : Array Value), vs.map (·.1) = List.range' k vs.length → (∀ i (h : i < vs.length), (vs[i].2).cells.size = sz) → (k + vs.length) * sz ≤ cells.size →
    ∃ cells', Instr.fill (fun i => some (i * sz, sz)) cells vs = some cells' ∧ cells'.size = cells.size ∧ (∀ q, q < k * sz → cells'[q]? = cells[q]?) ∧
      ∀ i (h : i < vs.length) j, j < sz → cells'[(k + i) * sz + j]? = (vs[i].2).cells[j]?
  | [], k, cells, _, _, _ => ⟨cells, rfl, rfl, fun _ _ => rfl, fun i h => by simp at h⟩
  | (i0, v) :: vs, k, cells, hk, hz, hle => by
    simp only [List.map_cons, List.length_cons, List.range'_succ, List.cons.injEq] at hk
    obtain ⟨rfl, hk⟩ := hk
    have hv : v.cells.size = sz := hz 0 (by simp)
    have e1 : (i0 + (vs.length + 1)) * sz = i0 * sz + (vs.length + 1) * sz := Nat.add_mul _ _ _
    have e2 : (vs.length + 1) * sz = vs.length * sz + sz := by rw [Nat.add_mul, Nat.one_mul]
    have e3 : (i0 + 1) * sz = i0 * sz + sz := by rw [Nat.add_mul, Nat.one_mul]
    have e4 : (i0 + 1 + vs.length) * sz = i0 * sz + sz + vs.length * sz := by rw [Nat.add_mul, e3]
    simp only [List.length_cons] at hle
    have e : v.cells.zipIdx.foldl (fun cs (q : Value × Nat) => cs.setIfInBounds (i0 * sz + q.2) q.1) cells = (v.cells.toList.zipIdx 0).foldl (fun cs (q : Value × Nat) => cs.setIfInBounds (i0 * sz + q.2) q.1) cells := by
      rw [← Array.foldl_toList]; simp
    obtain ⟨f1, f2⟩ := foldl_put (i0 * sz) v.cells.toList 0 cells
    obtain ⟨cells', h1, h2, h3, h4⟩ := fill_rows sz vs (i0 + 1) ((v.cells.toList.zipIdx 0).foldl (fun cs (q : Value × Nat) => cs.setIfInBounds (i0 * sz + q.2) q.1) cells) hk
      (fun i hi => hz (i + 1) (by simpa using hi)) (by rw [f1]; omega)
    refine ⟨cells', ?_, by rw [h2, f1], fun q hq => ?_, fun i hi j hj => ?_⟩
    · simp only [Instr.fill]
      rw [if_neg]
      · rw [e]; exact h1
      · simp only [hv, ne_eq, not_true_eq_false, decide_false, Bool.false_or, decide_eq_true_eq]
        omega
    · rw [h3 q (by omega), f2 q, if_neg (by omega)]
    · cases i with
      | zero =>
        simp only [Nat.add_zero, List.getElem_cons_zero]
        rw [h3 _ (by omega), f2, if_pos (by simp; omega)]
        simp
      | succ i =>
        have := h4 i (by simpa using hi) j hj
        simp only [List.getElem_cons_succ]
        rw [← this]
        congr 3
        omega

theorem lit_core (h : RelA w g μ τ env ts st a.tmps) {t e : TypeId} {n sz : Nat} {parts : Array (Nat × Operand)} {ys : List Opd} {q : Rg} {R : Run} (hop : o.op = .buildSlice t n parts)
    (hu : uSlc P t = some e) (hz : szT P e = some sz) (hzero : (zeroT P e).isSome = true) (hp : parts.toList.map (·.1) = List.range n) (hn : n * sz ≤ 16777216) (hc : chkL μ τ (parts.toList.map (·.2)) ys = true)
    (he : evOp R env ts st (.lit sz ys) = some q) : ∃ (xs : List V) (cells' : Array Value), q = (.lin sz xs, env, ts, st) ∧ (execOp a.eval o).run P w = .ok (.value (.slice (some ⟨w.heap.size, 0, none⟩) n n)) (w.alloc (.cells cells' e)) ∧
      xs.length = n ∧ cells'.size = n * sz ∧ Els w g.L sz xs (fun i j => ((cells'[i * sz + j]?).getD undef)) ∧ (∀ i j, i < xs.length → j < sz → cells'[i * sz + j]? = some ((cells'[i * sz + j]?).getD undef)) := by
  simp only [evOp] at he
  split at he <;> first | (cases he; done) | skip
  rename_i hrow
  obtain ⟨xs, h1, h2⟩ := bind_some' he
  split at h2 <;> cases h2
  rename_i hszs
  obtain ⟨hl, hr⟩ := rdVs_at h1
  obtain ⟨hl2, hr2⟩ := chkL_at hc
  simp only [List.length_map] at hl hl2
  have hpl : parts.toList.length = n := by
    have := congrArg List.length hp
    simpa using this
  have hxn : xs.length = n := by omega
  -- element by element
  have hel : ∀ i (hi : i < xs.length) (hi' : i < parts.toList.length), RelV w g.L xs[i] (a.eval (parts.toList[i]).2) := fun i hi hi' => by
    have h3 := hr i (by simp; omega) hi
    have h4 := hr2 i (by simpa using hi') (by omega)
    have h5 := anyRow_at (by simpa using hrow) i (by simp; omega)
    simp only [List.getElem_map] at h3 h4 h5
    exact toV_rel (rd_rel h h4 (fun _ => .nil)) (rdV_plain h3 h5)
  let vs : List (Nat × Value) := parts.toList.map fun p => (p.1, a.eval p.2)
  have hvl : vs.length = n := by simp [vs, hpl]
  have hvat : ∀ i (hi : i < vs.length), vs[i].2 = a.eval (parts.toList[i]'(by simpa [vs] using hi)).2 := fun i hi => by simp [vs]
  obtain ⟨zv, hzv⟩ := Option.isSome_iff_exists.1 hzero
  let z0 : Array Value := if n * sz = 0 then #[] else zv.cells
  obtain ⟨cells', f1, f2, f3, f4⟩ := fill_rows sz vs 0 ((Array.range (n * sz)).map (z0[· % z0.size]!)) (by
      rw [hvl, ← List.range_eq_range', ← hp]; simp [vs]) (fun i hi => by
      have hi2 : i < parts.toList.length := by omega
      have := hel i (by omega) hi2
      obtain ⟨h6, _⟩ := relV_cells this
      rw [hvat i hi, ← h6]
      exact szs_at hszs i (by omega)) (by simp [hvl])
  have run : (execOp a.eval o).run P w = .ok (.value (.slice (some ⟨w.heap.size, 0, none⟩) n n)) (w.alloc (.cells cells' e)) := by
    simp only [execOp, hop]
    refine run_v ?_
    have hu' := of_uSlc P hu
    have hnn : ¬ n * sz > 2 ^ 24 := by simp; omega
    have el : (parts.map fun (x : Nat × Operand) => (x.1, a.eval x.2)).toList = vs := by simp [vs]
    simp only [Instr.buildSlice, Sem.run_bind, run_underlying hu', Result.andThen_ok, sizeOf_run hz, hnn, if_false, el]
    by_cases h0 : n * sz = 0
    · rw [show z0 = #[] from if_pos h0] at f1
      rw [if_pos h0]
      simp only [Sem.run_bind, Result.andThen_ok, Sem.run_pure]
      rw [f1]
      rfl
    · rw [show z0 = zv.cells from if_neg h0] at f1
      rw [if_neg h0]
      simp only [Sem.run_bind, zeroV_run hzv, Result.andThen_ok, Sem.run_pure]
      rw [f1]
      rfl
  refine ⟨xs, cells', rfl, run, hxn, by rw [f2]; simp, ⟨fun i hi => szs_at hszs i hi, fun i hi j hj => ?_, fun i hi j hj => ?_⟩, fun i j hi hj => ?_⟩
  · exact ((relV_cells (hel i hi (by omega))).2 j hj).1
  · obtain ⟨h6, h7⟩ := relV_cells (hel i hi (by omega))
    have h8 := (h7 j hj).2
    have hj' : j < sz := by rw [← szs_at hszs i hi]; exact hj
    have h9 := f4 i (by omega) j hj'
    rw [Nat.zero_add] at h9
    simp only [h9, hvat]
    rw [Array.getElem?_eq_getElem (by omega)]
    exact h8
  · have h9 := f4 i (by omega) j hj
    rw [Nat.zero_add] at h9
    obtain ⟨h6, _⟩ := relV_cells (hel i hi (by omega))
    rw [h9, hvat, Array.getElem?_eq_getElem (by rw [← h6, szs_at hszs i hi]; exact hj)]
    rfl
theorem lit_ok (h : RelA w g μ τ env ts st a.tmps) {t e : TypeId} {n sz : Nat} {parts : Array (Nat × Operand)} {ys : List Opd} {q : Rg} {R : Run} (hop : o.op = .buildSlice t n parts)
    (hu : uSlc P t = some e) (hz : szT P e = some sz) (hzero : (zeroT P e).isSome = true) (hp : parts.toList.map (·.1) = List.range n) (hn : n * sz ≤ 16777216) (hc : chkL μ τ (parts.toList.map (·.2)) ys = true)
    (he : evOp R env ts st (.lit sz ys) = some q) : OpRes P o a w (Post w g μ τ a.tmps q) := by
  obtain ⟨xs, cells', rfl, run, hxn, hsz, E, hat⟩ := lit_core h hop hu hz hzero hp hn hc he
  refine res_ok run ?_
  have hlin := new_lin (ob := .cells cells' e) (f := fun i j => ((cells'[i * sz + j]?).getD undef)) (c := n) (sz := sz) 0 h (ys := xs) E (by omega) (fun i j hi hj => ?_) (fun j hj => ?_)
  · rw [hxn] at hlin; exact hlin
  · rw [drewN_zero, World.cell?_alloc_new]
    exact hat i j hi hj
  · rw [drewN_zero, World.cell?_alloc_new, World.frozen?_alloc_new]
    refine ⟨?_, rfl⟩
    rw [Array.getElem?_eq_getElem (by rw [hsz]; exact hj)]
    rfl
end
end Go.Q
