/- New rows of pure data, new blocks of the store: the operations. No condition. -/
import Derived.Test.YthldpjhmhjhpeaaDoorEvF
set_option linter.unusedVariables false
set_option linter.unusedSimpArgs false
set_option linter.unusedSectionVars false
namespace Go.Q
variable [Known]
section
variable {P : Program} {w : World} {g : Gh} {μ : List Nat} {τ : List (Option Nat)} {env ts : List D} {st : St} {a : Act} {o : Oper}

theorem res_ok {v : Value} {w' : World} {Po : Value → World → Prop} (hr : (execOp a.eval o).run P w = .ok (.value v) w') (hp : Po v w') : OpRes P o a w Po := by
  unfold OpRes; rw [hr]; exact hp
theorem res_skip {w' : World} {Po : Value → World → Prop} (hr : (execOp a.eval o).run P w = .ok .skip w') (hp : Po undef w') : OpRes P o a w Po := by
  unfold OpRes; rw [hr]; exact hp
theorem run_v {s : Sem Value} {v : Value} {w' : World} (h : s.run P w = .ok v w') : ((do pure (.value (← s)) : Sem Next)).run P w = .ok (.value v) w' := by
  rw [Sem.run_bind, h]; rfl
theorem run_u {s : Sem Unit} {w' : World} (h : s.run P w = .ok () w') : ((do s; pure .skip : Sem Next)).run P w = .ok .skip w' := by
  rw [Sem.run_bind, h]; rfl

theorem RelA.mvA {f : Pl → Pl} (h : RelA w g μ τ env ts st a.tmps) (hS : RelS w (g.mv f) st) (hn : f .nil = .nil) (he : ∀ i, f (.env i) = .env i) (ht : ∀ j k, j < τ.length → f (.tmp j k) = .tmp j k) : RelA w (g.mv f) μ τ env ts st a.tmps where
  s := hS
  e := fun i t hi => (h.e i t hi).mv (fun _ => he i) hn
  t := fun j t hj => (h.t j t hj).mv (fun k => ht _ k (by have := idxOf_lt hj; omega)) hn

theorem getB_lvl : ∀ {st : St} {r : Ref} {b : Blk}, getB st r = some b → r.lvl < st.length
  | [], r, b, h => by simp [getB] at h
  | fr :: st, r, b, h => by
    rw [getB_cons] at h
    split at h
    · rename_i e; simp [e]
    · have := getB_lvl h; simp; omega
theorem refsBelows_of {n : Nat} : ∀ {ds : List D}, (∀ i (h : i < ds.length), refsBelow n ds[i] = true) → refsBelows n ds = true
  | [], _ => rfl
  | d :: r, h => by
    simp only [refsBelows, Bool.and_eq_true]
    exact ⟨h 0 (by simp), refsBelows_of fun i hi => h (i + 1) (by simpa using hi)⟩
theorem refsBelows_at {n : Nat} : ∀ {ds : List D}, refsBelows n ds = true → ∀ i (h : i < ds.length), refsBelow n ds[i] = true
  | [], _, i, h => by simp at h
  | d :: r, hr, i, h => by
    simp only [refsBelows, Bool.and_eq_true] at hr
    cases i with
    | zero => exact hr.1
    | succ i => exact refsBelows_at hr.2 i (by simpa using h)
theorem RelD.refs {pl : Nat → Pl} {d : D} {v : Value} {n : Nat} (h : RelD w g pl d v) (hn : ∀ r, g.live r → r.lvl < n) : refsBelow n d = true := by
  induction h with
  | v => rfl
  | nils => rfl
  | lin => rfl
  | own pl r z off len x c ad hl => simp only [refsBelow, decide_eq_true_eq]; exact hn r hl
  | arr pl r i off len c ad hl => simp only [refsBelow, decide_eq_true_eq]; exact hn r hl
  | ptr pl r i off hl => simp only [refsBelow, decide_eq_true_eq]; exact hn r hl
  | va => rfl
  | map pl r hl => simp only [refsBelow, decide_eq_true_eq]; exact hn r hl
  | clo pl f fs cs vf vc h1 h2 _ _ ih1 ih2 => simp only [refsBelow, Bool.and_eq_true]; exact ⟨refsBelows_of ih1, refsBelows_of ih2⟩
  | ifc pl t d v h ih => exact ih
  | agg pl ds cs hl hk hr ih => exact refsBelows_of ih
  | tup pl ds cs hl hr ih => exact refsBelows_of ih
  | undef => rfl
theorem refs_cells {n : Nat} {d : D} (h : refsBelow n d = true) : ∀ j (hj : j < (cellsOf d).length), refsBelow n (cellsOf d)[j] = true := by
  intro j hj
  cases d with
  | v x => simp only [cellsOf_v, List.getElem_map]; rfl
  | agg ds => exact refsBelows_at h j hj
  | _ =>
    obtain rfl : j = 0 := by simpa [cellsOf] using hj
    exact h

/-- a variable of its own, with a value whose right goes along -/
theorem box_core {d : D} {v : Value} {E : TypeId} {st' : St} {r0 : Ref} {env' ts' : List D} (h : RelA w g μ τ env' ts' st a.tmps) (hd : RelD w g (.tmp τ.length) d v) (hg : goodD d = true)
    (hr0 : getB st r0 = none) (hst : ∀ r, getB st' r = if r = r0 then some (.row [d]) else getB st r) (hb : refsBelow (r0.lvl + 1) d = true) :
    Post w g μ τ a.tmps (.ptr r0 0 0, env', ts', st') (.pointer (some ⟨w.heap.size, 0, none⟩)) (w.alloc (.cells v.cells E)) := by
  let f : Pl → Pl := fun p => match p with | .tmp b k => if b = τ.length then .cell r0 0 k else .tmp b k | p => p
  obtain ⟨hl, hc⟩ := hd.cells hg
  have hG := Gh.grow_blk (o := .cells v.cells E) (cellsOf d).length 1 h.s hr0
  have hS : RelS (w.alloc (.cells v.cells E)) ((g.blk r0 w.heap.size (cellsOf d).length 1).mv f) st' := by
    refine RelS.new_blk h.s hr0 hst rfl (fun p hp => by cases p <;> simp only [f] at hp <;> first | rfl | (cases hp; done) | (split at hp <;> cases hp)) (fun r i j => rfl) (fun i hi => ?_)
    obtain rfl : i = 0 := by simpa using hi
    refine ⟨rfl, fun j hj => ?_⟩
    obtain ⟨h1, h2⟩ := hc j hj
    refine ⟨h1, refs_cells hb j hj, v.cells[j]'(hl ▸ hj), _, ?_, h2, by simp [f]⟩
    rw [Nat.zero_mul, Nat.zero_add]
    exact Array.getElem?_eq_getElem _
  refine ⟨_, (hG.ext h.s).trans (Ext.mv f), ⟨hS, fun i t hi => ?_, fun j t hj => ?_⟩, ?_⟩
  · exact (hG.relD h.s (h.e i t hi)).mv (fun _ => rfl) rfl
  · have := idxOf_lt hj
    exact (hG.relD h.s (h.t j t hj)).mv (fun k => by
      have hne : ¬ τ.length - 1 - j = τ.length := by omega
      simp [f, hne]) rfl
  · have e1 : ((g.blk r0 w.heap.size (cellsOf d).length 1).mv f).be r0 = w.heap.size := by simp [Gh.blk, Gh.mv]
    have := RelD.ptr (w := w.alloc (.cells v.cells E)) (g := (g.blk r0 w.heap.size (cellsOf d).length 1).mv f) (.tmp τ.length) r0 0 0 (.inr rfl)
    rw [e1] at this
    simpa using this

theorem newVar_run (t : TypeId) (v : Value) : (newVar t v).run P w = .ok ⟨w.heap.size, 0, none⟩ (w.alloc (.cells v.cells t)) := rfl

theorem typeInfo_run {t : TypeId} {inf : TypeInfo} (hi : P.info? t = some inf) : (typeInfo t).run P w = .ok inf w := by
  simp only [typeInfo, Sem.run_bind, run_program, Result.andThen_ok, hi, Sem.run_pure]
theorem zeroV_run {t : TypeId} {zv : Value} (hz : zeroT P t = some zv) : (zeroValue t).run P w = .ok zv w := by
  obtain ⟨inf, hi, hzv⟩ := of_zeroT P hz
  simp only [zeroValue, Sem.run_bind, typeInfo_run hi, Result.andThen_ok, hzv, Sem.run_pure]

theorem box_ok (h : RelA w g μ τ env ts st a.tmps) (hts : ts.length = τ.length) {t : TypeId} {x : Operand} {esc : Bool} {y : Opd} {q : Rg} {R : Run} (hop : o.op = .box t x) (hc : chkO μ τ x y = true)
    (he : evOp R env ts st (.box esc y) = some q) (hlv : ∀ r, g.live r → r.lvl < st.length) : OpRes P o a w (Post w g μ τ a.tmps q) := by
  obtain ⟨f, h1, h2, h3, h4⟩ := take_rel h hts hc
  have run : (execOp a.eval o).run P w = .ok (.value (.pointer (some ⟨w.heap.size, 0, none⟩))) (w.alloc (.cells (a.eval x).cells t)) := by
    simp only [execOp, hop, Instr.box]
    exact run_v (by rw [Sem.run_bind, newVar_run]; rfl)
  have hext : Ext w w g (g.mv f) := Ext.mv f
  simp only [evOp] at he
  split at he <;> first | (cases he; done) | skip
  rename_i hg
  have hg : goodD (takeO env ts y).1 = true := by simpa using hg
  split at he
  · split at he <;> first | (cases he; done) | skip
    rename_i hb
    cases he
    obtain ⟨g', k1, k2, k3⟩ := box_core (E := t) h1 h2 hg (addBot_none st _) (getB_addBot st _) (by rw [(addBot_lvl st _).1]; simpa using hb)
    exact res_ok run ⟨g', hext.trans k1, k2, k3⟩
  · cases he
    have hl : ∀ r, g.live r → r.lvl < (addB st (.row [(takeO env ts y).1])).2.lvl + 1 := fun r hr => by
      have := hlv r hr
      cases st with
      | nil => simp at this
      | cons fr st => exact this
    obtain ⟨g', k1, k2, k3⟩ := box_core (E := t) h1 h2 hg (addB_none st _) (getB_addB st _) (h2.refs hl)
    exact res_ok run ⟨g', hext.trans k1, k2, k3⟩

/-- zero cells -/
theorem chkC_refs {v : Value} {d : D} (h : chkC v d = true) (n : Nat) : refsBelow n d = true := by
  unfold chkC at h
  split at h <;> first | rfl | cases h
theorem chkZ_refs : ∀ {vs : List Value} {ds : List D}, chkZ vs ds = true → ∀ n i (h : i < ds.length), refsBelow n ds[i] = true
  | [], [], _, n, i, h => by simp at h
  | [], _ :: _, h, _, _, _ => by simp [chkZ] at h
  | _ :: _, [], h, _, _, _ => by simp [chkZ] at h
  | v :: vs, d :: ds, h, n, i, hi => by
    simp only [chkZ, Bool.and_eq_true] at h
    cases i with
    | zero => exact chkC_refs h.1 n
    | succ i => exact chkZ_refs h.2 n i (by simpa using hi)

/-- blocks of zeros -/
theorem zeros_core {z : D} {zv : Value} {n : Nat} {C : Array Value} {E : TypeId} {st' : St} {r0 : Ref} (h : RelA w g μ τ env ts st a.tmps) (hz : chkZ zv.cells.toList (cellsOf z) = true)
    (hC : ∀ i j, i < n → j < zv.cells.size → C[i * zv.cells.size + j]? = zv.cells[j]?)
    (hr0 : getB st r0 = none) (hst : ∀ r, getB st' r = if r = r0 then some (.row (List.replicate n z)) else getB st r) :
    ∃ g', Ext w (w.alloc (.cells C E)) g g' ∧ RelA (w.alloc (.cells C E)) g' μ τ env ts st' a.tmps ∧ g'.live r0 ∧ g'.be r0 = w.heap.size ∧ g'.sz r0 = (cellsOf z).length ∧ g'.n r0 = n := by
  have hZ := chkZ_rel (w := w) (g := g) hz
  have hlen : (cellsOf z).length = zv.cells.size := by simpa using hZ.1
  have hG := Gh.grow_blk (o := .cells C E) (cellsOf z).length n h.s hr0
  have hmv : (g.blk r0 w.heap.size (cellsOf z).length n).mv id = g.blk r0 w.heap.size (cellsOf z).length n := by simp [Gh.mv]
  -- places: the cells of zeros hold no right
  have hS : RelS (w.alloc (.cells C E)) ((g.blk r0 w.heap.size (cellsOf z).length n).mv id) st' := by
    have hN : (List.replicate n z).length = n := by simp
    have := RelS.new_blk (cs := C) (E := E) (z := (cellsOf z).length) (f := id) h.s hr0 hst rfl (fun p hp => hp) (fun r i j => rfl) ?_
    rw [hN] at this; exact this
    intro i hi
    have hi' : i < n := by simpa using hi
    have e : (List.replicate n z)[i] = z := by simp
    rw [e]
    refine ⟨rfl, fun j hj => ?_⟩
    obtain ⟨h1, v, h2, h3⟩ := hZ.2 j hj
    refine ⟨h1, chkZ_refs hz _ j hj, v, fun _ => .cell r0 i j, ?_, h3 _, rfl⟩
    rw [hlen, hC i j hi' (by omega)]
    simpa using h2
  rw [hmv] at hS
  exact ⟨_, hG.ext h.s, ⟨hS, fun i t hi => hG.relD h.s (h.e i t hi), fun j t hj => hG.relD h.s (h.t j t hj)⟩, .inr rfl, by simp [Gh.blk], by simp [Gh.blk], by simp [Gh.blk]⟩

theorem alloc_ok (h : RelA w g μ τ env ts st a.tmps) {t : TypeId} {esc : Bool} {z : D} {q : Rg} {R : Run} (hop : o.op = .alloc t) {zv : Value} (hz : zeroT P t = some zv) (hzs : chkZ zv.cells.toList (cellsOf z) = true)
    (he : evOp R env ts st (.alloc esc z) = some q) : OpRes P o a w (Post w g μ τ a.tmps q) := by
  have run : (execOp a.eval o).run P w = .ok (.value (.pointer (some ⟨w.heap.size, 0, none⟩))) (w.alloc (.cells zv.cells t)) := by
    simp only [execOp, hop]
    refine run_v ?_
    simp only [Instr.alloc, Sem.run_bind, zeroV_run hz, Result.andThen_ok, newVar_run]
    rfl
  have core : ∀ (st' : St) (r0 : Ref), getB st r0 = none → (∀ r, getB st' r = if r = r0 then some (.row [z]) else getB st r) →
      Post w g μ τ a.tmps (.ptr r0 0 0, env, ts, st') (.pointer (some ⟨w.heap.size, 0, none⟩)) (w.alloc (.cells zv.cells t)) := by
    intro st' r0 hr0 hst
    obtain ⟨g', k1, k2, k3, k4, k5⟩ := zeros_core (n := 1) (C := zv.cells) (E := t) h hzs (fun i j hi hj => by
      obtain rfl : i = 0 := by omega
      rw [Nat.zero_mul, Nat.zero_add]) hr0 hst
    refine ⟨g', k1, k2, ?_⟩
    have := RelD.ptr (w := w.alloc (.cells zv.cells t)) (g := g') (.tmp τ.length) r0 0 0 k3
    rw [k4] at this
    simpa using this
  simp only [evOp] at he
  split at he
  · cases he; exact res_ok run (core _ _ (addBot_none st _) (getB_addBot st _))
  · cases he; exact res_ok run (core _ _ (addB_none st _) (getB_addB st _))
end
end Go.Q
