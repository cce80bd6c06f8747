/- A slice's elements in a block of their own: append(S{}, s...). No condition. -/
import Derived.Test.YtmbdamompcdolaaDoorEv2
import Derived.Test.YtmbdamompcdolaaDoorEv1
import Derived.Lib.SliceRun
import Derived.Deep.Upon
set_option linter.unusedVariables false
set_option linter.unusedSimpArgs false
set_option linter.unusedSectionVars false
namespace Go.Q
variable [Known]

def litOf : Op → Option TypeId
  | .buildSlice t n parts => if n = 0 ∧ parts.size = 0 then some t else none
  | _ => none
def movOf : Op → Option Tmp
  | .move (.tmp y) => some y
  | _ => none
def asgOf : Op → Option Tmp
  | .assign (.tmp y) => some y
  | _ => none
def callOf : Op → Option Call
  | .call c => some c
  | _ => none
def tmpOf : Operand → Option Tmp
  | .tmp y => some y
  | _ => none
/-- append's call, of two temporaries -/
def appOf (P : Program) (sz bytes : Nat) (t : TypeId) (a1 a2 : Tmp) (c : Call) : Bool := match builtinOf c, c.args.toList, c.argTypes.toList with
  | some .append, [x1, x2], [t1, u1] => decide (tmpOf x1 = some a1) && decide (tmpOf x2 = some a2) && decide (t1 = t) && (uStr P u1 || (uSlc P u1).isSome) && (orF (uSlc P t) fun e => (orF (P.info? e) fun i => i.size == sz && i.bytes == bytes && bytes != 0 && (orF (i.zero) fun zv => zv.cells.size == sz)))
  | _, _, _ => false
/-- append(S{}, s...) -/
def chkClone (μ : List Nat) (nt : Nat) (P : Program) (d x sz bytes : Nat) : List Oper → Bool
  | [o1, o2, o3, o4] => orF (litOf o1.op) fun t => orF (movOf o2.op) fun y => orF (callOf o3.op) fun c => orF (asgOf o4.op) fun z => orF o1.dst fun a1 => orF o2.dst fun a2 => orF o3.dst fun a3 => orF o4.dst fun a4 =>
      (o1.guard.isNone && o2.guard.isNone && o3.guard.isNone && o4.guard.isNone) && (!μ.contains a1 && !μ.contains a2 && !μ.contains a3) && (decide (a1 < nt) && decide (a2 < nt) && decide (a3 < nt) && decide (a4 < nt)) && (decide (a1 ≠ a2) && decide (μ[x]? = some y) && decide (z = a3) && decide (μ[d]? = some a4)) && appOf P sz bytes t a1 a2 c
  | _ => false

section
variable {P : Program} {w : World} {g : Gh} {μ : List Nat} {nt : Nat} {dfs : List Deferred} {env ts : List D} {st : St} {a : Act} {τ : List (Option Nat)}
theorem upB_some {st : St} {b : Blk} {q : St × Ref} (h : upB st b = some q) : getB st q.2 = none ∧ (∀ r, getB q.1 r = if r = q.2 then some b else getB st r) ∧ q.1.length = st.length ∧ q.2.lvl + 1 < st.length := by
  unfold upB at h
  split at h <;> cases h
  rename_i fr f2 st
  have hl : (addB (f2 :: st) b).2.lvl = st.length := rfl
  have hlen : (addB (f2 :: st) b).1.length = (f2 :: st).length := rfl
  have n1 := addB_none (f2 :: st) b
  have n2 := getB_addB (f2 :: st) b
  refine ⟨?_, fun r => ?_, by simp [addB], by simp [hl]⟩
  · rw [getB_cons, if_neg (by rw [hl]; simp)]; exact n1
  · rw [getB_cons, getB_cons, hlen]
    by_cases hr : r.lvl = (f2 :: st).length
    · rw [if_pos hr, if_pos hr, if_neg]
      intro e
      rw [e, hl] at hr
      simp at hr
    · rw [if_neg hr, if_neg hr]; exact n2 r
theorem run_lit0 {t e : TypeId} {sz : Nat} (hu : P.underlying t = some (.slice e)) (hz : szT P e = some sz) : (Instr.buildSlice t 0 #[]).run P w = .ok (.slice (some ⟨w.heap.size, 0, none⟩) 0 0) (w.alloc (.cells #[] e)) := by
  simp only [Instr.buildSlice, Sem.run_bind, run_underlying hu, Result.andThen_ok, sizeOf_run hz]
  have e0 : (Array.map (fun x => (default : Value)) (Array.range 0)) = #[] := by simp
  simp [Instr.fill]
  rw [e0]
  rfl
/-- the elements in a new block: the store -/
theorem rows_core {ys : List V} {f : Nat → Nat → Value} {C : Array Value} {E : TypeId} {sz : Nat} {r0 : Ref} {st' : St} (hS : RelS w g st) (hE : Els w g.L sz ys f)
    (hC : ∀ i j, i < ys.length → j < sz → C[i * sz + j]? = some (f i j)) (hr0 : getB st r0 = none) (hst : ∀ r, getB st' r = if r = r0 then some (.row (ys.map .v)) else getB st r) :
    RelS (w.alloc (.cells C E)) (g.blk r0 w.heap.size sz (ys.map D.v).length) st' := by
  have hmv : (g.blk r0 w.heap.size sz (ys.map D.v).length).mv id = g.blk r0 w.heap.size sz (ys.map D.v).length := by simp [Gh.mv]
  have : RelS (w.alloc (.cells C E)) ((g.blk r0 w.heap.size sz (ys.map D.v).length).mv id) st' := by
    refine RelS.new_blk hS hr0 hst rfl (fun p hp => hp) (fun r i j => rfl) (fun i hi => ?_)
    have hi' : i < ys.length := by simpa using hi
    simp only [List.getElem_map, cellsOf_v, List.length_map]
    have hl := hE.len i hi'
    refine ⟨hl, fun j hj => ⟨hE.cell i hi' j hj, by simp [refsBelow], f i j, fun _ => .cell r0 i j, hC i j hi' (by omega), .v _ _ _ (hE.rel i hi' j hj), rfl⟩⟩
  rw [hmv] at this
  exact this

theorem litOf_eq {op : Op} {t : TypeId} (h : litOf op = some t) : op = .buildSlice t 0 #[] := by
  unfold litOf at h
  split at h <;> first | (cases h; done) | skip
  split at h <;> cases h
  rename_i hc
  obtain ⟨rfl, hp⟩ := hc
  rw [Array.eq_empty_of_size_eq_zero hp]
theorem movOf_eq {op : Op} {y : Tmp} (h : movOf op = some y) : op = .move (.tmp y) := by
  unfold movOf at h
  split at h <;> cases h
  rfl
theorem asgOf_eq {op : Op} {y : Tmp} (h : asgOf op = some y) : op = .assign (.tmp y) := by
  unfold asgOf at h
  split at h <;> cases h
  rfl
theorem callOf_eq {op : Op} {y : Call} (h : callOf op = some y) : op = .call y := by
  unfold callOf at h
  split at h <;> cases h
  rfl
theorem tmpOf_eq {op : Operand} {y : Tmp} (h : tmpOf op = some y) : op = .tmp y := by
  unfold tmpOf at h
  split at h <;> cases h
  rfl
theorem appOf_eq {sz bytes : Nat} {t : TypeId} {a1 a2 : Tmp} {c : Call} (h : appOf P sz bytes t a1 a2 c = true) : ∃ u1 e inf zv, builtinOf c = some .append ∧ c.args = #[.tmp a1, .tmp a2] ∧ c.argTypes = #[t, u1] ∧ (uStr P u1 || (uSlc P u1).isSome) = true ∧
    uSlc P t = some e ∧ P.info? e = some inf ∧ inf.size = sz ∧ inf.bytes = bytes ∧ bytes ≠ 0 ∧ inf.zero = some zv ∧ zv.cells.size = sz := by
  unfold appOf at h
  split at h <;> first | (cases h; done) | skip
  rename_i x1 x2 t1 u1 hb hargs hat
  simp only [Bool.and_eq_true, decide_eq_true_eq] at h
  obtain ⟨⟨⟨⟨h1, h2⟩, rfl⟩, h4⟩, h5⟩ := h
  obtain ⟨e, h6, h7⟩ := of_orF h5
  obtain ⟨inf, h8, h9⟩ := of_orF h7
  simp only [Bool.and_eq_true, beq_iff_eq, bne_iff_ne, ne_eq] at h9
  obtain ⟨⟨⟨q1, q2⟩, q3⟩, q4⟩ := h9
  obtain ⟨zv, q5, q6⟩ := of_orF q4
  exact ⟨u1, e, inf, zv, hb, by rw [← tmpOf_eq h1, ← tmpOf_eq h2, ← hargs], by rw [← hat], h4, h6, h8, q1, q2, q3, q5, by simpa using q6⟩
theorem drop_put {tmps : Array Value} {d : Nat} {v : Value} (h : RelA w g μ [] env [] st tmps) (hd : μ.contains d = false) : RelA w g μ [] env [] st (tmps.setIfInBounds d v) := by
  refine ⟨h.s, fun i t hi => ?_, fun j t hj => by simp at hj⟩
  have hne := mu_ne hd hi
  have : (tmps.setIfInBounds d v).getD t undef = tmps.getD t undef := by
    simp only [Array.getD_eq_getD_getElem?]
    rw [Array.getElem?_setIfInBounds_ne (Ne.symm hne)]
  rw [this]
  exact h.e i t hi
theorem getD_put {tmps : Array Value} {d : Nat} {v : Value} (h : d < tmps.size) (t : Nat) : (tmps.setIfInBounds d v).getD t undef = if t = d then v else tmps.getD t undef := by
  simp only [Array.getD_eq_getD_getElem?]
  by_cases e : t = d
  · subst e; simp [h]
  · rw [if_neg e, Array.getElem?_setIfInBounds_ne (Ne.symm e)]
theorem set_put {tmps : Array Value} {i d : Nat} {v : Value} {x : D} (hμ : μ.Nodup) (h : RelA w g μ [] env [] st tmps) (hd : μ[i]? = some d) (hs : d < tmps.size) (hx : RelD w g (fun _ => .env i) x v) : RelA w g μ [] (env.set i x) [] st (tmps.setIfInBounds d v) := by
  refine ⟨h.s, fun i' t hi => ?_, fun j t hj => by simp at hj⟩
  rw [getD_put hs, getT_set]
  by_cases e : i = i'
  · subst e
    rw [hd] at hi
    cases hi
    rw [if_pos rfl]
    by_cases hl : i < env.length
    · rw [if_pos ⟨rfl, hl⟩]; exact hx
    · rw [if_neg (fun hh => hl hh.2), getT_nil (by omega)]; exact .undef _ _
  · have hne : t ≠ d := by
      rintro rfl
      obtain ⟨b1, e1⟩ := List.getElem?_eq_some_iff.1 hd
      obtain ⟨b2, e2⟩ := List.getElem?_eq_some_iff.1 hi
      exact e (nodup_inj hμ b1 b2 (e1.trans e2.symm))
    rw [if_neg (fun hh => e hh.1), if_neg hne]
    exact h.e i' t hi

theorem clone_ok {ro : Option Nat} {d x sz bytes : Nat} {ops : Array Oper} {e : Ex} {env' : List D} {st' : St} {Q : Exit → Act → World → Prop} (hμ : μ.Nodup) (hc : chkClone μ nt P d x sz bytes ops.toList = true)
    (he : ((rdV st (cp (getT env x))).bind (slcOf sz)).bind (cloneD d sz bytes env st) = some (e, env', st')) (h : At w g μ nt dfs [] env [] st a) :
    e = .normal ∧ ((∀ a' w' g', Ext w w' g g' → At w' g' μ nt dfs [] env' [] st' a' → Q .normal a' w') → wpOpsIn (wideR ro) 0 P ops Q (List.range ops.size) a w) := by
  obtain ⟨ys, h1, h2⟩ := bind_some' he
  unfold cloneD at h2
  split at h2 <;> first | (cases h2; done) | skip
  rename_i hcond
  obtain ⟨hn0, hby, hszs⟩ := hcond
  obtain ⟨q, h3, h4⟩ := map_some' h2
  cases h4
  refine ⟨rfl, fun k => ?_⟩
  obtain ⟨u1, u2, u3, u4⟩ := upB_some h3
  -- the operations
  obtain ⟨o1, o2, o3, o4, hops⟩ : ∃ o1 o2 o3 o4, ops.toList = [o1, o2, o3, o4] := by
    generalize ops.toList = l at hc
    unfold chkClone at hc
    split at hc <;> first | (cases hc; done) | exact ⟨_, _, _, _, rfl⟩
  rw [hops] at hc
  simp only [chkClone] at hc
  obtain ⟨t, p1, hc⟩ := of_orF hc
  obtain ⟨y, p2, hc⟩ := of_orF hc
  obtain ⟨c, p3, hc⟩ := of_orF hc
  obtain ⟨z, p4, hc⟩ := of_orF hc
  obtain ⟨a1, d1, hc⟩ := of_orF hc
  obtain ⟨a2, d2, hc⟩ := of_orF hc
  obtain ⟨a3, d3, hc⟩ := of_orF hc
  obtain ⟨a4, d4, hc⟩ := of_orF hc
  simp only [Bool.and_eq_true, decide_eq_true_eq, Bool.not_eq_true', Option.isNone_iff_eq_none] at hc
  obtain ⟨⟨⟨⟨⟨⟨⟨g1, g2⟩, g3⟩, g4⟩, ⟨m1, m2⟩, m3⟩, ⟨⟨l1, l2⟩, l3⟩, l4⟩, ⟨⟨n12, hx⟩, hz⟩, hd⟩, hlast⟩ := hc
  have hopsA : ops = #[o1, o2, o3, o4] := by
    have := congrArg List.toArray hops
    simpa using this
  subst hopsA
  obtain ⟨u1', e, inf, zv, b1, b2, b3, b4, b5, b6, b7, b8, b9, b10, b11⟩ := appOf_eq hlast
  have ht := of_uSlc P b5
  have hszT : szT P e = some sz := by simp [szT, b6, b7]
  have hA := h.r
  have hn : a.tmps.size = nt := h.n
  -- the elements
  have hel : elems sz st (cp (getT env x)) = some ys := by
    obtain ⟨x', h4, h5⟩ := bind_some' h1
    generalize cp (getT env x) = dd at h1 h4
    cases dd <;> first | exact h1 | skip
    rename_i x''
    cases x'' <;> first | exact h1 | skip
    simp only [rdV] at h4
    cases h4
    simp [slcOf] at h5
  -- one: an empty slice
  have r1 : (execOp a.eval o1).run P w = .ok (.value (.slice (some ⟨w.heap.size, 0, none⟩) 0 0)) (w.alloc (.cells #[] e)) := by
    simp only [execOp, litOf_eq p1, Array.map_empty]
    exact run_v (run_lit0 ht hszT)
  have hG := Gh.grow_new (o := .cells #[] e) (L := 0) (p := none) hA.s (by simp) 0
  rw [drewN_zero] at hG
  generalize hw1 : w.alloc (.cells #[] e) = w1 at r1 hG
  have hs1 : w1.heap.size = w.heap.size + 1 := by rw [← hw1]; show (w.heap.push _).size = _; simp
  have hA1 := hG.relA hA (fun r => Iff.rfl)
  have hx1 := hG.ext hA.s
  generalize hg1 : g.new w.heap.size 0 none = g1' at hG hA1 hx1
  have hA1' := drop_put (d := a1) (v := .slice (some ⟨w.heap.size, 0, none⟩) 0 0) hA1 m1
  -- two: the slice
  let ac1 : Act := a.put (some a1) (.slice (some ⟨w.heap.size, 0, none⟩) 0 0)
  have r2 : (execOp ac1.eval o2).run P w1 = .ok (.value (ac1.eval (.tmp y))) w1 := by
    simp only [execOp, movOf_eq p2]
    rfl
  have hA2 := drop_put (d := a2) (v := ac1.eval (.tmp y)) hA1' m2
  let ac2 : Act := ac1.put (some a2) (ac1.eval (.tmp y))
  have v1 : ac2.eval (.tmp a1) = .slice (some ⟨w.heap.size, 0, none⟩) 0 0 := by
    show (((a.tmps.setIfInBounds a1 _).setIfInBounds a2 _).getD a1 undef) = _
    rw [getD_put (by simpa [hn] using l2), if_neg n12, getD_put (by simpa [hn] using l1), if_pos rfl]
  have v2 : ac2.eval (.tmp a2) = ac1.eval (.tmp y) := by
    show (((a.tmps.setIfInBounds a1 _).setIfInBounds a2 _).getD a2 undef) = _
    rw [getD_put (by simpa [hn] using l2), if_pos rfl]
  -- three: append
  have hchk : chkO μ [] (.tmp y) (.x x) = true := by simp [chkO, hx]
  have hrel : RelD w1 g1' (fun _ => .nil) (cp (getT env x)) (ac1.eval (.tmp y)) := rd_rel (a := ac1) hA1' hchk (fun _ => .nil)
  obtain ⟨f, E, S⟩ := elems_rel hA1'.s hrel hel
  have Sr := src_of (P := P) E S b4
  subst b7
  have hold : (Builtin.firstCells inf.size 0 (.slice (some ⟨w.heap.size, 0, none⟩) 0 0)).run P w1.drew = .ok ([] : List Value).toArray w1.drew :=
    run_firstCells_some w1.drew inf.size 0 ⟨w.heap.size, 0, none⟩ 0 0 [] (by simp) (fun j v hj => by simp at hj)
  have happ := run_append_grow_src w1 t u1' o3.type e inf zv ht b6 b10 (some ⟨w.heap.size, 0, none⟩) 0 0 [] hold (ac1.eval (.tmp y)) ys.length _ Sr (by omega) (by
    have h5 : ys.length * 1 ≤ ys.length * bytes := Nat.mul_le_mul_left _ (by omega)
    have : maxB = 140737488355328 := rfl
    omega) (growslice_fits (by omega) (by rw [Nat.zero_add, b8]; exact hby))
  rw [Nat.zero_add, List.nil_append] at happ
  generalize hcap : grownCap w1 ys.length 0 e = cap at happ
  have hge : ys.length ≤ cap := by rw [← hcap]; exact grownCap_ge _ _ _ _
  have r3 : (execOp ac2.eval o3).run P w1 = .ok (.value (.slice (some ⟨w1.heap.size, 0, none⟩) ys.length cap)) (w1.drew.alloc (.cells ((cellL ys.length inf.size f).toArray ++ Builtin.zeroCells zv.cells (cap - ys.length)) e)) := by
    simp only [execOp, callOf_eq p3, resolve, builtinOf_eq b1, b2, b3]
    simp only [Sem.run_bind, Sem.run_pure, Result.andThen_ok, invoke, builtin, List.map_toArray, List.map_cons, List.map_nil, v1, v2]
    rw [happ]
    rfl
  -- the world at the end
  let C : Array Value := (cellL ys.length inf.size f).toArray ++ Builtin.zeroCells zv.cells (cap - ys.length)
  have hCat : ∀ i j, i < ys.length → j < inf.size → C[i * inf.size + j]? = some (f i j) := fun i j hi hj => by
    show ((cellL ys.length inf.size f).toArray ++ _)[i * inf.size + j]? = _
    have h6 := mul_at hi hj
    rw [Array.getElem?_append_left (by rw [List.size_toArray, cellL_len]; exact h6), List.getElem?_toArray, cellL_at f hi hj]
  -- one draw
  have hGd : Grow w1 w1.drew g1' g1' := ⟨rfl, rfl, rfl, Nat.le_refl _, fun _ _ => rfl, fun _ _ => rfl, fun _ _ => Iff.rfl, fun _ _ => rfl, fun r hr => ⟨hr, rfl, rfl, rfl⟩, fun b p hb hp => by have := (hA1.s.own b p hp).2; have h7 : w1.drew.heap.size = w1.heap.size := rfl; omega, fun b hb => hA1.s.fresh b hb⟩
  have hA3 := hGd.relA hA2 (fun r => Iff.rfl)
  have hx3 := hGd.ext hA2.s
  have E3 : Els w1.drew g1'.L inf.size ys f := E.mono (fun x v hh => hh.mono (hGd.keeps hA1.s).cell (hGd.keeps hA1.s).L)
  have hS4 := rows_core (E := e) (C := C) hA3.s E3 hCat u1 u2
  have hG4 := Gh.grow_blk (o := .cells C e) inf.size (ys.map D.v).length hA3.s u1
  have hx4 := hG4.ext hA3.s
  have hE4 : RelA (w1.drew.alloc (.cells C e)) (g1'.blk q.2 w1.drew.heap.size inf.size (ys.map D.v).length) μ [] env [] q.1 _ := ⟨hS4, fun i t hi => hG4.relD hA3.s (hA3.e i t hi), fun j t hj => by simp at hj⟩
  have hA4 := drop_put (d := a3) (v := .slice (some ⟨w1.heap.size, 0, none⟩) ys.length cap) hE4 m3
  have hown : RelD (w1.drew.alloc (.cells C e)) (g1'.blk q.2 w1.drew.heap.size inf.size (ys.map D.v).length) (fun _ => .env d) (.own q.2 inf.size 0 ys.length false) (.slice (some ⟨w1.heap.size, 0, none⟩) ys.length cap) := by
    refine RelD.own _ _ _ _ _ _ _ _ (.inr rfl) ⟨hge, fun h => by cases h⟩ (by simp [Gh.blk]) (fun _ => ?_)
    simp only [Gh.blk, if_true, Nat.zero_mul]
    rfl
  have hA5 := set_put (d := a4) hμ hA4 hd (by simpa [hn] using l4) hown
  let ac3 : Act := ac2.put (some a3) (.slice (some ⟨w1.heap.size, 0, none⟩) ys.length cap)
  have r4 : (execOp ac3.eval o4).run P (w1.drew.alloc (.cells C e)) = .ok (.value (.slice (some ⟨w1.heap.size, 0, none⟩) ys.length cap)) (w1.drew.alloc (.cells C e)) := by
    have v3 : ac3.eval (.tmp a3) = .slice (some ⟨w1.heap.size, 0, none⟩) ys.length cap := by
      show ((((a.tmps.setIfInBounds a1 _).setIfInBounds a2 _).setIfInBounds a3 _).getD a3 undef) = _
      rw [getD_put (by simpa [hn] using l3), if_pos rfl]
    simp only [execOp, asgOf_eq p4, hz]
    rw [v3]
    rfl
  have fin := k (ac3.put (some a4) (.slice (some ⟨w1.heap.size, 0, none⟩) ys.length cap)) _ _ (((hx1.trans hx3).trans hx4)) ⟨hA5, by simp [ac3, ac2, ac1, Act.put, hn], by simp [ac3, ac2, ac1, Act.put, h.d], rfl, fun e0 => by rw [e0] at u3; simp at u3; exact h.st (List.length_eq_zero_iff.1 u3.symm)⟩
  have w1' : ∀ (o : Oper) (y : Nat → Option Bool), o.guard = none → Region.wanted o y = true := fun o y hg => by simp [Region.wanted, hg]
  show wpOpsIn (wideR ro) 0 P #[o1, o2, o3, o4] Q [0, 1, 2, 3] a w
  have q0 : (#[o1, o2, o3, o4] : Array Oper)[0]? = some o1 := rfl
  have q1 : (#[o1, o2, o3, o4] : Array Oper)[1]? = some o2 := rfl
  have q2 : (#[o1, o2, o3, o4] : Array Oper)[2]? = some o3 := rfl
  have q3 : (#[o1, o2, o3, o4] : Array Oper)[3]? = some o4 := rfl
  simp only [wpOpsIn, q0]
  rw [if_pos (w1' o1 _ g1)]
  refine OpRes.wq (Po := fun v w' => v = _ ∧ w' = _) (res_ok r1 ⟨rfl, rfl⟩) ?_
  rintro v w' ⟨rfl, rfl⟩
  rw [d1]
  simp only [wpOpsIn, q1]
  rw [if_pos (w1' o2 _ g2)]
  refine OpRes.wq (Po := fun v w' => v = _ ∧ w' = _) (res_ok r2 ⟨rfl, rfl⟩) ?_
  rintro v w' ⟨rfl, rfl⟩
  rw [d2]
  simp only [wpOpsIn, q2]
  rw [if_pos (w1' o3 _ g3)]
  refine OpRes.wq (Po := fun v w' => v = _ ∧ w' = _) (res_ok r3 ⟨rfl, rfl⟩) ?_
  rintro v w' ⟨rfl, rfl⟩
  rw [d3]
  simp only [wpOpsIn, q3]
  rw [if_pos (w1' o4 _ g4)]
  refine OpRes.wq (Po := fun v w' => v = _ ∧ w' = _) (res_ok r4 ⟨rfl, rfl⟩) ?_
  rintro v w' ⟨rfl, rfl⟩
  rw [d4]
  exact fin

/-! ### if s == nil { return nil }; return append(S{}, s...), at a slice without elements -/
theorem step1 {ro : Option Nat} {ops : Array Oper} {o : Oper} {i : Nat} {is : List Nat} {v : Value} {w' : World} {Q : Exit → Act → World → Prop} (ho : ops[i]? = some o) (hg : o.guard = none) (hr : (execOp a.eval o).run P w = .ok (.value v) w')
    (k : wpOpsIn (wideR ro) 0 P ops Q is (a.put o.dst v) w') : wpOpsIn (wideR ro) 0 P ops Q (i :: is) a w := by
  simp only [wpOpsIn, ho]
  rw [if_pos (by simp [Region.wanted, hg])]
  refine OpRes.wq (Po := fun u w1 => u = v ∧ w1 = w') (res_ok hr ⟨rfl, rfl⟩) ?_
  rintro u w1 ⟨rfl, rfl⟩
  exact k
def nilOf : Op → Bool
  | .assign (.const (.slice none 0 0)) => true
  | _ => false
theorem nilOf_eq {op : Op} (h : nilOf op = true) : op = .assign (.const (.slice none 0 0)) := by
  unfold nilOf at h
  split at h <;> first | rfl | cases h
def eqNilOf : Op → Option (TypeId × Tmp)
  | .binOp .eql t (.tmp a) (.const (.slice none 0 0)) _ => some (t, a)
  | _ => none
theorem eqNilOf_eq {op : Op} {t : TypeId} {y : Tmp} (h : eqNilOf op = some (t, y)) : ∃ u, op = .binOp .eql t (.tmp y) (.const (.slice none 0 0)) u := by
  unfold eqNilOf at h
  split at h <;> cases h
  exact ⟨_, rfl⟩
/-- the parts of such a body -/
def nilParts : Code → Option (List Oper × List Oper × Tmp × List Oper × List Oper)
  | .seq (.region _ p0 false) (.seq (.seq (.region _ p1 false) (.cond (.tmp b) (.seq (.region _ p2 false) .ret) .skip)) (.seq (.region _ p3 false) .ret)) => some (p0.toList, p1.toList, b, p2.toList, p3.toList)
  | _ => none
def nil1 (μ : List Nat) (nt d : Nat) : List Oper → Bool
  | [o] => o.guard.isNone && nilOf o.op && (orF o.dst fun a => decide (μ[d]? = some a) && decide (a < nt))
  | _ => false
def nil2 (μ : List Nat) (nt : Nat) (P : Program) (x : Nat) (b : Tmp) : List Oper → Bool
  | [o1, o2] => o1.guard.isNone && o2.guard.isNone && (orF (movOf o1.op) fun y => orF (eqNilOf o2.op) fun q => orF o1.dst fun a1 => orF o2.dst fun a2 =>
      (!μ.contains a1 && !μ.contains a2) && (decide (a1 < nt) && decide (a2 < nt)) && (decide (μ[x]? = some y) && decide (q.2 = a1) && decide (b = a2)) && (uSlc P q.1).isSome)
  | _ => false
def chkNilc (μ : List Nat) (nt : Nat) (P : Program) (d x sz bytes : Nat) (c : Code) : Bool :=
  orF (nilParts c) fun q => decide (x ≠ d) && nil1 μ nt d q.1 && nil2 μ nt P x q.2.2.1 q.2.1 && nil1 μ nt d q.2.2.2.1 && chkClone μ nt P d x sz bytes q.2.2.2.2
theorem nil1_ok {ro : Option Nat} {d : Nat} {ops : Array Oper} {Q : Exit → Act → World → Prop} (hc : nil1 μ nt d ops.toList = true) (hn : a.tmps.size = nt)
    (k : ∀ e, μ[d]? = some e → e < nt → Q .normal (a.put (some e) (.slice none 0 0)) w) : wpOpsIn (wideR ro) 0 P ops Q (List.range ops.size) a w := by
  obtain ⟨o, ho⟩ : ∃ o, ops.toList = [o] := by
    generalize ops.toList = l at hc
    unfold nil1 at hc
    split at hc <;> first | (cases hc; done) | exact ⟨_, rfl⟩
  have hA : ops = #[o] := by
    have := congrArg List.toArray ho
    simpa using this
  subst hA
  simp only [nil1, Bool.and_eq_true, Option.isNone_iff_eq_none] at hc
  obtain ⟨⟨h1, h2⟩, h3⟩ := hc
  obtain ⟨e, h4, h5⟩ := of_orF h3
  simp only [Bool.and_eq_true, decide_eq_true_eq] at h5
  show wpOpsIn (wideR ro) 0 P #[o] Q [0] a w
  refine step1 (o := o) (v := .slice none 0 0) (w' := w) rfl h1 (by simp only [execOp, nilOf_eq h2]; rfl) ?_
  rw [h4]
  exact k e h5.1 h5.2

theorem empty_ok {ro : Option Nat} {d x sz bytes : Nat} {p3 : Array Oper} {ac2 : Act} {y : Tmp} {ad : Addr} {c : Nat} {Q : Exit → Act → World → Prop} (hμ : μ.Nodup) (c3 : chkClone μ nt P d x sz bytes p3.toList = true)
    (hA2 : RelA w g μ [] env [] st ac2.tmps) (hn2 : ac2.tmps.size = nt) (hd2 : ac2.defers = dfs) (hst : st ≠ []) (hx : μ[x]? = some y) (hv : ac2.tmps.getD y undef = .slice (some ad) 0 c)
    (k : ∀ a' w' g', Ext w w' g g' → At w' g' μ nt dfs [] (env.set d (.v (.slc sz []))) [] st a' → Q .normal a' w') : wpOpsIn (wideR ro) 0 P p3 Q (List.range p3.size) ac2 w := by
  have slc0 : ∀ {w' : World} {g' : Gh} {ad c}, RelD w' g' (fun _ => .env d) (.v (.slc sz [])) (.slice ad 0 c) := fun {w' g' ad c} => .v _ _ _ (.slc0 _ _ _)
  obtain ⟨o1, o2, o3, o4, hops⟩ : ∃ o1 o2 o3 o4, p3.toList = [o1, o2, o3, o4] := by
    generalize p3.toList = l at c3
    unfold chkClone at c3
    split at c3 <;> first | (cases c3; done) | exact ⟨_, _, _, _, rfl⟩
  have hP3 : p3 = #[o1, o2, o3, o4] := by
    have := congrArg List.toArray hops
    simpa using this
  subst hP3
  simp only [chkClone] at c3
  obtain ⟨t3, s1, hc⟩ := of_orF c3
  obtain ⟨y3, s2, hc⟩ := of_orF hc
  obtain ⟨cl, s3, hc⟩ := of_orF hc
  obtain ⟨z3, s4, hc⟩ := of_orF hc
  obtain ⟨b1, f1, hc⟩ := of_orF hc
  obtain ⟨b2, f2, hc⟩ := of_orF hc
  obtain ⟨b3, f3, hc⟩ := of_orF hc
  obtain ⟨b4, f4, hc⟩ := of_orF hc
  simp only [Bool.and_eq_true, decide_eq_true_eq, Bool.not_eq_true', Option.isNone_iff_eq_none] at hc
  obtain ⟨⟨⟨⟨⟨⟨⟨w1, w2⟩, w3⟩, w4⟩, ⟨n1, n2⟩, n3⟩, ⟨⟨j1, j2⟩, j3⟩, j4⟩, ⟨⟨n12, hx3⟩, hz3⟩, hd3⟩, hlast⟩ := hc
  obtain ⟨u1', e5, inf, zv, k1, k2, k3, k4, k5, k6, k7, k8, k9, k10, k11⟩ := appOf_eq hlast
  have ht3 := of_uSlc P k5
  have hszT : szT P e5 = some sz := by simp [szT, k6, k7]
  rw [hx] at hx3
  cases hx3
  have t1 : (execOp ac2.eval o1).run P w = .ok (.value (.slice (some ⟨w.heap.size, 0, none⟩) 0 0)) (w.alloc (.cells #[] e5)) := by
    simp only [execOp, litOf_eq s1, Array.map_empty]
    exact run_v (run_lit0 ht3 hszT)
  have hG := Gh.grow_new (o := .cells #[] e5) (L := 0) (p := none) hA2.s (by simp) 0
  rw [drewN_zero] at hG
  have hB1 := hG.relA hA2 (fun r => Iff.rfl)
  have hx1 := hG.ext hA2.s
  let bc1 : Act := ac2.put (some b1) (.slice (some ⟨w.heap.size, 0, none⟩) 0 0)
  have hB1' := drop_put (d := b1) (v := .slice (some ⟨w.heap.size, 0, none⟩) 0 0) hB1 n1
  have hnb : bc1.tmps.size = nt := by simp [bc1, Act.put, hn2]
  have vy : bc1.eval (.tmp y) = .slice (some ad) 0 c := by
    have hne := mu_ne n1 hx
    show ((ac2.tmps.setIfInBounds b1 (.slice (some ⟨w.heap.size, 0, none⟩) 0 0)).getD y undef) = _
    rw [getD_put (by rw [hn2]; exact j1), if_neg hne]
    exact hv
  have t2 : (execOp bc1.eval o2).run P (w.alloc (.cells #[] e5)) = .ok (.value (.slice (some ad) 0 c)) (w.alloc (.cells #[] e5)) := by
    simp only [execOp, movOf_eq s2, vy]
    rfl
  let bc2 : Act := bc1.put (some b2) (.slice (some ad) 0 c)
  have hB2 := drop_put (d := b2) (v := .slice (some ad) 0 c) hB1' n2
  have u1 : bc2.eval (.tmp b1) = .slice (some ⟨w.heap.size, 0, none⟩) 0 0 := by
    show (((ac2.tmps.setIfInBounds b1 (.slice (some ⟨w.heap.size, 0, none⟩) 0 0)).setIfInBounds b2 (.slice (some ad) 0 c)).getD b1 undef) = .slice (some ⟨w.heap.size, 0, none⟩) 0 0
    rw [getD_put (by rw [Array.size_setIfInBounds, hn2]; exact j2), if_neg n12, getD_put (by rw [hn2]; exact j1), if_pos rfl]
  have u2 : bc2.eval (.tmp b2) = .slice (some ad) 0 c := by
    show ((bc1.tmps.setIfInBounds b2 (.slice (some ad) 0 c)).getD b2 undef) = .slice (some ad) 0 c
    rw [getD_put (by rw [hnb]; exact j2), if_pos rfl]
  have SrcE : Src P sz u1' (.slice (some ad) 0 c) 0 [] (w.alloc (.cells #[] e5)) := by
    have := src_of (P := P) (w := w.alloc (.cells #[] e5)) (g := g) (sz := sz) (ys := []) (f := fun _ _ => undef) (v := .slice (some ad) 0 c) (u := u1') ⟨fun i h => by simp at h, fun i h => by simp at h, fun i h => by simp at h⟩ (.sl _ _ (Nat.zero_le _) (fun h => by simp at h)) k4
    have e0 : cellL ([] : List V).length sz (fun _ _ => undef) = [] := by simp [cellL]
    rw [e0] at this
    exact this
  have t3 : (execOp bc2.eval o3).run P (w.alloc (.cells #[] e5)) = .ok (.value (.slice (some ⟨w.heap.size, 0, none⟩) 0 0)) (w.alloc (.cells #[] e5)) := by
    simp only [execOp, callOf_eq s3, resolve, builtinOf_eq k1, k2, k3]
    simp only [Sem.run_bind, Sem.run_pure, Result.andThen_ok, invoke, builtin, List.map_toArray, List.map_cons, List.map_nil, u1, u2]
    rw [run_append_nothing _ t3 u1' o3.type e5 inf ht3 k6 (some ⟨w.heap.size, 0, none⟩) 0 0 (Nat.le_refl _) (.slice (some ad) 0 c) (by rw [k7]; exact SrcE)]
    rfl
  let bc3 : Act := bc2.put (some b3) (.slice (some ⟨w.heap.size, 0, none⟩) 0 0)
  have hB3 := drop_put (d := b3) (v := .slice (some ⟨w.heap.size, 0, none⟩) 0 0) hB2 n3
  have hnb2 : bc2.tmps.size = nt := by simp [bc2, bc1, Act.put, hn2]
  have t4 : (execOp bc3.eval o4).run P (w.alloc (.cells #[] e5)) = .ok (.value (.slice (some ⟨w.heap.size, 0, none⟩) 0 0)) (w.alloc (.cells #[] e5)) := by
    have v3 : bc3.eval (.tmp b3) = .slice (some ⟨w.heap.size, 0, none⟩) 0 0 := by
      show ((bc2.tmps.setIfInBounds b3 (.slice (some ⟨w.heap.size, 0, none⟩) 0 0)).getD b3 undef) = .slice (some ⟨w.heap.size, 0, none⟩) 0 0
      rw [getD_put (by rw [hnb2]; exact j3), if_pos rfl]
    simp only [execOp, asgOf_eq s4, hz3]
    rw [v3]
    rfl
  have hB4 := set_put (d := b4) (v := .slice (some ⟨w.heap.size, 0, none⟩) 0 0) hμ hB3 hd3 (by simpa [hn2] using j4) slc0
  have fin := k (bc3.put (some b4) (.slice (some ⟨w.heap.size, 0, none⟩) 0 0)) _ _ hx1 ⟨hB4, by simp [bc3, bc2, bc1, Act.put, hn2], by simp [bc3, bc2, bc1, Act.put, hd2], rfl, hst⟩
  show wpOpsIn (wideR ro) 0 P #[o1, o2, o3, o4] _ [0, 1, 2, 3] ac2 w
  refine step1 (o := o1) rfl w1 t1 ?_
  rw [f1]
  refine step1 (o := o2) rfl w2 t2 ?_
  rw [f2]
  refine step1 (o := o3) rfl w3 t3 ?_
  rw [f3]
  refine step1 (o := o4) rfl w4 t4 ?_
  rw [f4]
  exact fin
theorem nilc_ok {ro : Option Nat} {d x sz bytes : Nat} {c : Code} {Q : Exit → Act → World → Prop} (hμ : μ.Nodup) (hc : chkNilc μ nt P d x sz bytes c = true) (hel : isNilV (rdV st (cp (getT env x))) = true) (h : At w g μ nt dfs [] env [] st a)
    (k : ∀ a' w' g', Ext w w' g g' → At w' g' μ nt dfs [] (env.set d (.v (.slc sz []))) [] st a' → Q .ret a' w') : c.wpIn (wideR ro) 0 P Q a w := by
  obtain ⟨⟨l0, l1, b, l2, l3⟩, hp, hc⟩ := of_orF hc
  unfold nilParts at hp
  split at hp <;> cases hp
  rename_i i0 p0 i1 p1 i2 p2 i3 p3 _
  simp only [Bool.and_eq_true] at hc
  obtain ⟨⟨⟨⟨hxd, c0⟩, c1⟩, c2⟩, c3⟩ := hc
  have hxd := of_decide_eq_true hxd
  have hn := h.n
  have slc0 : ∀ {w' : World} {g' : Gh} {ad c}, RelD w' g' (fun _ => .env d) (.v (.slc sz [])) (.slice ad 0 c) := fun {w' g' ad c} => .v _ _ _ (.slc0 _ _ _)
  -- nothing in it
  have hz : ∃ z, rdV st (cp (getT env x)) = some (.slc z []) := by
    unfold isNilV at hel
    split at hel
    · exact ⟨_, by assumption⟩
    · cases hel
  obtain ⟨z, hz⟩ := hz
  have hel2 : elems z st (cp (getT env x)) = some [] := by
    generalize cp (getT env x) = dd at hz
    cases dd <;> first | (simp only [elems, hz, Option.bind_some, slcOf, if_true]; done) | skip
    rename_i x''
    cases x'' <;> simp only [rdV] at hz <;> first | (cases hz; done) | skip
    cases hz
    simp [elems]
  refine wpIn_seq (wpIn_region (nil1_ok c0 hn fun e0 he0 hl0 => ?_))
  have hA1 := set_put (d := e0) hμ h.r he0 (by rw [hn]; exact hl0) (slc0 (w' := w) (g' := g) (ad := none) (c := 0))
  refine wpIn_seq (wpIn_seq (wpIn_region ?_))
  -- the comparison
  obtain ⟨o1, o2, ho⟩ : ∃ o1 o2, p1.toList = [o1, o2] := by
    generalize p1.toList = l at c1
    unfold nil2 at c1
    split at c1 <;> first | (cases c1; done) | exact ⟨_, _, rfl⟩
  have hP1 : p1 = #[o1, o2] := by
    have := congrArg List.toArray ho
    simpa using this
  subst hP1
  simp only [nil2, Bool.and_eq_true, Option.isNone_iff_eq_none] at c1
  obtain ⟨⟨g1, g2⟩, c1⟩ := c1
  obtain ⟨y, q1, c1⟩ := of_orF c1
  obtain ⟨⟨t, y2⟩, q2, c1⟩ := of_orF c1
  obtain ⟨a1, d1, c1⟩ := of_orF c1
  obtain ⟨a2, d2, c1⟩ := of_orF c1
  simp only [Bool.and_eq_true, Bool.not_eq_true', decide_eq_true_eq] at c1
  obtain ⟨⟨⟨⟨m1, m2⟩, l1', l2'⟩, ⟨hx, hy2⟩, hbb⟩, hsl⟩ := c1
  obtain ⟨u, q2'⟩ := eqNilOf_eq q2
  obtain ⟨e, hu⟩ := Option.isSome_iff_exists.1 hsl
  have ht := of_uSlc P hu
  have hchk : chkO μ [] (.tmp y) (.x x) = true := by simp [chkO, hx]
  let ac0 : Act := a.put (some e0) (.slice none 0 0)
  have hn0 : ac0.tmps.size = nt := by simp [ac0, Act.put, hn]
  have hA1' : RelA w g μ [] (env.set d (.v (.slc sz []))) [] st ac0.tmps := hA1
  have hrel : RelD w g (fun _ => .nil) (cp (getT (env.set d (.v (.slc sz []))) x)) (ac0.eval (.tmp y)) := rd_rel (a := ac0) hA1' hchk (fun _ => .nil)
  rw [getT_set, if_neg (fun hh => hxd hh.1.symm)] at hrel
  have hV := rdV_rel (L := fun b => max (g.L b) (blockSize w b)) h.r.s hrel hz (fun b => Nat.le_max_left _ _) (fun r _ _ => Nat.le_max_right _ _)
  obtain ⟨ad, cp0, hv, _⟩ := slc_shape hV
  simp only [List.length_nil] at hv
  have r1 : (execOp ac0.eval o1).run P w = .ok (.value (.slice ad 0 cp0)) w := by
    simp only [execOp, movOf_eq q1, hv]
    rfl
  let ac1 : Act := ac0.put (some a1) (.slice ad 0 cp0)
  have v1 : ac1.eval (.tmp a1) = .slice ad 0 cp0 := by
    show ((ac0.tmps.setIfInBounds a1 _).getD a1 undef) = _
    rw [getD_put (by rw [hn0]; exact l1'), if_pos rfl]
  have r2 : (execOp ac1.eval o2).run P w = .ok (.value (.bool ad.isNone)) w := by
    have hy3 : y2 = a1 := hy2
    simp only [execOp, q2', hy3]
    refine run_v ?_
    have e1 : (eqGuard .eql t (.tmp a1) (.const (.slice none 0 0)) (ac1.eval (.tmp a1)) (ac1.eval (.const (.slice none 0 0)))).run P w = .ok () w := by rw [v1]; rfl
    rw [Sem.run_bind, e1, Result.andThen_ok, v1]
    exact Lib.run_eql_slice_nil w t e ad 0 cp0 0 0 ht
  let ac2 : Act := ac1.put (some a2) (.bool ad.isNone)
  have hA2 : RelA w g μ [] (env.set d (.v (.slc sz []))) [] st ac2.tmps := drop_put (drop_put hA1' m1) m2
  have hn2 : ac2.tmps.size = nt := by simp [ac2, ac1, ac0, Act.put, hn]
  have v2 : ac2.eval (.tmp b) = .bool ad.isNone := by
    rw [hbb]
    show ((ac1.tmps.setIfInBounds a2 _).getD a2 undef) = _
    rw [getD_put (by simpa [ac1, ac0, Act.put, hn] using l2'), if_pos rfl]
  have hd2 : ac2.defers = dfs := by simp [ac2, ac1, ac0, Act.put, h.d]
  show wpOpsIn (wideR ro) 0 P #[o1, o2] _ [0, 1] ac0 w
  refine step1 (o := o1) rfl g1 r1 ?_
  rw [d1]
  refine step1 (o := o2) rfl g2 r2 ?_
  rw [d2]
  show (Code.cond (.tmp b) _ _).wpIn (wideR ro) 0 P _ ac2 w
  refine wpIn_cond v2 ?_
  cases ad with
  | none =>
    show (Code.seq (.region i2 p2 false) .ret).wpIn (wideR ro) 0 P _ ac2 w
    refine wpIn_seq (wpIn_region (nil1_ok c2 hn2 fun e3 he3 hl3 => wpIn_ret ?_))
    have hA3 := set_put (d := e3) hμ hA2 he3 (by rw [hn2]; exact hl3) (slc0 (w' := w) (g' := g) (ad := none) (c := 0))
    rw [List.set_set] at hA3
    exact k _ w g (Ext.refl w g) ⟨hA3, by simp [Act.put, hn2], by simp [Act.put, hd2], rfl, h.st⟩
  | some ad =>
    refine wpIn_skip ?_
    show (Code.seq (.region i3 p3 false) .ret).wpIn (wideR ro) 0 P Q ac2 w
    refine wpIn_seq (wpIn_region (empty_ok (ad := ad) (c := cp0) hμ c3 hA2 hn2 hd2 h.st hx ?_ fun a' w' g' hx' hA' => wpIn_ret (k a' w' g' hx' (by rw [List.set_set] at hA'; exact hA'))))
    have ny : ∀ (tm : Array Value) (q : Nat) (v : Value), μ.contains q = false → (tm.setIfInBounds q v).getD y undef = tm.getD y undef := fun tm q v hq => by
      have hne := mu_ne hq hx
      simp only [Array.getD_eq_getD_getElem?]
      rw [Array.getElem?_setIfInBounds_ne (Ne.symm hne)]
    show (((ac0.tmps.setIfInBounds a1 _).setIfInBounds a2 _).getD y undef) = _
    rw [ny _ _ _ m2, ny _ _ _ m1]
    exact hv
end
end Go.Q
