/- Room made ahead: append(s[:cap(s)], make([]E, n)...)[:len(s)], s being nil. No condition. -/
import Derived.Test.YtmbdamompcdolaaDoorEv9
set_option linter.unusedVariables false
set_option linter.unusedSimpArgs false
set_option linter.unusedSectionVars false
namespace Go.Q
variable [Known]
section
variable {P : Program} {w : World} {g : Gh} {μ : List Nat} {nt : Nat} {dfs : List Deferred} {env ts : List D} {st : St} {a : Act} {τ : List (Option Nat)}

theorem run_append_make (w : World) (t u e ty : TypeId) (inf : TypeInfo) (zv : Value) (kk : IntKind) (ht : P.underlying t = some (.slice e)) (hu : P.underlying u = some (.int kk)) (hi : P.info? e = some inf) (hz : inf.zero = some zv)
    (n : Int) (h0 : 0 < n) (hs : inf.size ≠ 0) (hb0 : inf.bytes ≠ 0) (hby : n * (inf.bytes : Int) ≤ (maxB : Int)) :
    ∃ C, (Builtin.append_ #[t, u] ty #[.slice none 0 0, .int .i64 n]).run P w = .ok (.slice (some ⟨w.heap.size, 0, none⟩) n.toNat (grownCap w n.toNat 0 e)) (w.drew.alloc (.cells C e)) ∧ C.size = grownCap w n.toNat 0 e * zv.cells.size := by
  have hM : (maxB : Int) = 140737488355328 := rfl
  have h1 : n * 1 ≤ n * (inf.bytes : Int) := Int.mul_le_mul_of_nonneg_left (by omega) (by omega)
  have w1 : IntKind.i64.wrap n = n := by rw [IntKind.wrap_i64]; omega
  have c1 : ¬ n < 0 := by omega
  have c2 : ¬ (281474976710656 < n * (inf.bytes : Int)) := by omega
  have c3 : ¬ (n.toNat = 0) := by omega
  have c4 : ¬ (9223372036854775807 < max n 0) := by omega
  have hnat : n.toNat * inf.bytes ≤ maxB := by
    have : ((n.toNat * inf.bytes : Nat) : Int) = n * (inf.bytes : Int) := by rw [Int.natCast_mul, Int.toNat_of_nonneg (by omega)]
    have h2 : (maxB : Nat) = 140737488355328 := rfl
    omega
  have c5 : ¬ (281474976710656 < Builtin.nextslicecap n.toNat 0 * inf.bytes) := by
    have := growslice_fits (need := n.toNat) (old := 0) (bytes := inf.bytes) (by omega) hnat
    omega
  have c6 : ¬ (n.toNat * inf.size = 0) := fun h => by rcases Nat.mul_eq_zero.1 h with h | h <;> omega
  have hge := grownCap_ge w n.toNat 0 e
  refine ⟨Builtin.zeroCells zv.cells n.toNat ++ Builtin.zeroCells zv.cells (grownCap w n.toNat 0 e - n.toNat), ?_, ?_⟩
  · simp [Builtin.append_, run_underlying ht, run_underlying hu, sizeOf, typeInfo, zeroValue, hi, hz, w1, c1, c2, c3, c4, c5, hs, Question.forced, newRow, grownCap, asInt, asIntOf, Builtin.firstCells]
    have c7 : ¬ n ≤ 0 := by omega
    simp [w1, c1, c2, c3, c4, c5, c6, c7, hs]
  · rw [Array.size_append, size_zeroCells, size_zeroCells, ← Nat.add_mul]
    congr 1; omega

def argsOf (c : Call) (b : Builtin) : Option (Tmp × TypeId) := match builtinOf c, c.args.toList, c.argTypes.toList with
  | some b', [.tmp x], [t] => if b' = b then some (x, t) else none
  | _, _, _ => none
def subOf : Op → Option (TypeId × Tmp × Tmp)
  | .slice t (.tmp x) none (some (.tmp h)) none => some (t, x, h)
  | _ => none
def app2Of (c : Call) : Option (Tmp × Tmp × TypeId × TypeId) := match builtinOf c, c.args.toList, c.argTypes.toList with
  | some .append, [.tmp x, .tmp y], [t, u] => some (x, y, t, u)
  | _, _, _ => none
/-- append(s[:cap(s)], make([]E, n)...)[:len(s)] -/
def chkGrow (μ : List Nat) (nt : Nat) (P : Program) (d n sz bytes : Nat) : List Oper → Bool
  | [o1, o2, o3, o4, o5, o6, o7, o8, o9, o10] =>
    (o1.guard.isNone && o2.guard.isNone && o3.guard.isNone && o4.guard.isNone && o5.guard.isNone && o6.guard.isNone && o7.guard.isNone && o8.guard.isNone && o9.guard.isNone && o10.guard.isNone) &&
    (orF o1.dst fun a1 => orF o2.dst fun a2 => orF o3.dst fun a3 => orF o4.dst fun a4 => orF o5.dst fun a5 => orF o6.dst fun a6 => orF o7.dst fun a7 => orF o8.dst fun a8 => orF o9.dst fun a9 => orF o10.dst fun a10 =>
    orF μ[d]? fun y => orF μ[n]? fun m =>
    orF (callOf o3.op) fun c3 => orF (argsOf c3 .cap) fun q3 => orF (subOf o4.op) fun q4 => orF (callOf o6.op) fun c6 => orF (app2Of c6) fun q6 => orF (callOf o8.op) fun c8 => orF (argsOf c8 .len) fun q8 => orF (subOf o9.op) fun q9 =>
    (decide (movOf o1.op = some y) && decide (movOf o2.op = some y) && decide (q3 = (a2, q6.2.2.1)) && decide (q4 = (q6.2.2.1, a1, a3)) && decide (movOf o5.op = some m) && decide (q6.1 = a4) && decide (q6.2.1 = a5) && decide (movOf o7.op = some y) &&
      decide (q8 = (a7, q6.2.2.1)) && decide (q9 = (q6.2.2.1, a6, a8)) && decide (asgOf o10.op = some a9) && decide (a10 = y)) &&
    ([a1, a2, a3, a4, a5, a6, a7, a8, a9].all fun x => !μ.contains x && decide (x < nt)) && decide (y < nt) && decide ([a1, a2, a3, a4, a5, a6, a7, a8, a9].Nodup) &&
    (orF (uInt P q6.2.2.2) fun _ => true) && (orF (uSlc P q6.2.2.1) fun e => (orF (P.info? e) fun i => i.size == sz && i.bytes == bytes && bytes != 0 && sz != 0 && (orF (i.zero) fun zv => zv.cells.size == sz))))
  | _ => false
theorem argsOf_eq {c : Call} {b : Builtin} {x : Tmp} {t : TypeId} (h : argsOf c b = some (x, t)) : builtinOf c = some b ∧ c.args = #[.tmp x] ∧ c.argTypes = #[t] := by
  unfold argsOf at h
  split at h <;> first | (cases h; done) | skip
  rename_i h1 h2 h3
  split at h <;> cases h
  rename_i hb
  subst hb
  exact ⟨h1, by rw [← h2], by rw [← h3]⟩
theorem subOf_eq {op : Op} {t : TypeId} {x h : Tmp} (hh : subOf op = some (t, x, h)) : op = .slice t (.tmp x) none (some (.tmp h)) none := by
  unfold subOf at hh
  split at hh <;> cases hh
  rfl
theorem app2Of_eq {c : Call} {x y : Tmp} {t u : TypeId} (h : app2Of c = some (x, y, t, u)) : builtinOf c = some .append ∧ c.args = #[.tmp x, .tmp y] ∧ c.argTypes = #[t, u] := by
  unfold app2Of at h
  split at h <;> cases h
  rename_i h1 h2 h3
  exact ⟨h1, by rw [← h2], by rw [← h3]⟩
theorem ev_put {d : Nat} {v : Value} (h : d < a.tmps.size) (t : Tmp) : (a.put (some d) v).eval (.tmp t) = if t = d then v else a.eval (.tmp t) := by
  show (a.put (some d) v).tmps.getD t undef = _
  rw [put_getD]
  by_cases e : t = d
  · rw [if_pos ⟨e, h⟩, if_pos e]
  · rw [if_neg (fun hh => e hh.1), if_neg e]; rfl
theorem slice0_run (w : World) (g : Gh) {t e : TypeId} {sz : Nat} (hu : uSlc P t = some e) (hz : szT P e = some sz) (ad : Option Addr) (n c : Nat) (hnc : n ≤ c) :
    (Instr.sliceAt t (.slice ad n c) none (some (.int .i64 0)) none).run P w = .ok (.slice (if c = 0 then ad else ad.map (·.add (0 * sz))) 0 c) w := by
  have hb : bnds n none (some (.v (.int .i64 0))) = some (0, 0) := by
    have : ((0 : Int) ≤ 0 ∧ (0 : Int) ≤ (n : Int)) := ⟨by omega, by omega⟩
    simp [bnds, bndHi, bndLo, bndOf, asN]
  obtain ⟨h1, _⟩ := bnds_ok (P := P) (w := w) (g := g) true .none (.some (fun _ => .nil) _ _ (.v _ _ _ (.int _ _))) hb hnc
  exact slice_run hu hz h1
/-- what goes on -/
structure Inv (w : World) (g : Gh) (μ : List Nat) (nt : Nat) (dfs : List Deferred) (env : List D) (st : St) (a : Act) : Prop where
  r : RelA w g μ [] env [] st a.tmps
  n : a.tmps.size = nt
  d : a.defers = dfs
theorem one_step {ro : Option Nat} {ops : Array Oper} {o : Oper} {i : Nat} {is : List Nat} {v : Value} {w' : World} {g' : Gh} {x : Tmp} {Q : Exit → Act → World → Prop} (I : Inv w g μ nt dfs env st a) (I' : RelA w' g' μ [] env [] st a.tmps) (ho : ops[i]? = some o) (hg : o.guard = none)
    (hr : (execOp a.eval o).run P w = .ok (.value v) w') (hd : o.dst = some x) (hk : μ.contains x = false) (hl : x < nt)
    (k : ∀ b, Inv w' g' μ nt dfs env st b → (∀ t, b.eval (.tmp t) = if t = x then v else a.eval (.tmp t)) → wpOpsIn (wideR ro) 0 P ops Q is b w') : wpOpsIn (wideR ro) 0 P ops Q (i :: is) a w := by
  refine step1 ho hg hr ?_
  rw [hd]
  exact k _ ⟨drop_put I' hk, by simp [Act.put, I.n], by simp [Act.put, I.d]⟩ (ev_put (by rw [I.n]; exact hl))
theorem grow_run {ro : Option Nat} {o1 o2 o3 o4 o5 o6 o7 o8 o9 o10 : Oper} {a1 a2 a3 a4 a5 a6 a7 a8 a9 a10 m : Tmp} {c3 c6 c8 : Call} {t u e : TypeId} {d n sz bytes z : Nat} {N : Int} {inf : TypeInfo} {zv : Value} {kk : IntKind} {Q : Exit → Act → World → Prop} (hμ : μ.Nodup)
    (g1 : o1.guard = none) (g2 : o2.guard = none) (g3 : o3.guard = none) (g4 : o4.guard = none) (g5 : o5.guard = none) (g6 : o6.guard = none) (g7 : o7.guard = none) (g8 : o8.guard = none) (g9 : o9.guard = none) (g10 : o10.guard = none)
    (d1 : o1.dst = some a1) (d2 : o2.dst = some a2) (d3 : o3.dst = some a3) (d4 : o4.dst = some a4) (d5 : o5.dst = some a5) (d6 : o6.dst = some a6) (d7 : o7.dst = some a7) (d8 : o8.dst = some a8) (d9 : o9.dst = some a9) (d10 : o10.dst = some a10)
    (hy : μ[d]? = some a10) (hm : μ[n]? = some m) (p3 : callOf o3.op = some c3) (p4 : subOf o4.op = some (t, a1, a3)) (p6 : callOf o6.op = some c6) (p8 : callOf o8.op = some c8) (p9 : subOf o9.op = some (t, a6, a8))
    (i1 : movOf o1.op = some a10) (i2 : movOf o2.op = some a10) (i5 : movOf o5.op = some m) (i8 : movOf o7.op = some a10) (i11 : asgOf o10.op = some a9)
    (k1 : μ.contains a1 = false) (l1 : a1 < nt) (k2 : μ.contains a2 = false) (l2 : a2 < nt) (k3 : μ.contains a3 = false) (l3 : a3 < nt) (k4 : μ.contains a4 = false) (l4 : a4 < nt) (k5 : μ.contains a5 = false) (l5 : a5 < nt)
    (k6 : μ.contains a6 = false) (l6 : a6 < nt) (k7 : μ.contains a7 = false) (l7 : a7 < nt) (k8 : μ.contains a8 = false) (l8 : a8 < nt) (k9 : μ.contains a9 = false) (l9 : a9 < nt) (hyn : a10 < nt)
    (hnd : [a1, a2, a3, a4, a5, a6, a7, a8, a9].Nodup) (hu : uInt P u = some kk) (hsl : uSlc P t = some e) (hinf : P.info? e = some inf) (z1 : inf.size = sz) (z2 : inf.bytes = bytes) (z3 : ¬ bytes = 0) (z4 : ¬ sz = 0) (z6 : inf.zero = some zv) (z7 : zv.cells.size = sz)
    (hszT : szT P e = some sz) (b3 : builtinOf c3 = some .cap) (b3a : c3.args = #[.tmp a2]) (b3t : c3.argTypes = #[t]) (b6 : builtinOf c6 = some .append) (b6a : c6.args = #[.tmp a4, .tmp a5]) (b6t : c6.argTypes = #[t, u])
    (b8 : builtinOf c8 = some .len) (b8a : c8.args = #[.tmp a7]) (b8t : c8.argTypes = #[t]) (hd : getT env d = .nils z) (hN : getT env n = .v (.int .i64 N)) (hpos : 0 < N) (hby : N * (bytes : Int) ≤ (maxB : Int)) (h : At w g μ nt dfs [] env [] st a)
    (k : ∀ a' w' g', Ext w w' g g' → At w' g' μ nt dfs [] (env.set d (.lin sz [])) [] st a' → Q .normal a' w') : wpOpsIn (wideR ro) 0 P #[o1, o2, o3, o4, o5, o6, o7, o8, o9, o10] Q [0, 1, 2, 3, 4, 5, 6, 7, 8, 9] a w := by
  have hA := h.r
  have hn : a.tmps.size = nt := h.n
  have ey := hA.e d _ hy
  rw [hd] at ey
  have em := hA.e n _ hm
  rw [hN] at em
  have vy : a.eval (.tmp a10) = .slice none 0 0 := by
    show a.tmps.getD a10 undef = _
    generalize a.tmps.getD a10 undef = v at ey
    cases ey; rfl
  have vm : a.eval (.tmp m) = .int .i64 N := intOf em
  have ny : ∀ x, μ.contains x = false → a10 ≠ x := fun x hx => mu_ne hx hy
  have nm : ∀ x, μ.contains x = false → m ≠ x := fun x hx => mu_ne hx hm
  simp only [List.nodup_cons, List.mem_cons, not_or, List.not_mem_nil, not_false_eq_true, List.nodup_nil, and_true] at hnd
  obtain ⟨⟨n12, n13, n14, n15, n16, n17, n18, n19⟩, ⟨n23, n24, n25, n26, n27, n28, n29⟩, ⟨n34, n35, n36, n37, n38, n39⟩, ⟨n45, n46, n47, n48, n49⟩, ⟨n56, n57, n58, n59⟩, ⟨n67, n68, n69⟩, ⟨n78, n79⟩, n89⟩ := hnd
  obtain ⟨C, happ, hCs⟩ := run_append_make w t u e o6.type inf zv kk (of_uSlc P hsl) (of_uInt P hu) hinf z6 N hpos (by rw [z1]; exact z4) (by rw [z2]; exact z3) (by rw [z2]; exact hby)
  rw [z7] at hCs
  have hge := grownCap_ge w N.toNat 0 e
  generalize hcap : grownCap w N.toNat 0 e = cap at happ hCs hge
  have hcap0 : ¬ cap = 0 := by omega
  have hG := Gh.grow_new (o := .cells C e) (L := 0) (p := some (.env d)) hA.s (by simp) 1
  have hW : (w.drewN 1).alloc (.cells C e) = w.drew.alloc (.cells C e) := rfl
  rw [hW] at hG
  have hcells : ∀ j, j < cap * sz → ((w.drew.alloc (.cells C e)).cell? ⟨w.heap.size, j, none⟩).isSome = true ∧ (w.drew.alloc (.cells C e)).frozen? ⟨w.heap.size, j, none⟩ = false := fun j hj => by
    show ((w.drew.alloc (.cells C e)).cell? ⟨w.drew.heap.size, j, none⟩).isSome = true ∧ (w.drew.alloc (.cells C e)).frozen? ⟨w.drew.heap.size, j, none⟩ = false
    rw [World.cell?_alloc_new, World.frozen?_alloc_new]
    exact ⟨by rw [Array.getElem?_eq_getElem (by rw [hCs]; exact hj)]; rfl, rfl⟩
  generalize w.drew.alloc (.cells C e) = W at happ hG hcells
  have hx1 := hG.ext hA.s
  have I0 : Inv w g μ nt dfs env st a := ⟨hA, hn, h.d⟩
  have r1 : (execOp a.eval o1).run P w = .ok (.value (.slice none 0 0)) w := by simp only [execOp, movOf_eq i1, vy]; rfl
  refine one_step I0 I0.r (o := o1) rfl g1 r1 d1 k1 l1 fun ac1 I1 ev1 => ?_
  have r2 : (execOp ac1.eval o2).run P w = .ok (.value (.slice none 0 0)) w := by simp only [execOp, movOf_eq i2]; rw [show ac1.eval (.tmp a10) = .slice none 0 0 from by rw [ev1, if_neg (ny _ k1), vy]]; rfl
  refine one_step I1 I1.r (o := o2) rfl g2 r2 d2 k2 l2 fun ac2 I2 ev2 => ?_
  have r3 : (execOp ac2.eval o3).run P w = .ok (.value (.int .i64 0)) w := by
    simp only [execOp, callOf_eq p3, resolve, builtinOf_eq b3, b3a, b3t]
    simp only [Sem.run_bind, Sem.run_pure, Result.andThen_ok, invoke, builtin, List.map_toArray, List.map_cons, List.map_nil]
    rw [show ac2.eval (.tmp a2) = .slice none 0 0 from by rw [ev2, if_pos rfl]]
    rw [cap_ok (w := w) (g := g) (x := .nils 0) o3.type (.nils (fun _ => .nil) _) rfl hsl]
    rfl
  refine one_step I2 I2.r (o := o3) rfl g3 r3 d3 k3 l3 fun ac3 I3 ev3 => ?_
  have r4 : (execOp ac3.eval o4).run P w = .ok (.value (.slice none 0 0)) w := by
    simp only [execOp, subOf_eq p4, Option.map_some, Option.map_none]
    rw [show ac3.eval (.tmp a1) = .slice none 0 0 from by rw [ev3, if_neg n13, ev2, if_neg n12, ev1, if_pos rfl], show ac3.eval (.tmp a3) = .int .i64 0 from by rw [ev3, if_pos rfl]]
    exact run_v (slice0_run w g hsl hszT none 0 0 (Nat.le_refl _))
  refine one_step I3 I3.r (o := o4) rfl g4 r4 d4 k4 l4 fun ac4 I4 ev4 => ?_
  have r5 : (execOp ac4.eval o5).run P w = .ok (.value (.int .i64 N)) w := by simp only [execOp, movOf_eq i5]; rw [show ac4.eval (.tmp m) = .int .i64 N from by rw [ev4, if_neg (nm _ k4), ev3, if_neg (nm _ k3), ev2, if_neg (nm _ k2), ev1, if_neg (nm _ k1), vm]]; rfl
  refine one_step I4 I4.r (o := o5) rfl g5 r5 d5 k5 l5 fun ac5 I5 ev5 => ?_
  have r6 : (execOp ac5.eval o6).run P w = .ok (.value (.slice (some ⟨w.heap.size, 0, none⟩) N.toNat cap)) W := by
    simp only [execOp, callOf_eq p6, resolve, builtinOf_eq b6, b6a, b6t]
    simp only [Sem.run_bind, Sem.run_pure, Result.andThen_ok, invoke, builtin, List.map_toArray, List.map_cons, List.map_nil]
    rw [show ac5.eval (.tmp a4) = .slice none 0 0 from by rw [ev5, if_neg n45, ev4, if_pos rfl], show ac5.eval (.tmp a5) = .int .i64 N from by rw [ev5, if_pos rfl], happ]
    rfl
  refine one_step I5 (hG.relA I5.r (fun r => Iff.rfl)) (o := o6) rfl g6 r6 d6 k6 l6 fun ac6 I6 ev6 => ?_
  have r7 : (execOp ac6.eval o7).run P W = .ok (.value (.slice none 0 0)) W := by simp only [execOp, movOf_eq i8]; rw [show ac6.eval (.tmp a10) = .slice none 0 0 from by rw [ev6, if_neg (ny _ k6), ev5, if_neg (ny _ k5), ev4, if_neg (ny _ k4), ev3, if_neg (ny _ k3), ev2, if_neg (ny _ k2), ev1, if_neg (ny _ k1), vy]]; rfl
  refine one_step I6 I6.r (o := o7) rfl g7 r7 d7 k7 l7 fun ac7 I7 ev7 => ?_
  have r8 : (execOp ac7.eval o8).run P W = .ok (.value (.int .i64 0)) W := by
    simp only [execOp, callOf_eq p8, resolve, builtinOf_eq b8, b8a, b8t]
    simp only [Sem.run_bind, Sem.run_pure, Result.andThen_ok, invoke, builtin, List.map_toArray, List.map_cons, List.map_nil]
    rw [show ac7.eval (.tmp a7) = .slice none 0 0 from by rw [ev7, if_pos rfl]]
    rw [len_ok (w := W) (g := g) (x := .nils 0) o8.type (.nils (fun _ => .nil) _) rfl hsl]
    rfl
  refine one_step I7 I7.r (o := o8) rfl g8 r8 d8 k8 l8 fun ac8 I8 ev8 => ?_
  have r9 : (execOp ac8.eval o9).run P W = .ok (.value (.slice (some ⟨w.heap.size, 0 + 0 * sz, none⟩) 0 cap)) W := by
    simp only [execOp, subOf_eq p9, Option.map_some, Option.map_none]
    rw [show ac8.eval (.tmp a6) = .slice (some ⟨w.heap.size, 0, none⟩) N.toNat cap from by rw [ev8, if_neg n68, ev7, if_neg n67, ev6, if_pos rfl], show ac8.eval (.tmp a8) = .int .i64 0 from by rw [ev8, if_pos rfl]]
    have := run_v (slice0_run (P := P) W g hsl hszT (some ⟨w.heap.size, 0, none⟩) N.toNat cap hge)
    rw [if_neg hcap0, Option.map_some, add_at] at this
    exact this
  refine one_step I8 I8.r (o := o9) rfl g9 r9 d9 k9 l9 fun ac9 I9 ev9 => ?_
  have r10 : (execOp ac9.eval o10).run P W = .ok (.value (.slice (some ⟨w.heap.size, 0 + 0 * sz, none⟩) 0 cap)) W := by simp only [execOp, asgOf_eq i11]; rw [show ac9.eval (.tmp a9) = .slice (some ⟨w.heap.size, 0 + 0 * sz, none⟩) 0 cap from by rw [ev9, if_pos rfl]]; rfl
  have hlin : RelD W (g.new w.heap.size 0 (some (.env d))) (fun _ => .env d) (.lin sz []) (.slice (some ⟨w.heap.size, 0 + 0 * sz, none⟩) 0 cap) := by
    refine .lin _ _ _ _ (.slc0 _ _ _) (.inr ⟨w.heap.size, 0 + 0 * sz, rfl, by simp [Gh.new], by simp [Gh.new], Nat.zero_le _, fun j hj => hcells j (by omega)⟩)
  have hE := set_put (d := a10) hμ I9.r hy (by rw [I9.n]; exact hyn) hlin
  refine step1 (o := o10) rfl g10 r10 ?_
  rw [d10]
  exact k _ W _ hx1 ⟨hE, by simp [Act.put, I9.n], by simp [Act.put, I9.d], rfl, h.st⟩
theorem grow_ok {ro : Option Nat} {d n sz bytes : Nat} {ops : Array Oper} {r : Ex × List D × St} {Q : Exit → Act → World → Prop} (hμ : μ.Nodup) (hc : chkGrow μ nt P d n sz bytes ops.toList = true)
    (he : growD d sz bytes env st (getT env d) (getT env n) = some r) (h : At w g μ nt dfs [] env [] st a) :
    r = (.normal, env.set d (.lin sz []), st) ∧ ((∀ a' w' g', Ext w w' g g' → At w' g' μ nt dfs [] (env.set d (.lin sz [])) [] st a' → Q .normal a' w') → wpOpsIn (wideR ro) 0 P ops Q (List.range ops.size) a w) := by
  obtain ⟨o1, o2, o3, o4, o5, o6, o7, o8, o9, o10, hops⟩ : ∃ o1 o2 o3 o4 o5 o6 o7 o8 o9 o10, ops.toList = [o1, o2, o3, o4, o5, o6, o7, o8, o9, o10] := by
    generalize ops.toList = l at hc
    unfold chkGrow at hc
    split at hc <;> first | (cases hc; done) | exact ⟨_, _, _, _, _, _, _, _, _, _, rfl⟩
  have hopsA : ops = #[o1, o2, o3, o4, o5, o6, o7, o8, o9, o10] := by
    have := congrArg List.toArray hops
    simpa using this
  subst hopsA
  simp only [chkGrow, Bool.and_eq_true, Option.isNone_iff_eq_none] at hc
  obtain ⟨⟨⟨⟨⟨⟨⟨⟨⟨⟨g1, g2⟩, g3⟩, g4⟩, g5⟩, g6⟩, g7⟩, g8⟩, g9⟩, g10⟩, hc⟩ := hc
  obtain ⟨a1, d1, hc⟩ := of_orF hc
  obtain ⟨a2, d2, hc⟩ := of_orF hc
  obtain ⟨a3, d3, hc⟩ := of_orF hc
  obtain ⟨a4, d4, hc⟩ := of_orF hc
  obtain ⟨a5, d5, hc⟩ := of_orF hc
  obtain ⟨a6, d6, hc⟩ := of_orF hc
  obtain ⟨a7, d7, hc⟩ := of_orF hc
  obtain ⟨a8, d8, hc⟩ := of_orF hc
  obtain ⟨a9, d9, hc⟩ := of_orF hc
  obtain ⟨a10, d10, hc⟩ := of_orF hc
  obtain ⟨y, hy, hc⟩ := of_orF hc
  obtain ⟨m, hm, hc⟩ := of_orF hc
  obtain ⟨c3, p3, hc⟩ := of_orF hc
  obtain ⟨q3, p3', hc⟩ := of_orF hc
  obtain ⟨q4, p4, hc⟩ := of_orF hc
  obtain ⟨c6, p6, hc⟩ := of_orF hc
  obtain ⟨⟨x6, y6, t, u⟩, p6', hc⟩ := of_orF hc
  obtain ⟨c8, p8, hc⟩ := of_orF hc
  obtain ⟨q8, p8', hc⟩ := of_orF hc
  obtain ⟨q9, p9, hc⟩ := of_orF hc
  simp only [Bool.and_eq_true, decide_eq_true_eq, List.all_cons, List.all_nil, Bool.not_eq_true', and_true] at hc
  obtain ⟨⟨⟨⟨⟨⟨⟨⟨⟨⟨⟨⟨⟨⟨⟨⟨i1, i2⟩, i3⟩, i4⟩, i5⟩, i6⟩, i7⟩, i8⟩, i9⟩, i10⟩, i11⟩, i12⟩, hal⟩, hyn⟩, hnd⟩, hu⟩, hsl⟩ := hc
  obtain ⟨⟨k1, l1⟩, ⟨k2, l2⟩, ⟨k3, l3⟩, ⟨k4, l4⟩, ⟨k5, l5⟩, ⟨k6, l6⟩, ⟨k7, l7⟩, ⟨k8, l8⟩, ⟨k9, l9⟩⟩ := hal
  obtain ⟨kk, hu⟩ : ∃ kk, uInt P u = some kk := by
    cases hh : uInt P u with
    | none => rw [hh] at hu; cases hu
    | some kk => exact ⟨kk, rfl⟩
  obtain ⟨e, hsl, h2⟩ := of_orF hsl
  obtain ⟨inf, hinf, h3⟩ := of_orF h2
  simp only [Bool.and_eq_true, beq_iff_eq, bne_iff_ne, ne_eq] at h3
  obtain ⟨⟨⟨⟨z1, z2⟩, z3⟩, z4⟩, z5⟩ := h3
  obtain ⟨zv, z6, z7⟩ := of_orF z5
  have z7 : zv.cells.size = sz := by simpa using z7
  have hszT : szT P e = some sz := by simp [szT, hinf, z1]
  have i6 := i6.symm
  have i7 := i7.symm
  subst i3 i4 i6 i7 i9 i10 i12
  obtain ⟨b3, b3a, b3t⟩ := argsOf_eq p3'
  obtain ⟨b6, b6a, b6t⟩ := app2Of_eq p6'
  obtain ⟨b8, b8a, b8t⟩ := argsOf_eq p8'
  -- what there is
  unfold growD at he
  split at he <;> first | (cases he; done) | skip
  rename_i z N hd hN
  split at he <;> cases he
  rename_i hcond
  obtain ⟨hpos, hby⟩ := hcond
  refine ⟨rfl, fun k => ?_⟩
  exact grow_run hμ g1 g2 g3 g4 g5 g6 g7 g8 g9 g10 d1 d2 d3 d4 d5 d6 d7 d8 d9 d10 hy hm p3 p4 p6 p8 p9 i1 i2 i5 i8 i11 k1 l1 k2 l2 k3 l3 k4 l4 k5 l5 k6 l6 k7 l7 k8 l8 k9 l9 hyn hnd hu hsl hinf z1 z2 z3 z4 z6 z7 hszT b3 b3a b3t b6 b6a b6t b8 b8a b8t hd hN hpos hby h k
end
end Go.Q
