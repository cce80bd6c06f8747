/- The equations by which slim code is worked out: one for each constructor; written by a program of ours. No condition. -/
import Derived.Test.YthfjopmfgaohjaaDoorEvA
import Derived.Attr
import Derived.WalkKit
import Derived.OpenShut
import Derived.ShutString
import Derived.ChangeOld
import Derived.Below
import Derived.Carry
import Derived.SizedLaws
set_option linter.all false
namespace Go.Q
theorem bind_c {α β : Type} {x y : Option α} (f : α → Option β) (h : x = y) : x.bind f = y.bind f := by rw [h]
theorem map_c {α β : Type} {x y : Option α} (f : α → β) (h : x = y) : x.map f = y.map f := by rw [h]
def gdW (R : Run) (dst : Dst) (op : SOp) (l : List SOper) (env ts : List D) (st : St) (w : Bool) : Option (List D × List D × St) :=
  if w = true then evOps R (⟨none, dst, op⟩ :: l) env ts st else evOps R l (putD (.tup []) env ts dst).1 (putD (.tup []) env ts dst).2 st
@[go_sem] theorem gdW_t (R : Run) (dst : Dst) (op : SOp) (l : List SOper) (env ts : List D) (st : St) : gdW R dst op l env ts st true = evOps R (⟨none, dst, op⟩ :: l) env ts st := rfl
@[go_sem] theorem gdW_f (R : Run) (dst : Dst) (op : SOp) (l : List SOper) (env ts : List D) (st : St) : gdW R dst op l env ts st false = evOps R l (putD (.tup []) env ts dst).1 (putD (.tup []) env ts dst).2 st := rfl
@[go_sem] theorem eo_G2 (R : Run) (j b dst op l env ts st) : evOps R (⟨some (j, b), dst, op⟩ :: l) env ts st = (wantD b (getT ts j)).bind (gdW R dst op l env ts st) := rfl
def coT (R : Run) (l : List SOper) (q : Rg) : Option (List D × List D × St) := evOps R l q.2.1 (q.1 :: q.2.2.1) q.2.2.2
def coN (R : Run) (l : List SOper) (q : Rg) : Option (List D × List D × St) := evOps R l q.2.1 (.undef :: q.2.2.1) q.2.2.2
def coW (R : Run) (i : Nat) (l : List SOper) (q : Rg) : Option (List D × List D × St) := evOps R l (q.2.1.set i q.1) (.undef :: q.2.2.1) q.2.2.2
@[go_sem] theorem coT_eq (R : Run) (l : List SOper) (d : D) (env ts : List D) (st : St) : coT R l (d, env, ts, st) = evOps R l env (d :: ts) st := rfl
@[go_sem] theorem coN_eq (R : Run) (l : List SOper) (d : D) (env ts : List D) (st : St) : coN R l (d, env, ts, st) = evOps R l env (.undef :: ts) st := rfl
@[go_sem] theorem coW_eq (R : Run) (i : Nat) (l : List SOper) (d : D) (env ts : List D) (st : St) : coW R i l (d, env, ts, st) = evOps R l (env.set i d) (.undef :: ts) st := rfl
@[go_sem] theorem eo_T2 (R : Run) (op l env ts st) : evOps R (⟨none, .tmp, op⟩ :: l) env ts st = (evOp R env ts st op).bind (coT R l) := rfl
@[go_sem] theorem eo_N2 (R : Run) (op l env ts st) : evOps R (⟨none, .none, op⟩ :: l) env ts st = (evOp R env ts st op).bind (coN R l) := rfl
@[go_sem] theorem eo_W2 (R : Run) (i op l env ts st) : evOps R (⟨none, .var i, op⟩ :: l) env ts st = (evOp R env ts st op).bind (coW R i l) := rfl
noncomputable def coB (G : Prg) (a b : SCode) (env : List D) (st : St) (t : Bool) : Option Out := if t = true then ex G a env st else ex G b env st
@[go_sem] theorem coB_t (G : Prg) (a b : SCode) (env : List D) (st : St) : coB G a b env st true = ex G a env st := rfl
@[go_sem] theorem coB_f (G : Prg) (a b : SCode) (env : List D) (st : St) : coB G a b env st false = ex G b env st := rfl
noncomputable def coI (G : Prg) (c : Opd) (a b : SCode) (q : List D × List D × St) : Option Out := (boolD (rd q.1 q.2.1 c)).bind (coB G a b q.1 q.2.2)
@[go_sem] theorem coI_eq (G : Prg) (c : Opd) (a b : SCode) (env ts : List D) (st : St) : coI G c a b (env, ts, st) = (boolD (rd env ts c)).bind (coB G a b env st) := rfl
@[go_sem] theorem xq_ifs2 (G : Prg) (l c a b env st) : ex G (.ifs l c a b) env st = (evOps (run G) l env [] st).bind (coI G c a b) := xq_ifs G l c a b env st
attribute [go_sem] xq_frame xq_clone xq_grow xq_nilc eo_nil xq_seq xq_ops xq_block xq_ret xq_skip xq_exit
attribute [go_sem ↓] Option.bind_some Option.map_some Option.bind_none Option.map_none
@[go_sem] theorem q_cellL1_0 (n : Nat) : cellL1 n [] = true := rfl
@[go_sem] theorem q_cellL1_1 (n : Nat) (d : D) (l : List D) : cellL1 n (d :: l) = (d.one1 && refsBelow n d && cellL1 n l) := rfl
@[go_sem] theorem q_one1_0 (r : Ref) (z off len : Nat) (x : Bool) : (D.own r z off len x).one1 = true := rfl
@[go_sem] theorem q_one1_1 (z : Nat) (xs : List V) : (D.v (.slc z xs)).one1 = true := rfl
@[go_sem] theorem q_one1_2 (r : Ref) (i off : Nat) : (D.ptr r i off).one1 = true := rfl
@[go_sem] theorem q_one1_3 (s : List UInt8) : (D.v (.str s)).one1 = true := rfl
@[go_sem] theorem q_one1_4 (k : IntKind) (n : Int) : (D.v (.int k n)).one1 = true := rfl
@[go_sem] theorem q_one1_5 (b : Bool) : (D.v (.bool b)).one1 = true := rfl
@[go_sem] theorem q_one1_6 (z : Nat) : (D.nils z).one1 = true := rfl
@[go_sem] theorem q_sepA_0 (st : St) (d : D) : sepA st d [] = true := rfl
@[go_sem] theorem q_sepA_1 (st : St) (d x : D) (l : List D) : sepA st d (x :: l) = (sepA1 st d x && sepA st d l) := rfl
@[go_sem] theorem q_sepA1_0 (st : St) (r : Ref) (z off len : Nat) (x : Bool) (r' : Ref) (i o : Nat) : sepA1 st (.own r z off len x) (.ptr r' i o) = (decide (r' ≠ r) && (getB st r').isSome) := rfl
@[go_sem] theorem q_sepA1_1 (st : St) (z : Nat) (r' : Ref) (i o : Nat) : sepA1 st (.nils z) (.ptr r' i o) = (getB st r').isSome := by simp [sepA1]
attribute [go_sem] Option.isSome_some
@[go_sem] theorem q_appO_0 (sz bytes : Nat) (st : St) (r : Ref) (z off len : Nat) (x : Bool) : opAppO sz bytes st [] (.own r z off len x) = some (.own r z off len x, st) := rfl
@[go_sem] theorem q_appO_1 (sz bytes : Nat) (st : St) (y : V) (ys : List V) (z : Nat) : opAppO sz bytes st (y :: ys) (.nils z) = if (y :: ys).length * bytes ≤ maxB then some (.own (addB st (.row ((y :: ys).map .v))).2 sz 0 (y :: ys).length false, (addB st (.row ((y :: ys).map .v))).1) else none := rfl
@[go_sem] theorem q_appO_2 (sz bytes : Nat) (st : St) (y : V) (ys : List V) (r : Ref) (z len : Nat) (x : Bool) : opAppO sz bytes st (y :: ys) (.own r z 0 len x) = if z = sz then (rowOf (getB st r)).bind fun xs => (allV xs).bind (appRow sz bytes st (y :: ys) r len) else none := rfl
theorem appO_ne {ys : List V} (h : ys ≠ []) (sz bytes : Nat) (st : St) (r : Ref) (z len : Nat) (x : Bool) : opAppO sz bytes st ys (.own r z 0 len x) = if z = sz then (rowOf (getB st r)).bind fun xs => (allV xs).bind (appRow sz bytes st ys r len) else none := by
  cases ys with
  | nil => exact absurd rfl h
  | cons y ys => rfl
theorem appO_nil {ys : List V} (h : ys ≠ []) (sz bytes : Nat) (st : St) (z : Nat) : opAppO sz bytes st ys (.nils z) = if ys.length * bytes ≤ maxB then some (.own (addB st (.row (ys.map .v))).2 sz 0 ys.length false, (addB st (.row (ys.map .v))).1) else none := by
  cases ys with
  | nil => exact absurd rfl h
  | cons y ys => rfl
@[go_sem] theorem q_appRow (sz bytes : Nat) (st : St) (ys : List V) (r : Ref) (len : Nat) (vs : List V) : appRow sz bytes st ys r len vs = if vs.length = len ∧ len ≠ 0 ∧ (len + ys.length) * bytes ≤ maxB then (addAt (setB st r .dead) r.lvl (.row ((vs ++ ys).map .v))).map fun q => (.own q.2 sz 0 (len + ys.length) false, q.1) else none := rfl
@[go_sem] theorem q_addAt_0 (l : Nat) (b : Blk) : addAt [] l b = none := rfl
@[go_sem] theorem q_addAt_1 (fr : List Blk) (st : St) (l : Nat) (b : Blk) : addAt (fr :: st) l b = if l = st.length then some ((fr ++ [b]) :: st, ⟨st.length, fr.length⟩) else (addAt st l b).map fun q => (fr :: q.1, q.2) := rfl
@[go_sem] theorem q_cpyRow (st : St) (ys : List V) (r : Ref) (off len : Nat) (xs : List D) : cpyRow st ys r off len xs = if ys.length ≠ 0 ∧ ys.length ≤ len ∧ off + len ≤ xs.length then some (ys.length, setB st r (.row (putAt xs off (ys.map .v)))) else none := rfl
@[go_sem] theorem q_opCpy (sz : Nat) (st : St) (ys : List V) (r : Ref) (z off len : Nat) (x : Bool) : opCpy sz st ys (.own r z off len x) = if z = sz then (rowOf (getB st r)).bind (cpyRow st ys r off len) else none := rfl
attribute [go_sem] evOp.eq_1 evOp.eq_2 evOp.eq_3 evOp.eq_4 evOp.eq_5 evOp.eq_6 evOp.eq_7 evOp.eq_8 evOp.eq_9 evOp.eq_10 evOp.eq_11 evOp.eq_12 evOp.eq_13 evOp.eq_14 evOp.eq_15 evOp.eq_16 evOp.eq_17 evOp.eq_18 evOp.eq_19 evOp.eq_20 evOp.eq_21 evOp.eq_22 evOp.eq_23 evOp.eq_24 evOp.eq_25 evOp.eq_26 evOp.eq_27 evOp.eq_28 evOp.eq_29 evOp.eq_30 evOp.eq_31 evOp.eq_32 evOp.eq_33 evOp.eq_34 evOp.eq_35 evOp.eq_36 evOp.eq_37 evOp.eq_38 evOp.eq_39 evOp.eq_40 evOp.eq_41 evOp.eq_42 evOp.eq_43 evOp.eq_44 evOp.eq_45 evOp.eq_46 evOp.eq_47 evOp.eq_48 evOp.eq_49 evOp.eq_50 evOp.eq_51 evOp.eq_52 evOp.eq_53 evOp.eq_54 evOp.eq_55 evOp.eq_56 evOp.eq_57
@[go_sem] theorem q_loadT (st : St) (r : Ref) (i off : Nat) : opLoadT st (.ptr r i off) = (rowOf (getB st r)).bind (ldTE st r i off) := rfl
@[go_sem] theorem q_ldTE (st : St) (r : Ref) (i off : Nat) (xs : List D) : ldTE st r i off xs = (xs[i]?).bind fun d => ((cellsOf d)[off]?).map fun c => (c, setB st r (.row (xs.set i (unCells d ((cellsOf d).set off (cp1 c)))))) := rfl
@[go_sem] theorem iterU1 (st : St) (d : D) : iterU st 1 d = none := rfl
@[go_sem] theorem iterU2 (st : St) (d : D) : iterU st 2 d = none := rfl
attribute [go_sem] rgU_none
theorem rangeN_step {body : List D → St → Option Out} {ps env0 x xs st env' st'} (hs : solid st = true) (h : body (setPs ps x env0) ([] :: st) = some (.normal, env', st')) : rangeN body ps env0 (x :: xs) st = rangeN body ps env0 xs st'.tail := by
  simp only [rangeN, hs, if_true, h, Option.bind_some, rgC]
theorem rangeN_all {body : List D → St → Option Out} {ps env0} {xs : List (List V)} (S : Nat → St) (hs : ∀ i, i ≤ xs.length → solid (S i) = true) (step : ∀ i (h : i < xs.length), ∃ env' fr, body (setPs ps xs[i] env0) ([] :: S i) = some (.normal, env', fr :: S (i + 1))) :
    rangeN body ps env0 xs (S 0) = some (.normal, env0, S xs.length) := by
  have key : ∀ k i, i + k = xs.length → rangeN body ps env0 (xs.drop i) (S i) = some (.normal, env0, S xs.length) := by
    intro k
    induction k with
    | zero =>
      intro i hi
      have : i = xs.length := by omega
      subst this
      rw [List.drop_length]
      simp only [rangeN, hs _ (Nat.le_refl _), if_true]
    | succ k ih =>
      intro i hi
      obtain ⟨env', fr, he⟩ := step i (by omega)
      rw [List.drop_eq_getElem_cons (by omega : i < xs.length), rangeN_step (hs i (by omega)) he]
      exact ih (i + 1) (by omega)
  have := key xs.length 0 (by omega)
  simpa using this
theorem rgB_of {A B : List D → St → Option Out} {env st env1 st1 r} (h1 : A env st = some (.normal, env1, st1)) (hs : solid st1 = true) (h2 : B (env1.map cp) st1 = some r) : rgB A B env st = some r := by
  simp only [rgB, h1, Option.bind_some, rgM, hs, if_true, h2]
theorem idxV_len : ∀ (i : Nat) (xs : List V), (idxV i xs).length = xs.length
  | _, [] => rfl
  | i, x :: xs => by simp [idxV, idxV_len (i + 1) xs]
theorem idxV_at : ∀ (k : Nat) (xs : List V) (i : Nat) (h : i < (idxV k xs).length) (h' : i < xs.length), (idxV k xs)[i] = [.int .i64 ((k + i : Nat) : Int), xs[i]]
  | k, [], i, h, h' => by simp at h'
  | k, x :: xs, 0, h, h' => rfl
  | k, x :: xs, i + 1, h, h' => by
    have := idxV_at (k + 1) xs i (by simpa [idxV] using h) (by simpa using h')
    simp only [idxV, List.getElem_cons_succ, this]
    congr 3
    omega
theorem iterD_all {st : St} {f : Nat} {d : D} {z : Nat} {xs : List V} (hm : xs.length ≤ maxB) (h : opLoad st none d = some (.v (.slc (z + 1) xs))) : iterD st (z + 1) f 2 (.clo f [] [d]) = some (idxV 0 xs) := by
  have h2 : ∀ i, (idxV i xs).all (fun x => x.length == 2) = true := by
    clear h hm
    induction xs with
    | nil => intro i; rfl
    | cons x xs ih => intro i; simp only [idxV, List.all_cons, ih]; rfl
  simp only [iterD, if_true, iterK, h, Option.bind_some, allK, hm, and_self, ofLen, h2]
attribute [go_sem] setPs.eq_1
@[go_sem] theorem q_setPs0 (xs : List V) (env : List D) : setPs [] xs env = env := by cases xs <;> rfl
@[go_sem] theorem q_callBD (R : Run) (f : Nat) (st : St) (r : Ref) : callBD R f st (.ptr r 0 0) = (rowOf (getB st r)).bind (callBr R f st r) := rfl
@[go_sem] theorem q_callBr (R : Run) (f : Nat) (st : St) (r : Ref) (x : D) : callBr R f st r [x] = if refsBelow 0 x = true then (R f [.ptr ⟨0, 0⟩ 0 0] [[.row [x]]]).bind (callBe st r x) else none := rfl
@[go_sem] theorem q_callBe (st : St) (r : Ref) (x v x' : D) : callBe st r x (v, [[.row [x']]]) = if flatR v = true ∧ refsBelow 0 x' = true ∧ (cellsOf x').length = (cellsOf x).length then some (v, setB st r (.row [x'])) else none := rfl
@[go_sem] theorem q_sameL0 (st st' : St) : sameLs st st' [] = true := rfl
@[go_sem] theorem q_sameL1 (st st' : St) (p : D × Nat × Option Nat) (l : List (D × Nat × Option Nat)) : sameLs st st' (p :: l) = (sameO (ldF st p.2.2 p.2.1 p.1) (ldF st' p.2.2 p.2.1 p.1) && sameLs st st' l) := rfl
@[go_sem] theorem q_ldF (st : St) (sz : Option Nat) (off : Nat) (r : Ref) (i o : Nat) : ldF st sz off (.ptr r i o) = opLoad st sz (.ptr r i (o + off)) := rfl
@[go_sem] theorem q_sameP (off : Nat) (r : Ref) (i o : Nat) (r' : Ref) (i' o' : Nat) : sameP off (.ptr r i o) (.ptr r' i' o') = (decide (r = r') && decide (i = i') && decide (o' = o + off)) := rfl
attribute [go_sem] sameO_refl
attribute [go_sem] List.set_cons_zero List.set_cons_succ List.getElem?_cons_zero List.getElem?_cons_succ List.map_cons List.map_nil List.length_cons List.length_nil List.cons_append List.nil_append List.drop_zero List.drop_succ_cons List.take_zero List.take_succ_cons List.take_nil List.drop_nil Option.bind_some Option.map_some Option.bind_none Option.map_none Nat.zero_add Nat.add_zero Nat.zero_mul Nat.sub_self List.replicate_zero List.replicate_succ List.tail_cons List.headD_cons Option.map_map Bool.bne_false Bool.bne_true Bool.and_true Bool.true_and Bool.and_false Bool.false_and Bool.not_true Bool.not_false Bool.or_true Bool.or_false Bool.true_or Bool.false_or decide_true decide_false and_true true_and and_false false_and and_self eq_self not_true_eq_false not_false_eq_true if_true if_false Bool.false_eq_true Bool.true_eq_false List.length_append ne_eq Function.comp_apply
@[go_sem] theorem q_cp_1  (x : V) : cp (.v x) = .v x := rfl
@[go_sem] theorem q_cp_2  (z : Nat) : cp (.nils z) = (.nils z) := rfl
@[go_sem] theorem q_cp_3  (z : Nat) (xs : List V) : cp (.lin z xs) = .v (.slc z xs) := rfl
@[go_sem] theorem q_cp_4  (r : Ref) (z : Nat) (off : Nat) (len : Nat) (fl : Bool) : cp (.own r z off len fl) = (.own r z off len fl) := rfl
@[go_sem] theorem q_cp_5  (r : Ref) (i : Nat) (off : Nat) (len : Nat) : cp (.arr r i off len) = (.arr r i off len) := rfl
@[go_sem] theorem q_cp_6  (r : Ref) (i : Nat) (off : Nat) : cp (.ptr r i off) = (.ptr r i off) := rfl
@[go_sem] theorem q_cp_7  (cs : List V) (off : Nat) : cp (.va cs off) = (.va cs off) := rfl
@[go_sem] theorem q_cp_8  (r : Ref) : cp (.map r) = (.map r) := rfl
@[go_sem] theorem q_cp_9  (f : Nat) (fs : List D) (cs : List D) : cp (.clo f fs cs) = (.clo f fs cs) := rfl
@[go_sem] theorem q_cp_10  (t : Nat) (d : D) : cp (.ifc t d) = (.ifc t d) := rfl
@[go_sem] theorem q_cp_11  (ds : List D) : cp (.agg ds) = mkAgg (ds.map cp1) := rfl
@[go_sem] theorem q_cp_12  (ds : List D) : cp (.tup ds) = .tup (ds.map cpA) := rfl
@[go_sem] theorem q_cp_13   : cp (.undef) = (.undef) := rfl
@[go_sem] theorem q_cp1_1  (x : V) : cp1 (.v x) = (.v x) := rfl
@[go_sem] theorem q_cp1_2  (z : Nat) : cp1 (.nils z) = (.nils z) := rfl
@[go_sem] theorem q_cp1_3  (z : Nat) (xs : List V) : cp1 (.lin z xs) = .v (.slc z xs) := rfl
@[go_sem] theorem q_cp1_4  (r : Ref) (z : Nat) (off : Nat) (len : Nat) (fl : Bool) : cp1 (.own r z off len fl) = (.own r z off len fl) := rfl
@[go_sem] theorem q_cp1_5  (r : Ref) (i : Nat) (off : Nat) (len : Nat) : cp1 (.arr r i off len) = (.arr r i off len) := rfl
@[go_sem] theorem q_cp1_6  (r : Ref) (i : Nat) (off : Nat) : cp1 (.ptr r i off) = (.ptr r i off) := rfl
@[go_sem] theorem q_cp1_7  (cs : List V) (off : Nat) : cp1 (.va cs off) = (.va cs off) := rfl
@[go_sem] theorem q_cp1_8  (r : Ref) : cp1 (.map r) = (.map r) := rfl
@[go_sem] theorem q_cp1_9  (f : Nat) (fs : List D) (cs : List D) : cp1 (.clo f fs cs) = (.clo f fs cs) := rfl
@[go_sem] theorem q_cp1_10  (t : Nat) (d : D) : cp1 (.ifc t d) = (.ifc t d) := rfl
@[go_sem] theorem q_cp1_11  (ds : List D) : cp1 (.agg ds) = (.agg ds) := rfl
@[go_sem] theorem q_cp1_12  (ds : List D) : cp1 (.tup ds) = (.tup ds) := rfl
@[go_sem] theorem q_cp1_13   : cp1 (.undef) = (.undef) := rfl
@[go_sem] theorem q_cpA_1  (x : V) : cpA (.v x) = (.v x) := rfl
@[go_sem] theorem q_cpA_2  (z : Nat) : cpA (.nils z) = (.nils z) := rfl
@[go_sem] theorem q_cpA_3  (z : Nat) (xs : List V) : cpA (.lin z xs) = .v (.slc z xs) := rfl
@[go_sem] theorem q_cpA_4  (r : Ref) (z : Nat) (off : Nat) (len : Nat) (fl : Bool) : cpA (.own r z off len fl) = (.own r z off len fl) := rfl
@[go_sem] theorem q_cpA_5  (r : Ref) (i : Nat) (off : Nat) (len : Nat) : cpA (.arr r i off len) = (.arr r i off len) := rfl
@[go_sem] theorem q_cpA_6  (r : Ref) (i : Nat) (off : Nat) : cpA (.ptr r i off) = (.ptr r i off) := rfl
@[go_sem] theorem q_cpA_7  (cs : List V) (off : Nat) : cpA (.va cs off) = (.va cs off) := rfl
@[go_sem] theorem q_cpA_8  (r : Ref) : cpA (.map r) = (.map r) := rfl
@[go_sem] theorem q_cpA_9  (f : Nat) (fs : List D) (cs : List D) : cpA (.clo f fs cs) = (.clo f fs cs) := rfl
@[go_sem] theorem q_cpA_10  (t : Nat) (d : D) : cpA (.ifc t d) = (.ifc t d) := rfl
@[go_sem] theorem q_cpA_11  (ds : List D) : cpA (.agg ds) = mkAgg (ds.map cp1) := rfl
@[go_sem] theorem q_cpA_12  (ds : List D) : cpA (.tup ds) = .undef := rfl
@[go_sem] theorem q_cpA_13   : cpA (.undef) = (.undef) := rfl
@[go_sem] theorem q_allV_1 (l : List D) (x : V) : allV ((.v x) :: l) = (allV l).map (x :: ·) := rfl
@[go_sem] theorem q_allV_2 (l : List D) (z : Nat) : allV ((.nils z) :: l) = none := rfl
@[go_sem] theorem q_allV_3 (l : List D) (z : Nat) (xs : List V) : allV ((.lin z xs) :: l) = none := rfl
@[go_sem] theorem q_allV_4 (l : List D) (r : Ref) (z : Nat) (off : Nat) (len : Nat) (fl : Bool) : allV ((.own r z off len fl) :: l) = none := rfl
@[go_sem] theorem q_allV_5 (l : List D) (r : Ref) (i : Nat) (off : Nat) (len : Nat) : allV ((.arr r i off len) :: l) = none := rfl
@[go_sem] theorem q_allV_6 (l : List D) (r : Ref) (i : Nat) (off : Nat) : allV ((.ptr r i off) :: l) = none := rfl
@[go_sem] theorem q_allV_7 (l : List D) (cs : List V) (off : Nat) : allV ((.va cs off) :: l) = none := rfl
@[go_sem] theorem q_allV_8 (l : List D) (r : Ref) : allV ((.map r) :: l) = none := rfl
@[go_sem] theorem q_allV_9 (l : List D) (f : Nat) (fs : List D) (cs : List D) : allV ((.clo f fs cs) :: l) = none := rfl
@[go_sem] theorem q_allV_10 (l : List D) (t : Nat) (d : D) : allV ((.ifc t d) :: l) = none := rfl
@[go_sem] theorem q_allV_11 (l : List D) (ds : List D) : allV ((.agg ds) :: l) = none := rfl
@[go_sem] theorem q_allV_12 (l : List D) (ds : List D) : allV ((.tup ds) :: l) = none := rfl
@[go_sem] theorem q_allV_13 (l : List D)  : allV ((.undef) :: l) = none := rfl
@[go_sem] theorem q_toV1_1  (x : V) : toV1 (.v x) = some x := rfl
@[go_sem] theorem q_toV1_2  (z : Nat) : toV1 (.nils z) = some (.slc z []) := rfl
@[go_sem] theorem q_toV1_3  (z : Nat) (xs : List V) : toV1 (.lin z xs) = some (.slc z xs) := rfl
@[go_sem] theorem q_toV1_4  (r : Ref) (z : Nat) (off : Nat) (len : Nat) (fl : Bool) : toV1 (.own r z off len fl) = none := rfl
@[go_sem] theorem q_toV1_5  (r : Ref) (i : Nat) (off : Nat) (len : Nat) : toV1 (.arr r i off len) = none := rfl
@[go_sem] theorem q_toV1_6  (r : Ref) (i : Nat) (off : Nat) : toV1 (.ptr r i off) = none := rfl
@[go_sem] theorem q_toV1_7  (cs : List V) (off : Nat) : toV1 (.va cs off) = none := rfl
@[go_sem] theorem q_toV1_8  (r : Ref) : toV1 (.map r) = none := rfl
@[go_sem] theorem q_toV1_9  (f : Nat) (fs : List D) (cs : List D) : toV1 (.clo f fs cs) = none := rfl
@[go_sem] theorem q_toV1_10  (t : Nat) (d : D) : toV1 (.ifc t d) = none := rfl
@[go_sem] theorem q_toV1_11  (ds : List D) : toV1 (.agg ds) = none := rfl
@[go_sem] theorem q_toV1_12  (ds : List D) : toV1 (.tup ds) = none := rfl
@[go_sem] theorem q_toV1_13   : toV1 (.undef) = none := rfl
@[go_sem] theorem q_toV_1  (x : V) : toV (.v x) = some x := rfl
@[go_sem] theorem q_toV_2  (z : Nat) : toV (.nils z) = some (.slc z []) := rfl
@[go_sem] theorem q_toV_3  (z : Nat) (xs : List V) : toV (.lin z xs) = some (.slc z xs) := rfl
@[go_sem] theorem q_toV_4  (r : Ref) (z : Nat) (off : Nat) (len : Nat) (fl : Bool) : toV (.own r z off len fl) = none := rfl
@[go_sem] theorem q_toV_5  (r : Ref) (i : Nat) (off : Nat) (len : Nat) : toV (.arr r i off len) = none := rfl
@[go_sem] theorem q_toV_6  (r : Ref) (i : Nat) (off : Nat) : toV (.ptr r i off) = none := rfl
@[go_sem] theorem q_toV_7  (cs : List V) (off : Nat) : toV (.va cs off) = none := rfl
@[go_sem] theorem q_toV_8  (r : Ref) : toV (.map r) = none := rfl
@[go_sem] theorem q_toV_9  (f : Nat) (fs : List D) (cs : List D) : toV (.clo f fs cs) = none := rfl
@[go_sem] theorem q_toV_10  (t : Nat) (d : D) : toV (.ifc t d) = none := rfl
@[go_sem] theorem q_toV_11  (ds : List D) : toV (.agg ds) = (toVs ds).map .agg := rfl
@[go_sem] theorem q_toV_12  (ds : List D) : toV (.tup ds) = none := rfl
@[go_sem] theorem q_toV_13   : toV (.undef) = none := rfl
@[go_sem] theorem q_rdV_1 (st : St) (x : V) : rdV st (.v x) = some x := rfl
@[go_sem] theorem q_rdV_2 (st : St) (z : Nat) : rdV st (.nils z) = some (.slc z []) := rfl
@[go_sem] theorem q_rdV_3 (st : St) (z : Nat) (xs : List V) : rdV st (.lin z xs) = some (.slc z xs) := rfl
@[go_sem] theorem q_rdV_4 (st : St) (r : Ref) (z : Nat) (off : Nat) (len : Nat) (fl : Bool) : rdV st (.own r z off len fl) = rowV z off len (getB st r) := rfl
@[go_sem] theorem q_rdV_5 (st : St) (r : Ref) (i : Nat) (off : Nat) (len : Nat) : rdV st (.arr r i off len) = arrV off len (rowAt i (getB st r)) := rfl
@[go_sem] theorem q_rdV_6 (st : St) (r : Ref) (i : Nat) (off : Nat) : rdV st (.ptr r i off) = none := rfl
@[go_sem] theorem q_rdV_7 (st : St) (cs : List V) (off : Nat) : rdV st (.va cs off) = none := rfl
@[go_sem] theorem q_rdV_8 (st : St) (r : Ref) : rdV st (.map r) = none := rfl
@[go_sem] theorem q_rdV_9 (st : St) (f : Nat) (fs : List D) (cs : List D) : rdV st (.clo f fs cs) = none := rfl
@[go_sem] theorem q_rdV_10 (st : St) (t : Nat) (d : D) : rdV st (.ifc t d) = none := rfl
@[go_sem] theorem q_rdV_11 (st : St) (ds : List D) : rdV st (.agg ds) = (toVs ds).map .agg := rfl
@[go_sem] theorem q_rdV_12 (st : St) (ds : List D) : rdV st (.tup ds) = none := rfl
@[go_sem] theorem q_rdV_13 (st : St)  : rdV st (.undef) = none := rfl
@[go_sem] theorem q_isRow_1  (x : V) : isRow (.v x) = false := rfl
@[go_sem] theorem q_isRow_2  (z : Nat) : isRow (.nils z) = false := rfl
@[go_sem] theorem q_isRow_3  (z : Nat) (xs : List V) : isRow (.lin z xs) = false := rfl
@[go_sem] theorem q_isRow_4  (r : Ref) (z : Nat) (off : Nat) (len : Nat) (fl : Bool) : isRow (.own r z off len fl) = true := rfl
@[go_sem] theorem q_isRow_5  (r : Ref) (i : Nat) (off : Nat) (len : Nat) : isRow (.arr r i off len) = true := rfl
@[go_sem] theorem q_isRow_6  (r : Ref) (i : Nat) (off : Nat) : isRow (.ptr r i off) = false := rfl
@[go_sem] theorem q_isRow_7  (cs : List V) (off : Nat) : isRow (.va cs off) = false := rfl
@[go_sem] theorem q_isRow_8  (r : Ref) : isRow (.map r) = false := rfl
@[go_sem] theorem q_isRow_9  (f : Nat) (fs : List D) (cs : List D) : isRow (.clo f fs cs) = false := rfl
@[go_sem] theorem q_isRow_10  (t : Nat) (d : D) : isRow (.ifc t d) = false := rfl
@[go_sem] theorem q_isRow_11  (ds : List D) : isRow (.agg ds) = false := rfl
@[go_sem] theorem q_isRow_12  (ds : List D) : isRow (.tup ds) = false := rfl
@[go_sem] theorem q_isRow_13   : isRow (.undef) = false := rfl
@[go_sem] theorem q_cellsOf_1  (b : Bool) : cellsOf (.v (.bool b)) = [(.v (.bool b))] := rfl
@[go_sem] theorem q_cellsOf_2  (k : IntKind) (n : Int) : cellsOf (.v (.int k n)) = [(.v (.int k n))] := rfl
@[go_sem] theorem q_cellsOf_3  (s : List UInt8) : cellsOf (.v (.str s)) = [(.v (.str s))] := rfl
@[go_sem] theorem q_cellsOf_4  (z : Nat) (xs : List V) : cellsOf (.v (.slc z xs)) = [(.v (.slc z xs))] := rfl
@[go_sem] theorem q_cellsOf_5  (xs : List V) : cellsOf (.v (.agg xs)) = xs.map .v := rfl
@[go_sem] theorem q_cellsOf_6   : cellsOf (.v (.nilp)) = [(.v (.nilp))] := rfl
@[go_sem] theorem q_cellsOf_7   : cellsOf (.v (.nili)) = [(.v (.nili))] := rfl
@[go_sem] theorem q_cellsOf_8   : cellsOf (.v (.nilf)) = [(.v (.nilf))] := rfl
@[go_sem] theorem q_cellsOf_9   : cellsOf (.v (.nilm)) = [(.v (.nilm))] := rfl
@[go_sem] theorem q_cellsOf_10  (t : Nat) (x : V) : cellsOf (.v (.iface t x)) = [(.v (.iface t x))] := rfl
@[go_sem] theorem q_cellsOf_11  (f : Nat) : cellsOf (.v (.fn f)) = [(.v (.fn f))] := rfl
@[go_sem] theorem q_cellsOf_12  (cs : List V) : cellsOf (.v (.pt cs)) = [(.v (.pt cs))] := rfl
@[go_sem] theorem q_cellsOf_13  (z : Nat) : cellsOf (.nils z) = [(.nils z)] := rfl
@[go_sem] theorem q_cellsOf_14  (z : Nat) (xs : List V) : cellsOf (.lin z xs) = [(.lin z xs)] := rfl
@[go_sem] theorem q_cellsOf_15  (r : Ref) (z : Nat) (off : Nat) (len : Nat) (fl : Bool) : cellsOf (.own r z off len fl) = [(.own r z off len fl)] := rfl
@[go_sem] theorem q_cellsOf_16  (r : Ref) (i : Nat) (off : Nat) (len : Nat) : cellsOf (.arr r i off len) = [(.arr r i off len)] := rfl
@[go_sem] theorem q_cellsOf_17  (r : Ref) (i : Nat) (off : Nat) : cellsOf (.ptr r i off) = [(.ptr r i off)] := rfl
@[go_sem] theorem q_cellsOf_18  (cs : List V) (off : Nat) : cellsOf (.va cs off) = [(.va cs off)] := rfl
@[go_sem] theorem q_cellsOf_19  (r : Ref) : cellsOf (.map r) = [(.map r)] := rfl
@[go_sem] theorem q_cellsOf_20  (f : Nat) (fs : List D) (cs : List D) : cellsOf (.clo f fs cs) = [(.clo f fs cs)] := rfl
@[go_sem] theorem q_cellsOf_21  (t : Nat) (d : D) : cellsOf (.ifc t d) = [(.ifc t d)] := rfl
@[go_sem] theorem q_cellsOf_22  (ds : List D) : cellsOf (.agg ds) = ds := rfl
@[go_sem] theorem q_cellsOf_23  (ds : List D) : cellsOf (.tup ds) = [(.tup ds)] := rfl
@[go_sem] theorem q_cellsOf_24   : cellsOf (.undef) = [(.undef)] := rfl
@[go_sem] theorem q_isAggD_1  (b : Bool) : isAggD (.v (.bool b)) = false := rfl
@[go_sem] theorem q_isAggD_2  (k : IntKind) (n : Int) : isAggD (.v (.int k n)) = false := rfl
@[go_sem] theorem q_isAggD_3  (s : List UInt8) : isAggD (.v (.str s)) = false := rfl
@[go_sem] theorem q_isAggD_4  (z : Nat) (xs : List V) : isAggD (.v (.slc z xs)) = false := rfl
@[go_sem] theorem q_isAggD_5  (xs : List V) : isAggD (.v (.agg xs)) = true := rfl
@[go_sem] theorem q_isAggD_6   : isAggD (.v (.nilp)) = false := rfl
@[go_sem] theorem q_isAggD_7   : isAggD (.v (.nili)) = false := rfl
@[go_sem] theorem q_isAggD_8   : isAggD (.v (.nilf)) = false := rfl
@[go_sem] theorem q_isAggD_9   : isAggD (.v (.nilm)) = false := rfl
@[go_sem] theorem q_isAggD_10  (t : Nat) (x : V) : isAggD (.v (.iface t x)) = false := rfl
@[go_sem] theorem q_isAggD_11  (f : Nat) : isAggD (.v (.fn f)) = false := rfl
@[go_sem] theorem q_isAggD_12  (cs : List V) : isAggD (.v (.pt cs)) = false := rfl
@[go_sem] theorem q_isAggD_13  (z : Nat) : isAggD (.nils z) = false := rfl
@[go_sem] theorem q_isAggD_14  (z : Nat) (xs : List V) : isAggD (.lin z xs) = false := rfl
@[go_sem] theorem q_isAggD_15  (r : Ref) (z : Nat) (off : Nat) (len : Nat) (fl : Bool) : isAggD (.own r z off len fl) = false := rfl
@[go_sem] theorem q_isAggD_16  (r : Ref) (i : Nat) (off : Nat) (len : Nat) : isAggD (.arr r i off len) = false := rfl
@[go_sem] theorem q_isAggD_17  (r : Ref) (i : Nat) (off : Nat) : isAggD (.ptr r i off) = false := rfl
@[go_sem] theorem q_isAggD_18  (cs : List V) (off : Nat) : isAggD (.va cs off) = false := rfl
@[go_sem] theorem q_isAggD_19  (r : Ref) : isAggD (.map r) = false := rfl
@[go_sem] theorem q_isAggD_20  (f : Nat) (fs : List D) (cs : List D) : isAggD (.clo f fs cs) = false := rfl
@[go_sem] theorem q_isAggD_21  (t : Nat) (d : D) : isAggD (.ifc t d) = false := rfl
@[go_sem] theorem q_isAggD_22  (ds : List D) : isAggD (.agg ds) = true := rfl
@[go_sem] theorem q_isAggD_23  (ds : List D) : isAggD (.tup ds) = false := rfl
@[go_sem] theorem q_isAggD_24   : isAggD (.undef) = false := rfl
@[go_sem] theorem q_goodD_1  (x : V) : goodD (.v x) = true := rfl
@[go_sem] theorem q_goodD_2  (z : Nat) : goodD (.nils z) = true := rfl
@[go_sem] theorem q_goodD_3  (z : Nat) (xs : List V) : goodD (.lin z xs) = true := rfl
@[go_sem] theorem q_goodD_4  (r : Ref) (z : Nat) (off : Nat) (len : Nat) (fl : Bool) : goodD (.own r z off len fl) = true := rfl
@[go_sem] theorem q_goodD_5  (r : Ref) (i : Nat) (off : Nat) (len : Nat) : goodD (.arr r i off len) = true := rfl
@[go_sem] theorem q_goodD_6  (r : Ref) (i : Nat) (off : Nat) : goodD (.ptr r i off) = true := rfl
@[go_sem] theorem q_goodD_7  (cs : List V) (off : Nat) : goodD (.va cs off) = true := rfl
@[go_sem] theorem q_goodD_8  (r : Ref) : goodD (.map r) = true := rfl
@[go_sem] theorem q_goodD_9  (f : Nat) (fs : List D) (cs : List D) : goodD (.clo f fs cs) = true := rfl
@[go_sem] theorem q_goodD_10  (t : Nat) (d : D) : goodD (.ifc t d) = true := rfl
@[go_sem] theorem q_goodD_11  (ds : List D) : goodD (.agg ds) = true := rfl
@[go_sem] theorem q_goodD_12  (ds : List D) : goodD (.tup ds) = false := rfl
@[go_sem] theorem q_goodD_13   : goodD (.undef) = false := rfl
@[go_sem] theorem q_refsB_1 (m : Nat) (x : V) : refsBelow m (.v x) = true := by simp only [refsBelow]
@[go_sem] theorem q_refsB_2 (m : Nat) (z : Nat) : refsBelow m (.nils z) = true := by simp only [refsBelow]
@[go_sem] theorem q_refsB_3 (m : Nat) (z : Nat) (xs : List V) : refsBelow m (.lin z xs) = true := by simp only [refsBelow]
@[go_sem] theorem q_refsB_4 (m : Nat) (r : Ref) (z : Nat) (off : Nat) (len : Nat) (fl : Bool) : refsBelow m (.own r z off len fl) = decide (r.lvl < m) := by simp only [refsBelow]
@[go_sem] theorem q_refsB_5 (m : Nat) (r : Ref) (i : Nat) (off : Nat) (len : Nat) : refsBelow m (.arr r i off len) = decide (r.lvl < m) := by simp only [refsBelow]
@[go_sem] theorem q_refsB_6 (m : Nat) (r : Ref) (i : Nat) (off : Nat) : refsBelow m (.ptr r i off) = decide (r.lvl < m) := by simp only [refsBelow]
@[go_sem] theorem q_refsB_7 (m : Nat) (cs : List V) (off : Nat) : refsBelow m (.va cs off) = true := by simp only [refsBelow]
@[go_sem] theorem q_refsB_8 (m : Nat) (r : Ref) : refsBelow m (.map r) = decide (r.lvl < m) := by simp only [refsBelow]
@[go_sem] theorem q_refsB_9 (m : Nat) (f : Nat) (fs : List D) (cs : List D) : refsBelow m (.clo f fs cs) = (refsBelows m fs && refsBelows m cs) := by simp only [refsBelow]
@[go_sem] theorem q_refsB_10 (m : Nat) (t : Nat) (d : D) : refsBelow m (.ifc t d) = refsBelow m d := by simp only [refsBelow]
@[go_sem] theorem q_refsB_11 (m : Nat) (ds : List D) : refsBelow m (.agg ds) = refsBelows m ds := by simp only [refsBelow]
@[go_sem] theorem q_refsB_12 (m : Nat) (ds : List D) : refsBelow m (.tup ds) = refsBelows m ds := by simp only [refsBelow]
@[go_sem] theorem q_refsB_13 (m : Nat)  : refsBelow m (.undef) = true := by simp only [refsBelow]
@[go_sem] theorem q_popD_1 (st : St) (m : Nat) (x : V) : popD st m (.v x) = .v x := rfl
@[go_sem] theorem q_popD_2 (st : St) (m : Nat) (z : Nat) : popD st m (.nils z) = .nils z := rfl
@[go_sem] theorem q_popD_3 (st : St) (m : Nat) (z : Nat) (xs : List V) : popD st m (.lin z xs) = .lin z xs := rfl
@[go_sem] theorem q_popD_4 (st : St) (m : Nat) (r : Ref) (z : Nat) (off : Nat) (len : Nat) (fl : Bool) : popD st m (.own r z off len fl) = (if refsBelow m (.own r z off len fl) = true then (.own r z off len fl) else orUndef (rdV st (.own r z off len fl))) := rfl
@[go_sem] theorem q_popD_5 (st : St) (m : Nat) (r : Ref) (i : Nat) (off : Nat) (len : Nat) : popD st m (.arr r i off len) = (if refsBelow m (.arr r i off len) = true then (.arr r i off len) else orUndef (rdV st (.arr r i off len))) := rfl
@[go_sem] theorem q_popD_6 (st : St) (m : Nat) (r : Ref) (i : Nat) (off : Nat) : popD st m (.ptr r i off) = (if refsBelow m (.ptr r i off) = true then (.ptr r i off) else orUndef (rdV st (.ptr r i off))) := rfl
@[go_sem] theorem q_popD_7 (st : St) (m : Nat) (cs : List V) (off : Nat) : popD st m (.va cs off) = (if refsBelow m (.va cs off) = true then (.va cs off) else orUndef (rdV st (.va cs off))) := rfl
@[go_sem] theorem q_popD_8 (st : St) (m : Nat) (r : Ref) : popD st m (.map r) = (if refsBelow m (.map r) = true then (.map r) else orUndef (rdV st (.map r))) := rfl
@[go_sem] theorem q_popD_9 (st : St) (m : Nat) (f : Nat) (fs : List D) (cs : List D) : popD st m (.clo f fs cs) = (if refsBelow m (.clo f fs cs) = true then (.clo f fs cs) else orUndef (rdV st (.clo f fs cs))) := rfl
@[go_sem] theorem q_popD_10 (st : St) (m : Nat) (t : Nat) (d : D) : popD st m (.ifc t d) = (if refsBelow m (.ifc t d) = true then (.ifc t d) else orUndef (rdV st (.ifc t d))) := rfl
@[go_sem] theorem q_popD_11 (st : St) (m : Nat) (ds : List D) : popD st m (.agg ds) = (if refsBelow m (.agg ds) = true then (.agg ds) else orUndef (rdV st (.agg ds))) := rfl
@[go_sem] theorem q_popD_12 (st : St) (m : Nat) (ds : List D) : popD st m (.tup ds) = (if refsBelow m (.tup ds) = true then (.tup ds) else orUndef (rdV st (.tup ds))) := rfl
@[go_sem] theorem q_popD_13 (st : St) (m : Nat)  : popD st m (.undef) = .undef := rfl
@[go_sem] theorem q_retD_1 (st : St) (m : Nat) (x : V) : retD st m (.v x) = some (.v x) := rfl
@[go_sem] theorem q_retD_2 (st : St) (m : Nat) (z : Nat) : retD st m (.nils z) = some (.lin z []) := rfl
@[go_sem] theorem q_retD_3 (st : St) (m : Nat) (z : Nat) (xs : List V) : retD st m (.lin z xs) = some (.lin z xs) := rfl
@[go_sem] theorem q_retD_4 (st : St) (m : Nat) (r : Ref) (z : Nat) (off : Nat) (len : Nat) (fl : Bool) : retD st m (.own r z off len fl) = (if r.lvl < m then some (.own r z off len fl) else (rdV st (.own r z off len fl)).map (linOf (fl && fullB (off + len) (getB st r)))) := rfl
@[go_sem] theorem q_retD_5 (st : St) (m : Nat) (r : Ref) (i : Nat) (off : Nat) (len : Nat) : retD st m (.arr r i off len) = (if r.lvl < m then some (.arr r i off len) else (rdV st (.arr r i off len)).map .v) := rfl
@[go_sem] theorem q_retD_6 (st : St) (m : Nat) (r : Ref) (i : Nat) (off : Nat) : retD st m (.ptr r i off) = (if refsBelow m (.ptr r i off) = true then some (.ptr r i off) else none) := rfl
@[go_sem] theorem q_retD_7 (st : St) (m : Nat) (cs : List V) (off : Nat) : retD st m (.va cs off) = (if refsBelow m (.va cs off) = true then some (.va cs off) else none) := rfl
@[go_sem] theorem q_retD_8 (st : St) (m : Nat) (r : Ref) : retD st m (.map r) = (if refsBelow m (.map r) = true then some (.map r) else none) := rfl
@[go_sem] theorem q_retD_9 (st : St) (m : Nat) (f : Nat) (fs : List D) (cs : List D) : retD st m (.clo f fs cs) = (if refsBelow m (.clo f fs cs) = true then some (.clo f fs cs) else none) := rfl
@[go_sem] theorem q_retD_10 (st : St) (m : Nat) (t : Nat) (d : D) : retD st m (.ifc t d) = (if refsBelow m (.ifc t d) = true then some (.ifc t d) else none) := rfl
@[go_sem] theorem q_retD_11 (st : St) (m : Nat) (ds : List D) : retD st m (.agg ds) = (frzs st m ds).bind fun ds' => retA m ds' (toVs ds') := rfl
@[go_sem] theorem q_retD_12 (st : St) (m : Nat) (ds : List D) : retD st m (.tup ds) = none := rfl
@[go_sem] theorem q_retD_13 (st : St) (m : Nat)  : retD st m (.undef) = (if refsBelow m (.undef) = true then some (.undef) else none) := rfl
@[go_sem] theorem q_frz_1 (st : St) (m : Nat) (x : V) : frz st m (.v x) = some (.v x) := rfl
@[go_sem] theorem q_frz_2 (st : St) (m : Nat) (z : Nat) : frz st m (.nils z) = some (.nils z) := rfl
@[go_sem] theorem q_frz_3 (st : St) (m : Nat) (z : Nat) (xs : List V) : frz st m (.lin z xs) = some (.lin z xs) := rfl
@[go_sem] theorem q_frz_4 (st : St) (m : Nat) (r : Ref) (z : Nat) (off : Nat) (len : Nat) (fl : Bool) : frz st m (.own r z off len fl) = (if r.lvl < m then some (.own r z off len fl) else (rdV st (.own r z off len fl)).map .v) := rfl
@[go_sem] theorem q_frz_5 (st : St) (m : Nat) (r : Ref) (i : Nat) (off : Nat) (len : Nat) : frz st m (.arr r i off len) = (if r.lvl < m then some (.arr r i off len) else (rdV st (.arr r i off len)).map .v) := rfl
@[go_sem] theorem q_frz_6 (st : St) (m : Nat) (r : Ref) (i : Nat) (off : Nat) : frz st m (.ptr r i off) = some (.ptr r i off) := rfl
@[go_sem] theorem q_frz_7 (st : St) (m : Nat) (cs : List V) (off : Nat) : frz st m (.va cs off) = some (.va cs off) := rfl
@[go_sem] theorem q_frz_8 (st : St) (m : Nat) (r : Ref) : frz st m (.map r) = some (.map r) := rfl
@[go_sem] theorem q_frz_9 (st : St) (m : Nat) (f : Nat) (fs : List D) (cs : List D) : frz st m (.clo f fs cs) = some (.clo f fs cs) := rfl
@[go_sem] theorem q_frz_10 (st : St) (m : Nat) (t : Nat) (d : D) : frz st m (.ifc t d) = some (.ifc t d) := rfl
@[go_sem] theorem q_frz_11 (st : St) (m : Nat) (ds : List D) : frz st m (.agg ds) = some (.agg ds) := rfl
@[go_sem] theorem q_frz_12 (st : St) (m : Nat) (ds : List D) : frz st m (.tup ds) = some (.tup ds) := rfl
@[go_sem] theorem q_frz_13 (st : St) (m : Nat)  : frz st m (.undef) = some (.undef) := rfl
@[go_sem] theorem q_linOf_1 (z : Nat) (xs : List V) : linOf true (.slc z xs) = .lin z xs := rfl
@[go_sem] theorem q_linOf_2 (x : V) : linOf false x = .v x := by cases x <;> rfl
@[go_sem] theorem q_fullB_1 (e : Nat) (xs : List D) : fullB e (some (.row xs)) = decide (e = xs.length) := rfl
@[go_sem] theorem q_frzs_1 (st : St) (m : Nat) : frzs st m [] = some [] := rfl
@[go_sem] theorem q_frzs_2 (st : St) (m : Nat) (d : D) (r : List D) : frzs st m (d :: r) = (frz st m d).bind fun x => (frzs st m r).map (x :: ·) := rfl
@[go_sem] theorem q_upB_1 (fr f2 : List Blk) (st : St) (b : Blk) : upB (fr :: f2 :: st) b = some (fr :: (addB (f2 :: st) b).1, (addB (f2 :: st) b).2) := rfl
@[go_sem] theorem q_asN_1  (k : IntKind) (n : Int) : asN (.v (.int k n)) = some n := rfl
@[go_sem] theorem q_boolD_1  (b : Bool) : boolD (.v (.bool b)) = some b := rfl
@[go_sem] theorem q_strD_1  (s : List UInt8) : strD (.v (.str s)) = some s := rfl
@[go_sem] theorem q_capOf_1  (z : Nat) : capOf (.nils z) = some 0 := rfl
@[go_sem] theorem q_lenOf_1  (z : Nat) (xs : List V) : lenOf (.v (.slc z xs)) = some xs.length := rfl
@[go_sem] theorem q_lenOf_2  (z : Nat) : lenOf (.nils z) = some 0 := rfl
@[go_sem] theorem q_lenOf_3  (r : Ref) (z : Nat) (off : Nat) (len : Nat) (fl : Bool) : lenOf (.own r z off len fl) = some len := rfl
@[go_sem] theorem q_lenOf_4  (r : Ref) (i : Nat) (off : Nat) (len : Nat) : lenOf (.arr r i off len) = some len := rfl
@[go_sem] theorem q_takeX_1 (env ts : List D) (j : Nat) (x : V) : takeD env ts (.x j) (.v x) = (cp (.v x), env, ts) := rfl
@[go_sem] theorem q_takeX_2 (env ts : List D) (j : Nat) (z : Nat) : takeD env ts (.x j) (.nils z) = (cp (.nils z), env, ts) := rfl
@[go_sem] theorem q_takeX_3 (env ts : List D) (j : Nat) (z : Nat) (xs : List V) : takeD env ts (.x j) (.lin z xs) = (.lin z xs, env.set j (.v (.slc z xs)), ts) := rfl
@[go_sem] theorem q_takeX_4 (env ts : List D) (j : Nat) (r : Ref) (z : Nat) (off : Nat) (len : Nat) (fl : Bool) : takeD env ts (.x j) (.own r z off len fl) = (cp (.own r z off len fl), env, ts) := rfl
@[go_sem] theorem q_takeX_5 (env ts : List D) (j : Nat) (r : Ref) (i : Nat) (off : Nat) (len : Nat) : takeD env ts (.x j) (.arr r i off len) = (cp (.arr r i off len), env, ts) := rfl
@[go_sem] theorem q_takeX_6 (env ts : List D) (j : Nat) (r : Ref) (i : Nat) (off : Nat) : takeD env ts (.x j) (.ptr r i off) = (cp (.ptr r i off), env, ts) := rfl
@[go_sem] theorem q_takeX_7 (env ts : List D) (j : Nat) (cs : List V) (off : Nat) : takeD env ts (.x j) (.va cs off) = (cp (.va cs off), env, ts) := rfl
@[go_sem] theorem q_takeX_8 (env ts : List D) (j : Nat) (r : Ref) : takeD env ts (.x j) (.map r) = (cp (.map r), env, ts) := rfl
@[go_sem] theorem q_takeX_9 (env ts : List D) (j : Nat) (f : Nat) (fs : List D) (cs : List D) : takeD env ts (.x j) (.clo f fs cs) = (cp (.clo f fs cs), env, ts) := rfl
@[go_sem] theorem q_takeX_10 (env ts : List D) (j : Nat) (t : Nat) (d : D) : takeD env ts (.x j) (.ifc t d) = (cp (.ifc t d), env, ts) := rfl
@[go_sem] theorem q_takeX_11 (env ts : List D) (j : Nat) (ds : List D) : takeD env ts (.x j) (.agg ds) = (cp (.agg ds), env, ts) := rfl
@[go_sem] theorem q_takeX_12 (env ts : List D) (j : Nat) (ds : List D) : takeD env ts (.x j) (.tup ds) = (cp (.tup ds), env, ts) := rfl
@[go_sem] theorem q_takeX_13 (env ts : List D) (j : Nat)  : takeD env ts (.x j) (.undef) = (cp (.undef), env, ts) := rfl
@[go_sem] theorem q_takeT_1 (env ts : List D) (j : Nat) (x : V) : takeD env ts (.t j) (.v x) = (cp (.v x), env, ts) := rfl
@[go_sem] theorem q_takeT_2 (env ts : List D) (j : Nat) (z : Nat) : takeD env ts (.t j) (.nils z) = (cp (.nils z), env, ts) := rfl
@[go_sem] theorem q_takeT_3 (env ts : List D) (j : Nat) (z : Nat) (xs : List V) : takeD env ts (.t j) (.lin z xs) = (.lin z xs, env, ts.set j (.v (.slc z xs))) := rfl
@[go_sem] theorem q_takeT_4 (env ts : List D) (j : Nat) (r : Ref) (z : Nat) (off : Nat) (len : Nat) (fl : Bool) : takeD env ts (.t j) (.own r z off len fl) = (cp (.own r z off len fl), env, ts) := rfl
@[go_sem] theorem q_takeT_5 (env ts : List D) (j : Nat) (r : Ref) (i : Nat) (off : Nat) (len : Nat) : takeD env ts (.t j) (.arr r i off len) = (cp (.arr r i off len), env, ts) := rfl
@[go_sem] theorem q_takeT_6 (env ts : List D) (j : Nat) (r : Ref) (i : Nat) (off : Nat) : takeD env ts (.t j) (.ptr r i off) = (cp (.ptr r i off), env, ts) := rfl
@[go_sem] theorem q_takeT_7 (env ts : List D) (j : Nat) (cs : List V) (off : Nat) : takeD env ts (.t j) (.va cs off) = (cp (.va cs off), env, ts) := rfl
@[go_sem] theorem q_takeT_8 (env ts : List D) (j : Nat) (r : Ref) : takeD env ts (.t j) (.map r) = (cp (.map r), env, ts) := rfl
@[go_sem] theorem q_takeT_9 (env ts : List D) (j : Nat) (f : Nat) (fs : List D) (cs : List D) : takeD env ts (.t j) (.clo f fs cs) = (cp (.clo f fs cs), env, ts) := rfl
@[go_sem] theorem q_takeT_10 (env ts : List D) (j : Nat) (t : Nat) (d : D) : takeD env ts (.t j) (.ifc t d) = (cp (.ifc t d), env, ts) := rfl
@[go_sem] theorem q_takeT_11 (env ts : List D) (j : Nat) (ds : List D) : takeD env ts (.t j) (.agg ds) = (cp (.agg ds), env, ts) := rfl
@[go_sem] theorem q_takeT_12 (env ts : List D) (j : Nat) (ds : List D) : takeD env ts (.t j) (.tup ds) = (.tup ds, env, ts.set j .undef) := rfl
@[go_sem] theorem q_takeT_13 (env ts : List D) (j : Nat)  : takeD env ts (.t j) (.undef) = (cp (.undef), env, ts) := rfl
@[go_sem] theorem q_extLD_1 (env ts : List D) (st : St) (i0 j : Nat) (ds0 : List D) (x : V) : extL env ts st i0 j ds0 (.v x) = (cp (.v x), env, ts, st) := rfl
@[go_sem] theorem q_extLD_2 (env ts : List D) (st : St) (i0 j : Nat) (ds0 : List D) (z : Nat) : extL env ts st i0 j ds0 (.nils z) = (cp (.nils z), env, ts, st) := rfl
@[go_sem] theorem q_extLD_3 (env ts : List D) (st : St) (i0 j : Nat) (ds0 : List D) (z : Nat) (xs : List V) : extL env ts st i0 j ds0 (.lin z xs) = (.lin z xs, env, ts.set j (.tup (ds0.set i0 (.v (.slc z xs)))), st) := rfl
@[go_sem] theorem q_extLD_4 (env ts : List D) (st : St) (i0 j : Nat) (ds0 : List D) (r : Ref) (z : Nat) (off : Nat) (len : Nat) (fl : Bool) : extL env ts st i0 j ds0 (.own r z off len fl) = (cp (.own r z off len fl), env, ts, st) := rfl
@[go_sem] theorem q_extLD_5 (env ts : List D) (st : St) (i0 j : Nat) (ds0 : List D) (r : Ref) (i : Nat) (off : Nat) (len : Nat) : extL env ts st i0 j ds0 (.arr r i off len) = (cp (.arr r i off len), env, ts, st) := rfl
@[go_sem] theorem q_extLD_6 (env ts : List D) (st : St) (i0 j : Nat) (ds0 : List D) (r : Ref) (i : Nat) (off : Nat) : extL env ts st i0 j ds0 (.ptr r i off) = (cp (.ptr r i off), env, ts, st) := rfl
@[go_sem] theorem q_extLD_7 (env ts : List D) (st : St) (i0 j : Nat) (ds0 : List D) (cs : List V) (off : Nat) : extL env ts st i0 j ds0 (.va cs off) = (cp (.va cs off), env, ts, st) := rfl
@[go_sem] theorem q_extLD_8 (env ts : List D) (st : St) (i0 j : Nat) (ds0 : List D) (r : Ref) : extL env ts st i0 j ds0 (.map r) = (cp (.map r), env, ts, st) := rfl
@[go_sem] theorem q_extLD_9 (env ts : List D) (st : St) (i0 j : Nat) (ds0 : List D) (f : Nat) (fs : List D) (cs : List D) : extL env ts st i0 j ds0 (.clo f fs cs) = (cp (.clo f fs cs), env, ts, st) := rfl
@[go_sem] theorem q_extLD_10 (env ts : List D) (st : St) (i0 j : Nat) (ds0 : List D) (t : Nat) (d : D) : extL env ts st i0 j ds0 (.ifc t d) = (cp (.ifc t d), env, ts, st) := rfl
@[go_sem] theorem q_extLD_11 (env ts : List D) (st : St) (i0 j : Nat) (ds0 : List D) (ds : List D) : extL env ts st i0 j ds0 (.agg ds) = (cp (.agg ds), env, ts, st) := rfl
@[go_sem] theorem q_extLD_12 (env ts : List D) (st : St) (i0 j : Nat) (ds0 : List D) (ds : List D) : extL env ts st i0 j ds0 (.tup ds) = (cp (.tup ds), env, ts, st) := rfl
@[go_sem] theorem q_extLD_13 (env ts : List D) (st : St) (i0 j : Nat) (ds0 : List D)  : extL env ts st i0 j ds0 (.undef) = (cp (.undef), env, ts, st) := rfl
@[go_sem] theorem q_opLoad_1 (st : St) (sz : Option Nat) (cs : List V) : opLoad st sz (.v (.pt cs)) = loadVs cs 0 sz := rfl
@[go_sem] theorem q_opLoad_2 (st : St) (sz : Option Nat) (r : Ref) (i : Nat) (off : Nat) : opLoad st sz (.ptr r i off) = (rowAt i (getB st r)).bind fun d => loadC (cellsOf d) off sz := rfl
@[go_sem] theorem q_opLoad_3 (st : St) (sz : Option Nat) (cs : List V) (off : Nat) : opLoad st sz (.va cs off) = loadVs cs off sz := rfl
@[go_sem] theorem q_opStore_1 (st : St) (sz : Nat) (x0 : D) (r : Ref) (i : Nat) (off : Nat) : opStore st sz x0 (.ptr r i off) = (rowOf (getB st r)).bind (stElem st sz r i off x0) := rfl
@[go_sem] theorem q_opClr_1 (sz : Nat) (z0 : D) (st : St) (r : Ref) (z : Nat) (off : Nat) (len : Nat) (fl : Bool) : opClr sz z0 st (.own r z off len fl) = (if z = sz then if len = 0 then some st else (rowOf (getB st r)).bind (clrRow st z0 r off len) else none) := rfl
@[go_sem] theorem q_opFa_1 (o : Nat) (cs : List V) : opFa o (.v (.pt cs)) = some (.va cs o) := rfl
@[go_sem] theorem q_opFa_2 (o : Nat) (r : Ref) (i : Nat) (off : Nat) : opFa o (.ptr r i off) = some (.ptr r i (off + o)) := rfl
@[go_sem] theorem q_opFa_3 (o : Nat) (cs : List V) (off : Nat) : opFa o (.va cs off) = some (.va cs (off + o)) := rfl
@[go_sem] theorem q_opIa_1 (sz : Nat) (i0 : D) (z : Nat) (xs : List V) : opIa sz i0 (.v (.slc z xs)) = (ixOf i0 xs.length).bind fun n => (xs[n]?).bind (vaOf sz) := rfl
@[go_sem] theorem q_opIa_2 (sz : Nat) (i0 : D) (r : Ref) (z : Nat) (off : Nat) (len : Nat) (fl : Bool) : opIa sz i0 (.own r z off len fl) = (if z = sz then (ixOf i0 len).map fun n => .ptr r (off + n) 0 else none) := rfl
@[go_sem] theorem q_opIa_3 (sz : Nat) (i0 : D) (r : Ref) (i : Nat) (off : Nat) (len : Nat) : opIa sz i0 (.arr r i off len) = (if sz = 1 then (ixOf i0 len).map fun n => .ptr r i (off + n) else none) := rfl
@[go_sem] theorem q_opIdx_1 (i0 : D) (s : List UInt8) : opIdx i0 (.v (.str s)) = (ixOf i0 s.length).bind fun n => (s[n]?).map fun b => .v (.int .u8 b.toNat) := rfl
@[go_sem] theorem q_opSub_1 (sz : Nat) (lo hi : Option D) (z : Nat) (xs : List V) : opSub sz lo hi none (.v (.slc z xs)) = (if z = sz then (bnds xs.length lo hi).map fun q => .v (.slc z ((xs.take q.2).drop q.1)) else none) := rfl
@[go_sem] theorem q_opSub_2 (sz : Nat) (lo hi : Option D) (z : Nat) : opSub sz lo hi none (.nils z) = (bnds 0 lo hi).map fun _ => .nils z := rfl
@[go_sem] theorem q_opSub_3 (sz : Nat) (lo hi : Option D) (r : Ref) (z : Nat) (off : Nat) (len : Nat) (fl : Bool) : opSub sz lo hi none (.own r z off len fl) = (if z = sz then (bnds len lo hi).map fun q => .own r z (off + q.1) (q.2 - q.1) fl else none) := rfl
@[go_sem] theorem q_opSub_4 (sz : Nat) (lo hi : Option D) (r : Ref) (i : Nat) (off : Nat) (len : Nat) : opSub sz lo hi none (.arr r i off len) = (if sz = 1 then (bnds len lo hi).map fun q => .arr r i (off + q.1) (q.2 - q.1) else none) := rfl
@[go_sem] theorem q_opSubm_1 (sz : Nat) (lo hi : Option D) (m : D) (z : Nat) (xs : List V) : opSub sz lo hi (some m) (.v (.slc z xs)) = (if z = sz then (bndOf m xs.length).bind (subM z xs lo hi) else none) := rfl
@[go_sem] theorem q_opSubA_1 (n0 : Nat) (lo hi : Option D) (cs : List V) : opSubA n0 lo hi none (.v (.pt cs)) = (if n0 ≤ cs.length then (bnds n0 lo hi).map fun q => .v (.slc 1 (((cs.take n0).take q.2).drop q.1)) else none) := rfl
@[go_sem] theorem q_opSubA_2 (n0 : Nat) (lo hi : Option D) (r : Ref) (i : Nat) (off : Nat) : opSubA n0 lo hi none (.ptr r i off) = (bnds n0 lo hi).map fun q => .arr r i (off + q.1) (q.2 - q.1) := rfl
@[go_sem] theorem q_opSubA_3 (n0 : Nat) (lo hi : Option D) (cs : List V) (off : Nat) : opSubA n0 lo hi none (.va cs off) = (if off + n0 ≤ cs.length then (bnds n0 lo hi).map fun q => .v (.slc 1 ((((cs.drop off).take n0).take q.2).drop q.1)) else none) := rfl
@[go_sem] theorem q_opSubs_1 (lo hi : Option D) (s : List UInt8) : opSubs lo hi (.v (.str s)) = (bnds s.length lo hi).map fun q => .v (.str ((s.take q.2).drop q.1)) := rfl
@[go_sem] theorem q_elems_1 (sz : Nat) (st : St) (s : List UInt8) : elems sz st (.v (.str s)) = (if sz = 1 then some (s.map fun b => .int .u8 b.toNat) else none) := rfl
@[go_sem] theorem q_elems_2 (sz : Nat) (st : St) (z : Nat) (xs : List V) : elems sz st (.v (.slc z xs)) = (if z = sz then some xs else none) := rfl
@[go_sem] theorem q_elems_3 (sz : Nat) (st : St) (z : Nat) : elems sz st (.nils z) = (if z = sz then some [] else none) := rfl
@[go_sem] theorem q_elems_4 (sz : Nat) (st : St) (z : Nat) (xs : List V) : elems sz st (.lin z xs) = (if z = sz then some xs else none) := rfl
@[go_sem] theorem q_elems_5 (sz : Nat) (st : St) (r : Ref) (z : Nat) (off : Nat) (len : Nat) (fl : Bool) : elems sz st (.own r z off len fl) = (rowV z off len (getB st r)).bind (slcOf sz) := rfl
@[go_sem] theorem q_elems_6 (sz : Nat) (st : St) (r : Ref) (i : Nat) (off : Nat) (len : Nat) : elems sz st (.arr r i off len) = (arrV off len (rowAt i (getB st r))).bind (slcOf sz) := rfl
@[go_sem] theorem q_opApp_1 (sz bytes : Nat) (ys : List V) (z : Nat) : opApp sz bytes ys (.nils z) = (if ys.length * bytes ≤ maxB then some (.lin sz ys) else none) := rfl
@[go_sem] theorem q_opApp_2 (sz bytes : Nat) (ys : List V) (z : Nat) (xs : List V) : opApp sz bytes ys (.lin z xs) = (if z = sz ∧ (xs.length + ys.length) * bytes ≤ maxB then some (.lin z (xs ++ ys)) else none) := rfl
@[go_sem] theorem q_opNck_1  (cs : List V) : opNck (.v (.pt cs)) = some (.v (.pt cs)) := rfl
@[go_sem] theorem q_opNck_2  (r : Ref) (i : Nat) (off : Nat) : opNck (.ptr r i off) = some (.ptr r i off) := rfl
@[go_sem] theorem q_opNck_3  (cs : List V) (off : Nat) : opNck (.va cs off) = some (.va cs off) := rfl
@[go_sem] theorem q_opSubl_1 (sz : Nat) (l0 : D) (z : Nat) (xs : List V) : opSubl sz l0 (.lin z xs) = (if z = sz then (bnds xs.length (some l0) none).map fun q => .lin z ((xs.take q.2).drop q.1) else none) := rfl
@[go_sem] theorem q_ifcD_1 (u : Nat) (x : V) : ifcD u (.v x) = .v (.iface u x) := rfl
@[go_sem] theorem q_ifcD_2 (u : Nat) (z : Nat) : ifcD u (.nils z) = .ifc u (.nils z) := rfl
@[go_sem] theorem q_ifcD_3 (u : Nat) (z : Nat) (xs : List V) : ifcD u (.lin z xs) = .ifc u (.lin z xs) := rfl
@[go_sem] theorem q_ifcD_4 (u : Nat) (r : Ref) (z : Nat) (off : Nat) (len : Nat) (fl : Bool) : ifcD u (.own r z off len fl) = .ifc u (.own r z off len fl) := rfl
@[go_sem] theorem q_ifcD_5 (u : Nat) (r : Ref) (i : Nat) (off : Nat) (len : Nat) : ifcD u (.arr r i off len) = .ifc u (.arr r i off len) := rfl
@[go_sem] theorem q_ifcD_6 (u : Nat) (r : Ref) (i : Nat) (off : Nat) : ifcD u (.ptr r i off) = .ifc u (.ptr r i off) := rfl
@[go_sem] theorem q_ifcD_7 (u : Nat) (cs : List V) (off : Nat) : ifcD u (.va cs off) = .ifc u (.va cs off) := rfl
@[go_sem] theorem q_ifcD_8 (u : Nat) (r : Ref) : ifcD u (.map r) = .ifc u (.map r) := rfl
@[go_sem] theorem q_ifcD_9 (u : Nat) (f : Nat) (fs : List D) (cs : List D) : ifcD u (.clo f fs cs) = .ifc u (.clo f fs cs) := rfl
@[go_sem] theorem q_ifcD_10 (u : Nat) (t : Nat) (d : D) : ifcD u (.ifc t d) = .ifc u (.ifc t d) := rfl
@[go_sem] theorem q_ifcD_11 (u : Nat) (ds : List D) : ifcD u (.agg ds) = .ifc u (.agg ds) := rfl
@[go_sem] theorem q_ifcD_12 (u : Nat) (ds : List D) : ifcD u (.tup ds) = .ifc u (.tup ds) := rfl
@[go_sem] theorem q_ifcD_13 (u : Nat)  : ifcD u (.undef) = .ifc u (.undef) := rfl
@[go_sem] theorem q_callV_1 (R : Run) (as : List D) (st : St) (f : Nat) : callV R as st (.v (.fn f)) = R f as st := rfl
@[go_sem] theorem q_callV_2 (R : Run) (as : List D) (st : St) (f : Nat) (fs : List D) (cs : List D) : callV R as st (.clo f fs cs) = R f (fs ++ as ++ cs) st := rfl
@[go_sem] theorem q_wantD_1 (b : Bool) : wantD true (.v (.bool b)) = some b := by cases b <;> rfl
@[go_sem] theorem q_wantD_2 (b : Bool) : wantD false (.v (.bool b)) = some (!b) := by cases b <;> rfl
@[go_sem] theorem q_wantD_3 (b : Bool) : wantD b (.tup []) = some false := rfl
@[go_sem] theorem q_opBin_1 (k : IntKind) (a b : Int) : opBin .add (.v (.int k a)) (.v (.int k b)) = some (.v (.int k (k.wrap (a + b)))) := by simp [opBin, isSh, binI]
@[go_sem] theorem q_opBin_2 (k : IntKind) (a b : Int) : opBin .sub (.v (.int k a)) (.v (.int k b)) = some (.v (.int k (k.wrap (a - b)))) := by simp [opBin, isSh, binI]
@[go_sem] theorem q_opBin_3 (k : IntKind) (a b : Int) : opBin .mul (.v (.int k a)) (.v (.int k b)) = some (.v (.int k (k.wrap (a * b)))) := by simp [opBin, isSh, binI]
@[go_sem] theorem q_opBin_4 (k : IntKind) (a b : Int) : opBin .and (.v (.int k a)) (.v (.int k b)) = some (.v (.int k (k.wrap (BitVec.ofInt k.bits a &&& BitVec.ofInt k.bits b).toNat))) := by simp [opBin, isSh, binI]
@[go_sem] theorem q_opBin_5 (k : IntKind) (a b : Int) : opBin .or (.v (.int k a)) (.v (.int k b)) = some (.v (.int k (k.wrap (BitVec.ofInt k.bits a ||| BitVec.ofInt k.bits b).toNat))) := by simp [opBin, isSh, binI]
@[go_sem] theorem q_opBin_6 (k : IntKind) (a b : Int) : opBin .xor (.v (.int k a)) (.v (.int k b)) = some (.v (.int k (k.wrap (BitVec.ofInt k.bits a ^^^ BitVec.ofInt k.bits b).toNat))) := by simp [opBin, isSh, binI]
@[go_sem] theorem q_opBin_7 (k : IntKind) (a b : Int) : opBin .andNot (.v (.int k a)) (.v (.int k b)) = some (.v (.int k (k.wrap (BitVec.ofInt k.bits a &&& ~~~BitVec.ofInt k.bits b).toNat))) := by simp [opBin, isSh, binI]
@[go_sem] theorem q_opBin_8 (k : IntKind) (a b : Int) : opBin .quo (.v (.int k a)) (.v (.int k b)) = (if b = 0 then none else some (.v (.int k (k.wrap (a.tdiv b))))) := by by_cases h : b = 0 <;> simp [opBin, isSh, binI, h]
@[go_sem] theorem q_opBin_9 (k : IntKind) (a b : Int) : opBin .rem (.v (.int k a)) (.v (.int k b)) = (if b = 0 then none else some (.v (.int k (a.tmod b)))) := by by_cases h : b = 0 <;> simp [opBin, isSh, binI, h]
@[go_sem] theorem q_opBin_10 (k : IntKind) (a b : Int) : opBin .eql (.v (.int k a)) (.v (.int k b)) = some (.v (.bool (a == b))) := by simp [opBin, isSh, binI]
@[go_sem] theorem q_opBin_11 (k : IntKind) (a b : Int) : opBin .neq (.v (.int k a)) (.v (.int k b)) = some (.v (.bool (a != b))) := by simp [opBin, isSh, binI]
@[go_sem] theorem q_opBin_12 (k : IntKind) (a b : Int) : opBin .lss (.v (.int k a)) (.v (.int k b)) = some (.v (.bool (decide (a < b)))) := by simp [opBin, isSh, binI]
@[go_sem] theorem q_opBin_13 (k : IntKind) (a b : Int) : opBin .leq (.v (.int k a)) (.v (.int k b)) = some (.v (.bool (decide (a ≤ b)))) := by simp [opBin, isSh, binI]
@[go_sem] theorem q_opBin_14 (k : IntKind) (a b : Int) : opBin .gtr (.v (.int k a)) (.v (.int k b)) = some (.v (.bool (decide (b < a)))) := by simp [opBin, isSh, binI]
@[go_sem] theorem q_opBin_15 (k : IntKind) (a b : Int) : opBin .geq (.v (.int k a)) (.v (.int k b)) = some (.v (.bool (decide (b ≤ a)))) := by simp [opBin, isSh, binI]
@[go_sem] theorem q_opBin_16 (k k2 : IntKind) (a b : Int) : opBin .shl (.v (.int k a)) (.v (.int k2 b)) = (if b < 0 then none else some (.v (.int k (k.wrap (a * 2 ^ min b.toNat k.bits))))) := by simp only [opBin, isSh, shI, if_true]; split <;> rfl
@[go_sem] theorem q_opBin_17 (k k2 : IntKind) (a b : Int) : opBin .shr (.v (.int k a)) (.v (.int k2 b)) = (if b < 0 then none else some (.v (.int k (a.fdiv (2 ^ min b.toNat k.bits))))) := by simp only [opBin, isSh, shI, if_true]; split <;> rfl
@[go_sem] theorem q_opBin_18 (a b : List UInt8) : opBin .add (.v (.str a)) (.v (.str b)) = (if a.length + b.length ≤ 4611686018427387904 then some (.v (.str (a ++ b))) else none) := by simp only [opBin, binS]; split <;> rfl
@[go_sem] theorem q_opBin_19 (a b : List UInt8) : opBin .eql (.v (.str a)) (.v (.str b)) = some (.v (.bool (a == b))) := rfl
@[go_sem] theorem q_opBin_20 (a b : List UInt8) : opBin .neq (.v (.str a)) (.v (.str b)) = some (.v (.bool (!(a == b)))) := rfl
@[go_sem] theorem q_opBin_21 (a b : List UInt8) : opBin .lss (.v (.str a)) (.v (.str b)) = some (.v (.bool (Op.bytesLess a b))) := rfl
@[go_sem] theorem q_opUn_1 (k : IntKind) (n : Int) : opUn .neg (.v (.int k n)) = some (.v (.int k (k.wrap (0 - n)))) := rfl
@[go_sem] theorem q_opUn_2 (b : Bool) : opUn .not (.v (.bool b)) = some (.v (.bool (!b))) := rfl
@[go_sem] theorem q_maxD_1 (k k2 : IntKind) (a b : Int) : maxD (.v (.int k a)) (.v (.int k2 b)) = some (.v (.int k (max a b))) := by simp only [maxD]; congr 3; split <;> omega
@[go_sem] theorem q_minD_1 (k k2 : IntKind) (a b : Int) : minD (.v (.int k a)) (.v (.int k2 b)) = some (.v (.int k (min a b))) := by simp only [minD]; congr 3; split <;> omega
@[go_sem] theorem q_eqD_1 (a b : Bool) : eqD .b (.v (.bool a)) (.v (.bool b)) = some (a == b) := rfl
@[go_sem] theorem q_eqD_2 (ks : List Nat) (xs ys : List V) : eqD (.g ks) (.v (.agg xs)) (.v (.agg ys)) = eqVs ks xs ys := rfl
@[go_sem] theorem q_eqD_3 (a b : Nat) : eqD .s (.nils a) (.nils b) = some true := rfl
@[go_sem] theorem q_eqD_4 (z b : Nat) (x : V) (xs : List V) : eqD .s (.v (.slc z (x :: xs))) (.nils b) = some false := rfl
@[go_sem] theorem q_eqD_5 (r : Ref) (a b c z : Nat) (fl : Bool) : eqD .s (.own r a b c fl) (.nils z) = some false := rfl
@[go_sem] theorem q_eqD_6 (r : Ref) (a b c z : Nat) : eqD .s (.arr r a b c) (.nils z) = some false := rfl
@[go_sem] theorem q_eqD_7  : eqD .p (.v .nilp) (.v .nilp) = some true := rfl
@[go_sem] theorem q_eqD_8 (r : Ref) (a b : Nat) : eqD .p (.ptr r a b) (.v .nilp) = some false := rfl
@[go_sem] theorem q_eqD_9 (cs : List V) (a : Nat) : eqD .p (.va cs a) (.v .nilp) = some false := rfl
@[go_sem] theorem q_eqD_10 (cs : List V) : eqD .p (.v (.pt cs)) (.v .nilp) = some false := rfl
@[go_sem] theorem q_eqD_11  : eqD .f (.v .nilf) (.v .nilf) = some true := rfl
@[go_sem] theorem q_eqD_12 (f : Nat) : eqD .f (.v (.fn f)) (.v .nilf) = some false := rfl
@[go_sem] theorem q_eqD_13 (f : Nat) (a b : List D) : eqD .f (.clo f a b) (.v .nilf) = some false := rfl
@[go_sem] theorem q_eqD_14  : eqD .i (.v .nili) (.v .nili) = some true := rfl
@[go_sem] theorem q_eqD_15 (t : Nat) (x : V) : eqD .i (.v (.iface t x)) (.v .nili) = some false := rfl
@[go_sem] theorem q_eqD_16 (t : Nat) (d : D) : eqD .i (.ifc t d) (.v .nili) = some false := rfl
@[go_sem] theorem q_eqD_17  : eqD .m (.v .nilm) (.v .nilm) = some true := rfl
@[go_sem] theorem q_eqD_18 (r : Ref) : eqD .m (.map r) (.v .nilm) = some false := rfl
@[go_sem] theorem q_eqVs_1  : eqVs [] [] [] = some true := rfl
@[go_sem] theorem q_eqVs_2 (ks : List Nat) (a b : Bool) (xs ys : List V) : eqVs (0 :: ks) (.bool a :: xs) (.bool b :: ys) = (eqVs ks xs ys).map (a == b && ·) := rfl
@[go_sem] theorem q_eqVs_3 (ks : List Nat) (k : IntKind) (a b : Int) (xs ys : List V) : eqVs (1 :: ks) (.int k a :: xs) (.int k b :: ys) = (eqVs ks xs ys).map (a == b && ·) := by simp [eqVs]
@[go_sem] theorem q_eqVs_4 (ks : List Nat) (a b : List UInt8) (xs ys : List V) : eqVs (2 :: ks) (.str a :: xs) (.str b :: ys) = (eqVs ks xs ys).map (a == b && ·) := rfl
@[go_sem] theorem q_sepD_1 (d : D) : sepD d [] = true := by cases d <;> rfl
@[go_sem] theorem q_sepD_2 (r r2 : Ref) (i o a b : Nat) (ds : List D) : sepD (.ptr r i o) (.ptr r2 a b :: ds) = (decide (r2 ≠ r) && sepD (.ptr r i o) ds) := rfl
@[go_sem] theorem q_sepD_3 (r : Ref) (i o a : Nat) (cs : List V) (ds : List D) : sepD (.ptr r i o) (.va cs a :: ds) = sepD (.ptr r i o) ds := rfl
@[go_sem] theorem q_sepD_4 (r : Ref) (i o : Nat) (cs : List V) (ds : List D) : sepD (.ptr r i o) (.v (.pt cs) :: ds) = sepD (.ptr r i o) ds := rfl
@[go_sem] theorem q_sameR_1 (r r2 : Ref) (a b c d : Nat) : sameR (.ptr r a b) (.ptr r2 c d) = decide (r = r2) := rfl
@[go_sem] theorem q_toVs_1  : toVs [] = some [] := rfl
@[go_sem] theorem q_toVs_2 (d : D) (r : List D) : toVs (d :: r) = (toV1 d).bind fun x => (toVs r).map (x :: ·) := rfl
@[go_sem] theorem q_toVL_1  : toVL [] = some [] := rfl
@[go_sem] theorem q_toVL_2 (d : D) (r : List D) : toVL (d :: r) = (toV d).bind fun x => (toVL r).map (x :: ·) := rfl
@[go_sem] theorem q_rdVs_1 (st : St) : rdVs st [] = some [] := rfl
@[go_sem] theorem q_rdVs_2 (st : St) (d : D) (r : List D) : rdVs st (d :: r) = (rdV st d).bind fun x => (rdVs st r).map (x :: ·) := rfl
@[go_sem] theorem q_allVn_1  : allV [] = some [] := rfl
@[go_sem] theorem q_anyRow_1  : anyRow [] = false := rfl
@[go_sem] theorem q_anyRow_2 (d : D) (r : List D) : anyRow (d :: r) = (isRow d || anyRow r) := rfl
@[go_sem] theorem q_retDs_1 (k : Bool) (st : St) (n : Nat) : retDs k st n [] = some [] := rfl
@[go_sem] theorem q_retDs_2 (k : Bool) (st : St) (n : Nat) (d : D) (r : List D) : retDs k st n (d :: r) = (retK k st n d).bind fun x => (retDs k st n r).map (x :: ·) := rfl
@[go_sem] theorem q_retK_1 (st : St) (n : Nat) (d : D) : retK false st n d = retD st n d := by simp [retK]
@[go_sem] theorem q_retK_2 (st : St) (n : Nat) (x : V) : retK true st n (.v x) = retD st n (.v x) := by simp [retK, isNils]
@[go_sem] theorem q_retK_3 (st : St) (n : Nat) (z : Nat) : retK true st n (.nils z) = some (.nils z) := by simp [retK, isNils]
@[go_sem] theorem q_retK_4 (st : St) (n : Nat) (z : Nat) (xs : List V) : retK true st n (.lin z xs) = retD st n (.lin z xs) := by simp [retK, isNils]
@[go_sem] theorem q_retK_5 (st : St) (n : Nat) (r : Ref) (z : Nat) (off : Nat) (len : Nat) (fl : Bool) : retK true st n (.own r z off len fl) = retD st n (.own r z off len fl) := by simp [retK, isNils]
@[go_sem] theorem q_retK_6 (st : St) (n : Nat) (r : Ref) (i : Nat) (off : Nat) (len : Nat) : retK true st n (.arr r i off len) = retD st n (.arr r i off len) := by simp [retK, isNils]
@[go_sem] theorem q_retK_7 (st : St) (n : Nat) (r : Ref) (i : Nat) (off : Nat) : retK true st n (.ptr r i off) = retD st n (.ptr r i off) := by simp [retK, isNils]
@[go_sem] theorem q_retK_8 (st : St) (n : Nat) (cs : List V) (off : Nat) : retK true st n (.va cs off) = retD st n (.va cs off) := by simp [retK, isNils]
@[go_sem] theorem q_retK_9 (st : St) (n : Nat) (r : Ref) : retK true st n (.map r) = retD st n (.map r) := by simp [retK, isNils]
@[go_sem] theorem q_retK_10 (st : St) (n : Nat) (f : Nat) (fs : List D) (cs : List D) : retK true st n (.clo f fs cs) = retD st n (.clo f fs cs) := by simp [retK, isNils]
@[go_sem] theorem q_retK_11 (st : St) (n : Nat) (t : Nat) (d : D) : retK true st n (.ifc t d) = retD st n (.ifc t d) := by simp [retK, isNils]
@[go_sem] theorem q_retK_12 (st : St) (n : Nat) (ds : List D) : retK true st n (.agg ds) = retD st n (.agg ds) := by simp [retK, isNils]
@[go_sem] theorem q_retK_13 (st : St) (n : Nat) (ds : List D) : retK true st n (.tup ds) = retD st n (.tup ds) := by simp [retK, isNils]
@[go_sem] theorem q_retK_14 (st : St) (n : Nat)  : retK true st n (.undef) = retD st n (.undef) := by simp [retK, isNils]
@[go_sem] theorem q_resL_1 (env : List D) (st : St) : resList env st [] = some [] := rfl
@[go_sem] theorem q_resL_2 (env : List D) (st : St) (d : SRes) (r : List SRes) : resList env st (d :: r) = (resOf env st d).bind fun x => (resList env st r).map (x :: ·) := rfl
@[go_sem] theorem q_resOf_1 (env : List D) (st : St) (i : Nat) : resOf env st (.var i) = some (getT env i) := rfl
@[go_sem] theorem q_resOf_2 (env : List D) (st : St) (i : Nat) (sz : Option Nat) : resOf env st (.cell sz i) = opLoad st sz (cp (getT env i)) := rfl
@[go_sem] theorem q_mkAgg_1 (ds : List D) : mkAgg ds = mkAgg1 ds (allV ds) := rfl
@[go_sem] theorem q_mkAgg_2 (ds : List D) (xs : List V) : mkAgg1 ds (some xs) = .v (.agg xs) := rfl
@[go_sem] theorem q_mkAgg_3 (ds : List D) : mkAgg1 ds none = .agg ds := rfl
@[go_sem] theorem q_retA_1 (n : Nat) (ds : List D) (x : List V) : retA n ds (some x) = some (.v (.agg x)) := rfl
@[go_sem] theorem q_retA_2 (n : Nat) (ds : List D) : retA n ds none = (if refsBelows n ds = true then some (.agg (ds.map cp1)) else none) := rfl
@[go_sem] theorem q_refsBs_1 (n : Nat) : refsBelows n [] = true := by simp only [refsBelows]
@[go_sem] theorem q_refsBs_2 (n : Nat) (d : D) (ds : List D) : refsBelows n (d :: ds) = (refsBelow n d && refsBelows n ds) := by simp only [refsBelows]
@[go_sem] theorem q_getT_1 (d : D) (l : List D) : getT (d :: l) 0 = d := rfl
@[go_sem] theorem q_getT_2 (d : D) (l : List D) (n : Nat) : getT (d :: l) (n + 1) = getT l n := rfl
@[go_sem] theorem q_rd_1 (env ts : List D) (i : Nat) : rd env ts (.x i) = cp (getT env i) := rfl
@[go_sem] theorem q_raw_1 (env ts : List D) (i : Nat) : raw env ts (.x i) = getT env i := rfl
@[go_sem] theorem q_takeO_1 (env ts : List D) (i : Nat) : takeO env ts (.x i) = takeD env ts (.x i) (getT env i) := rfl
@[go_sem] theorem q_extDq_1 (env ts : List D) (st : St) (i0 i : Nat) (ds : List D) : extD env ts st i0 (.x i) (.tup ds) = (ds[i0]?).map fun d => (cp d, env, ts, st) := rfl
@[go_sem] theorem q_rd_2 (env ts : List D) (i : Nat) : rd env ts (.t i) = cp (getT ts i) := rfl
@[go_sem] theorem q_raw_2 (env ts : List D) (i : Nat) : raw env ts (.t i) = getT ts i := rfl
@[go_sem] theorem q_takeO_2 (env ts : List D) (i : Nat) : takeO env ts (.t i) = takeD env ts (.t i) (getT ts i) := rfl
@[go_sem] theorem q_extDq_2 (env ts : List D) (st : St) (i0 i : Nat) (ds : List D) : extD env ts st i0 (.t i) (.tup ds) = (ds[i0]?).map (extL env ts st i0 i ds) := rfl
@[go_sem] theorem q_rd_3 (env ts : List D) (d : D) : rd env ts (.c d) = cp d := rfl
@[go_sem] theorem q_raw_3 (env ts : List D) (d : D) : raw env ts (.c d) = d := rfl
@[go_sem] theorem q_takeO_3 (env ts : List D) (d : D) : takeO env ts (.c d) = (cp d, env, ts) := by cases d <;> rfl
@[go_sem] theorem q_getB_1 (r : Ref) : getB [] r = none := rfl
@[go_sem] theorem q_getB_2 (fr : List Blk) (st : St) (l k : Nat) : getB (fr :: st) ⟨l, k⟩ = (if l = st.length then fr[k]? else getB st ⟨l, k⟩) := rfl
@[go_sem] theorem q_setB_1 (fr : List Blk) (st : St) (l k : Nat) (b : Blk) : setB (fr :: st) ⟨l, k⟩ b = (if l = st.length then fr.set k b :: st else fr :: setB st ⟨l, k⟩ b) := rfl
@[go_sem] theorem q_addB_1 (fr : List Blk) (st : St) (b : Blk) : addB (fr :: st) b = ((fr ++ [b]) :: st, ⟨st.length, fr.length⟩) := rfl
@[go_sem] theorem q_addB_2 (b : Blk) : addB [] b = ([[b]], ⟨0, 0⟩) := rfl
@[go_sem] theorem q_rowAt_1 (i : Nat) (xs : List D) : rowAt i (some (.row xs)) = xs[i]? := rfl
@[go_sem] theorem q_rowOf_1 (xs : List D) : rowOf (some (.row xs)) = some xs := rfl
@[go_sem] theorem q_rowV_1 (sz off len : Nat) (xs : List D) : rowV sz off len (some (.row xs)) = (if off + len ≤ xs.length then (toVL ((xs.drop off).take len)).map (.slc sz) else none) := rfl
@[go_sem] theorem q_arrV_1 (off len : Nat) (d : D) : arrV off len (some d) = (if off + len ≤ (cellsOf d).length then (toVL (((cellsOf d).drop off).take len)).map (.slc 1) else none) := rfl
@[go_sem] theorem q_loadC_1 (cs : List D) (off : Nat) : loadC cs off none = (cs[off]?).map cp := rfl
@[go_sem] theorem q_loadC_2 (cs : List D) (off n : Nat) : loadC cs off (some n) = (if off + n ≤ cs.length then some (mkAgg (((cs.drop off).take n).map cp1)) else none) := rfl
@[go_sem] theorem q_loadVs_1 (cs : List V) (off : Nat) : loadVs cs off none = (cs[off]?).map .v := rfl
@[go_sem] theorem q_loadVs_2 (cs : List V) (off n : Nat) : loadVs cs off (some n) = (if off + n ≤ cs.length then some (.v (.agg ((cs.drop off).take n))) else none) := rfl
attribute [go_sem] stElem.eq_1
attribute [go_sem] newElem.eq_1
attribute [go_sem] unCells.eq_1
attribute [go_sem] putAt.eq_1
attribute [go_sem] opFld.eq_1
attribute [go_sem] opIdxA.eq_1
attribute [go_sem] opIaA.eq_1
attribute [go_sem] vaOf.eq_1
attribute [go_sem] bnds.eq_1
attribute [go_sem] subM.eq_1
attribute [go_sem] slcOf.eq_1
attribute [go_sem] cloneD.eq_1
attribute [go_sem] clrRow.eq_1
@[go_sem] theorem q_ixOf_1 (k : IntKind) (i : Int) (n : Nat) : ixOf (.v (.int k i)) n = (if 0 ≤ i ∧ i < (n : Int) then some i.toNat else none) := rfl
@[go_sem] theorem q_bndOf_1 (k : IntKind) (i : Int) (n : Nat) : bndOf (.v (.int k i)) n = (if 0 ≤ i ∧ i ≤ (n : Int) then some i.toNat else none) := rfl
@[go_sem] theorem q_bndHi_1 (n : Nat) : bndHi n none = some n := rfl
@[go_sem] theorem q_bndHi_2 (n : Nat) (d : D) : bndHi n (some d) = bndOf d n := rfl
@[go_sem] theorem q_bndLo_1 (n : Nat) : bndLo n none = some 0 := rfl
@[go_sem] theorem q_bndLo_2 (n : Nat) (d : D) : bndLo n (some d) = bndOf d n := rfl
@[go_sem] theorem q_cellsV_1 (b : Bool) : cellsV (.bool b) = [(.bool b)] := rfl
@[go_sem] theorem q_cellsV_2 (k : IntKind) (n : Int) : cellsV (.int k n) = [(.int k n)] := rfl
@[go_sem] theorem q_cellsV_3 (s : List UInt8) : cellsV (.str s) = [(.str s)] := rfl
@[go_sem] theorem q_cellsV_4 (z : Nat) (xs : List V) : cellsV (.slc z xs) = [(.slc z xs)] := rfl
@[go_sem] theorem q_cellsV_5 (xs : List V) : cellsV (.agg xs) = xs := rfl
@[go_sem] theorem q_cellsV_6  : cellsV (.nilp) = [(.nilp)] := rfl
@[go_sem] theorem q_cellsV_7  : cellsV (.nili) = [(.nili)] := rfl
@[go_sem] theorem q_cellsV_8  : cellsV (.nilf) = [(.nilf)] := rfl
@[go_sem] theorem q_cellsV_9  : cellsV (.nilm) = [(.nilm)] := rfl
@[go_sem] theorem q_cellsV_10 (t : Nat) (x : V) : cellsV (.iface t x) = [(.iface t x)] := rfl
@[go_sem] theorem q_cellsV_11 (f : Nat) : cellsV (.fn f) = [(.fn f)] := rfl
@[go_sem] theorem q_cellsV_12 (cs : List V) : cellsV (.pt cs) = [(.pt cs)] := rfl
@[go_sem] theorem q_fillD_1 (cs : List D) : fillD cs [] = some cs := rfl
@[go_sem] theorem q_fillD_2 (cs : List D) (off sz : Nat) (d : D) (r : List (Nat × Nat × D)) : fillD cs ((off, sz, d) :: r) = (if (cellsOf d).length = sz ∧ off + sz ≤ cs.length ∧ goodD d = true then fillD (putAt cs off (cellsOf d)) r else none) := rfl
@[go_sem] theorem q_szs_1 (sz : Nat) : szs sz [] = true := rfl
@[go_sem] theorem q_szs_2 (sz : Nat) (x : V) (r : List V) : szs sz (x :: r) = (decide ((cellsV x).length = sz) && szs sz r) := rfl
@[go_sem] theorem q_opCall_1 (R : Run) (f : Nat) (ds : List D) (st : St) : opCall R true f ds st = R f ds st := rfl
@[go_sem] theorem q_opCall_2 (R : Run) (f : Nat) (ds : List D) (st : St) : opCall R false f ds st = (rdVs st ds).bind fun xs => (R f (xs.map .v) []).bind (backD (anyRow ds) st) := rfl
@[go_sem] theorem q_backD_1 (st : St) (r : D) : backD false st (r, []) = some (r, st) := rfl
@[go_sem] theorem q_backD_2 (st : St) (r : D) : backD true st (r, []) = (if flatR r = true then some (r, st) else none) := rfl
@[go_sem] theorem q_flatR_1  (x : V) : flatR (.v x) = flat x := rfl
@[go_sem] theorem q_flatR_2  (z : Nat) : flatR (.nils z) = false := rfl
@[go_sem] theorem q_flatR_3  (z : Nat) (xs : List V) : flatR (.lin z xs) = false := rfl
@[go_sem] theorem q_flatR_4  (r : Ref) (z : Nat) (off : Nat) (len : Nat) (fl : Bool) : flatR (.own r z off len fl) = false := rfl
@[go_sem] theorem q_flatR_5  (r : Ref) (i : Nat) (off : Nat) (len : Nat) : flatR (.arr r i off len) = false := rfl
@[go_sem] theorem q_flatR_6  (r : Ref) (i : Nat) (off : Nat) : flatR (.ptr r i off) = false := rfl
@[go_sem] theorem q_flatR_7  (cs : List V) (off : Nat) : flatR (.va cs off) = false := rfl
@[go_sem] theorem q_flatR_8  (r : Ref) : flatR (.map r) = false := rfl
@[go_sem] theorem q_flatR_9  (f : Nat) (fs : List D) (cs : List D) : flatR (.clo f fs cs) = false := rfl
@[go_sem] theorem q_flatR_10  (t : Nat) (d : D) : flatR (.ifc t d) = false := rfl
@[go_sem] theorem q_flatR_11  (ds : List D) : flatR (.agg ds) = false := rfl
@[go_sem] theorem q_flatR_12  (ds : List D) : flatR (.tup ds) = flatDs ds := rfl
@[go_sem] theorem q_flatR_13   : flatR (.undef) = false := rfl
@[go_sem] theorem q_flatD_1  (x : V) : flatD (.v x) = flat x := rfl
@[go_sem] theorem q_flatD_2  (z : Nat) : flatD (.nils z) = false := rfl
@[go_sem] theorem q_flatD_3  (z : Nat) (xs : List V) : flatD (.lin z xs) = false := rfl
@[go_sem] theorem q_flatD_4  (r : Ref) (z : Nat) (off : Nat) (len : Nat) (fl : Bool) : flatD (.own r z off len fl) = false := rfl
@[go_sem] theorem q_flatD_5  (r : Ref) (i : Nat) (off : Nat) (len : Nat) : flatD (.arr r i off len) = false := rfl
@[go_sem] theorem q_flatD_6  (r : Ref) (i : Nat) (off : Nat) : flatD (.ptr r i off) = false := rfl
@[go_sem] theorem q_flatD_7  (cs : List V) (off : Nat) : flatD (.va cs off) = false := rfl
@[go_sem] theorem q_flatD_8  (r : Ref) : flatD (.map r) = false := rfl
@[go_sem] theorem q_flatD_9  (f : Nat) (fs : List D) (cs : List D) : flatD (.clo f fs cs) = false := rfl
@[go_sem] theorem q_flatD_10  (t : Nat) (d : D) : flatD (.ifc t d) = false := rfl
@[go_sem] theorem q_flatD_11  (ds : List D) : flatD (.agg ds) = false := rfl
@[go_sem] theorem q_flatD_12  (ds : List D) : flatD (.tup ds) = false := rfl
@[go_sem] theorem q_flatD_13   : flatD (.undef) = false := rfl
@[go_sem] theorem q_flatDs_1  : flatDs [] = true := rfl
@[go_sem] theorem q_flatDs_2 (d : D) (r : List D) : flatDs (d :: r) = (flatD d && flatDs r) := rfl
@[go_sem] theorem q_flat_1 (b : Bool) : flat (.bool b) = true := by simp only [flat]
@[go_sem] theorem q_flat_2 (k : IntKind) (n : Int) : flat (.int k n) = true := by simp only [flat]
@[go_sem] theorem q_flat_3 (s : List UInt8) : flat (.str s) = true := by simp only [flat]
@[go_sem] theorem q_flat_4 (z : Nat) (xs : List V) : flat (.slc z xs) = false := by simp only [flat]
@[go_sem] theorem q_flat_5 (xs : List V) : flat (.agg xs) = flats xs := by simp only [flat]
@[go_sem] theorem q_flat_6  : flat (.nilp) = true := by simp only [flat]
@[go_sem] theorem q_flat_7  : flat (.nili) = true := by simp only [flat]
@[go_sem] theorem q_flat_8  : flat (.nilf) = true := by simp only [flat]
@[go_sem] theorem q_flat_9  : flat (.nilm) = true := by simp only [flat]
@[go_sem] theorem q_flat_10 (t : Nat) (x : V) : flat (.iface t x) = false := by simp only [flat]
@[go_sem] theorem q_flat_11 (f : Nat) : flat (.fn f) = true := by simp only [flat]
@[go_sem] theorem q_flat_12 (cs : List V) : flat (.pt cs) = false := by simp only [flat]
@[go_sem] theorem q_flats_1  : flats [] = true := by simp only [flats]
@[go_sem] theorem q_flats_2 (x : V) (r : List V) : flats (x :: r) = (flat x && flats r) := by simp only [flats]
@[go_sem] theorem q_mfind_1 (k : V) : mfind k [] = some none := rfl
@[go_sem] theorem q_mfind_2 (k k2 : V) (d : D) (es : List (V × D)) : mfind k ((k2, d) :: es) = (keyEq k k2).bind fun t => if t = true then some (some d) else mfind k es := rfl
@[go_sem] theorem q_mput_1 (k : V) (d : D) : mput k d [] = some [(k, d)] := rfl
@[go_sem] theorem q_mput_2 (k k2 : V) (d d2 : D) (es : List (V × D)) : mput k d ((k2, d2) :: es) = (keyEq k k2).bind fun t => if t = true then some ((k2, d) :: es) else (mput k d es).map ((k2, d2) :: ·) := rfl
@[go_sem] theorem q_keyEq_1 (k : IntKind) (a b : Int) : keyEq (.int k a) (.int k b) = some (a == b) := by simp [keyEq]
@[go_sem] theorem q_keyEq_2 (a b : List UInt8) : keyEq (.str a) (.str b) = some (a == b) := rfl
@[go_sem] theorem q_keyEq_3 (a b : Bool) : keyEq (.bool a) (.bool b) = some (a == b) := rfl
@[go_sem] theorem q_mpOf_1 (es : List (V × D)) : mpOf (some (.mp es)) = some es := rfl
@[go_sem] theorem q_mapOf_1 (st : St)  : mapOf st (.v (.nilm)) = some [] := rfl
@[go_sem] theorem q_mapOf_2 (st : St) (r : Ref) : mapOf st (.map r) = mpOf (getB st r) := rfl
@[go_sem] theorem q_keyOfD_1 (kd : Nat) (b : Bool) : keyOfD kd (.v (.bool b)) = if kd = 0 then some (.bool b) else none := rfl
@[go_sem] theorem q_keyOfD_2 (kd : Nat) (k : IntKind) (n : Int) : keyOfD kd (.v (.int k n)) = if kd = 1 then some (.int k n) else none := rfl
@[go_sem] theorem q_keyOfD_3 (kd : Nat) (s : List UInt8) : keyOfD kd (.v (.str s)) = if kd = 2 then some (.str s) else none := rfl
@[go_sem] theorem q_lookD_1 (z d : D) : lookD true z (some d) = .tup [d, .v (.bool true)] := rfl
@[go_sem] theorem q_lookD_2 (z d : D) : lookD false z (some d) = d := rfl
@[go_sem] theorem q_lookD_3 (z : D) : lookD true z none = .tup [z, .v (.bool false)] := rfl
@[go_sem] theorem q_lookD_4 (z : D) : lookD false z none = z := rfl
@[go_sem] theorem q_mupdD_1 (st : St) (kk : V) (dd : D) (r : Ref) : mupdD st kk dd (.map r) = (if mapV (r.lvl + 1) dd = true then (mpOf (getB st r)).bind fun es => (mput kk dd es).map fun es2 => setB st r (.mp es2) else none) := rfl
@[go_sem] theorem q_mapV_1 (n : Nat) (b : Bool) : mapV n (.v (.bool b)) = true := by simp only [mapV, refsBelow]
@[go_sem] theorem q_mapV_2 (n : Nat) (k : IntKind) (i : Int) : mapV n (.v (.int k i)) = true := by simp only [mapV, refsBelow]
@[go_sem] theorem q_mapV_3 (n : Nat) (r : Ref) (i o : Nat) : mapV n (.ptr r i o) = decide (r.lvl < n) := by simp only [mapV, refsBelow]
@[go_sem] theorem q_mapV_4 (n : Nat) (s : List UInt8) : mapV n (.v (.str s)) = true := by simp only [mapV, refsBelow]
@[go_sem] theorem q_growD_1 (d sz bytes : Nat) (env : List D) (st : St) (z : Nat) (n : Int) : growD d sz bytes env st (.nils z) (.v (.int .i64 n)) = (if 0 < n ∧ n * (bytes : Int) ≤ (maxB : Int) then some (.normal, env.set d (.lin sz []), st) else none) := rfl
@[go_sem] theorem q_isNilV_1 (z : Nat) : isNilV (some (.slc z [])) = true := rfl
@[go_sem] theorem q_isNilV_2 (z : Nat) (x : V) (xs : List V) : isNilV (some (.slc z (x :: xs))) = false := rfl
@[go_sem] theorem q_killE_1 (env : List D) : killE [] env = env := rfl
@[go_sem] theorem q_killE_2 (i : Nat) (l : List Nat) (env : List D) : killE (i :: l) env = killE l (env.set i .undef) := rfl
attribute [go_sem] pop.eq_1
@[go_sem] theorem q_blkD_1 (id : Nat) (env : List D) (st : St) : blkD id (.normal, env, st) = some (.normal, env, st) := rfl
@[go_sem] theorem q_blkD_2 (id : Nat) (env : List D) (st : St) : blkD id (.ret, env, st) = some (.ret, env, st) := rfl
@[go_sem] theorem q_blkD_3 (id id2 : Nat) (env : List D) (st : St) : blkD id (.exit id2, env, st) = (if id2 = id then some (.normal, env, st) else some (.exit id2, env, st)) := rfl
@[go_sem] theorem q_thenD_1 (G : Prg) (b : SCode) (env : List D) (st : St) : thenD G b (.normal, env, st) = ex G b env st := rfl
@[go_sem] theorem q_thenD_2 (G : Prg) (b : SCode) (env : List D) (st : St) : thenD G b (.ret, env, st) = some (.ret, env, st) := rfl
@[go_sem] theorem q_thenD_3 (G : Prg) (b : SCode) (i : Nat) (env : List D) (st : St) : thenD G b (.exit i, env, st) = some (.exit i, env, st) := rfl
@[go_sem] theorem q_finD_1 (k : Bool) (res : List SRes) (st : St) (env : List D) (st2 : St) : finD k res st (.normal, env, st2) = endD k res st env st2 := rfl
@[go_sem] theorem q_finD_2 (k : Bool) (res : List SRes) (st : St) (env : List D) (st2 : St) : finD k res st (.ret, env, st2) = endD k res st env st2 := rfl
@[go_sem] theorem q_finD_3 (k : Bool) (res : List SRes) (st : St) (i : Nat) (env : List D) (st2 : St) : finD k res st (.exit i, env, st2) = none := rfl
attribute [go_sem] endD.eq_1
@[go_sem] theorem q_oneD_1 (st : St) (d : D) : oneD st [d] = some (d, st) := rfl
@[go_sem] theorem q_oneD_2 (st : St) : oneD st [] = some (.tup [], st) := rfl
@[go_sem] theorem q_oneD_3 (st : St) (a b : D) (l : List D) : oneD st (a :: b :: l) = some (.tup (a :: b :: l), st) := rfl
@[go_sem] theorem q_putD_1 (d : D) (env ts : List D) : putD d env ts (.none) = (env, .undef :: ts) := rfl
@[go_sem] theorem q_putD_2 (d : D) (env ts : List D) : putD d env ts (.tmp) = (env, d :: ts) := rfl
@[go_sem] theorem q_putD_3 (d : D) (env ts : List D) (i : Nat) : putD d env ts (.var i) = (env.set i d, .undef :: ts) := rfl
end Go.Q
namespace Go.Q
open Go.ChangeShapes Go.WideShapes Go.RowKit

inductive CT where
  | bool
  | int (k : IntKind)
  | str
  | slc (ag : Bool) (bytes : Nat) (ts : List CT)
def elemOf (ag : Bool) (cs : List V) : V := if ag = true then .agg cs else cs.headD (.bool false)
mutual
def hasC : CT → V → Prop
  | .bool, x => ∃ b, x = .bool b
  | .int k, x => ∃ n, x = .int k n ∧ k.min ≤ n ∧ n ≤ k.max
  | .str, x => ∃ s : List UInt8, x = .str s ∧ s.length ≤ reachBytes
  | .slc ag bytes ts, x => ∃ ys : List V, x = .slc (lenC ts) ys ∧ ys.length * bytes ≤ reachBytes ∧ ∀ y ∈ ys, ∃ cs, y = elemOf ag cs ∧ hasCs ts cs
def hasCs : List CT → List V → Prop
  | [], xs => xs = []
  | t :: ts, xs => ∃ x r, xs = x :: r ∧ hasC t x ∧ hasCs ts r
def lenC : List CT → Nat
  | [] => 0
  | _ :: ts => lenC ts + 1
end
theorem lenC_eq : ∀ (ts : List CT), lenC ts = ts.length
  | [] => by simp [lenC]
  | t :: ts => by simp [lenC, lenC_eq ts]
theorem hasCs_len : ∀ {ts : List CT} {xs : List V}, hasCs ts xs → xs.length = ts.length
  | [], xs, h => by simp only [hasCs] at h; subst h; rfl
  | t :: ts, xs, h => by
    simp only [hasCs] at h
    obtain ⟨x, r, rfl, _, h2⟩ := h
    simp [hasCs_len h2]
theorem hasCs_append : ∀ {ts ts' : List CT} {xs xs' : List V}, hasCs ts xs → hasCs ts' xs' → hasCs (ts ++ ts') (xs ++ xs')
  | [], ts', xs, xs', h, h' => by simp only [hasCs] at h; subst h; exact h'
  | t :: ts, ts', xs, xs', h, h' => by
    simp only [hasCs] at h
    obtain ⟨x, r, rfl, h1, h2⟩ := h
    simp only [List.cons_append, hasCs]
    exact ⟨x, r ++ xs', rfl, h1, hasCs_append h2 h'⟩
inductive All2 {α β : Type} (R : α → β → Prop) : List α → List β → Prop
  | nil : All2 R [] []
  | cons {a b l m} (h : R a b) (t : All2 R l m) : All2 R (a :: l) (b :: m)
theorem All2.append {α β : Type} {R : α → β → Prop} {l l' : List α} {m m' : List β} (h : All2 R l m) (h' : All2 R l' m') : All2 R (l ++ l') (m ++ m') := by
  induction h with
  | nil => exact h'
  | cons a b ih => exact .cons a ih
theorem All2.len {α β : Type} {R : α → β → Prop} {l : List α} {m : List β} (h : All2 R l m) : l.length = m.length := by
  induction h with
  | nil => rfl
  | cons a b ih => simp [ih]
theorem All2.get {α β : Type} {R : α → β → Prop} {l : List α} {m : List β} (h : All2 R l m) : ∀ (i : Nat) (hi : i < l.length) (hj : i < m.length), R l[i] m[i] := by
  induction h with
  | nil => intro i hi; simp at hi
  | cons a b ih => intro i hi hj; cases i with
    | zero => exact a
    | succ i => exact ih i (by simpa using hi) (by simpa using hj)

section
variable (P : Program)
def isAggT (t : TypeId) : Bool := match P.underlying t with
  | some (.struct _) => true
  | some (.array _ _) => true
  | _ => false
def flatF (F : TypeId → Option (List CT)) : Nat → List Field → Option (List CT)
  | _, [] => some []
  | off, f :: fs => if f.offset = off then (F f.type).bind fun ts => if P.cellsOf f.type = ts.length then (flatF F (off + ts.length) fs).map (ts ++ ·) else none else none
def flatT : Nat → TypeId → Option (List CT)
  | 0, _ => none
  | n + 1, t => match P.underlying t with
    | some .bool => some [.bool]
    | some (.int k) => some [.int k]
    | some .string => some [.str]
    | some (.slice e) => (flatT n e).bind fun ts => if P.cellsOf e = ts.length ∧ ts.length ≠ 0 ∧ (isAggT P e = false → ts.length = 1) then some [.slc (isAggT P e) (P.bytesOf e) ts] else none
    | some (.struct fs) => (flatF P (flatT n) 0 fs.toList).bind fun ts => if P.cellsOf t = ts.length then some ts else none
    | some (.array k e) => (flatT n e).bind fun ts => if P.cellsOf e = ts.length ∧ P.cellsOf t = k * ts.length then some (List.replicate k ts).flatten else none
    | _ => none
end

def Lw (w : World) (b : Nat) : Nat := match w.heap[b]? with
  | some (.cells c _ _) => c.size
  | _ => 0
theorem lt_Lw {w : World} {b o : Nat} {v : Value} (h : w.cell? ⟨b, o, none⟩ = some v) : o < Lw w b := by
  unfold World.cell? at h
  unfold Lw
  split at h <;> first | (cases h; done) | skip
  rename_i c e fr hb
  simp only [Option.isSome_none, Bool.false_eq_true, if_false] at h
  simp only at hb
  rw [hb]
  exact (Array.getElem?_eq_some_iff.1 h).1
theorem Lw_fresh {w : World} {b : Nat} (h : w.heap.size ≤ b) : Lw w b = 0 := by
  unfold Lw
  rw [Array.getElem?_eq_none h]
def CR (w : World) (x : V) (v : Value) : Prop := x.isCell = true ∧ RelV w (Lw w) x v
theorem exists_list {α : Type} {Q : Nat → α → Prop} : ∀ n, (∀ i, i < n → ∃ y, Q i y) → ∃ ys : List α, ys.length = n ∧ ∀ i (h : i < ys.length), Q i ys[i]
  | 0, _ => ⟨[], rfl, fun i h => by simp at h⟩
  | n + 1, h => by
    obtain ⟨ys, h1, h2⟩ := exists_list n (fun i hi => h i (by omega))
    obtain ⟨y, hy⟩ := h n (by omega)
    refine ⟨ys ++ [y], by simp [h1], fun i hi => ?_⟩
    by_cases e : i < ys.length
    · rw [List.getElem_append_left e]; exact h2 i e
    · have : i = ys.length := by simp at hi; omega
      subst this
      simp only [List.getElem_concat_length]
      rw [h1]; exact hy

section
variable {H : Type} {enc : TypeId × Value → H} {P : Program} {w : World} {sp : Nat → Bool} {held : Bool}
def Small (P : Program) (t : TypeId) (d : DataW H) : Prop := ∀ k ∈ d.weights P t, k ≤ reachBytes
def Reads (enc : TypeId × Value → H) (P : Program) (w : World) (sp : Nat → Bool) (held : Bool) (F : TypeId → Option (List CT)) : Prop :=
  ∀ t ts, F t = some ts → ∀ fuel cs y, DataW.trod enc P w 0 sp held fuel t cs = some y → Small P t y.1 → ∃ xs, hasCs ts xs ∧ All2 (CR w) xs cs

theorem fields_ok {F : TypeId → Option (List CT)} (IH : Reads enc P w sp held F) {m : Nat} {cs : List Value} : ∀ (fs : List Field) (off : Nat) (ts : List CT) (ds : List (DataW H × List MemPlace)), flatF P F off fs = some ts → ds.length = fs.length →
    (∀ (i : Nat) (f : Field), fs[i]? = some f → DataW.trod enc P w 0 sp held m f.type ((cs.drop f.offset).take (P.cellsOf f.type)) = ds[i]?) → (∀ k ∈ DataW.weightsEach P (fs.map (·.type)) (ds.map (·.1)), k ≤ reachBytes) →
    off + ts.length = cs.length → ∃ xs, hasCs ts xs ∧ All2 (CR w) xs (cs.drop off)
  | [], off, ts, ds, hf, hl, ht, hw, hlen => by
    simp only [flatF] at hf; cases hf
    simp at hlen
    rw [List.drop_of_length_le (by omega)]
    exact ⟨[], by simp [hasCs], .nil⟩
  | f :: fs, off, ts, ds, hf, hl, ht, hw, hlen => by
    simp only [flatF] at hf
    split at hf <;> first | (cases hf; done) | skip
    rename_i hoff
    obtain ⟨t1, h1, h2⟩ := Option.bind_eq_some_iff.1 hf
    split at h2 <;> first | (cases h2; done) | skip
    rename_i hc
    obtain ⟨t2, h3, rfl⟩ := Option.map_eq_some_iff.1 h2
    cases ds with
    | nil => simp at hl
    | cons d ds =>
      have g1 := ht 0 f rfl
      simp only [List.getElem?_cons_zero] at g1
      simp only [List.map_cons, DataW.weightsEach, List.mem_append] at hw
      obtain ⟨x1, k1, k2⟩ := IH f.type t1 h1 m _ d g1 (fun k hk => hw k (.inl hk))
      rw [hoff, hc] at k2
      obtain ⟨x2, k3, k4⟩ := fields_ok IH fs (off + t1.length) t2 ds h3 (by simpa using hl) (fun i g hg => ht (i + 1) g (by simpa using hg)) (fun k hk => hw k (.inr hk)) (by simp at hlen; omega)
      refine ⟨x1 ++ x2, hasCs_append k1 k3, ?_⟩
      have := k2.append k4
      rw [← List.drop_drop, List.take_append_drop] at this
      exact this
theorem weightsAll_mem {e : TypeId} : ∀ {ds : List (DataW H)} {d : DataW H}, d ∈ ds → ∀ k ∈ d.weights P e, k ∈ DataW.weightsAll P e ds
  | d0 :: ds, d, h, k, hk => by
    simp only [DataW.weightsAll, List.mem_append]
    rcases List.mem_cons.1 h with rfl | h
    · exact .inl hk
    · exact .inr (weightsAll_mem h k hk)
theorem items_ok {F : TypeId → Option (List CT)} (IH : Reads enc P w sp held F) {m : Nat} {cs : List Value} {e : TypeId} {ts : List CT} (hF : F e = some ts) (hc : P.cellsOf e = ts.length) {total : Nat} {ds : List (DataW H × List MemPlace)} (hl : ds.length = total)
    (ht : ∀ i, i < total → DataW.trod enc P w 0 sp held m e ((cs.drop (i * P.cellsOf e)).take (P.cellsOf e)) = ds[i]?) (hw : ∀ k ∈ DataW.weightsAll P e (ds.map (·.1)), k ≤ reachBytes) (hlen : cs.length = total * ts.length) : ∀ (k j : Nat), j + k = total →
    ∃ xs, hasCs (List.replicate k ts).flatten xs ∧ All2 (CR w) xs (cs.drop (j * ts.length))
  | 0, j, hj => by
    have : j = total := by omega
    subst this
    rw [List.drop_of_length_le (by omega)]
    exact ⟨[], by simp [hasCs], .nil⟩
  | k + 1, j, hj => by
    have hlt : j < ds.length := by omega
    have g1 := ht j (by omega)
    rw [List.getElem?_eq_getElem hlt] at g1
    obtain ⟨x1, k1, k2⟩ := IH e ts hF m _ _ g1 (fun q hq => hw q (weightsAll_mem (by exact List.mem_map.2 ⟨ds[j], List.getElem_mem _, rfl⟩) q hq))
    obtain ⟨x2, k3, k4⟩ := items_ok IH hF hc hl ht hw hlen k (j + 1) (by omega)
    rw [hc] at k2
    refine ⟨x1 ++ x2, by rw [List.replicate_succ, List.flatten_cons]; exact hasCs_append k1 k3, ?_⟩
    have := k2.append k4
    rw [Nat.succ_mul, ← List.drop_drop, List.take_append_drop] at this
    exact this

theorem add_none {a : Addr} (h : a.spot = none) (n m : Nat) : (a.add n).add m = ⟨a.block, a.off + n + m, none⟩ := by
  obtain ⟨b, o, s⟩ := a
  simp only at h
  subst h
  unfold Addr.add
  by_cases h1 : n = 0 <;> by_cases h2 : m = 0 <;> simp [h1, h2]
theorem flat_ok : ∀ n, Reads enc P w sp held (flatT P n)
  | 0 => fun t ts h => by simp [flatT] at h
  | n + 1 => fun t ts h fuel cs y hy hw => by
    have IH := flat_ok n
    simp only [flatT] at h
    split at h <;> first | (cases h; done) | skip
    · rename_i hu; cases h
      obtain ⟨b, rfl, rfl⟩ := DataW.trod_bool hu hy
      exact ⟨[.bool b], by simp [hasCs, hasC], .cons ⟨rfl, .bool b⟩ .nil⟩
    · rename_i k hu; cases h
      obtain ⟨m, rfl, rfl, hwf⟩ := DataW.trod_int hu hy
      simp only [Lit.wf, Bool.and_eq_true, decide_eq_true_eq] at hwf
      exact ⟨[.int k m], by simp [hasCs, hasC, hwf], .cons ⟨rfl, .int k m⟩ .nil⟩
    · rename_i hu; cases h
      obtain ⟨s, rfl, rfl, hs⟩ := DataW.trod_string hu hy
      refine ⟨[.str s.data.toList], ?_, .cons ⟨rfl, .str s⟩ .nil⟩
      have := hw s.data.toList.length (by simp [DataW.weights])
      simp only [hasCs, hasC]
      exact ⟨_, [], rfl, ⟨_, rfl, this⟩, rfl⟩
    · rename_i e hu
      obtain ⟨te, h1, h2⟩ := Option.bind_eq_some_iff.1 h
      split at h2 <;> cases h2
      rename_i hc
      obtain ⟨hc, hne, hag⟩ := hc
      rcases DataW.trod_slice hu hy with ⟨rfl, rfl⟩ | ⟨a, len, cap, elems, rest, m, _, rfl, rfl, _, hcap, _, hel, hel2, _, _⟩
      · refine ⟨[.slc (lenC te) []], ?_, .cons ⟨rfl, .slc0 _ _ _⟩ .nil⟩
        simp only [hasCs, hasC]
        exact ⟨_, [], rfl, ⟨[], rfl, by simp, fun y hy => by simp at hy⟩, rfl⟩
      · have hwt : (elems.length + rest.length) * P.bytesOf e ≤ reachBytes := hw _ (by simp [DataW.weights, hu])
        have hwe : ∀ d ∈ elems, Small P e d.1 := fun d hd k hk => hw k (by
          simp only [DataW.weights, hu, List.mem_cons, List.mem_append]
          exact .inr (.inl (weightsAll_mem (List.mem_map.2 ⟨d, hd, rfl⟩) k hk)))
        have each : ∀ i, i < len → ∃ xs : List V, hasCs te xs ∧ a.spot = none ∧ ∀ j (hj : j < xs.length), ∃ v, w.cell? ⟨a.block, a.off + i * P.cellsOf e + j, none⟩ = some v ∧ CR w xs[j] v := fun i hi => by
          have hl : i < elems.length := by omega
          have g := hel2 i hi
          rw [List.getElem?_eq_getElem hl] at g
          obtain ⟨c, g1, g2⟩ := Option.bind_eq_some_iff.1 g
          obtain ⟨_, g3, g4⟩ := World.cells?_some g1
          obtain ⟨xs, k1, k2⟩ := IH e te h1 m c _ g2 (hwe _ (List.getElem_mem _))
          have hxl := hasCs_len k1
          have hspot : a.spot = none := by
            have := g4 0 (by omega)
            rw [List.getElem?_eq_getElem (by omega)] at this
            have h0 : (hel2 0 (by omega)) = (hel2 0 (by omega)) := rfl
            have g0 := hel2 0 (by omega)
            rw [List.getElem?_eq_getElem (by omega)] at g0
            obtain ⟨c0, q1, q2⟩ := Option.bind_eq_some_iff.1 g0
            obtain ⟨_, q3, q4⟩ := World.cells?_some q1
            have q5 := q4 0 (by omega)
            rw [List.getElem?_eq_getElem (by omega)] at q5
            simp only [Nat.zero_mul, Addr.add, if_true] at q5
            unfold World.cell? at q5
            split at q5 <;> first | (cases q5; done) | skip
            split at q5 <;> first | (cases q5; done) | skip
            rename_i hs
            simpa using hs
          refine ⟨xs, k1, hspot, fun j hj => ?_⟩
          have hjc : j < c.length := by rw [← k2.len]; exact hj
          have := g4 j (by omega)
          rw [List.getElem?_eq_getElem hjc, add_none hspot] at this
          exact ⟨_, this, k2.get j hj hjc⟩
        obtain ⟨xss, e1, e2⟩ := exists_list len each
        have hys : ∀ i (h : i < xss.length), cellsV (elemOf (isAggT P e) xss[i]) = xss[i] := fun i hi => by
          obtain ⟨q1, q2, q3⟩ := e2 i hi
          unfold elemOf
          split
          · rfl
          · rename_i hag2
            have hl := hasCs_len q1
            rw [hag (by simpa using hag2)] at hl
            cases hx : xss[i] with
            | nil => rw [hx] at hl; simp at hl
            | cons x r =>
              rw [hx] at hl
              have : r = [] := by simpa using hl
              subst this
              obtain ⟨v, _, hv⟩ := q3 0 (by rw [hx]; simp)
              have hcell := hv.1
              simp only [hx, List.getElem_cons_zero] at hcell
              simp only [List.headD_cons]
              cases x <;> first | rfl | (simp [V.isCell] at hcell; done)
        refine ⟨[.slc (lenC te) (xss.map (elemOf (isAggT P e)))], ?_, .cons ⟨rfl, ?_⟩ .nil⟩
        · simp only [hasCs, hasC]
          refine ⟨_, [], rfl, ⟨_, rfl, ?_, fun y hy => ?_⟩, rfl⟩
          · simp only [List.length_map, e1, ← hel]
            exact Nat.le_trans (Nat.mul_le_mul_right _ (Nat.le_add_right _ _)) hwt
          · obtain ⟨cs, hcs, rfl⟩ := List.mem_map.1 hy
            obtain ⟨i, hi, rfl⟩ := List.getElem_of_mem hcs
            exact ⟨_, rfl, (e2 i hi).1⟩
        · by_cases h0 : len = 0
          · have : xss = [] := List.length_eq_zero_iff.1 (by omega)
            subst this
            subst h0
            exact .slc0 _ _ _
          · have hspot : a.spot = none := (e2 0 (by omega)).2.1
            obtain ⟨b, o, s⟩ := a
            simp only at hspot
            subst hspot
            have hlen : len = (xss.map (elemOf (isAggT P e))).length := by simp [e1]
            rw [hlen]
            have hcell : ∀ i j, i < xss.length → j < lenC te → ∃ v, w.cell? ⟨b, o + i * lenC te + j, none⟩ = some v ∧ ∃ (hi : i < xss.length) (hj : j < (xss[i]).length), CR w (xss[i])[j] v := fun i j hi hj => by
              obtain ⟨q1, q2, q3⟩ := e2 i hi
              rw [lenC_eq] at hj ⊢
              have hl := hasCs_len q1
              obtain ⟨v, q4, q5⟩ := q3 j (by omega)
              rw [hc] at q4
              exact ⟨v, q4, hi, by omega, q5⟩
            refine .slc (lenC te) _ b o cap (fun i j => (w.cell? ⟨b, o + i * lenC te + j, none⟩).getD undef) (by simp [e1]; exact hcap) (fun i hi => ?_) (fun i j hi hj => ?_) (fun i j hi hj => ?_) (fun i hi j hj => ?_) (fun i hi j hj => ?_)
            · simp only [List.getElem_map]
              rw [hys i (by simpa using hi), lenC_eq]
              exact hasCs_len (e2 i (by simpa using hi)).1
            · obtain ⟨v, q, _⟩ := hcell i j (by simpa using hi) hj
              exact lt_Lw q
            · obtain ⟨v, q, _⟩ := hcell i j (by simpa using hi) hj
              rw [q]; rfl
            · have hi' : i < xss.length := by simpa using hi
              simp only [List.getElem_map] at hj ⊢
              have hj' : j < (xss[i]).length := by rw [hys i hi'] at hj; exact hj
              obtain ⟨v, q, _, _, q5⟩ := hcell i j hi' (by rw [lenC_eq, ← hasCs_len (e2 i hi').1]; exact hj')
              have := q5.1
              simp only [hys i hi']
              exact this
            · have hi' : i < xss.length := by simpa using hi
              simp only [List.getElem_map] at hj ⊢
              have hj' : j < (xss[i]).length := by rw [hys i hi'] at hj; exact hj
              obtain ⟨v, q, _, _, q5⟩ := hcell i j hi' (by rw [lenC_eq, ← hasCs_len (e2 i hi').1]; exact hj')
              rw [q]
              simp only [hys i hi', Option.getD_some]
              exact q5.2
    · rename_i fs hu
      obtain ⟨ts', h1, h2⟩ := Option.bind_eq_some_iff.1 h
      split at h2 <;> cases h2
      rename_i hc
      obtain ⟨ds, m, _, rfl, hcs, hdl, ht⟩ := DataW.trod_struct hu hy
      have := fields_ok IH fs.toList 0 ts ds h1 (by simpa using hdl) (fun i f hf => ht i f (by simpa using hf)) (fun k hk => hw k (by simp only [DataW.weights, hu]; exact hk)) (by omega)
      simpa using this
    · rename_i k e hu
      obtain ⟨te, h1, h2⟩ := Option.bind_eq_some_iff.1 h
      split at h2 <;> cases h2
      rename_i hc
      obtain ⟨ds, m, _, rfl, hcs, hdl, ht⟩ := DataW.trod_array hu hy
      have := items_ok IH h1 hc.1 hdl ht (fun q hq => hw q (by simp only [DataW.weights, hu]; exact hq)) (by rw [hcs, hc.2]) k 0 (by omega)
      simpa using this

def argT (P : Program) (n : Nat) (t : TypeId) : Option (Bool × List CT) := (flatT P n t).bind fun ts => if isAggT P t = false → ts.length = 1 then some (isAggT P t, ts) else none
def argTs (P : Program) (n : Nat) : List TypeId → Option (List (Bool × List CT))
  | [] => some []
  | t :: ts => (argT P n t).bind fun a => (argTs P n ts).map (a :: ·)
def hasArgs : List (Bool × List CT) → List V → Prop
  | [], xs => xs = []
  | a :: r, xs => ∃ cs xr, xs = elemOf a.1 cs :: xr ∧ hasCs a.2 cs ∧ hasArgs r xr
theorem arg_ok {n : Nat} {t : TypeId} {a : Bool × List CT} (h : argT P n t = some a) {v : Value} {d : DataW H} {ps : List MemPlace} (hd : DataW.Trod enc P w 0 sp held t v d ps) {base : Nat} (hv : Value.okWide P w .any base t v) (hw : Small P t d) :
    ∃ cs, hasCs a.2 cs ∧ RelV w (Lw w) (elemOf a.1 cs) v := by
  obtain ⟨ts, h1, h2⟩ := Option.bind_eq_some_iff.1 h
  split at h2 <;> cases h2
  rename_i hone
  obtain ⟨fuel, hf⟩ := hd
  obtain ⟨cs, k1, k2⟩ := flat_ok n t ts h1 fuel _ _ hf hw
  refine ⟨cs, k1, ?_⟩
  by_cases hag : isAggT P t = true
  · have hval : ∃ arr, v = .agg arr := by
      unfold isAggT at hag
      unfold Value.okWide at hv
      split at hag <;> first | (cases hag; done) | skip
      · rename_i fs hu; simp only [hu] at hv; obtain ⟨arr, rfl, _⟩ := hv; exact ⟨arr, rfl⟩
      · rename_i fs hu; simp only [hu] at hv; obtain ⟨arr, rfl, _⟩ := hv; exact ⟨arr, rfl⟩
    obtain ⟨arr, rfl⟩ := hval
    simp only [hag, elemOf, if_true]
    simp only [Value.cells] at k2
    have hl := k2.len
    exact .agg cs arr (by simpa using hl) (fun i hi => (k2.get i hi (by rw [← hl]; exact hi)).1) (fun i hi => by
      have := (k2.get i hi (by rw [← hl]; exact hi)).2
      simpa using this)
  · have hagf : isAggT P t = false := by simpa using hag
    have hl1 := hasCs_len k1
    rw [hone hagf] at hl1
    have hval : v.cells.toList = [v] := by
      have hnot : ∀ arr, v ≠ .agg arr := by
        rintro arr rfl
        cases n with
        | zero => simp [flatT] at h1
        | succ n =>
          simp only [flatT] at h1
          split at h1 <;> first | (cases h1; done) | skip
          · rename_i hu; obtain ⟨b, hb⟩ := okWide_bool hu hv; cases hb
          · rename_i k hu; obtain ⟨b, hb⟩ := okWide_int hu hv; cases hb
          · rename_i hu; obtain ⟨b, hb⟩ := okWide_string hu hv; cases hb
          · rename_i e hu; obtain ⟨b, c, e', hb⟩ := okWide_slice hu hv; cases hb
          · rename_i fs hu; simp [isAggT, hu] at hagf
          · rename_i fs hu; simp [isAggT, hu] at hagf
      unfold Value.cells
      split
      · rename_i arr; exact absurd rfl (hnot arr)
      · rfl
    rw [hval] at k2
    cases cs with
    | nil => simp at hl1
    | cons x r =>
      have hr : r = [] := by simpa using hl1
      subst hr
      cases k2 with | cons q _ =>
      simp only [hagf, elemOf, Bool.false_eq_true, if_false, List.headD_cons]
      exact q.2
theorem args_ok {n : Nat} {base : Nat} : ∀ {ts : List TypeId} {as : List (Bool × List CT)} {vs : List Value} {ds : List (DataW H)} {ps : List MemPlace}, argTs P n ts = some as → DataW.TrodAll enc P w 0 sp held ts vs ds ps →
    (∀ (j : Nat) t v, ts[j]? = some t → vs[j]? = some v → Value.okWide P w .any base t v) → (∀ k ∈ DataW.weightsEach P ts ds, k ≤ reachBytes) → ∃ xs, hasArgs as xs ∧ All2 (RelV w (Lw w)) xs vs
  | [], as, vs, ds, ps, h, hT, hv, hw => by
    simp only [argTs] at h; cases h
    obtain ⟨rfl, _, _⟩ := trodAll_nil hT
    exact ⟨[], by simp [hasArgs], .nil⟩
  | t :: ts, as, vs, ds, ps, h, hT, hv, hw => by
    simp only [argTs] at h
    obtain ⟨a, h1, h2⟩ := Option.bind_eq_some_iff.1 h
    obtain ⟨r, h3, rfl⟩ := Option.map_eq_some_iff.1 h2
    obtain ⟨v, vs', d, ds', p, q, rfl, rfl, rfl, g1, g2⟩ := trodAll_cons hT
    simp only [DataW.weightsEach, List.mem_append] at hw
    obtain ⟨cs, k1, k2⟩ := arg_ok h1 g1 (hv 0 t v rfl rfl) (fun k hk => hw k (.inl hk))
    obtain ⟨xs, k3, k4⟩ := args_ok h3 g2 (fun j t v hj hv' => hv (j + 1) t v (by simpa using hj) (by simpa using hv')) (fun k hk => hw k (.inr hk))
    exact ⟨elemOf a.1 cs :: xs, ⟨cs, xs, rfl, k1, k3⟩, .cons k2 k4⟩
end
section
variable {H : Type} {enc : TypeId × Value → H} {P : Program}
theorem trodAll_below (hl : laidOutB P = true) {W W' : World} (hb : Below W.heap.size W W') : ∀ {ts : List TypeId} {vs : List Value} {ds : List (DataW H)} {ps : List MemPlace}, (ts.all fun t => P.readableRec t && decide (t < P.types.size)) = true →
    DataW.TrodAll enc P W 0 (fun _ => true) true ts vs ds ps → DataW.TrodAll enc P W' 0 (fun b => decide (b < W.heap.size)) true ts vs ds ps
  | [], vs, ds, ps, h, hT => by
    obtain ⟨rfl, rfl, rfl⟩ := trodAll_nil hT
    exact trodAll_mk0
  | t :: ts, vs, ds, ps, h, hT => by
    obtain ⟨v, vs', d, ds', p, q, rfl, rfl, rfl, g1, g2⟩ := trodAll_cons hT
    simp only [List.all_cons, Bool.and_eq_true, decide_eq_true_eq] at h
    have hlt := hT.lt
    exact trodAll_cons_mk (Below.trod hl h.1.1 h.1.2 g1 hb (fun x hx => hlt x (by simp [hx]))) (trodAll_below hl hb (by simpa using h.2) g2)
end
end Go.Q
