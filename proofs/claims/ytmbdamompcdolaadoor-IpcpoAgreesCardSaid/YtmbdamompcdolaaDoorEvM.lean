/- The small operations. No condition. -/
import Derived.Test.YtmbdamompcdolaaDoorEvL
set_option linter.unusedVariables false
set_option linter.unusedSimpArgs false
set_option linter.unusedSectionVars false
namespace Go.Q
variable [Known]
section
variable {P : Program} {w : World} {g : Gh} {μ : List Nat} {τ : List (Option Nat)} {env ts : List D} {st : St} {a : Act} {o : Oper} {q : Rg} {R : Run}

theorem mov_ok (h : RelA w g μ τ env ts st a.tmps) {x : Operand} {y : Opd} (hop : o.op = .move x ∨ o.op = .assign x) (hc : chkO μ τ x y = true) (he : evOp R env ts st (.mov y) = some q) : OpRes P o a w (Post w g μ τ a.tmps q) := by
  simp only [evOp] at he
  cases he
  refine res_val h ?_ (rd_rel h hc _)
  rcases hop with hop | hop <;> simp only [execOp, hop] <;> rfl
theorem take_ok (h : RelA w g μ τ env ts st a.tmps) (hts : ts.length = τ.length) {x : Operand} {y : Opd} (hop : o.op = .move x ∨ o.op = .assign x) (hc : chkO μ τ x y = true) (he : evOp R env ts st (.take y) = some q) : OpRes P o a w (Post w g μ τ a.tmps q) := by
  simp only [evOp] at he
  cases he
  obtain ⟨f, h1, h2, _, _⟩ := take_rel h hts hc
  refine res_ok (v := a.eval x) (w' := w) ?_ ⟨_, Ext.mv f, h1, h2⟩
  rcases hop with hop | hop <;> simp only [execOp, hop] <;> rfl
theorem nck_ok (h : RelA w g μ τ env ts st a.tmps) {x : Operand} {y : Opd} (hop : o.op = .nilCheck x) (hc : chkO μ τ x y = true) (he : evOp R env ts st (.nck y) = some q) : OpRes P o a w (Post w g μ τ a.tmps q) := by
  simp only [evOp] at he
  obtain ⟨d, h1, rfl⟩ := map_some' he
  have hd : d = rd env ts y ∧ ∃ ad, a.eval x = .pointer (some ad) := by
    have hr := rd_rel h hc (fun _ => .nil)
    unfold opNck at h1
    split at h1 <;> first | (cases h1; done) | skip
    · rename_i e
      cases h1
      rw [e] at hr ⊢
      refine ⟨rfl, ?_⟩
      generalize a.eval x = v at hr ⊢
      cases hr
      exact ⟨_, rfl⟩
    · rename_i e
      cases h1
      rw [e] at hr ⊢
      refine ⟨rfl, ?_⟩
      generalize a.eval x = v at hr ⊢
      cases hr
      exact ⟨_, rfl⟩
    · rename_i e
      cases h1
      rw [e] at hr ⊢
      refine ⟨rfl, ?_⟩
      replace hr := hr.toV
      generalize a.eval x = v at hr ⊢
      cases hr
      exact ⟨_, rfl⟩
  obtain ⟨rfl, ad, hv⟩ := hd
  refine res_val h (v := a.eval x) ?_ (rd_rel h hc _)
  simp only [execOp, hop, hv]
  rfl
theorem subl_ok (h : RelA w g μ τ env ts st a.tmps) (hts : ts.length = τ.length) {t e : TypeId} {x lo : Operand} {x' l' : Opd} {sz : Nat} (hop : o.op = .slice t x (some lo) none none) (hx : chkO μ τ x x' = true) (hl : chkO μ τ lo l' = true)
    (hu : uSlc P t = some e) (hz : szT P e = some sz) (he : evOp R env ts st (.subl sz x' l') = some q) : OpRes P o a w (Post w g μ τ a.tmps q) := by
  simp only [evOp] at he
  obtain ⟨d, h1, rfl⟩ := map_some' he
  obtain ⟨fm, k1, k2, _, _⟩ := take_rel h hts hx
  have hlo := rd_rel h hl (fun _ => .nil)
  unfold opSubl at h1
  split at h1 <;> first | (cases h1; done) | skip
  rename_i z xs hd
  split at h1 <;> first | (cases h1; done) | skip
  rename_i hzz
  subst hzz
  obtain ⟨⟨l, h'⟩, h2, rfl⟩ := map_some' h1
  rw [hd] at k2
  generalize hv : a.eval x = v at k2
  cases k2 with | lin _ _ _ _ hr hs =>
  obtain ⟨ad, c, rfl, hc⟩ := slc_shape hr
  obtain ⟨h3, h4, h5⟩ := bnds_ok (P := P) (w := w) (g := g) true (.some _ _ _ hlo) .none h2 hc
  have hh : h' = xs.length := by
    simp only [bnds, bndHi, Option.bind_some] at h2
    obtain ⟨_, _, h6⟩ := map_some' h2
    simp only [Prod.mk.injEq] at h6
    exact h6.2.symm
  subst hh
  refine res_ok (v := .slice (if c = l then ad else ad.map (·.add (l * z))) (xs.length - l) (c - l)) (w' := w) ?_ ⟨_, Ext.mv fm, k1, ?_⟩
  · simp only [execOp, hop, Option.map_some, Option.map_none, hv]
    have := slice_run (ad := ad) hu hz h3
    simp only [Sem.run_bind, this]
    rfl
  · refine .lin _ _ _ _ (hr.sub h4 (Nat.le_refl _) (by omega)) ?_
    simp only [Spare] at hs ⊢
    rcases hs with hs | ⟨b, o', hs1, hs2, hs3, hs4, hs5⟩
    · exact .inl (by omega)
    · by_cases hcl : c = l
      · exact .inl (by omega)
      · refine .inr ⟨b, o' + l * z, ?_, hs2, ?_, by omega, fun j hj => hs5 j ?_⟩
        · rw [if_neg hcl, hs1]; simp [add_at]
        · rw [hs3, Nat.add_assoc, ← Nat.add_mul]; congr 2; omega
        · have : l * z + (c - l) * z = c * z := by rw [← Nat.add_mul]; congr 1; omega
          omega
theorem boolD_rel {pl : Nat → Pl} {d : D} {b : Bool} {v : Value} (h : RelD w g pl d v) (hn : boolD d = some b) : v = .bool b := by
  unfold boolD at hn
  split at hn <;> cases hn
  exact boolOf h
theorem pick_ok (h : RelA w g μ τ env ts st a.tmps) {c x y : Operand} {c' x' y' : Opd} (hop : o.op = .pick c x y) (h1 : chkO μ τ c c' = true) (h2 : chkO μ τ x x' = true) (h3 : chkO μ τ y y' = true)
    (he : evOp R env ts st (.pick c' x' y') = some q) : OpRes P o a w (Post w g μ τ a.tmps q) := by
  simp only [evOp] at he
  obtain ⟨b, h4, h5⟩ := bind_some' he
  have hb := boolD_rel (rd_rel h h1 (fun _ => .nil)) h4
  cases b with
  | true =>
    simp only [if_true] at h5
    cases h5
    exact res_val h (by simp only [execOp, hop, hb]; rfl) (rd_rel h h2 _)
  | false =>
    simp only [Bool.false_eq_true, if_false] at h5
    cases h5
    exact res_val h (by simp only [execOp, hop, hb]; rfl) (rd_rel h h3 _)
theorem cvi_ok (h : RelA w g μ τ env ts st a.tmps) {s t : TypeId} {x : Operand} {x' : Opd} {k : IntKind} (hop : o.op = .convert s t x) (hu : uInt P t = some k) (hs : (P.underlying s).isSome = true) (h1 : chkO μ τ x x' = true)
    (he : evOp R env ts st (.cvi k x') = some q) : OpRes P o a w (Post w g μ τ a.tmps q) := by
  simp only [evOp] at he
  obtain ⟨n, h4, rfl⟩ := map_some' he
  obtain ⟨k', _, hv⟩ := asN_rel (rd_rel h h1 (fun _ => .nil)) h4
  obtain ⟨d, hd⟩ := Option.isSome_iff_exists.1 hs
  refine res_val h (v := .int k (k.wrap n)) ?_ (.v _ _ _ (.int _ _))
  simp only [execOp, hop, hv]
  refine run_v ?_
  cases d <;> simp [convert, run_underlying hd, run_underlying (of_uInt P hu), Conv.intToInt]
theorem mki_ok (h : RelA w g μ τ env ts st a.tmps) {t : TypeId} {x : Operand} {x' : Opd} {d : TypeDesc} (hop : o.op = .makeInterface t x) (hu : P.underlying t = some d) (hi : ∀ m, d ≠ .interface m) (h1 : chkO μ τ x x' = true)
    (he : evOp R env ts st (.mki t x') = some q) : OpRes P o a w (Post w g μ τ a.tmps q) := by
  simp only [evOp] at he
  cases he
  refine res_val h (v := .iface t (a.eval x)) ?_ ?_
  · simp only [execOp, hop]
    refine run_v ?_
    simp only [Instr.makeInterface, Sem.run_bind, run_underlying hu, Result.andThen_ok]
    cases d <;> first | rfl | exact absurd rfl (hi _)
  · have := rd_rel h h1 (fun _ => .nil)
    unfold ifcD
    split
    · rename_i x hd
      rw [hd] at this
      exact .v _ _ _ (.iface _ _ _ this.toV)
    · exact .ifc _ _ _ _ this
theorem argsRel (h : RelA w g μ τ env ts st a.tmps) {xs : List Operand} {ys : List Opd} (hc : chkL μ τ xs ys = true) : ∃ hl : (ys.map (rd env ts)).length = (xs.map a.eval).length, ∀ i (hi : i < (ys.map (rd env ts)).length) pl, RelD w g pl (ys.map (rd env ts))[i] ((xs.map a.eval)[i]'(hl ▸ hi)) := by
  obtain ⟨h1, h2⟩ := chkL_at hc
  refine ⟨by simp [h1], fun i hi pl => ?_⟩
  simp only [List.getElem_map]
  exact rd_rel h (h2 i (by simp at hi; omega) (by simp at hi; omega)) pl
theorem mkf_ok (h : RelA w g μ τ env ts st a.tmps) {f : FuncId} {xs ys : Array Operand} {xs' ys' : List Opd} (hop : o.op = .makeFunc (.func f) xs ys) (h1 : chkL μ τ xs.toList xs' = true) (h2 : chkL μ τ ys.toList ys' = true)
    (he : evOp R env ts st (.mkf f xs' ys') = some q) : OpRes P o a w (Post w g μ τ a.tmps q) := by
  simp only [evOp] at he
  cases he
  refine res_val h (v := .func (.func f) (xs.map a.eval) (ys.map a.eval)) ?_ ?_
  · simp only [execOp, hop]; rfl
  · obtain ⟨l1, r1⟩ := argsRel h h1
    obtain ⟨l2, r2⟩ := argsRel h h2
    have e1 : (xs.map a.eval).toList = xs.toList.map a.eval := by simp
    have e2 : (ys.map a.eval).toList = ys.toList.map a.eval := by simp
    generalize hX : xs'.map (rd env ts) = X at *
    generalize hY : ys'.map (rd env ts) = Y at *
    have s1 : X.length = (xs.map a.eval).size := by rw [l1]; simp
    have s2 : Y.length = (ys.map a.eval).size := by rw [l2]; simp
    have gen : RelD w g (.tmp τ.length) (.clo f X Y) (.func (.func f) (xs.map a.eval) (ys.map a.eval)) := by
      refine .clo _ f X Y _ _ s1 s2 (fun i hi => ?_) (fun i hi => ?_)
      · have := r1 i hi (fun _ => .nil)
        simpa using this
      · have := r2 i hi (fun _ => .nil)
        simpa using this
    cases X with
    | cons d X => cases Y <;> exact gen
    | nil => cases Y with
      | cons d Y => exact gen
      | nil =>
        have z1 : xs.map a.eval = #[] := Array.eq_empty_of_size_eq_zero (by rw [← s1]; rfl)
        have z2 : ys.map a.eval = #[] := Array.eq_empty_of_size_eq_zero (by rw [← s2]; rfl)
        rw [z1, z2]
        exact .v _ _ _ (.fn f)
theorem ext_ok (h : RelA w g μ τ env ts st a.tmps) (hts : ts.length = τ.length) {x : Operand} {y : Opd} {k : Nat} (hop : o.op = .extract x k) (hc : chkO μ τ x y = true)
    (he : evOp R env ts st (.ext k y) = some q) : OpRes P o a w (Post w g μ τ a.tmps q) := by
  simp only [evOp] at he
  have run : ∀ (ds : List D) (pl : Nat → Pl) (hr : RelD w g pl (.tup ds) (a.eval x)) (hk : k < ds.length), ∃ v, (execOp a.eval o).run P w = .ok (.value v) w ∧ RelD w g (fun _ => pl k) ds[k] v := fun ds pl hr hk => by
    generalize hv : a.eval x = v at hr
    cases hr with | tup _ _ cs hl hcs =>
    refine ⟨cs[k]'(hl ▸ hk), ?_, hcs k hk⟩
    simp only [execOp, hop, hv]
    refine run_v ?_
    have : cs[k]? = some (cs[k]'(hl ▸ hk)) := Array.getElem?_eq_getElem _
    simp only [Instr.extract, this, Sem.run_pure]
  have plain : ∀ (ds : List D) (pl : Nat → Pl) (hr : RelD w g pl (.tup ds) (a.eval x)) (hk : k < ds.length), OpRes P o a w (Post w g μ τ a.tmps (cp ds[k], env, ts, st)) := fun ds pl hr hk => by
    obtain ⟨v, h1, h2⟩ := run ds pl hr hk
    exact res_val h h1 h2.cp
  cases y with
  | x i =>
    unfold chkO at hc
    split at hc <;> first | (cases hc; done) | (rename_i hq; cases hq; done) | skip
    rename_i t i' hq
    cases hq
    simp at hc
    have hr := h.e i t hc
    simp only [raw, extD] at he
    generalize hd : getT env i = d at hr he
    cases d <;> simp only [extD] at he <;> first | (cases he; done) | skip
    obtain ⟨e, h1, h2⟩ := map_some' he
    cases h2
    obtain ⟨hk, rfl⟩ := List.getElem?_eq_some_iff.1 h1
    exact plain _ _ hr hk
  | c d =>
    exfalso
    simp only [raw, extD] at he
    cases d <;> simp only [extD] at he <;> first | (cases he; done) | skip
    unfold chkO at hc
    split at hc <;> first | (cases hc; done) | (rename_i hq; cases hq; done) | skip
    rename_i hq
    cases hq
    simp [chkC] at hc
  | t j =>
    unfold chkO at hc
    split at hc <;> first | (cases hc; done) | (rename_i hq; cases hq; done) | skip
    rename_i t j' hq
    cases hq
    simp at hc
    have hr := h.t j t hc
    simp only [raw, extD] at he
    generalize hd : getT ts j = d at hr he
    cases d <;> simp only [extD] at he <;> first | (cases he; done) | skip
    rename_i ds
    obtain ⟨e, h1, h2⟩ := map_some' he
    obtain ⟨hk, rfl⟩ := List.getElem?_eq_some_iff.1 h1
    unfold extL at h2
    split at h2
    · rename_i z xs hz
      cases h2
      obtain ⟨v, h3, h4⟩ := run ds _ hr hk
      refine res_ok h3 ?_
      have hlt : j < ts.length := getT_lt (by rw [hd]; simp)
      let m := τ.length - 1 - j
      let f : Pl → Pl := fun p => match p with | .tmp b i => if b = m ∧ i = k then .tmp τ.length 0 else .tmp b i | p => p
      refine ⟨g.mv f, Ext.mv f, ⟨h.s.mv rfl (fun p hp => by cases p <;> simp only [f] at hp <;> first | rfl | (cases hp; done) | (split at hp <;> cases hp)) (fun r i j => rfl), fun i t' hi => (h.e i t' hi).mv (fun _ => rfl) rfl, fun j' t' hj => ?_⟩, ?_⟩
      · rw [getT_set]
        have hl' := idxOf_lt hj
        by_cases hij : j = j'
        · subst hij
          rw [if_pos ⟨rfl, hlt⟩]
          have : t' = t := by
            have h1 := idxOf_lt hc
            simp only [List.idxOf?, List.findIdx?_eq_some_iff_getElem] at hc hj
            obtain ⟨_, h2, _⟩ := hc
            obtain ⟨_, h3, _⟩ := hj
            simp at h2 h3
            have := h2.symm.trans h3
            simpa using this.symm
          subst this
          generalize hv : a.tmps.getD t' undef = v' at hr
          cases hr with | tup _ _ cs hl hcs =>
          refine .tup _ _ cs (by simpa using hl) (fun i hi => ?_)
          rw [List.getElem_set]
          have hi' : i < ds.length := by simpa using hi
          split
          · rename_i e
            subst e
            have := hcs k hk
            rw [hz] at this
            cases this with | lin _ _ _ _ hv hs => exact .v _ _ _ hv
          · rename_i e
            exact (hcs i hi').mv (fun _ => by simp [f, Ne.symm e]) rfl
        · rw [if_neg (fun hh => hij hh.1)]
          have hne : τ.length - 1 - j' ≠ m := by
            have h1 := idxOf_lt hc
            show τ.length - 1 - j' ≠ τ.length - 1 - j
            omega
          exact (h.t j' t' hj).mv (fun k => by simp [f, hne]) rfl
      · rw [hz] at h4
        exact (h4.mv (f := f) (pl' := fun _ => .tmp τ.length 0) (fun _ => by simp [f, m]) rfl).place rfl rfl
    · cases h2
      exact plain ds _ hr hk
end
end Go.Q
