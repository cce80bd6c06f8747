/- Every operation: what the abstract machine tells of it holds. No condition. -/
import Derived.Test.YtmbdamompcdolaaDoorEvN
import Derived.Test.YtmbdamompcdolaaDoorEvm
import Derived.Test.YtmbdamompcdolaaDoorEvc
set_option linter.unusedVariables false
set_option linter.unusedSimpArgs false
set_option linter.unusedSectionVars false
namespace Go.Q
variable [Known]
section
variable {P : Program} {w : World} {g : Gh} {μ : List Nat} {τ : List (Option Nat)} {env ts : List D} {st : St} {a : Act} {o : Oper} {q : Rg} {R : Run}

theorem bcall_run {c : Call} {b : Builtin} (hop : o.op = .call c) (hb : builtinOf c = some b) : (execOp a.eval o).run P w = (builtin b c.argTypes o.type (c.args.map fun | .const _ => true | _ => false) (c.args.map a.eval)).run P w := by
  simp only [execOp, hop, resolve, builtinOf_eq hb]
  rfl
theorem call_fn_run {c : Call} {f : FuncId} {first cap : Array Value} {x : Operand} (hop : o.op = .call c) (hc : c.callee = .value x) (hx : a.eval x = .func (.func f) first cap) (hf : FnOk P f) :
    (execOp a.eval o).run P w = .ok (.enter f (first ++ c.args.map a.eval ++ cap)) w := by
  simp only [execOp, hop, resolve, hc, hx, Deferred.ofValue, Sem.run_bind, Sem.run_pure, Result.andThen_ok, invoke]
  exact call_run hf
theorem res_enter {f : FuncId} {args : Array Value} {Po : Value → World → Prop} (hr : (execOp a.eval o).run P w = .ok (.enter f args) w) (hC : Calls P f args w fun e w' => ∃ v, e = .returned v ∧ Po v w') : OpRes P o a w Po := by
  unfold OpRes; rw [hr]; exact hC

theorem call_ok (hR : ROk P R) (h : RelA w g μ τ env ts st a.tmps) {c : Call} {f : FuncId} {ys : List Opd} {gen : Bool} (hop : o.op = .call c) (hc : c.callee = .value (.func f)) (hl : chkL μ τ c.args.toList ys = true)
    (he : evOp R env ts st (.call gen f ys) = some q) : OpRes P o a w (Post w g μ τ a.tmps q) := by
  simp only [evOp] at he
  obtain ⟨p, h1, rfl⟩ := map_some' he
  obtain ⟨l1, r1⟩ := argsRel h hl
  have hsz : (ys.map (rd env ts)).length = (#[] ++ c.args.map a.eval ++ #[]).size := by rw [l1]; simp
  have hv : ∀ i (hi : i < (ys.map (rd env ts)).length), RelD w g (fun _ => .nil) (ys.map (rd env ts))[i] ((#[] ++ c.args.map a.eval ++ #[])[i]'(hsz ▸ hi)) := fun i hi => by
    have := r1 i hi (fun _ => .nil)
    simpa using this
  have fin : FnOk P f ∧ Calls P f (#[] ++ c.args.map a.eval ++ #[]) w fun e w' => ∃ v, e = .returned v ∧ Post w g μ τ a.tmps (p.1, env, ts, p.2) v w' := by
    unfold opCall at h1
    split at h1
    · exact gen_core hR h (st' := p.2) (r := p.1) h1 hsz hv
    · obtain ⟨xs, h2, h3⟩ := bind_some' h1
      obtain ⟨p', h4, h5⟩ := bind_some' h3
      obtain ⟨r, st1⟩ := p'
      unfold backD at h5
      split at h5 <;> first | (cases h5; done) | skip
      rename_i r' hh
      cases hh
      split at h5
      · split at h5 <;> cases h5
        rename_i hf
        exact pure_core hR h h2 h4 (fun _ => hf) hsz hv (st1 := [])
      · cases h5
        rename_i hrow
        exact pure_core hR h h2 h4 (fun hh => absurd hh hrow) hsz hv (st1 := [])
  exact res_enter (call_fn_run hop hc rfl fin.1) fin.2

theorem cat3 {fs X cs : List D} {vf A vc : Array Value} (e1 : fs.length = vf.size) (l2 : X.length = A.size) (e2 : cs.length = vc.size)
    (hf : ∀ i (h : i < fs.length), RelD w g (fun _ => .nil) fs[i] (vf[i]'(e1 ▸ h))) (hx : ∀ i (h : i < X.length), RelD w g (fun _ => .nil) X[i] (A[i]'(l2 ▸ h))) (hc : ∀ i (h : i < cs.length), RelD w g (fun _ => .nil) cs[i] (vc[i]'(e2 ▸ h))) :
    ∃ hl : (fs ++ X ++ cs).length = (vf ++ A ++ vc).size, ∀ i (h : i < (fs ++ X ++ cs).length), RelD w g (fun _ => .nil) (fs ++ X ++ cs)[i] ((vf ++ A ++ vc)[i]'(hl ▸ h)) := by
  refine ⟨by simp only [List.length_append, Array.size_append]; omega, fun i hi => ?_⟩
  have hi' : i < fs.length + X.length + cs.length := by simp only [List.length_append] at hi; exact hi
  by_cases i1 : i < fs.length
  · have := hf i i1
    rw [List.getElem_append_left (by simp only [List.length_append]; omega), List.getElem_append_left i1]
    rw [Array.getElem_append_left (by simp only [Array.size_append]; omega), Array.getElem_append_left (by omega)]
    exact this
  · by_cases i2 : i < fs.length + X.length
    · have := hx (i - fs.length) (by omega)
      rw [List.getElem_append_left (by simp only [List.length_append]; omega), List.getElem_append_right (by omega)]
      rw [Array.getElem_append_left (by simp only [Array.size_append]; omega), Array.getElem_append_right (by omega)]
      simp only [← e1]
      exact this
    · have := hc (i - (fs.length + X.length)) (by omega)
      rw [List.getElem_append_right (by simp only [List.length_append]; omega), Array.getElem_append_right (by simp only [Array.size_append]; omega)]
      simp only [List.length_append, Array.size_append, ← e1, ← l2]
      exact this

theorem callB_ok (hR : ROk P R) (h : RelA w g μ τ env ts st a.tmps) {c : Call} {f : FuncId} {y : Opd} {ys : List (Opd × Nat × Option Nat)} (hop : o.op = .call c) (hc : c.callee = .value (.func f)) (hl : chkL μ τ c.args.toList [y] = true)
    (he : evOp R env ts st (.callB f y ys) = some q) : OpRes P o a w (Post w g μ τ a.tmps q) := by
  simp only [evOp] at he
  obtain ⟨p, h1, h2⟩ := bind_some' he
  split at h2 <;> first | (cases h2; done) | skip
  obtain rfl := Option.some.inj h2
  unfold callBD at h1
  split at h1 <;> first | (cases h1; done) | skip
  rename_i r i off hd
  split at h1 <;> first | (cases h1; done) | skip
  rename_i hz
  obtain ⟨rfl, rfl⟩ := hz
  obtain ⟨xs, h3, h4⟩ := bind_some' h1
  have hb := rowOf_some h3
  unfold callBr at h4
  split at h4 <;> first | (cases h4; done) | skip
  rename_i x
  split at h4 <;> first | (cases h4; done) | skip
  rename_i hx
  obtain ⟨pp, h5, h6⟩ := bind_some' h4
  unfold callBe at h6
  split at h6 <;> first | (cases h6; done) | skip
  rename_i v x'
  split at h6 <;> first | (cases h6; done) | skip
  rename_i hcond
  obtain rfl := Option.some.inj h6
  obtain ⟨c1, c2, c3⟩ := hcond
  obtain ⟨l1, r1⟩ := argsRel h hl
  have hr := r1 0 (by simp) (fun _ => .nil)
  have hsz : c.args.size = 1 := by simpa using l1.symm
  have ha : c.args.map a.eval = #[.pointer (some ⟨g.be r, 0, none⟩)] := by
    apply Array.ext
    · simpa using hsz
    · intro i hi hj
      have hi0 : i = 0 := by simp at hj; omega
      subst hi0
      simp only [List.map_cons, List.map_nil, List.getElem_cons_zero, hd] at hr
      have e2 : (c.args.map a.eval)[0] = ((c.args.toList.map a.eval)[0]'(by simp [hsz])) := by simp
      rw [e2]
      generalize ((c.args.toList.map a.eval)[0]'(by simp [hsz])) = u at hr
      cases hr
      simp
  have fin := callB_core hR h hb hx c2 h5 c1 c3
  refine res_enter (call_fn_run hop hc rfl fin.1) ?_
  rw [ha]
  simpa using fin.2

theorem callv_ok (hR : ROk P R) (h : RelA w g μ τ env ts st a.tmps) {c : Call} {x : Operand} {y : Opd} {ys : List Opd} (hop : o.op = .call c) (hc : c.callee = .value x) (hx : chkO μ τ x y = true) (hl : chkL μ τ c.args.toList ys = true)
    (he : evOp R env ts st (.callv y ys) = some q) : OpRes P o a w (Post w g μ τ a.tmps q) := by
  simp only [evOp] at he
  obtain ⟨p, h1, rfl⟩ := map_some' he
  obtain ⟨l1, r1⟩ := argsRel h hl
  have hxr := rd_rel h hx (fun _ => .nil)
  generalize hX : ys.map (rd env ts) = X at h1 l1 r1
  have l2 : X.length = (c.args.map a.eval).size := by rw [l1]; simp
  have r2 : ∀ i (hi : i < X.length), RelD w g (fun _ => .nil) X[i] ((c.args.map a.eval)[i]'(l2 ▸ hi)) := fun i hi => by
    have := r1 i hi (fun _ => .nil)
    simpa using this
  unfold callV at h1
  split at h1 <;> first | (cases h1; done) | skip
  · rename_i f hd
    rw [hd] at hxr
    have hxr := hxr.toV
    generalize hv : a.eval x = v at hxr
    cases hxr
    have fin := gen_core hR h (st' := p.2) (r := p.1) h1 (vals := #[] ++ c.args.map a.eval ++ #[]) (by rw [l2]; simp) (fun i hi => by have := r2 i hi; simpa using this)
    exact res_enter (call_fn_run hop hc hv fin.1) fin.2
  · rename_i f fs cs hd
    rw [hd] at hxr
    generalize hv : a.eval x = v at hxr
    cases hxr with | clo _ _ _ _ vf vc e1 e2 hf hcs =>
    obtain ⟨hh, hcat⟩ := cat3 e1 l2 e2 hf r2 hcs
    have fin := gen_core hR h (st' := p.2) (r := p.1) h1 (vals := vf ++ c.args.map a.eval ++ vc) hh hcat
    exact res_enter (call_fn_run hop hc hv fin.1) fin.2
end
end Go.Q

namespace Go.Q
variable [Known]
section
variable {P : Program} {w : World} {g : Gh} {μ : List Nat} {τ : List (Option Nat)} {env ts : List D} {st : St} {a : Act} {o : Oper} {q : Rg} {R : Run}

theorem res_free {d : D} {s : Sem Value} {r : Value} (h : RelA w g μ τ env ts st a.tmps) (hx : execOp a.eval o = (do pure (.value (← s)) : Sem Next)) (hr : s.run P w = .ok r w) (hd : ∀ pl, RelD w g pl d r) : OpRes P o a w (Post w g μ τ a.tmps (d, env, ts, st)) :=
  res_val h (by rw [hx]; exact run_v hr) (hd _)
theorem and4 {a b c d : Bool} (h : (a && b && c && d) = true) : a = true ∧ b = true ∧ c = true ∧ d = true := by
  simp only [Bool.and_eq_true] at h; exact ⟨h.1.1.1, h.1.1.2, h.1.2, h.2⟩
theorem and3 {a b c : Bool} (h : (a && b && c) = true) : a = true ∧ b = true ∧ c = true := by
  simp only [Bool.and_eq_true] at h; exact ⟨h.1.1, h.1.2, h.2⟩
theorem and2 {a b : Bool} (h : (a && b) = true) : a = true ∧ b = true := by simpa using h
theorem evOp_sound (hR : ROk P R) (h : RelA w g μ τ env ts st a.tmps) (hts : ts.length = τ.length) {s : SOp} (hc : chkOp μ τ P o.op s = true)
    (he : evOp R env ts st s = some q) : OpRes P o a w (Post w g μ τ a.tmps q) := by
  have hlv : ∀ r, g.live r → r.lvl < st.length := fun r hr => by
    obtain ⟨b, hb⟩ := (h.s.live r).1 hr
    exact getB_lvl hb
  have args2 : ∀ {c : Call} {x y : Operand}, c.args.toList = [x, y] → c.args = #[x, y] := fun e => by rw [← e]
  have args1 : ∀ {c : Call} {x : Operand}, c.args.toList = [x] → c.args = #[x] := fun e => by rw [← e]
  have types1 : ∀ {c : Call} {t : TypeId}, c.argTypes.toList = [t] → c.argTypes = #[t] := fun e => by rw [← e]
  cases s with
  | mov y =>
    simp only [chkOp] at hc
    split at hc <;> first | (cases hc; done) | skip
    · exact mov_ok h (.inl (by assumption)) hc he
    · exact mov_ok h (.inr (by assumption)) hc he
  | take y =>
    simp only [chkOp] at hc
    split at hc <;> first | (cases hc; done) | skip
    · exact take_ok h hts (.inl (by assumption)) hc he
    · exact take_ok h hts (.inr (by assumption)) hc he
  | pick c a b =>
    simp only [chkOp] at hc
    split at hc <;> first | (cases hc; done) | skip
    obtain ⟨h1, h2, h3⟩ := and3 hc
    exact pick_ok h (by assumption) h1 h2 h3 he
  | alloc esc z =>
    simp only [chkOp] at hc
    split at hc <;> first | (cases hc; done) | skip
    obtain ⟨zv, h1, h2⟩ := of_orF hc
    exact alloc_ok h (by assumption) h1 h2 he
  | box esc y =>
    simp only [chkOp] at hc
    split at hc <;> first | (cases hc; done) | skip
    exact box_ok h hts (by assumption) hc he hlv
  | build zs ps =>
    simp only [chkOp] at hc
    split at hc <;> first | (cases hc; done) | skip
    rename_i t parts hop
    obtain ⟨h1, h2⟩ := and2 hc
    obtain ⟨zv, h3, h4⟩ := of_orF h1
    simp only [evOp] at he
    obtain ⟨cs, h5, rfl⟩ := map_some' he
    have hp : (∃ fs, uStruct P t = some fs ∧ fieldsOk P fs = true ∧ chkPs μ τ (plStruct P fs) parts.toList ps = true) ∨
      (∃ q s, uArr P t = some q ∧ szT P q.2 = some s ∧ chkPs μ τ (fun i => some (i * s, s)) parts.toList ps = true) := by
      split at h2 <;> first | (cases h2; done) | skip
      · rename_i fs hf
        exact .inl ⟨fs, hf, (and2 h2).1, (and2 h2).2⟩
      · rename_i q _ hq
        obtain ⟨s, h6, h7⟩ := of_orF h2
        exact .inr ⟨q, s, hq, h6, h7⟩
    obtain ⟨r, h6, h7⟩ := build_ok h h3 h4 h5 hp
    exact res_free h (by simp only [execOp, hop]) h6 h7
  | lit sz ys =>
    simp only [chkOp] at hc
    split at hc <;> first | (cases hc; done) | skip
    obtain ⟨e, h1, h2⟩ := of_orF hc
    simp only [Bool.and_eq_true, beq_iff_eq, decide_eq_true_eq] at h2
    obtain ⟨⟨⟨⟨h3, h4⟩, h5⟩, h6⟩, h7⟩ := h2
    exact lit_ok h (by assumption) h1 h3 h4 h5 h6 h7 he
  | load s y =>
    simp only [chkOp] at hc
    split at hc <;> first | (cases hc; done) | skip
    rename_i t x hop
    obtain ⟨h1, h2⟩ := and2 hc
    simp only [evOp] at he
    obtain ⟨d, h3, rfl⟩ := map_some' he
    obtain ⟨r, h4, h5⟩ := load_ok h.s (rd_rel h h1 (fun _ => .nil)) h3 h2
    exact res_free h (by simp only [execOp, hop]) h4 h5
  | loadR y0 s y =>
    simp only [chkOp] at hc
    simp only [evOp] at he
    split at he <;> first | (cases he; done) | skip
    rename_i hsame
    split at hc <;> first | (cases hc; done) | skip
    rename_i t x hop
    obtain ⟨h1, h2⟩ := and2 hc
    obtain ⟨d, h3, rfl⟩ := map_some' he
    obtain ⟨r, h4, h5⟩ := load_ok h.s (rd_rel h h1 (fun _ => .nil)) h3 h2
    exact res_free h (by simp only [execOp, hop]) h4 h5
  | loadT y ys =>
    simp only [chkOp] at hc
    split at hc <;> first | (cases hc; done) | skip
    obtain ⟨h1, h2⟩ := and2 hc
    exact loadT_ok h (by assumption) h1 h2 he
  | callB f y ys =>
    simp only [chkOp] at hc
    split at hc <;> first | (cases hc; done) | skip
    split at hc <;> first | (cases hc; done) | skip
    rename_i hop _ gf hcal
    obtain ⟨h1, h2⟩ := and2 hc
    have h1 : f = gf := by simpa using h1
    subst h1
    exact callB_ok hR h hop hcal h2 he
  | loadF y off s y' =>
    simp only [evOp] at he
    simp only [chkOp] at hc
    split at he <;> first | (cases he; done) | skip
    split at hc <;> first | (cases hc; done) | skip
    rename_i t x hop
    obtain ⟨h1, h2⟩ := and2 hc
    obtain ⟨d, h3, rfl⟩ := map_some' he
    obtain ⟨r, h4, h5⟩ := load_ok h.s (rd_rel h h1 (fun _ => .nil)) h3 h2
    exact res_free h (by simp only [execOp, hop]) h4 h5
  | store sz y z =>
    simp only [chkOp] at hc
    split at hc <;> first | (cases hc; done) | skip
    obtain ⟨h1, h2, h3⟩ := and3 hc
    exact store_ok h hts (by assumption) h1 h2 (by simpa using h3) he
  | storeS sz y z ys =>
    simp only [chkOp] at hc
    split at hc <;> first | (cases hc; done) | skip
    obtain ⟨h1, h2, h3⟩ := and3 hc
    exact store_ok h hts (by assumption) h1 h2 (by simpa using h3) (R := R) (q := q) (by
      simp only [evOp] at he ⊢
      split at he <;> first | exact he | cases he)
  | bin op x y =>
    simp only [chkOp] at hc
    split at hc <;> first | (cases hc; done) | skip
    rename_i o' t x' y' z hop
    obtain ⟨h1, h2, h3⟩ := and3 hc
    simp only [decide_eq_true_eq] at h1
    subst h1
    simp only [evOp] at he
    obtain ⟨d, h4, rfl⟩ := map_some' he
    obtain ⟨r, h5, h6⟩ := bin_ok t x' y' (rd_rel h h2 (fun _ => .nil)) (rd_rel h h3 (fun _ => .nil)) h4 (P := P)
    exact res_free h (by simp only [execOp, hop]) h5 h6
  | eq k neg x y =>
    simp only [chkOp] at hc
    split at hc <;> first | (cases hc; done) | skip
    rename_i o' t x' y' z hop
    obtain ⟨h1, h2, h3, h4⟩ := and4 hc
    simp only [decide_eq_true_eq] at h1
    simp only [evOp] at he
    obtain ⟨b, h5, rfl⟩ := map_some' he
    have := eq_ok (P := P) (ox := x') (oy := y') neg (rd_rel h h3 (fun _ => .nil)) (rd_rel h h4 (fun _ => .nil)) h5 h2 h4 (fun d e => by subst e; rfl)
    exact res_free h (by simp only [execOp, hop, h1]) this (fun pl => .v _ _ _ (.bool _))
  | un op x =>
    simp only [chkOp] at hc
    split at hc <;> first | (cases hc; done) | skip
    rename_i o' t x' hop
    obtain ⟨h1, h2⟩ := and2 hc
    simp only [decide_eq_true_eq] at h1
    subst h1
    simp only [evOp] at he
    obtain ⟨d, h4, rfl⟩ := map_some' he
    obtain ⟨r, h5, h6⟩ := un_ok (rd_rel h h2 (fun _ => .nil)) h4 (P := P)
    exact res_free h (by simp only [execOp, hop]) h5 h6
  | cvi k x =>
    simp only [chkOp] at hc
    split at hc <;> first | (cases hc; done) | skip
    obtain ⟨h1, h2, h3⟩ := and3 hc
    exact cvi_ok h (by assumption) (by simpa using h1) h2 h3 he
  | s2b x =>
    simp only [chkOp] at hc
    split at hc <;> first | (cases hc; done) | skip
    obtain ⟨h1, h2, h3⟩ := and3 hc
    obtain ⟨e, h4, h5⟩ := of_orF h2
    exact s2b_ok h (by assumption) h3 h1 h4 (by simpa using h5) he
  | b2s x =>
    simp only [chkOp] at hc
    split at hc <;> first | (cases hc; done) | skip
    obtain ⟨h1, h2, h3⟩ := and3 hc
    obtain ⟨e, h4, h5⟩ := of_orF h2
    exact b2s_ok h (by assumption) h3 h1 h4 (by simpa using h5) he
  | sub sz x lo hi mx =>
    simp only [chkOp] at hc
    split at hc <;> first | (cases hc; done) | skip
    rename_i hop
    simp only [Bool.and_eq_true] at hc
    obtain ⟨⟨⟨⟨h1, h2⟩, h3⟩, h4⟩, h5⟩ := hc
    obtain ⟨e, h6, h7⟩ := of_orF h5
    simp only [evOp] at he
    obtain ⟨d, h8, rfl⟩ := map_some' he
    obtain ⟨r, h9, h10⟩ := sub_ok (rd_rel h h1 (fun _ => .nil)) (opt_rel h h2) (opt_rel h h3) (opt_rel h h4) h8 h6 (by simpa using h7)
    exact res_free h (by simp only [execOp, hop]) h9 h10
  | subA n x lo hi mx =>
    simp only [chkOp] at hc
    split at hc <;> first | (cases hc; done) | skip
    rename_i hop
    simp only [Bool.and_eq_true] at hc
    obtain ⟨⟨⟨⟨h1, h2⟩, h3⟩, h4⟩, h5⟩ := hc
    obtain ⟨e, h6, h7⟩ := of_orF h5
    simp only [Bool.and_eq_true, beq_iff_eq] at h7
    simp only [evOp] at he
    obtain ⟨d, h8, rfl⟩ := map_some' he
    obtain ⟨r, h9, h10⟩ := subA_ok (rd_rel h h1 (fun _ => .nil)) (opt_rel h h2) (opt_rel h h3) (opt_rel h h4) h8 (e := e.2) (by rw [h6, ← h7.1]) h7.2
    exact res_free h (by simp only [execOp, hop]) h9 h10
  | nck x =>
    simp only [chkOp] at hc
    split at hc <;> first | (cases hc; done) | skip
    rename_i hop
    exact nck_ok h hop hc he
  | fa off x =>
    simp only [chkOp] at hc
    split at hc <;> first | (cases hc; done) | skip
    rename_i hop
    obtain ⟨h1, h2⟩ := and2 hc
    obtain ⟨fs, h3, h4⟩ := of_orF h2
    obtain ⟨f, h5, h6⟩ := of_orF h4
    obtain ⟨h7, h8⟩ := and2 h6
    obtain ⟨s, h9, h10⟩ := of_orF h8
    simp only [evOp] at he
    obtain ⟨d, h11, rfl⟩ := map_some' he
    obtain ⟨r, h12, h13⟩ := fa_ok (rd_rel h h1 (fun _ => .nil)) h11 h3 h5 (by simpa using h7) h9 (by simpa using h10)
    exact res_free h (by simp only [execOp, hop]) h12 h13
  | fld off s x =>
    simp only [chkOp] at hc
    split at hc <;> first | (cases hc; done) | skip
    rename_i hop
    obtain ⟨h1, h2⟩ := and2 hc
    obtain ⟨fs, h3, h4⟩ := of_orF h2
    obtain ⟨f, h5, h6⟩ := of_orF h4
    obtain ⟨h7, h8⟩ := and2 h6
    simp only [evOp] at he
    obtain ⟨d, h11, rfl⟩ := map_some' he
    obtain ⟨r, h12, h13⟩ := fld_ok (rd_rel h h1 (fun _ => .nil)) h11 h3 h5 (by simpa using h7) h8
    exact res_free h (by simp only [execOp, hop]) h12 h13
  | ia sz x i =>
    simp only [chkOp] at hc
    split at hc <;> first | (cases hc; done) | skip
    rename_i hop
    obtain ⟨h1, h2, h3⟩ := and3 hc
    obtain ⟨e, h4, h5⟩ := of_orF h3
    simp only [evOp] at he
    obtain ⟨d, h11, rfl⟩ := map_some' he
    obtain ⟨r, h12, h13⟩ := ia_ok (rd_rel h h1 (fun _ => .nil)) (rd_rel h h2 (fun _ => .nil)) h11 h4 (by simpa using h5)
    exact res_free h (by simp only [execOp, hop]) h12 h13
  | iaA len sz x i =>
    simp only [chkOp] at hc
    split at hc <;> first | (cases hc; done) | skip
    rename_i hop
    obtain ⟨h1, h2, h3⟩ := and3 hc
    obtain ⟨e, h4, h5⟩ := of_orF h3
    simp only [Bool.and_eq_true, beq_iff_eq] at h5
    simp only [evOp] at he
    obtain ⟨d, h11, rfl⟩ := map_some' he
    obtain ⟨r, h12, h13⟩ := iaA_ok (rd_rel h h1 (fun _ => .nil)) (rd_rel h h2 (fun _ => .nil)) h11 (e := e.2) (by rw [h4, ← h5.1]) h5.2
    exact res_free h (by simp only [execOp, hop]) h12 h13
  | idx x i =>
    simp only [chkOp] at hc
    split at hc <;> first | (cases hc; done) | skip
    rename_i hop
    obtain ⟨h1, h2, h3⟩ := and3 hc
    simp only [evOp] at he
    obtain ⟨d, h11, rfl⟩ := map_some' he
    obtain ⟨r, h12, h13⟩ := idx_ok (rd_rel h h1 (fun _ => .nil)) (rd_rel h h2 (fun _ => .nil)) h11 h3
    exact res_free h (by simp only [execOp, hop]) h12 h13
  | idxA len sz s x i =>
    simp only [chkOp] at hc
    split at hc <;> first | (cases hc; done) | skip
    rename_i hop
    obtain ⟨h1, h2, h3⟩ := and3 hc
    obtain ⟨e, h4, h5⟩ := of_orF h3
    obtain ⟨h6, h7, h8⟩ := and3 h5
    simp only [beq_iff_eq] at h6 h7
    simp only [evOp] at he
    obtain ⟨d, h11, rfl⟩ := map_some' he
    obtain ⟨r, h12, h13⟩ := idxA_ok (rd_rel h h1 (fun _ => .nil)) (rd_rel h h2 (fun _ => .nil)) h11 (e := e.2) (by rw [h4, ← h6]) h7 h8
    exact res_free h (by simp only [execOp, hop]) h12 h13
  | len x =>
    simp only [chkOp] at hc
    split at hc <;> first | (cases hc; done) | skip
    rename_i c hop
    split at hc <;> first | (cases hc; done) | skip
    rename_i x' t' hb ha ht
    obtain ⟨h1, h2⟩ := and2 hc
    obtain ⟨e, h3⟩ := Option.isSome_iff_exists.1 h2
    simp only [evOp] at he
    obtain ⟨n, h4, rfl⟩ := map_some' he
    have := len_ok (P := P) o.type (rd_rel h h1 (fun _ => .nil)) h4 h3
    refine res_val h (v := .int .i64 n) ?_ (.v _ _ _ (.int _ _))
    rw [bcall_run hop hb, args1 ha, types1 ht]
    exact run_v (by simpa using this)
  | capn x =>
    simp only [chkOp] at hc
    split at hc <;> first | (cases hc; done) | skip
    rename_i c hop
    split at hc <;> first | (cases hc; done) | skip
    rename_i x' t' hb ha ht
    obtain ⟨h1, h2⟩ := and2 hc
    obtain ⟨e, h3⟩ := Option.isSome_iff_exists.1 h2
    simp only [evOp] at he
    obtain ⟨n, h4, rfl⟩ := map_some' he
    have := cap_ok (P := P) o.type (rd_rel h h1 (fun _ => .nil)) h4 h3
    refine res_val h (v := .int .i64 n) ?_ (.v _ _ _ (.int _ _))
    rw [bcall_run hop hb, args1 ha, types1 ht]
    exact run_v (by simpa using this)
  | mkmap esc =>
    simp only [chkOp] at hc
    split at hc <;> first | (cases hc; done) | skip
    exact mkmap_ok h (by assumption) he
  | look kd ok z x k =>
    simp only [chkOp] at hc
    split at hc <;> first | (cases hc; done) | skip
    rename_i t x1 k1 ok1 hop
    simp only [Bool.and_eq_true] at hc
    obtain ⟨⟨⟨h1, h2⟩, h3⟩, h4⟩ := hc
    obtain ⟨q0, h5, h6⟩ := of_orF h4
    obtain ⟨h7, h8⟩ := and2 h6
    obtain ⟨zv, h9, h10⟩ := of_orF h8
    have := eq_of_beq h1
    subst this
    exact look_ok h hop (of_uMap P h5) (eq_of_beq h7) h9 h10 h2 h3 he
  | mupd kd x k v =>
    simp only [chkOp] at hc
    split at hc <;> first | (cases hc; done) | skip
    rename_i t x1 k1 v1 hop
    simp only [Bool.and_eq_true] at hc
    obtain ⟨⟨⟨h1, h2⟩, h3⟩, h4⟩ := hc
    obtain ⟨q0, h5, h6⟩ := of_orF h4
    exact mupd_ok h hop (of_uMap P h5) (eq_of_beq h6) h1 h2 h3 he
  | lenm x =>
    simp only [chkOp] at hc
    split at hc <;> first | (cases hc; done) | skip
    rename_i c hop
    split at hc <;> first | (cases hc; done) | skip
    rename_i x' t' hb ha ht
    obtain ⟨h1, h2⟩ := and2 hc
    obtain ⟨e, h3⟩ := Option.isSome_iff_exists.1 h2
    simp only [evOp] at he
    obtain ⟨es, h4, rfl⟩ := map_some' he
    refine res_val h (v := .int .i64 es.length) ?_ (.v _ _ _ (.int _ _))
    rw [bcall_run hop hb, args1 ha, types1 ht]
    have := lenm_run (ty := o.type) (of_uMap P h3) h.s (rd_rel h h1 (fun _ => .nil)) h4
    exact run_v (by simpa using this)
  | lens x =>
    simp only [chkOp] at hc
    split at hc <;> first | (cases hc; done) | skip
    rename_i c hop
    split at hc <;> first | (cases hc; done) | skip
    rename_i x' t' hb ha ht
    obtain ⟨h1, h2⟩ := and2 hc
    simp only [evOp] at he
    obtain ⟨n, h4, rfl⟩ := map_some' he
    have := lens_ok (P := P) o.type (rd_rel h h1 (fun _ => .nil)) h4 h2
    refine res_val h (v := .int .i64 n.length) ?_ (.v _ _ _ (.int _ _))
    rw [bcall_run hop hb, args1 ha, types1 ht]
    exact run_v (by simpa using this)
  | subs x lo hi =>
    simp only [chkOp] at hc
    split at hc <;> first | (cases hc; done) | skip
    rename_i hop
    obtain ⟨h1, h2, h3, h4⟩ := and4 hc
    simp only [evOp] at he
    obtain ⟨d, h11, rfl⟩ := map_some' he
    obtain ⟨r, h12, h13⟩ := subs_ok (rd_rel h h1 (fun _ => .nil)) (opt_rel h h2) (opt_rel h h3) h11 h4
    exact res_free h (by simp only [execOp, hop]; rfl) h12 h13
  | cst d =>
    simp only [chkOp] at hc
    split at hc <;> first | (cases hc; done) | skip
    rename_i c hop
    split at hc <;> first | (cases hc; done) | skip
    rename_i x' t' hb ha ht
    split at hc <;> first | (cases hc; done) | skip
    rename_i qq n hu
    simp only [decide_eq_true_eq] at hc
    subst hc
    simp only [evOp] at he
    cases he
    have hu := of_uArr P hu
    refine res_val h (v := .int .i64 qq.1) ?_ (.v _ _ _ (.int _ _))
    rw [bcall_run hop hb, args1 ha, types1 ht]
    refine run_v ?_
    simp [Builtin.len_, run_underlying hu, goInt]
  | subl sz x l =>
    simp only [chkOp] at hc
    split at hc <;> first | (cases hc; done) | skip
    rename_i hop
    simp only [Bool.and_eq_true] at hc
    obtain ⟨⟨h1, h2⟩, h5⟩ := hc
    obtain ⟨e, h6, h7⟩ := of_orF h5
    exact subl_ok h hts hop h1 h2 h6 (by simpa using h7) he
  | app sz bytes x y =>
    simp only [chkOp] at hc
    split at hc <;> first | (cases hc; done) | skip
    rename_i c hop
    split at hc <;> first | (cases hc; done) | skip
    rename_i x' y' t u hb ha ht
    obtain ⟨h1, h2, h3, h4⟩ := and4 hc
    obtain ⟨e, h5, h6⟩ := of_orF h3
    obtain ⟨inf, h7, h8⟩ := of_orF h6
    simp only [Bool.and_eq_true, beq_iff_eq, bne_iff_ne, ne_eq] at h8
    obtain ⟨⟨⟨⟨h9, h10⟩, h11⟩, h12⟩, h13⟩ := h8
    obtain ⟨zv, h14, h15⟩ := of_orF h13
    exact app_ok h hts hop hb ha ht h1 h2 h5 h7 h9 h10 h11 h14 (by simpa using h15) h4 he
  | cpy sz x y => simp [chkOp] at hc
  | make sz bytes z n c =>
    simp only [chkOp] at hc
    split at hc <;> first | (cases hc; done) | skip
    obtain ⟨h1, h2, h3⟩ := and3 hc
    obtain ⟨e, h5, h6⟩ := of_orF h3
    obtain ⟨inf, h7, h8⟩ := of_orF h6
    obtain ⟨h9, h10, h11, h12⟩ := and4 h8
    obtain ⟨zv, h14, h15⟩ := of_orF h12
    exact make_ok h (by assumption) h1 h2 h5 h7 (by simpa using h9) (by simpa using h10) (by simpa using h11) h14 h15 he
  | call gen f ys =>
    simp only [chkOp] at hc
    split at hc <;> first | (cases hc; done) | skip
    rename_i c hop
    split at hc <;> first | (cases hc; done) | skip
    rename_i f' hcal
    simp only [Bool.and_eq_true, beq_iff_eq] at hc
    obtain ⟨h1, h2⟩ := hc
    subst h1
    exact call_ok hR h hop hcal h2 he
  | callv y ys =>
    simp only [chkOp] at hc
    split at hc <;> first | (cases hc; done) | skip
    rename_i c hop
    split at hc <;> first | (cases hc; done) | skip
    obtain ⟨h1, h2⟩ := and2 hc
    exact callv_ok hR h hop (by assumption) h1 h2 he
  | mkf f fs cs =>
    simp only [chkOp] at hc
    split at hc <;> first | (cases hc; done) | skip
    rename_i hop
    simp only [Bool.and_eq_true, beq_iff_eq] at hc
    obtain ⟨⟨h1, h2⟩, h3⟩ := hc
    subst h1
    exact mkf_ok h hop h2 h3 he
  | mki t y =>
    simp only [chkOp] at hc
    split at hc <;> first | (cases hc; done) | skip
    rename_i hop
    simp only [Bool.and_eq_true, beq_iff_eq] at hc
    obtain ⟨⟨h1, h2⟩, h3⟩ := hc
    subst h1
    split at h3 <;> first | (cases h3; done) | skip
    rename_i d hne hd
    exact mki_ok h hop hd (fun m e => hne m e) h2 he
  | ext i y =>
    simp only [chkOp] at hc
    split at hc <;> first | (cases hc; done) | skip
    rename_i hop
    simp only [Bool.and_eq_true, beq_iff_eq] at hc
    obtain ⟨h1, h2⟩ := hc
    subst h1
    exact ext_ok h hts hop h2 he
  | s2a n y =>
    simp only [chkOp] at hc
    split at hc <;> first | (cases hc; done) | skip
    rename_i hop
    obtain ⟨h1, h2⟩ := and2 hc
    obtain ⟨qq, h3, h4⟩ := of_orF h2
    simp only [Bool.and_eq_true, beq_iff_eq, bne_iff_ne, ne_eq] at h4
    obtain ⟨⟨h5, h6⟩, h7⟩ := h4
    simp only [evOp] at he
    obtain ⟨d, h11, rfl⟩ := map_some' he
    obtain ⟨r, h12, h13⟩ := s2a_ok (rd_rel h h1 (fun _ => .nil)) h11 h6 (e := qq.2) (by rw [h3, ← h5]) h7
    exact res_free h (by simp only [execOp, hop]) h12 h13
  | mx x y =>
    simp only [chkOp] at hc
    split at hc <;> first | (cases hc; done) | skip
    rename_i c hop
    split at hc <;> first | (cases hc; done) | skip
    rename_i x' y' hb ha
    obtain ⟨h1, h2⟩ := and2 hc
    simp only [evOp] at he
    obtain ⟨d, h11, rfl⟩ := map_some' he
    obtain ⟨r, h12, h13⟩ := max_ok c.argTypes o.type (rd_rel h h1 (fun _ => .nil)) (rd_rel h h2 (fun _ => .nil)) h11 (P := P)
    refine res_val h (v := r) ?_ (h13 _)
    rw [bcall_run hop hb, args2 ha]
    exact run_v (by simpa using h12)
  | mn x y =>
    simp only [chkOp] at hc
    split at hc <;> first | (cases hc; done) | skip
    rename_i c hop
    split at hc <;> first | (cases hc; done) | skip
    rename_i x' y' hb ha
    obtain ⟨h1, h2⟩ := and2 hc
    simp only [evOp] at he
    obtain ⟨d, h11, rfl⟩ := map_some' he
    obtain ⟨r, h12, h13⟩ := min_ok c.argTypes o.type (rd_rel h h1 (fun _ => .nil)) (rd_rel h h2 (fun _ => .nil)) h11 (P := P)
    refine res_val h (v := r) ?_ (h13 _)
    rw [bcall_run hop hb, args2 ha]
    exact run_v (by simpa using h12)
  | clr sz z x' =>
    simp only [chkOp] at hc
    split at hc <;> first | (cases hc; done) | skip
    split at hc <;> first | (cases hc; done) | skip
    rename_i h1 h2 h3
    obtain ⟨k1, k2⟩ := and2 hc
    obtain ⟨e, k3, k4⟩ := of_orF k2
    simp only [Bool.and_eq_true, beq_iff_eq, bne_iff_ne, ne_eq] at k4
    obtain ⟨⟨k5, k6⟩, k7⟩ := k4
    obtain ⟨zv, k8, k9⟩ := of_orF k7
    obtain ⟨k10, k11⟩ := and2 k9
    exact clr_ok h (by assumption) h1 h2 h3 k1 k3 k5 k6 k8 k10 (by simpa using k11) he
  | die => simp [evOp] at he
end
end Go.Q
