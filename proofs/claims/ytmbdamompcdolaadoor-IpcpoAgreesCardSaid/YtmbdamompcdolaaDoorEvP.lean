/- Comparisons, slice expressions, fields, elements, loads: what the abstract machine tells of them holds. No condition. -/
import Derived.Test.YtmbdamompcdolaaDoorEvO
import Derived.DeepKeys
import Derived.Laws.StructEq
set_option linter.unusedVariables false
set_option linter.unusedSimpArgs false
set_option linter.unusedSectionVars false
namespace Go.Q
variable [Known]
section
variable {P : Program} {w : World} {g : Gh}

theorem qi_bool (d : Nat) {t : TypeId} (hu : P.underlying t = some .bool) (a b : Bool) : (Op.equalIn (d + 1) t (.bool a) (.bool b)).run P w = .ok (a == b) w := by simp [Op.equalIn, run_underlying hu]
theorem qi_s0 (d : Nat) {t e : TypeId} (hu : P.underlying t = some (.slice e)) : (Op.equalIn (d + 1) t (.slice none 0 0) (.slice none 0 0)).run P w = .ok true w := by simp [Op.equalIn, run_underlying hu]
theorem qi_s1 (d : Nat) {t e : TypeId} (hu : P.underlying t = some (.slice e)) (a n c) : (Op.equalIn (d + 1) t (.slice (some a) n c) (.slice none 0 0)).run P w = .ok false w := by simp [Op.equalIn, run_underlying hu]
theorem qi_p0 (d : Nat) {t e : TypeId} (hu : P.underlying t = some (.pointer e)) : (Op.equalIn (d + 1) t (.pointer none) (.pointer none)).run P w = .ok true w := by simp [Op.equalIn, run_underlying hu]
theorem qi_p1 (d : Nat) {t e : TypeId} (hu : P.underlying t = some (.pointer e)) (a) : (Op.equalIn (d + 1) t (.pointer (some a)) (.pointer none)).run P w = .ok false w := by simp [Op.equalIn, run_underlying hu]
theorem qi_f0 (d : Nat) {t : TypeId} {p r v} (hu : P.underlying t = some (.func p r v)) : (Op.equalIn (d + 1) t .nilFunc .nilFunc).run P w = .ok true w := by simp [Op.equalIn, run_underlying hu]
theorem qi_f1 (d : Nat) {t : TypeId} {p r v} (hu : P.underlying t = some (.func p r v)) (f x y) : (Op.equalIn (d + 1) t (.func f x y) .nilFunc).run P w = .ok false w := by simp [Op.equalIn, run_underlying hu]
theorem qi_i0 (d : Nat) {t : TypeId} {m} (hu : P.underlying t = some (.interface m)) : (Op.equalIn (d + 1) t .nilIface .nilIface).run P w = .ok true w := by simp [Op.equalIn, run_underlying hu]
theorem qi_i1 (d : Nat) {t : TypeId} {m} (hu : P.underlying t = some (.interface m)) (x y) : (Op.equalIn (d + 1) t (.iface x y) .nilIface).run P w = .ok false w := by simp [Op.equalIn, run_underlying hu]
theorem qi_m0 (d : Nat) {t k e : TypeId} (hu : P.underlying t = some (.map k e)) : (Op.equalIn (d + 1) t (.map none) (.map none)).run P w = .ok true w := by simp [Op.equalIn, run_underlying hu]
theorem qi_m1 (d : Nat) {t k e : TypeId} (hu : P.underlying t = some (.map k e)) (a) : (Op.equalIn (d + 1) t (.map (some a)) (.map none)).run P w = .ok false w := by simp [Op.equalIn, run_underlying hu]
theorem kd_b {t : TypeId} {y : Opd} (h : chkKd P t .b y = true) : P.underlying t = some .bool := by
  unfold chkKd at h
  cases hu : P.underlying t with
  | none => simp [hu] at h
  | some d => cases d <;> simp [hu] at h ⊢
theorem kd_s {t : TypeId} {y : Opd} (h : chkKd P t .s y = true) : ∃ e, P.underlying t = some (.slice e) := by
  unfold chkKd at h
  cases hu : P.underlying t with
  | none => simp [hu] at h
  | some d => cases d <;> simp [hu] at h ⊢
theorem kd_p {t : TypeId} {y : Opd} (h : chkKd P t .p y = true) : ∃ e, P.underlying t = some (.pointer e) := by
  unfold chkKd at h
  cases hu : P.underlying t with
  | none => simp [hu] at h
  | some d => cases d <;> simp [hu] at h ⊢
theorem kd_m {t : TypeId} {y : Opd} (h : chkKd P t .m y = true) : ∃ k e, P.underlying t = some (.map k e) := by
  unfold chkKd at h
  cases hu : P.underlying t with
  | none => simp [hu] at h
  | some d => cases d <;> simp [hu] at h ⊢
theorem kd_f {t : TypeId} {y : Opd} (h : chkKd P t .f y = true) : ∃ a b c, P.underlying t = some (.func a b c) := by
  unfold chkKd at h
  cases hu : P.underlying t with
  | none => simp [hu] at h
  | some d => cases d <;> simp [hu] at h ⊢
theorem kd_i {t : TypeId} {y : Opd} (h : chkKd P t .i y = true) : (∃ ms, P.underlying t = some (.interface ms)) ∧ ∃ d, y = .c d := by
  unfold chkKd at h
  cases hu : P.underlying t with
  | none => simp [hu] at h
  | some d => cases d <;> simp [hu] at h ⊢; split at h <;> first | (cases h; done) | exact ⟨_, rfl⟩
theorem kd_g {t : TypeId} {y : Opd} {ks : List Nat} (h : chkKd P t (.g ks) y = true) : P.eqGuardType P.depth t = false ∧ ((∃ fs, P.underlying t = some (.struct fs) ∧ P.stoodInHeld t = false ∧ chkEqF P 0 fs.toList ks = true) ∨
    ∃ n e k, P.underlying t = some (.array n e) ∧ szT P e = some 1 ∧ clsT P e = some k ∧ ks = List.replicate n k) := by
  unfold chkKd at h
  cases hu : P.underlying t with
  | none => simp [hu] at h
  | some d =>
    cases d <;> simp only [hu] at h <;> first | (cases h; done) | skip
    · rename_i n e
      simp only [Bool.and_eq_true, Bool.not_eq_true', beq_iff_eq] at h
      obtain ⟨⟨h1, h2⟩, h3⟩ := h
      obtain ⟨k, h4, h5⟩ := of_orF h3
      exact ⟨h1, .inr ⟨n, e, k, rfl, h2, h4, by simpa using h5⟩⟩
    · rename_i fs
      simp only [Bool.and_eq_true, Bool.not_eq_true'] at h
      exact ⟨h.1.2, .inl ⟨fs, rfl, h.1.1, h.2⟩⟩
theorem cls_plain {e : TypeId} {k : Nat} (h : clsT P e = some k) : P.plainKey e = true := by
  unfold clsT at h
  unfold Program.plainKey
  split at h <;> first | (cases h; done) | (rename_i hu; simp [hu])
/-- one cell -/
theorem cls_eq {e : TypeId} {k : Nat} (h : clsT P e = some k) {ks : List Nat} {x y : V} {xs ys : List V} {b : Bool} {u v : Value} (d : Nat) (hv : eqVs (k :: ks) (x :: xs) (y :: ys) = some b)
    (hx : RelV w g.L x u) (hy : RelV w g.L y v) : ∃ c b', (Op.equalIn (d + 1) e u v).run P w = .ok c w ∧ eqVs ks xs ys = some b' ∧ b = (c && b') := by
  unfold clsT at h
  split at h <;> first | (cases h; done) | skip
  all_goals rename_i hu; cases h
  all_goals cases x <;> cases y <;> first | (simp [eqVs] at hv; done) | skip
  all_goals simp only [eqVs] at hv
  · obtain ⟨b', h1, rfl⟩ := map_some' hv
    cases hx; cases hy
    exact ⟨_, b', run_equalIn_bool' w d e _ _ hu, h1, rfl⟩
  · split at hv <;> first | (cases hv; done) | skip
    rename_i hk
    subst hk
    obtain ⟨b', h1, rfl⟩ := map_some' hv
    cases hx; cases hy
    exact ⟨_, b', run_equalIn_int w d e _ _ _ _ hu, h1, rfl⟩
  · obtain ⟨b', h1, rfl⟩ := map_some' hv
    cases hx; cases hy
    refine ⟨_, b', run_equalIn_string w d e _ _ hu, h1, ?_⟩
    simp only [ByteArray.toList_eq]
theorem drop_cons {α : Type} {l : List α} {i : Nat} {x : α} {r : List α} (h : l.drop i = x :: r) : ∃ hi : i < l.length, l[i] = x ∧ l.drop (i + 1) = r := by
  have hi : i < l.length := by
    refine Classical.byContradiction fun hn => ?_
    rw [List.drop_of_length_le (by omega)] at h; cases h
  rw [List.drop_eq_getElem_cons hi] at h
  injection h with h1 h2
  exact ⟨hi, h1, h2⟩
theorem eqFields_ok {xs ys : List V} {cx cy : Array Value} (hlx : xs.length = cx.size) (hly : ys.length = cy.size)
    (hx : ∀ i (h : i < xs.length), RelV w g.L xs[i] (cx[i]'(hlx ▸ h))) (hy : ∀ i (h : i < ys.length), RelV w g.L ys[i] (cy[i]'(hly ▸ h))) (d : Nat) : ∀ (fs : List Field) (i : Nat) (ks : List Nat) (b : Bool),
    chkEqF P i fs ks = true → eqVs ks (xs.drop i) (ys.drop i) = some b → (Op.eqFields (d + 1) cx cy fs).run P w = .ok b w
  | [], i, ks, b, hc, hv => by
    cases ks with
    | cons k ks => simp [chkEqF] at hc
    | nil =>
      cases h1 : xs.drop i <;> cases h2 : ys.drop i <;> rw [h1, h2] at hv <;> simp [eqVs] at hv
      subst hv
      simp [Op.eqFields]
  | f :: fs, i, ks, b, hc, hv => by
    cases ks with
    | nil => simp [chkEqF] at hc
    | cons k ks =>
      simp only [chkEqF, Bool.and_eq_true, beq_iff_eq, bne_iff_ne, ne_eq] at hc
      obtain ⟨⟨⟨h1, h2⟩, h3⟩, h4⟩ := hc
      cases e1 : xs.drop i with
      | nil => rw [e1] at hv; cases k <;> simp [eqVs] at hv
      | cons x xr =>
        cases e2 : ys.drop i with
        | nil => rw [e1, e2] at hv; cases k <;> (try cases x) <;> simp [eqVs] at hv
        | cons y yr =>
          rw [e1, e2] at hv
          obtain ⟨ix, q1, q2⟩ := drop_cons e1
          obtain ⟨iy, q3, q4⟩ := drop_cons e2
          have rx := hx i ix
          have ry := hy i iy
          rw [q1] at rx
          rw [q3] at ry
          obtain ⟨c, b', r1, r2, rfl⟩ := cls_eq h3 d hv rx ry
          have p1 : (part f.type cx f.offset).run P w = .ok (cx[i]'(hlx ▸ ix)) w := by rw [h2]; exact run_part_plain w (cls_plain h3) (Array.getElem?_eq_getElem (hlx ▸ ix))
          have p2 : (part f.type cy f.offset).run P w = .ok (cy[i]'(hly ▸ iy)) w := by rw [h2]; exact run_part_plain w (cls_plain h3) (Array.getElem?_eq_getElem (hly ▸ iy))
          have ih := eqFields_ok hlx hly hx hy d fs (i + 1) ks b' h4 (by rw [q2, q4]; exact r2)
          simp only [Op.eqFields, Sem.run_bind, p1, p2, r1, Result.andThen_ok, h1, ne_eq, not_false_eq_true, if_true]
          cases c
          · simp
          · simpa using ih
theorem eqItems_ok {e : TypeId} {k : Nat} (hk : clsT P e = some k) {xs ys : List V} {cx cy : Array Value} (hlx : xs.length = cx.size) (hly : ys.length = cy.size)
    (hx : ∀ i (h : i < xs.length), RelV w g.L xs[i] (cx[i]'(hlx ▸ h))) (hy : ∀ i (h : i < ys.length), RelV w g.L ys[i] (cy[i]'(hly ▸ h))) (d : Nat) : ∀ (n i : Nat) (b : Bool),
    eqVs (List.replicate n k) (xs.drop i) (ys.drop i) = some b → (Op.eqItems (d + 1) e 1 cx cy (List.range' i n)).run P w = .ok b w
  | 0, i, b, hv => by
    cases h1 : xs.drop i <;> cases h2 : ys.drop i <;> rw [h1, h2] at hv <;> simp [eqVs] at hv
    subst hv
    simp [Op.eqItems]
  | n + 1, i, b, hv => by
    rw [List.replicate_succ] at hv
    cases e1 : xs.drop i with
    | nil => rw [e1] at hv; cases k <;> simp [eqVs] at hv
    | cons x xr =>
      cases e2 : ys.drop i with
      | nil => rw [e1, e2] at hv; cases k <;> (try cases x) <;> simp [eqVs] at hv
      | cons y yr =>
        rw [e1, e2] at hv
        obtain ⟨ix, q1, q2⟩ := drop_cons e1
        obtain ⟨iy, q3, q4⟩ := drop_cons e2
        have rx := hx i ix
        have ry := hy i iy
        rw [q1] at rx
        rw [q3] at ry
        obtain ⟨c, b', r1, r2, rfl⟩ := cls_eq hk d hv rx ry
        have p1 : (part e cx (i * 1)).run P w = .ok (cx[i]'(hlx ▸ ix)) w := by rw [Nat.mul_one]; exact run_part_plain w (cls_plain hk) (Array.getElem?_eq_getElem (hlx ▸ ix))
        have p2 : (part e cy (i * 1)).run P w = .ok (cy[i]'(hly ▸ iy)) w := by rw [Nat.mul_one]; exact run_part_plain w (cls_plain hk) (Array.getElem?_eq_getElem (hly ▸ iy))
        have ih := eqItems_ok hk hlx hly hx hy d n (i + 1) b' (by rw [q2, q4]; exact r2)
        simp only [List.range'_succ, Op.eqItems, Sem.run_bind, p1, p2, r1, Result.andThen_ok]
        cases c
        · simp
        · simpa using ih

theorem eq_ok {k : Kd} {x y : D} {b : Bool} {u v : Value} {pl pl' : Nat → Pl} {t : TypeId} {ox oy : Operand} {y' : Opd} {μ τ} (neg : Bool) (hx : RelD w g pl x u) (hy : RelD w g pl' y v)
    (h : eqD k x y = some b) (hk : chkKd P t k y' = true) (hyc : chkO μ τ oy y' = true) (hyr : ∀ d, y' = .c d → cp d = y) :
    (do eqGuard (if neg then .neq else .eql) t ox oy u v; binOp (if neg then .neq else .eql) t u v : Sem Value).run P w = .ok (.bool (b != neg)) w := by
  have key : (eqGuard (if neg then .neq else .eql) t ox oy u v).run P w = .ok () w → (Op.equal t u v).run P w = .ok b w →
      (∀ n : Bool, binOp (if n then .neq else .eql) t u v = (do pure (.bool ((← Op.equal t u v) != n)) : Sem Value)) →
      (do eqGuard (if neg then .neq else .eql) t ox oy u v; binOp (if neg then .neq else .eql) t u v : Sem Value).run P w = .ok (.bool (b != neg)) w := by
    intro h1 h2 h3
    rw [Sem.run_bind, h1, Result.andThen_ok, h3 neg, Sem.run_bind, h2]
    rfl
  unfold eqD at h
  split at h <;> first | (cases h; done) | skip
  · have hu := kd_b hk
    cases h
    obtain rfl := boolOf hx
    obtain rfl := boolOf hy
    refine key (by cases neg <;> rfl) (qi_bool 9999 hu _ _) (by intro n; cases n <;> simp [binOp])
  · rename_i ks xs ys
    obtain ⟨hg, hkk⟩ := kd_g hk
    replace hx := hx.toV
    replace hy := hy.toV
    cases hx with | agg _ cx lx _ rx =>
    cases hy with | agg _ cy ly _ ry =>
    refine key (run_eqGuard_agg w _ t ox oy cx cy hg) ?_ (by intro n; cases n <;> simp [binOp])
    rcases hkk with ⟨fs, hu, hs, hf⟩ | ⟨n, e, k, hu, hsz, hcl, rfl⟩
    · have hfs : P.fieldsOf t = fs := by simp [Program.fieldsOf, hu]
      show (Op.equalIn (9999 + 1) t (.agg cx) (.agg cy)).run P w = _
      rw [run_equalIn_struct w 9999 t cx cy (by rw [hfs]; exact hu) hs, hfs]
      exact eqFields_ok lx ly rx ry 9998 fs.toList 0 ks b hf (by simpa using h)
    · obtain ⟨i, hi, hi2⟩ := of_szT P hsz
      have hc1 : P.cellsOf e = 1 := by simp [Program.cellsOf, hi, hi2]
      show (Op.equalIn (9999 + 1) t (.agg cx) (.agg cy)).run P w = _
      rw [run_equalIn_array w 9999 cx cy hu hi, hc1, List.range_eq_range']
      exact eqItems_ok hcl lx ly rx ry 9998 n 0 b (by simpa using h)
  · obtain ⟨e, hu⟩ := kd_s hk
    cases h; cases hx; cases hy
    refine key (by cases neg <;> rfl) (qi_s0 9999 hu) (by intro n; cases n <;> simp [binOp])
  · obtain ⟨e, hu⟩ := kd_s hk
    cases h; cases hy
    replace hx := hx.toV; cases hx
    refine key (by cases neg <;> rfl) (qi_s1 9999 hu _ _ _) (by intro n; cases n <;> simp [binOp])
  · obtain ⟨e, hu⟩ := kd_s hk
    cases h; cases hx; cases hy
    refine key (by cases neg <;> rfl) (qi_s1 9999 hu _ _ _) (by intro n; cases n <;> simp [binOp])
  · obtain ⟨e, hu⟩ := kd_s hk
    cases h; cases hx; cases hy
    refine key (by cases neg <;> rfl) (qi_s1 9999 hu _ _ _) (by intro n; cases n <;> simp [binOp])
  · obtain ⟨e, hu⟩ := kd_p hk
    cases h
    replace hx := hx.toV; cases hx
    replace hy := hy.toV; cases hy
    refine key (by cases neg <;> rfl) (qi_p0 9999 hu) (by intro n; cases n <;> simp [binOp])
  · obtain ⟨e, hu⟩ := kd_p hk
    cases h; cases hx
    replace hy := hy.toV; cases hy
    refine key (by cases neg <;> rfl) (qi_p1 9999 hu _) (by intro n; cases n <;> simp [binOp])
  · obtain ⟨e, hu⟩ := kd_p hk
    cases h; cases hx
    replace hy := hy.toV; cases hy
    refine key (by cases neg <;> rfl) (qi_p1 9999 hu _) (by intro n; cases n <;> simp [binOp])
  · obtain ⟨e, hu⟩ := kd_p hk
    cases h
    replace hx := hx.toV; cases hx
    replace hy := hy.toV; cases hy
    refine key (by cases neg <;> rfl) (qi_p1 9999 hu _) (by intro n; cases n <;> simp [binOp])
  · obtain ⟨a1, a2, a3, hu⟩ := kd_f hk
    cases h
    replace hx := hx.toV; cases hx
    replace hy := hy.toV; cases hy
    refine key (by cases neg <;> rfl) (qi_f0 9999 hu) (by intro n; cases n <;> simp [binOp])
  · obtain ⟨a1, a2, a3, hu⟩ := kd_f hk
    cases h
    replace hx := hx.toV; cases hx
    replace hy := hy.toV; cases hy
    refine key (by cases neg <;> rfl) (qi_f1 9999 hu _ _ _) (by intro n; cases n <;> simp [binOp])
  · obtain ⟨a1, a2, a3, hu⟩ := kd_f hk
    cases h; cases hx
    replace hy := hy.toV; cases hy
    refine key (by cases neg <;> rfl) (qi_f1 9999 hu _ _ _) (by intro n; cases n <;> simp [binOp])
  · obtain ⟨⟨ms, hu⟩, d, rfl⟩ := kd_i hk
    cases h
    replace hx := hx.toV; cases hx
    replace hy := hy.toV; cases hy
    have hc : ∃ c, oy = .const c := by
      have := hyr d rfl
      unfold chkO at hyc
      split at hyc <;> first | (rename_i hq; cases hq; done) | (cases hyc; done) | exact ⟨_, rfl⟩ | skip
      rename_i hq; cases hq; cases this
    obtain ⟨c, rfl⟩ := hc
    refine key (by cases neg <;> cases ox <;> rfl) (qi_i0 9999 hu) (by intro n; cases n <;> simp [binOp])
  · obtain ⟨⟨ms, hu⟩, d, rfl⟩ := kd_i hk
    cases h
    replace hx := hx.toV; cases hx
    replace hy := hy.toV; cases hy
    refine key (by cases neg <;> rfl) (qi_i1 9999 hu _ _) (by intro n; cases n <;> simp [binOp])
  · obtain ⟨⟨ms, hu⟩, d, rfl⟩ := kd_i hk
    cases h; cases hx
    replace hy := hy.toV; cases hy
    refine key (by cases neg <;> rfl) (qi_i1 9999 hu _ _) (by intro n; cases n <;> simp [binOp])
  · obtain ⟨k1, k2, hu⟩ := kd_m hk
    cases h
    replace hx := hx.toV; cases hx
    replace hy := hy.toV; cases hy
    refine key (by cases neg <;> rfl) (qi_m0 9999 hu) (by intro n; cases n <;> simp [binOp])
  · obtain ⟨k1, k2, hu⟩ := kd_m hk
    cases h; cases hx
    replace hy := hy.toV; cases hy
    refine key (by cases neg <;> rfl) (qi_m1 9999 hu _) (by intro n; cases n <;> simp [binOp])
end
end Go.Q
