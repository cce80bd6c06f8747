/- Comparisons, slice expressions, fields, elements, loads: what the abstract machine tells of them holds. No condition. -/
import Derived.Test.YtjglogffdihahaaEvO
set_option linter.unusedVariables false
set_option linter.unusedSimpArgs false
namespace Go.Q
section
variable {P : Program} {w : World} {g : Gh}

theorem qi_bool (d : Nat) {t : TypeId} (hu : P.underlying t = some .bool) (a b : Bool) : (Op.equalIn (d + 1) t (.bool a) (.bool b)).run P w = .ok (a == b) w := by simp [Op.equalIn, run_underlying hu]
theorem qi_s0 (d : Nat) {t e : TypeId} (hu : P.underlying t = some (.slice e)) : (Op.equalIn (d + 1) t (.slice none 0 0) (.slice none 0 0)).run P w = .ok true w := by simp [Op.equalIn, run_underlying hu]
theorem qi_s1 (d : Nat) {t e : TypeId} (hu : P.underlying t = some (.slice e)) (a n c) : (Op.equalIn (d + 1) t (.slice (some a) n c) (.slice none 0 0)).run P w = .ok false w := by simp [Op.equalIn, run_underlying hu]
theorem qi_p0 (d : Nat) {t e : TypeId} (hu : P.underlying t = some (.pointer e)) : (Op.equalIn (d + 1) t (.pointer none) (.pointer none)).run P w = .ok true w := by simp [Op.equalIn, run_underlying hu]
theorem qi_p1 (d : Nat) {t e : TypeId} (hu : P.underlying t = some (.pointer e)) (a) : (Op.equalIn (d + 1) t (.pointer (some a)) (.pointer none)).run P w = .ok false w := by simp [Op.equalIn, run_underlying hu]
theorem qi_f0 (d : Nat) {t : TypeId} {p r v} (hu : P.underlying t = some (.func p r v)) : (Op.equalIn (d + 1) t .nilFunc .nilFunc).run P w = .ok true w := by simp [Op.equalIn, run_underlying hu]
theorem qi_f1 (d : Nat) {t : TypeId} {p r v} (hu : P.underlying t = some (.func p r v)) (f x y) : (Op.equalIn (d + 1) t (.func f x y) .nilFunc).run P w = .ok false w := by simp [Op.equalIn, run_underlying hu]
theorem qi_i0 (d : Nat) {t : TypeId} {m} (hu : P.underlying t = some (.interface m)) : (Op.equalIn (d + 1) t .nilIface .nilIface).run P w = .ok true w := by simp [Op.equalIn, run_underlying hu]
theorem qi_i1 (d : Nat) {t : TypeId} {m} (hu : P.underlying t = some (.interface m)) (x y) : (Op.equalIn (d + 1) t (.iface x y) .nilIface).run P w = .ok false w := by simp [Op.equalIn, run_underlying hu]
theorem qi_m0 (d : Nat) {t k e : TypeId} (hu : P.underlying t = some (.map k e)) : (Op.equalIn (d + 1) t (.map none) (.map none)).run P w = .ok true w := by simp [Op.equalIn, run_underlying hu]
theorem qi_m1 (d : Nat) {t k e : TypeId} (hu : P.underlying t = some (.map k e)) (a) : (Op.equalIn (d + 1) t (.map (some a)) (.map none)).run P w = .ok false w := by simp [Op.equalIn, run_underlying hu]
theorem kd_b {t : TypeId} {y : Opd} (h : chkKd P t .b y = true) : P.underlying t = some .bool := by
  unfold chkKd at h
  cases hu : P.underlying t with
  | none => simp [hu] at h
  | some d => cases d <;> simp [hu] at h ⊢
theorem kd_s {t : TypeId} {y : Opd} (h : chkKd P t .s y = true) : ∃ e, P.underlying t = some (.slice e) := by
  unfold chkKd at h
  cases hu : P.underlying t with
  | none => simp [hu] at h
  | some d => cases d <;> simp [hu] at h ⊢
theorem kd_p {t : TypeId} {y : Opd} (h : chkKd P t .p y = true) : ∃ e, P.underlying t = some (.pointer e) := by
  unfold chkKd at h
  cases hu : P.underlying t with
  | none => simp [hu] at h
  | some d => cases d <;> simp [hu] at h ⊢
theorem kd_m {t : TypeId} {y : Opd} (h : chkKd P t .m y = true) : ∃ k e, P.underlying t = some (.map k e) := by
  unfold chkKd at h
  cases hu : P.underlying t with
  | none => simp [hu] at h
  | some d => cases d <;> simp [hu] at h ⊢
theorem kd_f {t : TypeId} {y : Opd} (h : chkKd P t .f y = true) : ∃ a b c, P.underlying t = some (.func a b c) := by
  unfold chkKd at h
  cases hu : P.underlying t with
  | none => simp [hu] at h
  | some d => cases d <;> simp [hu] at h ⊢
theorem kd_i {t : TypeId} {y : Opd} (h : chkKd P t .i y = true) : (∃ ms, P.underlying t = some (.interface ms)) ∧ ∃ d, y = .c d := by
  unfold chkKd at h
  cases hu : P.underlying t with
  | none => simp [hu] at h
  | some d => cases d <;> simp [hu] at h ⊢; split at h <;> first | (cases h; done) | exact ⟨_, rfl⟩
theorem kd_g {t : TypeId} {y : Opd} (h : chkKd P t .g y = true) : False := by
  unfold chkKd at h
  cases hu : P.underlying t with
  | none => simp [hu] at h
  | some d => cases d <;> simp [hu] at h

theorem eq_ok {k : Kd} {x y : D} {b : Bool} {u v : Value} {pl pl' : Nat → Pl} {t : TypeId} {ox oy : Operand} {y' : Opd} {μ τ} (neg : Bool) (hx : RelD w g pl x u) (hy : RelD w g pl' y v)
    (h : eqD k x y = some b) (hk : chkKd P t k y' = true) (hyc : chkO μ τ oy y' = true) (hyr : ∀ d, y' = .c d → cp d = y) :
    (do eqGuard (if neg then .neq else .eql) t ox oy u v; binOp (if neg then .neq else .eql) t u v : Sem Value).run P w = .ok (.bool (b != neg)) w := by
  have key : (eqGuard (if neg then .neq else .eql) t ox oy u v).run P w = .ok () w → (Op.equal t u v).run P w = .ok b w →
      (∀ n : Bool, binOp (if n then .neq else .eql) t u v = (do pure (.bool ((← Op.equal t u v) != n)) : Sem Value)) →
      (do eqGuard (if neg then .neq else .eql) t ox oy u v; binOp (if neg then .neq else .eql) t u v : Sem Value).run P w = .ok (.bool (b != neg)) w := by
    intro h1 h2 h3
    rw [Sem.run_bind, h1, Result.andThen_ok, h3 neg, Sem.run_bind, h2]
    rfl
  unfold eqD at h
  split at h <;> first | (cases h; done) | (exact (kd_g hk).elim) | skip
  · have hu := kd_b hk
    cases h
    obtain rfl := boolOf hx
    obtain rfl := boolOf hy
    refine key (by cases neg <;> rfl) (qi_bool 9999 hu _ _) (by intro n; cases n <;> simp [binOp])
  · obtain ⟨e, hu⟩ := kd_s hk
    cases h; cases hx; cases hy
    refine key (by cases neg <;> rfl) (qi_s0 9999 hu) (by intro n; cases n <;> simp [binOp])
  · obtain ⟨e, hu⟩ := kd_s hk
    cases h; cases hy
    replace hx := hx.toV; cases hx
    refine key (by cases neg <;> rfl) (qi_s1 9999 hu _ _ _) (by intro n; cases n <;> simp [binOp])
  · obtain ⟨e, hu⟩ := kd_s hk
    cases h; cases hx; cases hy
    refine key (by cases neg <;> rfl) (qi_s1 9999 hu _ _ _) (by intro n; cases n <;> simp [binOp])
  · obtain ⟨e, hu⟩ := kd_s hk
    cases h; cases hx; cases hy
    refine key (by cases neg <;> rfl) (qi_s1 9999 hu _ _ _) (by intro n; cases n <;> simp [binOp])
  · obtain ⟨e, hu⟩ := kd_p hk
    cases h
    replace hx := hx.toV; cases hx
    replace hy := hy.toV; cases hy
    refine key (by cases neg <;> rfl) (qi_p0 9999 hu) (by intro n; cases n <;> simp [binOp])
  · obtain ⟨e, hu⟩ := kd_p hk
    cases h; cases hx
    replace hy := hy.toV; cases hy
    refine key (by cases neg <;> rfl) (qi_p1 9999 hu _) (by intro n; cases n <;> simp [binOp])
  · obtain ⟨e, hu⟩ := kd_p hk
    cases h; cases hx
    replace hy := hy.toV; cases hy
    refine key (by cases neg <;> rfl) (qi_p1 9999 hu _) (by intro n; cases n <;> simp [binOp])
  · obtain ⟨e, hu⟩ := kd_p hk
    cases h
    replace hx := hx.toV; cases hx
    replace hy := hy.toV; cases hy
    refine key (by cases neg <;> rfl) (qi_p1 9999 hu _) (by intro n; cases n <;> simp [binOp])
  · obtain ⟨a1, a2, a3, hu⟩ := kd_f hk
    cases h
    replace hx := hx.toV; cases hx
    replace hy := hy.toV; cases hy
    refine key (by cases neg <;> rfl) (qi_f0 9999 hu) (by intro n; cases n <;> simp [binOp])
  · obtain ⟨a1, a2, a3, hu⟩ := kd_f hk
    cases h
    replace hx := hx.toV; cases hx
    replace hy := hy.toV; cases hy
    refine key (by cases neg <;> rfl) (qi_f1 9999 hu _ _ _) (by intro n; cases n <;> simp [binOp])
  · obtain ⟨a1, a2, a3, hu⟩ := kd_f hk
    cases h; cases hx
    replace hy := hy.toV; cases hy
    refine key (by cases neg <;> rfl) (qi_f1 9999 hu _ _ _) (by intro n; cases n <;> simp [binOp])
  · obtain ⟨⟨ms, hu⟩, d, rfl⟩ := kd_i hk
    cases h
    replace hx := hx.toV; cases hx
    replace hy := hy.toV; cases hy
    have hc : ∃ c, oy = .const c := by
      have := hyr d rfl
      unfold chkO at hyc
      split at hyc <;> first | (rename_i hq; cases hq; done) | (cases hyc; done) | exact ⟨_, rfl⟩ | skip
      rename_i hq; cases hq; cases this
    obtain ⟨c, rfl⟩ := hc
    refine key (by cases neg <;> cases ox <;> rfl) (qi_i0 9999 hu) (by intro n; cases n <;> simp [binOp])
  · obtain ⟨⟨ms, hu⟩, d, rfl⟩ := kd_i hk
    cases h
    replace hx := hx.toV; cases hx
    replace hy := hy.toV; cases hy
    refine key (by cases neg <;> rfl) (qi_i1 9999 hu _ _) (by intro n; cases n <;> simp [binOp])
  · obtain ⟨⟨ms, hu⟩, d, rfl⟩ := kd_i hk
    cases h; cases hx
    replace hy := hy.toV; cases hy
    refine key (by cases neg <;> rfl) (qi_i1 9999 hu _ _) (by intro n; cases n <;> simp [binOp])
  · obtain ⟨k1, k2, hu⟩ := kd_m hk
    cases h
    replace hx := hx.toV; cases hx
    replace hy := hy.toV; cases hy
    refine key (by cases neg <;> rfl) (qi_m0 9999 hu) (by intro n; cases n <;> simp [binOp])
  · obtain ⟨k1, k2, hu⟩ := kd_m hk
    cases h; cases hx
    replace hy := hy.toV; cases hy
    refine key (by cases neg <;> rfl) (qi_m1 9999 hu _) (by intro n; cases n <;> simp [binOp])
end
end Go.Q
