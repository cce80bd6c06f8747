/- Code: what the abstract machine tells of it holds. No condition. -/
import Derived.Test.YthldpjhmhjhpeaaDoorEvg
import Derived.Test.YthldpjhmhjhpeaaDoorEv8
set_option linter.unusedVariables false
set_option linter.unusedSimpArgs false
set_option linter.unusedSectionVars false
namespace Go.Q
variable [Known]

def chkReg (μ : List Nat) (nt : Nat) (P : Program) (ops : Array Oper) (dr : Bool) (l : List SOper) : Option (List (Option Nat)) :=
  if dr = true then chkDraw μ nt P ops l else chkOps μ nt P ops ops.toList l []
def isIfs : SCode → Bool
  | .ifs _ _ _ _ => true
  | _ => false
def chkCode (μ : List Nat) (nt : Nat) (P : Program) : SCode → Code → Bool
  | .skip, c => match c with | .skip => true | _ => false
  | .ret, c => match c with | .ret => true | _ => false
  | .exit i, c => match c with | .exit j => i == j | _ => false
  | .ops l, c => match c with | .region _ ops dr => (chkReg μ nt P ops dr l).isSome | _ => false
  | .ifs l x sa sb, c => match c with
    | .seq (.region _ ops dr) (.cond y a b) => (orF (chkReg μ nt P ops dr l) fun τ => chkO μ τ y x) && chkCode μ nt P sa a && chkCode μ nt P sb b
    | .cond y a b => l.isEmpty && chkO μ [] y x && chkCode μ nt P sa a && chkCode μ nt P sb b
    | _ => false
  | .seq s t, c => match c with
    | .seq (.region i ops dr) (.seq (.cond y a b) e) => (isIfs s && chkCode μ nt P s (.seq (.region i ops dr) (.cond y a b)) && chkCode μ nt P t e) || (chkCode μ nt P s (.region i ops dr) && chkCode μ nt P t (.seq (.cond y a b) e))
    | .seq a b => chkCode μ nt P s a && chkCode μ nt P t b
    | _ => false
  | .block i s, c => match c with | .block j a => i == j && chkCode μ nt P s a | _ => false
  | .loop _ s, c => match c with | .loop a => chkCode μ nt P s a | _ => false
  | .nilc d x sz bytes s, c => chkNilc μ nt P d x sz bytes c && chkCode μ nt P s c
  | .clone d x sz bytes, c => match c with | .region _ ops dr => !dr && chkClone μ nt P d x sz bytes ops.toList | _ => false
  | .grow d n sz bytes, c => match c with | .region _ ops dr => !dr && chkGrow μ nt P d n sz bytes ops.toList | _ => false

def exOf : Ex → Exit
  | .normal => .normal
  | .exit i => .exit i
  | .ret => .ret

def CPost (w : World) (g : Gh) (μ : List Nat) (nt : Nat) (dfs : List Deferred) (r : Out) (e : Exit) (a' : Act) (w' : World) : Prop :=
  e = exOf r.1 ∧ ∃ g', Ext w w' g g' ∧ At w' g' μ nt dfs [] r.2.1 [] r.2.2 a'

section
variable {P : Program} {w : World} {g : Gh} {μ : List Nat} {nt : Nat} {dfs : List Deferred} {env ts : List D} {st : St} {a : Act} {R : Run}

theorem At.bare {τ : List (Option Nat)} (h : At w g μ nt dfs τ env ts st a) : At w g μ nt dfs [] env [] st a := ⟨⟨h.r.s, h.r.e, fun j t hj => by simp at hj⟩, h.n, h.d, rfl, h.st⟩
theorem CPost.of {w1 : World} {g1 : Gh} {r : Out} {e : Exit} {a' : Act} {w' : World} (hx : Ext w w1 g g1) (h : CPost w1 g1 μ nt dfs r e a' w') : CPost w g μ nt dfs r e a' w' := by
  obtain ⟨h1, g', h2, h3⟩ := h
  exact ⟨h1, g', hx.trans h2, h3⟩

theorem region_ok {id : Nat} {ops : Array Oper} {dr : Bool} {l : List SOper} {τ : List (Option Nat)} {q : List D × List D × St} {Q : Exit → Act → World → Prop} (hμ : μ.Nodup) (hR : ROk P R) (hL : RLen R)
    (hc : chkReg μ nt P ops dr l = some τ) (he : evOps R l env [] st = some q) (h : At w g μ nt dfs [] env [] st a)
    (k : ∀ a' w' g', Ext w w' g g' → At w' g' μ nt dfs τ q.1 q.2.1 q.2.2 a' → Q .normal a' w') : (Code.region id ops dr).wp P Q a w := by
  unfold chkReg at hc
  cases dr with
  | true => exact draw_ok hμ hR hL hc he h k
  | false =>
    simp only [Bool.false_eq_true, if_false] at hc
    refine wp_region ?_
    have := ops_sound (Q := Q) hμ hR hL ops.toList l 0 [] env [] st a w g q rfl hc h he k
    rw [List.range_eq_range']
    simpa using this

/-- at a loop's head -/
def LoopAt (P : Program) (c : Code) (Q : Exit → Act → World → Prop) (a : Act) (w : World) : Prop :=
  ∀ (b : Frame) (k : List Item) (cs : List Frame), ∃ e a' w', Q e a' w' ∧ Arrives P (lone (b.at a (.code c :: .inLoop c :: k)) cs w) b k cs e a' w'
theorem loopAt_of {c : Code} {Q : Exit → Act → World → Prop} (h : c.wp P (Exit.then (LoopAt P c Q) Q) a w) : LoopAt P c Q a w := by
  intro b k cs
  obtain ⟨e, a₁, w₁, hq, harr⟩ := h b (.inLoop c :: k) cs
  cases e with
  | normal =>
    obtain ⟨e₂, a₂, w₂, hq₂, harr₂⟩ := hq b k cs
    exact ⟨e₂, a₂, w₂, hq₂, .of_steps (Steps.trans harr (.one step_inLoop)) harr₂⟩
  | exit id => exact ⟨_, a₁, w₁, hq, .pass (x := .inLoop c) rfl (fun _ _ => .inl (by simp)) harr⟩
  | goto l => exact ⟨_, a₁, w₁, hq, .pass (x := .inLoop c) rfl (fun _ _ => .inl (by simp)) harr⟩
  | ret => exact ⟨_, a₁, w₁, hq, .pass (x := .inLoop c) rfl (fun _ _ => .inl (by simp)) harr⟩
  | panic ch => exact ⟨_, a₁, w₁, hq, .pass (x := .inLoop c) rfl (fun _ _ => .inl (by simp)) harr⟩
  | outgrown => exact ⟨_, a₁, w₁, hq, .pass (x := .inLoop c) rfl (fun _ _ => .inl (by simp)) harr⟩
theorem wp_loopAt {c : Code} {Q : Exit → Act → World → Prop} (h : LoopAt P c Q a w) : (Code.loop c).wp P Q a w := by
  intro b k cs
  obtain ⟨e, a', w', hq, harr⟩ := h b k cs
  exact ⟨e, a', w', hq, .of_steps (.one step_loop) harr⟩
theorem LoopAt.mono {c : Code} {Q Q' : Exit → Act → World → Prop} (h : LoopAt P c Q a w) (hq : ∀ e a w, Q e a w → Q' e a w) : LoopAt P c Q' a w := fun b k cs =>
  let ⟨e, a', w', h1, h2⟩ := h b k cs; ⟨e, a', w', hq _ _ _ h1, h2⟩

/-- the store's height stays -/
theorem loopN_len {body : List D → St → Option Out} {kill : List Nat} (hb : ∀ env st r, st ≠ [] → body env st = some r → r.2.1.length = env.length ∧ r.2.2.length = st.length) :
    ∀ (n : Nat) {env : List D} {st : St} {r : Out}, loopN body kill n env st = some r → r.2.1.length = env.length ∧ r.2.2.length = st.length
  | 0, env, st, r, h => by cases h
  | n + 1, env, st, r, h => by
    simp only [loopN] at h
    obtain ⟨⟨x, env', st'⟩, h1, h2⟩ := bind_some' h
    have := hb _ _ _ (by simp) h1
    have l1 : (pop (killE kill env') st').1.length = env.length := by simp [pop, killE_len, this.1]
    have l2 : (pop (killE kill env') st').2.length = st.length := by simp [pop, this.2]
    cases x with
    | normal => obtain ⟨k1, k2⟩ := loopN_len hb n h2; exact ⟨k1.trans l1, k2.trans l2⟩
    | exit i => cases h2; exact ⟨l1, l2⟩
    | ret => cases h2; exact ⟨l1, l2⟩
theorem exec_len (hL : RLen R) : ∀ (s : SCode) {n : Nat} {env : List D} {st : St} {r : Out}, st ≠ [] → exec R n s env st = some r → r.2.1.length = env.length ∧ r.2.2.length = st.length
  | .skip, n, env, st, r, hne, h => by simp only [exec] at h; cases h; exact ⟨rfl, rfl⟩
  | .ret, n, env, st, r, hne, h => by simp only [exec] at h; cases h; exact ⟨rfl, rfl⟩
  | .exit i, n, env, st, r, hne, h => by simp only [exec] at h; cases h; exact ⟨rfl, rfl⟩
  | .ops l, n, env, st, r, hne, h => by
    simp only [exec] at h
    obtain ⟨q, h1, rfl⟩ := map_some' h
    exact evOps_len hL hne h1
  | .ifs l c sa sb, n, env, st, r, hne, h => by
    simp only [exec] at h
    obtain ⟨q, h1, h2⟩ := bind_some' h
    obtain ⟨t, h3, h4⟩ := bind_some' h2
    obtain ⟨l1, l2⟩ := evOps_len hL hne h1
    have hne' : q.2.2 ≠ [] := fun e => by rw [e] at l2; exact hne (List.length_eq_zero_iff.1 l2.symm)
    split at h4
    · obtain ⟨k1, k2⟩ := exec_len hL sa hne' h4; exact ⟨k1.trans l1, k2.trans l2⟩
    · obtain ⟨k1, k2⟩ := exec_len hL sb hne' h4; exact ⟨k1.trans l1, k2.trans l2⟩
  | .seq sa sb, n, env, st, r, hne, h => by
    simp only [exec] at h
    obtain ⟨⟨x, env', st'⟩, h1, h2⟩ := bind_some' h
    obtain ⟨l1, l2⟩ := exec_len hL sa hne h1
    have hne' : st' ≠ [] := fun e => by simp only [e] at l2; exact hne (List.length_eq_zero_iff.1 l2.symm)
    cases x with
    | normal => obtain ⟨k1, k2⟩ := exec_len hL sb hne' h2; exact ⟨k1.trans l1, k2.trans l2⟩
    | exit i => cases h2; exact ⟨l1, l2⟩
    | ret => cases h2; exact ⟨l1, l2⟩
  | .block i s, n, env, st, r, hne, h => by
    simp only [exec] at h
    obtain ⟨⟨x, env', st'⟩, h1, h2⟩ := bind_some' h
    have := exec_len hL s hne h1
    cases x with
    | normal => cases h2; exact this
    | exit j => simp only [blkD] at h2; split at h2 <;> cases h2 <;> exact this
    | ret => cases h2; exact this
  | .loop kill s, n, env, st, r, hne, h => by
    simp only [exec] at h
    exact loopN_len (fun env st r hne h => exec_len hL s hne h) n h
  | .nilc d x sz bytes s, n, env, st, r, hne, h => by
    simp only [exec] at h
    split at h
    · cases h; exact ⟨by simp, rfl⟩
    · exact exec_len hL s hne h
  | .grow d m sz bytes, n, env, st, r, hne, h => by
    simp only [exec] at h
    unfold growD at h
    split at h <;> first | (cases h; done) | skip
    split at h <;> cases h
    exact ⟨by simp, rfl⟩
  | .clone d x sz bytes, n, env, st, r, hne, h => by
    simp only [exec] at h
    obtain ⟨ys, _, h2⟩ := bind_some' h
    unfold cloneD at h2
    split at h2 <;> first | (cases h2; done) | skip
    obtain ⟨q, h3, rfl⟩ := map_some' h2
    unfold upB at h3
    split at h3 <;> cases h3
    exact ⟨by simp, by simp [addB]⟩

theorem loop_sound (hL : RLen R) {c : Code} {s : SCode} {kill : List Nat} {m : Nat}
    (ih : ∀ (n : Nat) (env : List D) (st : St) (r : Out) (a : Act) (w : World) (g : Gh), exec R n s env st = some r → At w g μ nt dfs [] env [] st a → c.wp P (CPost w g μ nt dfs r) a w) :
    ∀ (n : Nat) (env : List D) (st : St) (r : Out) (a : Act) (w : World) (g : Gh), loopN (fun env st => exec R m s env st) kill n env st = some r → At w g μ nt dfs [] env [] st a → LoopAt P c (CPost w g μ nt dfs r) a w
  | 0, env, st, r, a, w, g, h, hA => by cases h
  | n + 1, env, st, r, a, w, g, h, hA => by
    simp only [loopN] at h
    obtain ⟨⟨x, env1, st1⟩, h1, h2⟩ := bind_some' h
    have hpush : At w g μ nt dfs [] env [] ([] :: st) a := ⟨⟨hA.r.s.push, hA.r.e, hA.r.t⟩, hA.n, hA.d, rfl, by simp⟩
    have hlen := (exec_len hL s (by simp) h1).2
    have hlen' : st1.length = st.length + 1 := by simpa using hlen
    refine loopAt_of (wp_mono (ih m env _ _ a w g h1 hpush) fun e a1 w1 hp => ?_)
    obtain ⟨rfl, g1, hx, hA1⟩ := hp
    have hA1' : RelA w1 g1 μ [] env1 [] st1 a1.tmps := hA1.r
    have hP := popA_rel (killE_rel kill hA1') hlen'
    have hE := (pop_rel hA1'.s hlen').E hx (fun r hr => by
      obtain ⟨b, hb⟩ := (hA.r.s.live r).1 hr
      exact getB_lvl hb)
    have hl2 : (pop (killE kill env1) st1).2.length = st.length := by simp [pop, hlen']
    have hA2 : At w1 (g1.pop w1 st.length) μ nt dfs [] (pop (killE kill env1) st1).1 [] (pop (killE kill env1) st1).2 a1 :=
      ⟨hP, hA1.n, hA1.d, rfl, fun e => by rw [e] at hl2; exact hA.st (List.length_eq_zero_iff.1 hl2.symm)⟩
    cases x with
    | normal => exact (loop_sound hL ih n _ _ r a1 w1 _ h2 hA2).mono fun e a w hq => hq.of hE
    | exit i => cases h2; exact ⟨rfl, _, hE, hA2⟩
    | ret => cases h2; exact ⟨rfl, _, hE, hA2⟩

theorem ifs_core (hμ : μ.Nodup) (hR : ROk P R) (hL : RLen R) {sa sb : SCode} {ca cb : Code} {l : List SOper} {x : Opd} {y : Operand} {id : Nat} {ops : Array Oper} {dr : Bool} {τ : List (Option Nat)}
    (iha : ∀ (n : Nat) (env : List D) (st : St) (r : Out) (a : Act) (w : World) (g : Gh), exec R n sa env st = some r → At w g μ nt dfs [] env [] st a → ca.wp P (CPost w g μ nt dfs r) a w)
    (ihb : ∀ (n : Nat) (env : List D) (st : St) (r : Out) (a : Act) (w : World) (g : Gh), exec R n sb env st = some r → At w g μ nt dfs [] env [] st a → cb.wp P (CPost w g μ nt dfs r) a w)
    (hc : chkReg μ nt P ops dr l = some τ) (hy : chkO μ τ y x = true) {n : Nat} {r : Out} {Q : Exit → Act → World → Prop} (h : exec R n (.ifs l x sa sb) env st = some r) (hA : At w g μ nt dfs [] env [] st a)
    (K : Act → World → Prop) (hK : ∀ a' w', (Code.cond y ca cb).wp P (CPost w g μ nt dfs r) a' w' → K a' w') :
    (Code.region id ops dr).wp P (Exit.then K Q) a w := by
  simp only [exec] at h
  obtain ⟨q, h1, h2⟩ := bind_some' h
  obtain ⟨t, h3, h4⟩ := bind_some' h2
  refine region_ok hμ hR hL hc h1 hA fun a' w' g' hx hA' => hK _ _ ?_
  have hb := boolD_rel (rd_rel hA'.r hy (fun _ => .nil)) h3
  cases t with
  | true =>
    simp only [if_true] at h4
    exact wp_cond_true hb (wp_mono (iha n _ _ r a' w' g' h4 hA'.bare) fun e a w hq => hq.of hx)
  | false =>
    simp only [Bool.false_eq_true, if_false] at h4
    exact wp_cond_false hb (wp_mono (ihb n _ _ r a' w' g' h4 hA'.bare) fun e a w hq => hq.of hx)

theorem exec_sound (hμ : μ.Nodup) (hR : ROk P R) (hL : RLen R) : ∀ (s : SCode) (c : Code), chkCode μ nt P s c = true → ∀ (n : Nat) (env : List D) (st : St) (r : Out) (a : Act) (w : World) (g : Gh),
    exec R n s env st = some r → At w g μ nt dfs [] env [] st a → c.wp P (CPost w g μ nt dfs r) a w
  | .skip, c, hc, n, env, st, r, a, w, g, h, hA => by
    unfold chkCode at hc
    split at hc <;> first | (cases hc; done) | skip
    simp only [exec] at h
    cases h
    exact wp_skip ⟨rfl, g, Ext.refl w g, hA⟩
  | .ret, c, hc, n, env, st, r, a, w, g, h, hA => by
    unfold chkCode at hc
    split at hc <;> first | (cases hc; done) | skip
    simp only [exec] at h
    cases h
    exact wp_ret ⟨rfl, g, Ext.refl w g, hA⟩
  | .exit i, c, hc, n, env, st, r, a, w, g, h, hA => by
    unfold chkCode at hc
    split at hc <;> first | (cases hc; done) | skip
    simp only [beq_iff_eq] at hc
    subst hc
    simp only [exec] at h
    cases h
    exact wp_exit ⟨rfl, g, Ext.refl w g, hA⟩
  | .ops l, c, hc, n, env, st, r, a, w, g, h, hA => by
    unfold chkCode at hc
    split at hc <;> first | (cases hc; done) | skip
    obtain ⟨τ, hτ⟩ := Option.isSome_iff_exists.1 hc
    simp only [exec] at h
    obtain ⟨q, h1, rfl⟩ := map_some' h
    exact region_ok hμ hR hL hτ h1 hA fun a' w' g' hx hA' => ⟨rfl, g', hx, hA'.bare⟩
  | .ifs l x sa sb, c, hc, n, env, st, r, a, w, g, h, hA => by
    unfold chkCode at hc
    split at hc <;> first | (cases hc; done) | skip
    · obtain ⟨c1, c2, c3⟩ := and3 hc
      obtain ⟨τ, c4, c5⟩ := of_orF c1
      exact wp_seq (ifs_core hμ hR hL (exec_sound hμ hR hL sa _ c2) (exec_sound hμ hR hL sb _ c3) c4 c5 h hA _ (fun _ _ hh => hh))
    · obtain ⟨c0, c1, c2, c3⟩ := and4 hc
      have : l = [] := by simpa using c0
      subst this
      simp only [exec, evOps, Option.bind_some] at h
      obtain ⟨t, h3, h4⟩ := bind_some' h
      have hb := boolD_rel (rd_rel hA.r c1 (fun _ => .nil)) h3
      cases t with
      | true =>
        simp only [if_true] at h4
        exact wp_cond_true hb (exec_sound hμ hR hL sa _ c2 n _ _ r a w g h4 hA)
      | false =>
        simp only [Bool.false_eq_true, if_false] at h4
        exact wp_cond_false hb (exec_sound hμ hR hL sb _ c3 n _ _ r a w g h4 hA)
  | .seq s t, c, hc, n, env, st, r, a, w, g, h, hA => by
    simp only [exec] at h
    obtain ⟨⟨x, env', st'⟩, h1, h2⟩ := bind_some' h
    have post : ∀ (cb : Code), chkCode μ nt P t cb = true → ∀ e a1 w1, CPost w g μ nt dfs (x, env', st') e a1 w1 → Exit.then (cb.wp P (CPost w g μ nt dfs r)) (CPost w g μ nt dfs r) e a1 w1 := fun cb hcb e a1 w1 hp => by
      obtain ⟨rfl, g1, hx, hA1⟩ := hp
      cases x with
      | normal => exact wp_mono (exec_sound hμ hR hL t cb hcb n _ _ r a1 w1 g1 h2 hA1) fun e a w hq => hq.of hx
      | exit i => cases h2; exact ⟨rfl, g1, hx, hA1⟩
      | ret => cases h2; exact ⟨rfl, g1, hx, hA1⟩
    have fin : ∀ (ca cb : Code), chkCode μ nt P s ca = true → chkCode μ nt P t cb = true → ca.wp P (Exit.then (cb.wp P (CPost w g μ nt dfs r)) (CPost w g μ nt dfs r)) a w := fun ca cb hca hcb =>
      wp_mono (exec_sound hμ hR hL s ca hca n _ _ _ a w g h1 hA) (post cb hcb)
    unfold chkCode at hc
    split at hc <;> first | (cases hc; done) | skip
    · simp only [Bool.or_eq_true] at hc
      rcases hc with hc | hc
      · obtain ⟨c0, c1, c2⟩ := and3 hc
        cases s with
        | ifs l y sa sb =>
          simp only [chkCode] at c1
          obtain ⟨d1, d2, d3⟩ := and3 c1
          obtain ⟨τ, d4, d5⟩ := of_orF d1
          exact wp_seq (ifs_core hμ hR hL (exec_sound hμ hR hL sa _ d2) (exec_sound hμ hR hL sb _ d3) d4 d5 h1 hA _ (fun a' w' hh => wp_seq (wp_mono hh (post _ c2))))
        | _ => simp [isIfs] at c0
      · obtain ⟨c1, c2⟩ := and2 hc
        exact wp_seq (fin _ _ c1 c2)
    · obtain ⟨c1, c2⟩ := and2 hc
      exact wp_seq (fin _ _ c1 c2)
  | .block i s, c, hc, n, env, st, r, a, w, g, h, hA => by
    unfold chkCode at hc
    split at hc <;> first | (cases hc; done) | skip
    obtain ⟨c0, c1⟩ := and2 hc
    simp only [beq_iff_eq] at c0
    subst c0
    simp only [exec] at h
    obtain ⟨⟨x, env', st'⟩, h1, h2⟩ := bind_some' h
    refine wp_block (wp_mono (exec_sound hμ hR hL s _ c1 n _ _ _ a w g h1 hA) fun e a1 w1 hp => ?_)
    obtain ⟨rfl, g1, hx, hA1⟩ := hp
    cases x with
    | normal => cases h2; exact ⟨rfl, g1, hx, hA1⟩
    | ret => cases h2; exact ⟨rfl, g1, hx, hA1⟩
    | exit j =>
      simp only [blkD] at h2
      simp only [exOf, Exit.inBlock]
      split at h2 <;> cases h2
      · rename_i e; rw [if_pos e]; exact ⟨rfl, g1, hx, hA1⟩
      · rename_i e; rw [if_neg e]; exact ⟨rfl, g1, hx, hA1⟩
  | .loop kill s, c, hc, n, env, st, r, a, w, g, h, hA => by
    unfold chkCode at hc
    split at hc <;> first | (cases hc; done) | skip
    simp only [exec] at h
    exact wp_loopAt (loop_sound hL (m := n) (fun n env st r a w g h hA => exec_sound hμ hR hL s _ hc n env st r a w g h hA) n env st r a w g h hA)
  | .nilc d x sz bytes s, c, hc, n, env, st, r, a, w, g, h, hA => by
    unfold chkCode at hc
    obtain ⟨h1, h2⟩ := and2 hc
    simp only [exec] at h
    split at h
    · rename_i h0
      cases h
      exact nilc_ok hμ h1 h0 hA fun a' w' g' hx hA' => ⟨rfl, g', hx, hA'⟩
    · exact exec_sound hμ hR hL s c h2 n env st r a w g h hA
  | .grow d m sz bytes, c, hc, n, env, st, r, a, w, g, h, hA => by
    unfold chkCode at hc
    split at hc <;> first | (cases hc; done) | skip
    rename_i id ops dr
    obtain ⟨h1, h2⟩ := and2 hc
    simp only [exec] at h
    obtain ⟨rfl, k⟩ := grow_ok (Q := CPost w g μ nt dfs r) hμ h2 h hA
    have hdr : dr = false := by simpa using h1
    subst hdr
    exact wp_region (k fun a' w' g' hx hA' => ⟨rfl, g', hx, hA'⟩)
  | .clone d x sz bytes, c, hc, n, env, st, r, a, w, g, h, hA => by
    unfold chkCode at hc
    split at hc <;> first | (cases hc; done) | skip
    rename_i id ops dr
    obtain ⟨h1, h2⟩ := and2 hc
    simp only [exec] at h
    obtain ⟨e, env', st'⟩ := r
    obtain ⟨rfl, k⟩ := clone_ok (Q := CPost w g μ nt dfs (e, env', st')) hμ h2 h hA
    have hdr : dr = false := by simpa using h1
    subst hdr
    exact wp_region (k fun a' w' g' hx hA' => ⟨rfl, g', hx, hA'⟩)
end
end Go.Q
