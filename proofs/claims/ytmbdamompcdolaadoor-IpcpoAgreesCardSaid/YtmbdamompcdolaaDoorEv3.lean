/- Code: what the abstract machine tells of it holds. No condition. -/
import Derived.Test.YtmbdamompcdolaaDoorEvg
import Derived.Test.YtmbdamompcdolaaDoorEv6
import Derived.Test.YtmbdamompcdolaaDoorEvi
set_option linter.unusedVariables false
set_option linter.unusedSimpArgs false
set_option linter.unusedSectionVars false
namespace Go.Q
variable [Known] [Iters]

def chkReg (μ : List Nat) (nt : Nat) (P : Program) (ops : Array Oper) (dr : Bool) (l : List SOper) : Option (List (Option Nat)) :=
  if dr = true then chkDraw μ nt P ops l else chkOps μ nt P ops ops.toList l []
def isIfs : SCode → Bool
  | .ifs _ _ _ _ => true
  | _ => false
/-- no range over a function in it -/
def noR : SCode → Bool
  | .range _ _ _ _ _ _ => false
  | .ifs _ _ a b => noR a && noR b
  | .seq a b => noR a && noR b
  | .block _ a => noR a
  | .loop _ a => noR a
  | .nilc _ _ _ _ a => noR a
  | _ => true
theorem noR2 {ro : Option Nat} {a b : Bool} (h : ro = none ∨ (a && b) = true) : (ro = none ∨ a = true) ∧ (ro = none ∨ b = true) := by
  rcases h with h | h
  · exact ⟨.inl h, .inl h⟩
  · simp only [Bool.and_eq_true] at h; exact ⟨.inr h.1, .inr h.2⟩
def chkCode (μ : List Nat) (nt : Nat) (P : Program) : SCode → Code → Bool
  | .skip, c => match c with | .skip => true | _ => false
  | .ret, c => match c with | .ret => true | _ => false
  | .exit i, c => match c with | .exit j => i == j | _ => false
  | .ops l, c => match c with | .region _ ops dr => (chkReg μ nt P ops dr l).isSome | _ => false
  | .ifs l x sa sb, c => match c with
    | .seq (.region _ ops dr) (.cond y a b) => (orF (chkReg μ nt P ops dr l) fun τ => chkO μ τ y x) && chkCode μ nt P sa a && chkCode μ nt P sb b
    | .cond y a b => l.isEmpty && chkO μ [] y x && chkCode μ nt P sa a && chkCode μ nt P sb b
    | _ => false
  | .seq s t, c => match c with
    | .seq (.region i ops dr) (.seq (.cond y a b) e) => (isIfs s && chkCode μ nt P s (.seq (.region i ops dr) (.cond y a b)) && chkCode μ nt P t e) || (chkCode μ nt P s (.region i ops dr) && chkCode μ nt P t (.seq (.cond y a b) e))
    | .seq a b => chkCode μ nt P s a && chkCode μ nt P t b
    | _ => false
  | .block i s, c => match c with | .block j a => i == j && chkCode μ nt P s a | _ => false
  | .loop _ s, c => match c with | .loop a => chkCode μ nt P s a | _ => false
  | .nilc d x sz bytes s, c => chkNilc μ nt P d x sz bytes c && chkCode μ nt P s c
  | .range k f x ps sa b, c => match c with
    | .rangeFunc (.tmp t) qs asg body => decide (μ[x]? = some t) && Iters.it.contains (k, f) && chkPs2 μ nt ps qs.toList && noR sa && chkCode μ nt P sa asg && noR b && chkCode μ nt P b body
    | _ => false
  | .clone d x sz bytes, c => match c with | .region _ ops dr => !dr && chkClone μ nt P d x sz bytes ops.toList | _ => false
  | .grow d n sz bytes, c => match c with | .region _ ops dr => !dr && chkGrow μ nt P d n sz bytes ops.toList | _ => false

def exOf : Ex → Exit
  | .normal => .normal
  | .exit i => .exit i
  | .ret => .ret

/-- what a range over a function leaves among the deferred calls: nothing is deferred there -/
def Marks (N : Nat) (w : World) (g : Gh) (dfs : List Deferred) : Prop := dfs.Nodup ∧ ∀ d ∈ dfs, ∃ D, N ≤ D ∧ d = markOf D ∧ w.heap[D]? = some (.deferred (some [])) ∧ ¬ g.M D
theorem Marks.ext {N : Nat} {w w' : World} {g g' : Gh} {dfs : List Deferred} (h : Marks N w g dfs) (hx : Ext w w' g g') : Marks N w' g' dfs := ⟨h.1, fun d hd => by
  obtain ⟨D, h0, h1, h2, h3⟩ := h.2 d hd
  obtain ⟨h4, _, h5⟩ := hx.old D (Array.getElem?_eq_some_iff.1 h2).1 h3
  exact ⟨D, h0, h1, h4.trans h2, h5⟩⟩
def CPost (w : World) (g : Gh) (μ : List Nat) (nt : Nat) (dfs : List Deferred) (r : Out) (e : Exit) (a' : Act) (w' : World) : Prop :=
  e = exOf r.1 ∧ ∃ g' dfs', Ext w w' g g' ∧ (∀ N, N ≤ w.heap.size → Marks N w g dfs → Marks N w' g' dfs') ∧ At w' g' μ nt dfs' [] r.2.1 [] r.2.2 a'

section
variable {ro : Option Nat} {P : Program} {w : World} {g : Gh} {μ : List Nat} {nt : Nat} {dfs : List Deferred} {env ts : List D} {st : St} {a : Act} {R : Run}

theorem At.bare {τ : List (Option Nat)} (h : At w g μ nt dfs τ env ts st a) : At w g μ nt dfs [] env [] st a := ⟨⟨h.r.s, h.r.e, fun j t hj => by simp at hj⟩, h.n, h.d, rfl, h.st⟩
theorem CPost.of' {w1 : World} {g1 : Gh} {dfs1 : List Deferred} {r : Out} {e : Exit} {a' : Act} {w' : World} (hx : Ext w w1 g g1) (hm : ∀ N, N ≤ w.heap.size → Marks N w g dfs → Marks N w1 g1 dfs1) (h : CPost w1 g1 μ nt dfs1 r e a' w') : CPost w g μ nt dfs r e a' w' := by
  obtain ⟨h1, g', dfs', h2, h4, h3⟩ := h
  exact ⟨h1, g', dfs', hx.trans h2, fun N hN m => h4 N (Nat.le_trans hN hx.size) (hm N hN m), h3⟩
theorem CPost.of {w1 : World} {g1 : Gh} {r : Out} {e : Exit} {a' : Act} {w' : World} (hx : Ext w w1 g g1) (h : CPost w1 g1 μ nt dfs r e a' w') : CPost w g μ nt dfs r e a' w' := h.of' hx (fun N _ m => m.ext hx)
theorem CPost.at {r : Out} {e : Exit} {a' : Act} {w' : World} {g' : Gh} (he : e = exOf r.1) (hx : Ext w w' g g') (h : At w' g' μ nt dfs [] r.2.1 [] r.2.2 a') : CPost w g μ nt dfs r e a' w' := ⟨he, g', dfs, hx, fun N _ m => m.ext hx, h⟩

theorem region_ok {id : Nat} {ops : Array Oper} {dr : Bool} {l : List SOper} {τ : List (Option Nat)} {q : List D × List D × St} {Q : Exit → Act → World → Prop} (hμ : μ.Nodup) (hR : ROk P R) (hL : RLen R)
    (hc : chkReg μ nt P ops dr l = some τ) (he : evOps R l env [] st = some q) (h : At w g μ nt dfs [] env [] st a)
    (k : ∀ a' w' g', Ext w w' g g' → At w' g' μ nt dfs τ q.1 q.2.1 q.2.2 a' → Q .normal a' w') : (Code.region id ops dr).wpIn (wideR ro) 0 P Q a w := by
  unfold chkReg at hc
  cases dr with
  | true => exact draw_ok hμ hR hL hc he h k
  | false =>
    simp only [Bool.false_eq_true, if_false] at hc
    refine wpIn_region ?_
    have := ops_sound (ro := ro) (Q := Q) hμ hR hL ops.toList l 0 [] env [] st a w g q rfl hc h he k
    rw [List.range_eq_range']
    simpa using this

/-- at a loop's head -/
def LoopAt (ro : Option Nat) (P : Program) (c : Code) (Q : Exit → Act → World → Prop) (a : Act) (w : World) : Prop :=
  ∀ (b : Frame) (k : List Item) (cs : List Frame), b.roundOf = ro → ∃ e a' w', Q e a' w' ∧ ArrivesIn (Machine.fenced P (wideR ro)) P (lone (b.atR a (.code c :: .inLoop c :: k)) cs w) b k cs e a' w'
theorem roomR (ro : Option Nat) (n : Nat) : (wideR ro).room n := fun d hd => by cases hd
theorem loopAt_of {ro : Option Nat} {c : Code} {Q : Exit → Act → World → Prop} (h : c.wpIn (wideR ro) 0 P (Exit.then (LoopAt ro P c Q) Q) a w) : LoopAt ro P c Q a w := by
  intro b k cs hro
  obtain ⟨e, a₁, w₁, hq, harr⟩ := h b (.inLoop c :: k) cs hro trivial (roomR _ _)
  cases e with
  | normal =>
    obtain ⟨e₂, a₂, w₂, hq₂, harr₂⟩ := hq b k cs hro
    exact ⟨e₂, a₂, w₂, hq₂, .of_steps (StepsIn.trans harr (.one (fenced_calm (n := 0) (F := wideR ro) trivial (roomR _ _) rfl) stepR_inLoop)) harr₂⟩
  | exit id => exact ⟨_, a₁, w₁, hq, .pass (x := .inLoop c) rfl (fun _ _ => .inl (by simp)) harr⟩
  | goto l => exact ⟨_, a₁, w₁, hq, .pass (x := .inLoop c) rfl (fun _ _ => .inl (by simp)) harr⟩
  | ret => exact ⟨_, a₁, w₁, hq, .pass (x := .inLoop c) rfl (fun _ _ => .inl (by simp)) harr⟩
  | panic ch => exact ⟨_, a₁, w₁, hq, .pass (x := .inLoop c) rfl (fun _ _ => .inl (by simp)) harr⟩
  | outgrown => exact ⟨_, a₁, w₁, hq, .pass (x := .inLoop c) rfl (fun _ _ => .inl (by simp)) harr⟩
theorem wp_loopAt {ro : Option Nat} {c : Code} {Q : Exit → Act → World → Prop} (h : LoopAt ro P c Q a w) : (Code.loop c).wpIn (wideR ro) 0 P Q a w := by
  intro b k cs hro hb hr
  obtain ⟨e, a', w', hq, harr⟩ := h b k cs hro
  exact ⟨e, a', w', hq, .of_steps (.one (fenced_calm hb hr rfl) stepR_loop) harr⟩
theorem LoopAt.mono {ro : Option Nat} {c : Code} {Q Q' : Exit → Act → World → Prop} (h : LoopAt ro P c Q a w) (hq : ∀ e a w, Q e a w → Q' e a w) : LoopAt ro P c Q' a w := fun b k cs hro =>
  let ⟨e, a', w', h1, h2⟩ := h b k cs hro; ⟨e, a', w', hq _ _ _ h1, h2⟩

/-- the store's height stays -/
theorem loopN_len {body : List D → St → Option Out} {kill : List Nat} (hb : ∀ env st r, st ≠ [] → body env st = some r → r.2.1.length = env.length ∧ r.2.2.length = st.length) :
    ∀ (n : Nat) {env : List D} {st : St} {r : Out}, loopN body kill n env st = some r → r.2.1.length = env.length ∧ r.2.2.length = st.length
  | 0, env, st, r, h => by cases h
  | n + 1, env, st, r, h => by
    simp only [loopN] at h
    obtain ⟨⟨x, env', st'⟩, h1, h2⟩ := bind_some' h
    have := hb _ _ _ (by simp) h1
    have l1 : (pop (killE kill env') st').1.length = env.length := by simp [pop, killE_len, this.1]
    have l2 : (pop (killE kill env') st').2.length = st.length := by simp [pop, this.2]
    cases x with
    | normal => obtain ⟨k1, k2⟩ := loopN_len hb n h2; exact ⟨k1.trans l1, k2.trans l2⟩
    | exit i => cases h2; exact ⟨l1, l2⟩
    | ret => cases h2; exact ⟨l1, l2⟩
theorem exec_len (hL : RLen R) : ∀ (s : SCode) {n : Nat} {env : List D} {st : St} {r : Out}, st ≠ [] → exec R n s env st = some r → r.2.1.length = env.length ∧ r.2.2.length = st.length
  | .skip, n, env, st, r, hne, h => by simp only [exec] at h; cases h; exact ⟨rfl, rfl⟩
  | .ret, n, env, st, r, hne, h => by simp only [exec] at h; cases h; exact ⟨rfl, rfl⟩
  | .exit i, n, env, st, r, hne, h => by simp only [exec] at h; cases h; exact ⟨rfl, rfl⟩
  | .ops l, n, env, st, r, hne, h => by
    simp only [exec] at h
    obtain ⟨q, h1, rfl⟩ := map_some' h
    exact evOps_len hL hne h1
  | .ifs l c sa sb, n, env, st, r, hne, h => by
    simp only [exec] at h
    obtain ⟨q, h1, h2⟩ := bind_some' h
    obtain ⟨t, h3, h4⟩ := bind_some' h2
    obtain ⟨l1, l2⟩ := evOps_len hL hne h1
    have hne' : q.2.2 ≠ [] := fun e => by rw [e] at l2; exact hne (List.length_eq_zero_iff.1 l2.symm)
    split at h4
    · obtain ⟨k1, k2⟩ := exec_len hL sa hne' h4; exact ⟨k1.trans l1, k2.trans l2⟩
    · obtain ⟨k1, k2⟩ := exec_len hL sb hne' h4; exact ⟨k1.trans l1, k2.trans l2⟩
  | .seq sa sb, n, env, st, r, hne, h => by
    simp only [exec] at h
    obtain ⟨⟨x, env', st'⟩, h1, h2⟩ := bind_some' h
    obtain ⟨l1, l2⟩ := exec_len hL sa hne h1
    have hne' : st' ≠ [] := fun e => by simp only [e] at l2; exact hne (List.length_eq_zero_iff.1 l2.symm)
    cases x with
    | normal => obtain ⟨k1, k2⟩ := exec_len hL sb hne' h2; exact ⟨k1.trans l1, k2.trans l2⟩
    | exit i => cases h2; exact ⟨l1, l2⟩
    | ret => cases h2; exact ⟨l1, l2⟩
  | .block i s, n, env, st, r, hne, h => by
    simp only [exec] at h
    obtain ⟨⟨x, env', st'⟩, h1, h2⟩ := bind_some' h
    have := exec_len hL s hne h1
    cases x with
    | normal => cases h2; exact this
    | exit j => simp only [blkD] at h2; split at h2 <;> cases h2 <;> exact this
    | ret => cases h2; exact this
  | .loop kill s, n, env, st, r, hne, h => by
    simp only [exec] at h
    exact loopN_len (fun env st r hne h => exec_len hL s hne h) n h
  | .nilc d x sz bytes s, n, env, st, r, hne, h => by
    simp only [exec] at h
    split at h
    · cases h; exact ⟨by simp, rfl⟩
    · exact exec_len hL s hne h
  | .grow d m sz bytes, n, env, st, r, hne, h => by
    simp only [exec] at h
    unfold growD at h
    split at h <;> first | (cases h; done) | skip
    split at h <;> cases h
    exact ⟨by simp, rfl⟩
  | .range k f x ps sa b, n, env, st, r, hne, h => by
    simp only [exec] at h
    obtain ⟨xs, _, h2⟩ := bind_some' h
    have hbody : ∀ (env : List D) (st : St) (r : Out), st ≠ [] → rgB (fun env st => exec R n sa env st) (fun env st => exec R n b env st) env st = some r → r.2.2.length = st.length := fun env st r hne h => by
      unfold rgB at h
      obtain ⟨⟨e, env', st'⟩, h3, h4⟩ := bind_some' h
      have l1 := (exec_len hL sa hne h3).2
      have hne' : st' ≠ [] := fun e => by simp only [e] at l1; exact hne (List.length_eq_zero_iff.1 l1.symm)
      cases e <;> simp only [rgM] at h4 <;> first | (cases h4; done) | skip
      split at h4 <;> first | (cases h4; done) | skip
      exact (exec_len hL b hne' h4).2.trans l1
    have key : ∀ (xs : List (List V)) (st : St) (r : Out), rangeN (rgB (fun env st => exec R n sa env st) (fun env st => exec R n b env st)) ps (env.map cp) xs st = some r → r.2.1.length = env.length ∧ r.2.2.length = st.length := by
      intro xs
      induction xs with
      | nil => intro st r h; simp only [rangeN] at h; split at h <;> cases h; exact ⟨by simp, rfl⟩
      | cons y ys ih =>
        intro st r h
        simp only [rangeN] at h
        split at h <;> first | (cases h; done) | skip
        obtain ⟨⟨e, env', st'⟩, h3, h4⟩ := bind_some' h
        have := hbody _ _ _ (by simp) h3
        have l2 : st'.tail.length = st.length := by rw [List.length_tail, this]; rfl
        cases e <;> simp only [rgC] at h4
        · obtain ⟨h5, h6⟩ := ih _ _ h4; exact ⟨h5, h6.trans l2⟩
        · split at h4 <;> cases h4; exact ⟨by simp, l2⟩
        · split at h4 <;> cases h4; exact ⟨by simp, l2⟩
    exact key xs st r h2
  | .clone d x sz bytes, n, env, st, r, hne, h => by
    simp only [exec] at h
    obtain ⟨ys, _, h2⟩ := bind_some' h
    unfold cloneD at h2
    split at h2 <;> first | (cases h2; done) | skip
    obtain ⟨q, h3, rfl⟩ := map_some' h2
    unfold upB at h3
    split at h3 <;> cases h3
    exact ⟨by simp, by simp [addB]⟩

theorem loop_sound (hL : RLen R) {c : Code} {s : SCode} {kill : List Nat} {m : Nat}
    (ih : ∀ (n : Nat) (dfs : List Deferred) (env : List D) (st : St) (r : Out) (a : Act) (w : World) (g : Gh), exec R n s env st = some r → At w g μ nt dfs [] env [] st a → c.wpIn (wideR ro) 0 P (CPost w g μ nt dfs r) a w) :
    ∀ (n : Nat) (dfs : List Deferred) (env : List D) (st : St) (r : Out) (a : Act) (w : World) (g : Gh), loopN (fun env st => exec R m s env st) kill n env st = some r → At w g μ nt dfs [] env [] st a → LoopAt ro P c (CPost w g μ nt dfs r) a w
  | 0, dfs, env, st, r, a, w, g, h, hA => by cases h
  | n + 1, dfs, env, st, r, a, w, g, h, hA => by
    simp only [loopN] at h
    obtain ⟨⟨x, env1, st1⟩, h1, h2⟩ := bind_some' h
    have hpush : At w g μ nt dfs [] env [] ([] :: st) a := ⟨⟨hA.r.s.push, hA.r.e, hA.r.t⟩, hA.n, hA.d, rfl, by simp⟩
    have hlen := (exec_len hL s (by simp) h1).2
    have hlen' : st1.length = st.length + 1 := by simpa using hlen
    refine loopAt_of (wpIn_mono (ih m dfs env _ _ a w g h1 hpush) fun e a1 w1 hp => ?_)
    obtain ⟨rfl, g1, dfs1, hx, hm, hA1⟩ := hp
    have hA1' : RelA w1 g1 μ [] env1 [] st1 a1.tmps := hA1.r
    have hP := popA_rel (killE_rel kill hA1') hlen'
    have hE := (pop_rel hA1'.s hlen').E hx (fun r hr => by
      obtain ⟨b, hb⟩ := (hA.r.s.live r).1 hr
      exact getB_lvl hb)
    have hl2 : (pop (killE kill env1) st1).2.length = st.length := by simp [pop, hlen']
    have hm2 : ∀ N, N ≤ w.heap.size → Marks N w g dfs → Marks N w1 (g1.pop w1 st.length) dfs1 := fun N hN m => ⟨(hm N hN m).1, fun d hd => by
      obtain ⟨D, e0, e1, e2, e3⟩ := (hm N hN m).2 d hd
      exact ⟨D, e0, e1, e2, fun hh => e3 hh.1⟩⟩
    have hA2 : At w1 (g1.pop w1 st.length) μ nt dfs1 [] (pop (killE kill env1) st1).1 [] (pop (killE kill env1) st1).2 a1 :=
      ⟨hP, hA1.n, hA1.d, rfl, fun e => by rw [e] at hl2; exact hA.st (List.length_eq_zero_iff.1 hl2.symm)⟩
    cases x with
    | normal => exact (loop_sound hL ih n _ _ _ r a1 w1 _ h2 hA2).mono fun e a w hq => hq.of' hE hm2
    | exit i => cases h2; exact ⟨rfl, _, _, hE, hm2, hA2⟩
    | ret => cases h2; exact ⟨rfl, _, _, hE, hm2, hA2⟩

theorem ifs_core (hμ : μ.Nodup) (hR : ROk P R) (hL : RLen R) {sa sb : SCode} {ca cb : Code} {l : List SOper} {x : Opd} {y : Operand} {id : Nat} {ops : Array Oper} {dr : Bool} {τ : List (Option Nat)}
    (iha : ∀ (n : Nat) (dfs : List Deferred) (env : List D) (st : St) (r : Out) (a : Act) (w : World) (g : Gh), exec R n sa env st = some r → At w g μ nt dfs [] env [] st a → ca.wpIn (wideR ro) 0 P (CPost w g μ nt dfs r) a w)
    (ihb : ∀ (n : Nat) (dfs : List Deferred) (env : List D) (st : St) (r : Out) (a : Act) (w : World) (g : Gh), exec R n sb env st = some r → At w g μ nt dfs [] env [] st a → cb.wpIn (wideR ro) 0 P (CPost w g μ nt dfs r) a w)
    (hc : chkReg μ nt P ops dr l = some τ) (hy : chkO μ τ y x = true) {n : Nat} {r : Out} {Q : Exit → Act → World → Prop} (h : exec R n (.ifs l x sa sb) env st = some r) (hA : At w g μ nt dfs [] env [] st a)
    (K : Act → World → Prop) (hK : ∀ a' w', (Code.cond y ca cb).wpIn (wideR ro) 0 P (CPost w g μ nt dfs r) a' w' → K a' w') :
    (Code.region id ops dr).wpIn (wideR ro) 0 P (Exit.then K Q) a w := by
  simp only [exec] at h
  obtain ⟨q, h1, h2⟩ := bind_some' h
  obtain ⟨t, h3, h4⟩ := bind_some' h2
  refine region_ok hμ hR hL hc h1 hA fun a' w' g' hx hA' => hK _ _ ?_
  have hb := boolD_rel (rd_rel hA'.r hy (fun _ => .nil)) h3
  cases t with
  | true =>
    simp only [if_true] at h4
    exact wpIn_cond_true hb (wpIn_mono (iha n _ _ _ r a' w' g' h4 hA'.bare) fun e a w hq => hq.of hx)
  | false =>
    simp only [Bool.false_eq_true, if_false] at h4
    exact wpIn_cond_false hb (wpIn_mono (ihb n _ _ _ r a' w' g' h4 hA'.bare) fun e a w hq => hq.of hx)

theorem nilRel {w : World} {g : Gh} {d : D} {v : Value} {pl : Nat → Pl} (h : RelD w g pl d v) : RelD w g (fun _ => .nil) (cp d) v := h.cp
theorem cp_free {w : World} {g : Gh} {d : D} {v : Value} (hn : ∀ b, g.own b ≠ some .nil) (h : RelD w g (fun _ => .nil) (cp d) v) (pl : Nat → Pl) : RelD w g pl (cp d) v := by
  have := h.cp (pl' := pl)
  rwa [cp_cp] at this
theorem rangeN_len {body : List D → St → Option Out} {ps env0} (hb : ∀ env st r, st ≠ [] → body env st = some r → r.2.2.length = st.length) : ∀ {xs : List (List V)} {st : St} {r : Out}, rangeN body ps env0 xs st = some r → solid st = true ∧ solid r.2.2 = true ∧ r.2.1 = env0 ∧ r.2.2.length = st.length
  | [], st, r, h => by
    simp only [rangeN] at h
    split at h <;> cases h
    rename_i hs
    exact ⟨hs, hs, rfl, rfl⟩
  | x :: xs, st, r, h => by
    simp only [rangeN] at h
    split at h <;> first | (cases h; done) | skip
    rename_i hs
    obtain ⟨⟨e, env', st'⟩, h1, h2⟩ := bind_some' h
    have l1 : st'.tail.length = st.length := by
      have := hb _ _ _ (by simp) h1
      rw [List.length_tail, this]; rfl
    cases e <;> simp only [rgC] at h2
    · obtain ⟨h3, h4, h5, h6⟩ := rangeN_len hb h2
      exact ⟨hs, h4, h5, h6.trans l1⟩
    · split at h2 <;> cases h2; rename_i h3; exact ⟨hs, h3, rfl, l1⟩
    · split at h2 <;> cases h2; rename_i h3; exact ⟨hs, h3, rfl, l1⟩
theorem foldA (qs : Array Tmp) (e tm : Array Value) : (qs.zip e).foldl (fun t (p, v) => t.setIfInBounds p v) tm = (qs.toList.zip e.toList).foldl (fun t (p, v) => t.setIfInBounds p v) tm := by
  rw [← Array.foldl_toList, Array.toList_zip]
theorem range_ok (hμ : μ.Nodup) (hL : RLen R) (hit : ∀ p ∈ Iters.it, IterOk P p.1 p.2) {k f x : Nat} {ps : List Nat} {sa b : SCode} {t : Tmp} {qs : Array Tmp} {asg body : Code}
    (c1 : μ[x]? = some t) (c2 : (k, f) ∈ Iters.it) (c3 : chkPs2 μ nt ps qs.toList = true)
    (iha : ∀ (l n : Nat) (dfs : List Deferred) (env : List D) (st : St) (r : Out) (a : Act) (w : World) (g : Gh), exec R n sa env st = some r → At w g μ nt dfs [] env [] st a → asg.wpIn (wideR (some l)) 0 P (CPost w g μ nt dfs r) a w)
    (ih : ∀ (l n : Nat) (dfs : List Deferred) (env : List D) (st : St) (r : Out) (a : Act) (w : World) (g : Gh), exec R n b env st = some r → At w g μ nt dfs [] env [] st a → body.wpIn (wideR (some l)) 0 P (CPost w g μ nt dfs r) a w)
    {n : Nat} {r : Out} (h : exec R n (.range k f x ps sa b) env st = some r) (hA : At w g μ nt dfs [] env [] st a) : (Code.rangeFunc (.tmp t) qs asg body).wpIn (wideR none) 0 P (CPost w g μ nt dfs r) a w := by
  simp only [exec] at h
  obtain ⟨xs, h1, h2⟩ := bind_some' h
  have hS := hA.r.s
  -- the iterator
  have hx := nilRel (hA.r.e x t c1)
  unfold iterD at h1
  split at h1 <;> first | (cases h1; done) | skip
  rename_i f' cs hcl
  split at h1 <;> first | (cases h1; done) | skip
  rename_i hf
  subst hf
  rw [hcl] at hx
  obtain ⟨vc, hl, hg, hcs⟩ : ∃ vc : Array Value, ∃ hl : cs.length = vc.size, a.eval (.tmp t) = .func (.func f') #[] vc ∧ ∀ i (h : i < cs.length), RelD w g (fun _ => .nil) cs[i] (vc[i]'(hl ▸ h)) := by
    have hx : RelD w g (fun _ => .nil) (.clo f' [] cs) (a.eval (.tmp t)) := hx
    generalize a.eval (.tmp t) = v at hx
    cases hx with | clo _ _ _ _ vf vc e1 e2 e3 e4 =>
    have : vf = #[] := Array.size_eq_zero_iff.1 (by simpa using e1.symm)
    subst this
    exact ⟨vc, e2, rfl, e4⟩
  obtain ⟨xs', h10, h1'⟩ := bind_some' h1
  unfold ofLen at h1'
  split at h1' <;> first | (cases h1'; done) | skip
  rename_i hps
  obtain rfl := Option.some.inj h1'
  obtain ⟨hfn, hit⟩ := hit _ c2 st cs xs' h10
  obtain ⟨encs, he, hseq⟩ := hit vc w g hl hcs hS
  have hbody : ∀ (env : List D) (st : St) (r : Out), st ≠ [] → rgB (fun env st => exec R n sa env st) (fun env st => exec R n b env st) env st = some r → r.2.2.length = st.length := fun env st r hne h => by
    unfold rgB at h
    obtain ⟨⟨e, env', st'⟩, h3, h4⟩ := bind_some' h
    have l1 := (exec_len hL sa hne h3).2
    have hne' : st' ≠ [] := fun e => by simp only [e] at l1; exact hne (List.length_eq_zero_iff.1 l1.symm)
    cases e <;> simp only [rgM] at h4 <;> first | (cases h4; done) | skip
    split at h4 <;> first | (cases h4; done) | skip
    exact (exec_len hL b hne' h4).2.trans l1
  have hlen := rangeN_len hbody h2
  have hne : st.length = (st.length - 1) + 1 := by
    cases st with
    | nil => exact absurd rfl hA.st
    | cons a l => simp
  -- what stays of the variables
  have env0 : ∀ i q, μ[i]? = some q → RelD w g (fun _ => .nil) (cp (getT env i)) (a.tmps.getD q undef) := fun i q hi => nilRel (hA.r.e i q hi)
  have envAt : ∀ {W : World} {g' : Gh}, Ext w W g g' → (∀ b, g'.own b ≠ some .nil) → ∀ i q, μ[i]? = some q → RelD W g' (fun _ => .env i) (getT (env.map cp) i) (a.tmps.getD q undef) := fun hx hn i q hi => by
    rw [getT_map _ rfl]
    exact cp_free hn ((env0 i q hi).mono hx.keeps hS.nil (fun b k hb => absurd hb (hS.nil b)) hx.refs) _
  have turnI : ∀ {A B : World} {row : Option Nat}, A.grownBy B row → (∀ r, row = some r → w.heap.size ≤ r ∧ ∃ o : Obj, A.heap[r]? = some o ∧ o.isCells = false) → Turn w.heap.size A B := Turn.of
  have hbl : ∀ p ∈ Known.bl, p.1 < w.heap.size := fun p hp => (hS.gl.2 p hp).2.1
  have hfr : ∀ b, w.heap.size ≤ b → g.L b = 0 := fun b hb => (hS.fresh b hb).1
  let env1 := env.map cp
  let I : Nat → World → Prop := fun i W => ∃ si gi, rangeN (rgB (fun env st => exec R n sa env st) (fun env st => exec R n b env st)) ps env1 (xs'.drop i) si = some r ∧ RelS W gi si ∧ Ext w W g gi ∧ si.length = st.length
  let Ix : Code → World → Prop := fun c W => ∃ gi, (r.1 = .ret ∧ c = .ret ∨ ∃ j, r.1 = .exit j ∧ c = .exit j) ∧ RelS W gi r.2.2 ∧ Ext w W g gi
  let Mid : Nat → Act → World → Prop := fun i a1 W => ∃ e2 s2 g2 dfs2, (exec R n b (e2.map cp) s2).bind (rgC (rangeN (rgB (fun env st => exec R n sa env st) (fun env st => exec R n b env st)) ps env1 (xs'.drop (i + 1))) env1) = some r ∧ At W g2 μ nt dfs2 [] e2 [] s2 a1 ∧ Ext w W g g2 ∧ solid s2 = true ∧ s2.length = st.length + 1
  have fin : ∀ (D : Nat) (W : World) (gi : Gh), w.heap.size ≤ D → RelS W gi r.2.2 → Ext w W g gi → W.heap[D]? = some (.deferred (some [])) →
      ∃ g' dfs', Ext w W g g' ∧ (∀ N, N ≤ w.heap.size → Marks N w g dfs → Marks N W g' dfs') ∧ At W g' μ nt dfs' [] r.2.1 [] r.2.2 { a with defers := markOf D :: a.defers } := fun D W gi hD hs hx hd => by
    have hs' := hs.cut hlen.2.1
    refine ⟨gi.cut W, markOf D :: dfs, hx.cut, fun N hN m => ⟨List.nodup_cons.2 ⟨fun hmem => ?_, m.1⟩, fun d hd' => ?_⟩, ⟨⟨hs', fun i q hi => ?_, fun j q hj => by simp at hj⟩, hA.n, by rw [hA.d], rfl, fun e => ?_⟩⟩
    · obtain ⟨D', _, e1, e2, _⟩ := m.2 _ hmem
      have : D = D' := by simpa [markOf] using e1
      have := (Array.getElem?_eq_some_iff.1 e2).1
      omega
    · rcases List.mem_cons.1 hd' with rfl | hd'
      · refine ⟨D, Nat.le_trans hN hD, rfl, hd, fun hm => ?_⟩
        obtain ⟨o, h3, h4⟩ := hm.2
        rw [hd] at h3; cases h3; cases h4
      · exact (m.ext hx.cut).2 d hd'
    · rw [hlen.2.2.1]
      exact envAt hx.cut hs'.nil i q hi
    · have := hlen.2.2.2
      rw [e] at this
      exact hA.st (List.length_eq_zero_iff.1 this.symm)
  refine range_law (n := xs'.length) (encs := encs) (I := I) (Ix := Ix) (Kp := KeepL g.L) (Mid := Mid)
    hg (fun args w => call_run hfn) hseq (fun h1 h2 b o ho => (h2 b o ho).trans (h1 b o ho)) (fun W l o o' hl hw hc b o2 ho => ?_) (fun i hi => ?_) (fun i A B row hs hb hr => ?_) (fun c u A B row hs hb hr => ?_)
    ⟨st, g, by simpa using h2, hS, Ext.refl w g, rfl⟩ (fun i a1 u A B row hs hb hr => ?_) (fun l i W hI hi => ?_) (fun l i a1 W hM hi => ?_) (fun D W hD hI hd => ?_) (fun D c W hD hI hd => ?_)
  · -- what is held is not turned
    have : b ≠ l := fun e => by rw [e, hfr l hl] at ho; omega
    exact (cell_heap (World.putObj_heap_other this) o2).1
  · -- as many as there are
    obtain ⟨e1, _⟩ := he i hi
    have h3 : (xs'[i]).length = ps.length := by simpa using List.all_eq_true.1 hps _ (List.getElem_mem hi)
    have h4 := chkPs2_len c3
    rw [← Array.length_toList, ← Array.length_toList, e1, h3, h4]
  · obtain ⟨si, gi, q1, q2, q3, q4⟩ := hs
    have tn := turnI hb hr
    exact ⟨si, gi, q1, q2.turn tn (rangeN_len hbody q1).1 hbl, q3.turn tn hfr, q4⟩
  · obtain ⟨gi, q1, q2, q3⟩ := hs
    have tn := turnI hb hr
    exact ⟨gi, q1, q2.turn tn hlen.2.1 hbl, q3.turn tn hfr⟩
  · obtain ⟨e2, s2, g2, dfs2, m1, m2, m3, m4, m5⟩ := hs
    have tn := turnI hb hr
    exact ⟨e2, s2, g2, dfs2, m1, ⟨⟨m2.r.s.turn tn m4 hbl, fun i t hi => (m2.r.e i t hi).turn tn, fun j t hj => by simp at hj⟩, m2.n, m2.d, rfl, m2.st⟩, m3.turn tn hfr, m4, m5⟩
  · -- a round's head
    obtain ⟨si, gi, q1, q2, q3, q4⟩ := hI
    have hdrop : xs'.drop i = xs'[i] :: xs'.drop (i + 1) := List.drop_eq_getElem_cons hi
    rw [hdrop] at q1
    simp only [rangeN] at q1
    split at q1 <;> first | (cases q1; done) | skip
    rename_i hsol
    have hpl : (xs'[i]).length = ps.length := by simpa using List.all_eq_true.1 hps _ (List.getElem_mem hi)
    obtain ⟨q5, q6, q7⟩ := bind_some' q1
    unfold rgB at q6
    obtain ⟨⟨e, env2, st2⟩, q8, q9⟩ := bind_some' q6
    have hsi := q2.cut hsol
    have hxi := q3.cut
    have hA0 : RelA W (gi.cut W) μ [] env1 [] ([] :: si) a.tmps := ⟨hsi.push, fun i q hi => envAt hxi hsi.nil i q hi, fun j q hj => by simp at hj⟩
    obtain ⟨e1, e2⟩ := he i hi
    have hA1 := setPs_rel (vs := (encs i).toList) hμ c3 hpl e1 (fun j h1 h2 => (e2 j h1 h2).mono hxi.cell hxi.L) hA.n hA0
    rw [← foldA] at hA1
    have hAt : At W (gi.cut W) μ nt [] [] (setPs ps xs'[i] env1) [] ([] :: si) { tmps := (qs.zip (encs i)).foldl (fun t (p, v) => t.setIfInBounds p v) a.tmps, defers := [] } := ⟨hA1.1, hA1.2, rfl, rfl, by simp⟩
    refine wpIn_mono (iha l n [] _ _ _ _ W _ q8 hAt) fun e' a' W' hp => ?_
    obtain ⟨rfl, g1, dfs1, y1, y2, y3⟩ := hp
    have keepO : KeepsOthers W W' := ⟨y1.size, fun b o hb ho => by
      have := (y1.old b (Array.getElem?_eq_some_iff.1 hb).1 (fun hm => by
        obtain ⟨o', h5, h6⟩ := hm.2
        rw [hb] at h5; cases h5; rw [ho] at h6; cases h6)).1
      rw [this]; exact hb⟩
    cases e <;> simp only [rgM] at q9 <;> first | (cases q9; done) | skip
    split at q9 <;> first | (cases q9; done) | skip
    rename_i hs2
    refine ⟨keepO, fun b o ho => y1.cell b o (Nat.lt_of_lt_of_le ho (q3.L b)), env2, st2, g1, dfs1, ?_, y3, q3.trans y1.ofCut, hs2, ?_⟩
    · rw [q9]; exact q7
    · have := (exec_len hL sa (by simp) q8).2
      rw [this, ← q4]; rfl
  · -- a round's body
    obtain ⟨e2, s2, g2, dfs2, m1, m2, m3, m4, m5⟩ := hM
    obtain ⟨⟨e, env3, st3⟩, q5, q6⟩ := bind_some' m1
    have hs2 := m2.r.s.cut m4
    have hAt : At W (g2.cut W) μ nt dfs2 [] (e2.map cp) [] s2 a1 := by
      refine ⟨⟨hs2, fun i t hi => ?_, fun j t hj => by simp at hj⟩, m2.n, m2.d, rfl, m2.st⟩
      rw [getT_map _ rfl]
      exact cp_free hs2.nil ((nilRel (m2.r.e i t hi)).cut m2.r.s.nil (.inl fun _ => rfl)) _
    refine wpIn_mono (ih l n dfs2 _ _ _ _ W _ q5 hAt) fun e' a' W' hp => ?_
    obtain ⟨rfl, g1, dfs1, y1, y2, y3⟩ := hp
    have l2 : st3.length = (s2.length - 1) + 1 := by
      have := (exec_len hL b m2.st q5).2
      rw [this, m5]; omega
    have PR := pop_rel y3.r.s l2
    have E0 : Ext W W' (g2.cut W) g1 := y1
    have keepO : KeepsOthers W W' := ⟨y1.size, fun b o hb ho => by
      have := (y1.old b (Array.getElem?_eq_some_iff.1 hb).1 (fun hm => by
        obtain ⟨o', h5, h6⟩ := hm.2
        rw [hb] at h5; cases h5; rw [ho] at h6; cases h6)).1
      rw [this]; exact hb⟩
    have E2 : Ext w W' g (g1.pop W' (s2.length - 1)) := PR.E (m3.trans y1.ofCut) fun r hr => by
      obtain ⟨bb, hb⟩ := (hS.live r).1 hr
      have := getB_lvl hb
      omega
    have l3 : st3.tail.length = st.length := by rw [List.length_tail, l2, m5]; omega
    cases e with
    | normal =>
      simp only [rgC] at q6
      exact ⟨keepO, fun b o ho => y1.cell b o (Nat.lt_of_lt_of_le ho (m3.L b)), st3.tail, _, q6, PR.S, E2, l3⟩
    | ret =>
      simp only [rgC] at q6
      split at q6 <;> cases q6
      exact ⟨keepO, _, .inl ⟨rfl, rfl⟩, PR.S, E2⟩
    | exit j =>
      simp only [rgC] at q6
      split at q6 <;> cases q6
      exact ⟨keepO, _, .inr ⟨j, rfl, rfl⟩, PR.S, E2⟩
  · -- all rounds are over
    obtain ⟨si, gi, q1, q2, q3, q4⟩ := hI
    rw [List.drop_length] at q1
    simp only [rangeN] at q1
    split at q1 <;> first | (cases q1; done) | skip
    obtain rfl := Option.some.inj q1
    obtain ⟨g', dfs', z1, z2, z3⟩ := fin D W gi hD q2 q3 hd
    exact ⟨rfl, g', dfs', z1, z2, z3⟩
  · obtain ⟨gi, q1, q2, q3⟩ := hI
    obtain ⟨g', dfs', z1, z2, z3⟩ := fin D W gi hD q2 q3 hd
    rcases q1 with ⟨q1, rfl⟩ | ⟨j, q1, rfl⟩
    · exact wpIn_ret ⟨by rw [q1]; rfl, g', dfs', z1, z2, z3⟩
    · exact wpIn_exit ⟨by rw [q1]; rfl, g', dfs', z1, z2, z3⟩

theorem exec_sound (hμ : μ.Nodup) (hR : ROk P R) (hL : RLen R) (hit : ∀ p ∈ Iters.it, IterOk P p.1 p.2) : ∀ (s : SCode) (c : Code), chkCode μ nt P s c = true → ∀ (ro : Option Nat), (ro = none ∨ noR s = true) → ∀ (n : Nat) (dfs : List Deferred) (env : List D) (st : St) (r : Out) (a : Act) (w : World) (g : Gh),
    exec R n s env st = some r → At w g μ nt dfs [] env [] st a → c.wpIn (wideR ro) 0 P (CPost w g μ nt dfs r) a w
  | .skip, c, hc, ro, hn, n, dfs, env, st, r, a, w, g, h, hA => by
    unfold chkCode at hc
    split at hc <;> first | (cases hc; done) | skip
    simp only [exec] at h
    cases h
    exact wpIn_skip (.at rfl (Ext.refl w g) hA)
  | .ret, c, hc, ro, hn, n, dfs, env, st, r, a, w, g, h, hA => by
    unfold chkCode at hc
    split at hc <;> first | (cases hc; done) | skip
    simp only [exec] at h
    cases h
    exact wpIn_ret (.at rfl (Ext.refl w g) hA)
  | .exit i, c, hc, ro, hn, n, dfs, env, st, r, a, w, g, h, hA => by
    unfold chkCode at hc
    split at hc <;> first | (cases hc; done) | skip
    simp only [beq_iff_eq] at hc
    subst hc
    simp only [exec] at h
    cases h
    exact wpIn_exit (.at rfl (Ext.refl w g) hA)
  | .ops l, c, hc, ro, hn, n, dfs, env, st, r, a, w, g, h, hA => by
    unfold chkCode at hc
    split at hc <;> first | (cases hc; done) | skip
    obtain ⟨τ, hτ⟩ := Option.isSome_iff_exists.1 hc
    simp only [exec] at h
    obtain ⟨q, h1, rfl⟩ := map_some' h
    exact region_ok hμ hR hL hτ h1 hA fun a' w' g' hx hA' => .at rfl hx hA'.bare
  | .ifs l x sa sb, c, hc, ro, hn, n, dfs, env, st, r, a, w, g, h, hA => by
    obtain ⟨hn1, hn2⟩ := noR2 hn
    unfold chkCode at hc
    split at hc <;> first | (cases hc; done) | skip
    · obtain ⟨c1, c2, c3⟩ := and3 hc
      obtain ⟨τ, c4, c5⟩ := of_orF c1
      exact wpIn_seq (ifs_core hμ hR hL (exec_sound hμ hR hL hit sa _ c2 ro hn1) (exec_sound hμ hR hL hit sb _ c3 ro hn2) c4 c5 h hA _ (fun _ _ hh => hh))
    · obtain ⟨c0, c1, c2, c3⟩ := and4 hc
      have : l = [] := by simpa using c0
      subst this
      simp only [exec, evOps, Option.bind_some] at h
      obtain ⟨t, h3, h4⟩ := bind_some' h
      have hb := boolD_rel (rd_rel hA.r c1 (fun _ => .nil)) h3
      cases t with
      | true =>
        simp only [if_true] at h4
        exact wpIn_cond_true hb (exec_sound hμ hR hL hit sa _ c2 ro hn1 n _ _ _ r a w g h4 hA)
      | false =>
        simp only [Bool.false_eq_true, if_false] at h4
        exact wpIn_cond_false hb (exec_sound hμ hR hL hit sb _ c3 ro hn2 n _ _ _ r a w g h4 hA)
  | .seq s t, c, hc, ro, hn, n, dfs, env, st, r, a, w, g, h, hA => by
    obtain ⟨hn1, hn2⟩ := noR2 hn
    simp only [exec] at h
    obtain ⟨⟨x, env', st'⟩, h1, h2⟩ := bind_some' h
    have post : ∀ (cb : Code), chkCode μ nt P t cb = true → ∀ e a1 w1, CPost w g μ nt dfs (x, env', st') e a1 w1 → Exit.then (cb.wpIn (wideR ro) 0 P (CPost w g μ nt dfs r)) (CPost w g μ nt dfs r) e a1 w1 := fun cb hcb e a1 w1 hp => by
      obtain ⟨rfl, g1, dfs1, hx, hm, hA1⟩ := hp
      cases x with
      | normal => exact wpIn_mono (exec_sound hμ hR hL hit t cb hcb ro hn2 n _ _ _ r a1 w1 g1 h2 hA1) fun e a w hq => hq.of' hx hm
      | exit i => cases h2; exact ⟨rfl, g1, dfs1, hx, hm, hA1⟩
      | ret => cases h2; exact ⟨rfl, g1, dfs1, hx, hm, hA1⟩
    have fin : ∀ (ca cb : Code), chkCode μ nt P s ca = true → chkCode μ nt P t cb = true → ca.wpIn (wideR ro) 0 P (Exit.then (cb.wpIn (wideR ro) 0 P (CPost w g μ nt dfs r)) (CPost w g μ nt dfs r)) a w := fun ca cb hca hcb =>
      wpIn_mono (exec_sound hμ hR hL hit s ca hca ro hn1 n _ _ _ _ a w g h1 hA) (post cb hcb)
    unfold chkCode at hc
    split at hc <;> first | (cases hc; done) | skip
    · simp only [Bool.or_eq_true] at hc
      rcases hc with hc | hc
      · obtain ⟨c0, c1, c2⟩ := and3 hc
        cases s with
        | ifs l y sa sb =>
          simp only [chkCode] at c1
          obtain ⟨d1, d2, d3⟩ := and3 c1
          obtain ⟨τ, d4, d5⟩ := of_orF d1
          exact wpIn_seq (ifs_core hμ hR hL (exec_sound hμ hR hL hit sa _ d2 ro (noR2 hn1).1) (exec_sound hμ hR hL hit sb _ d3 ro (noR2 hn1).2) d4 d5 h1 hA _ (fun a' w' hh => wpIn_seq (wpIn_mono hh (post _ c2))))
        | _ => simp [isIfs] at c0
      · obtain ⟨c1, c2⟩ := and2 hc
        exact wpIn_seq (fin _ _ c1 c2)
    · obtain ⟨c1, c2⟩ := and2 hc
      exact wpIn_seq (fin _ _ c1 c2)
  | .block i s, c, hc, ro, hn, n, dfs, env, st, r, a, w, g, h, hA => by
    unfold chkCode at hc
    split at hc <;> first | (cases hc; done) | skip
    obtain ⟨c0, c1⟩ := and2 hc
    simp only [beq_iff_eq] at c0
    subst c0
    simp only [exec] at h
    obtain ⟨⟨x, env', st'⟩, h1, h2⟩ := bind_some' h
    refine wpIn_block (wpIn_mono (exec_sound hμ hR hL hit s _ c1 ro hn n _ _ _ _ a w g h1 hA) fun e a1 w1 hp => ?_)
    obtain ⟨rfl, g1, dfs1, hx, hm, hA1⟩ := hp
    cases x with
    | normal => cases h2; exact ⟨rfl, g1, dfs1, hx, hm, hA1⟩
    | ret => cases h2; exact ⟨rfl, g1, dfs1, hx, hm, hA1⟩
    | exit j =>
      simp only [blkD] at h2
      simp only [exOf, Exit.inBlock]
      split at h2 <;> cases h2
      · rename_i e; rw [if_pos e]; exact ⟨rfl, g1, dfs1, hx, hm, hA1⟩
      · rename_i e; rw [if_neg e]; exact ⟨rfl, g1, dfs1, hx, hm, hA1⟩
  | .loop kill s, c, hc, ro, hn, n, dfs, env, st, r, a, w, g, h, hA => by
    unfold chkCode at hc
    split at hc <;> first | (cases hc; done) | skip
    simp only [exec] at h
    exact wp_loopAt (loop_sound hL (m := n) (fun n dfs env st r a w g h hA => exec_sound hμ hR hL hit s _ hc ro hn n dfs env st r a w g h hA) n dfs env st r a w g h hA)
  | .nilc d x sz bytes s, c, hc, ro, hn, n, dfs, env, st, r, a, w, g, h, hA => by
    unfold chkCode at hc
    obtain ⟨h1, h2⟩ := and2 hc
    simp only [exec] at h
    split at h
    · rename_i h0
      cases h
      exact nilc_ok hμ h1 h0 hA fun a' w' g' hx hA' => .at rfl hx hA'
    · exact exec_sound hμ hR hL hit s c h2 ro hn n dfs env st r a w g h hA
  | .grow d m sz bytes, c, hc, ro, hn, n, dfs, env, st, r, a, w, g, h, hA => by
    unfold chkCode at hc
    split at hc <;> first | (cases hc; done) | skip
    rename_i id ops dr
    obtain ⟨h1, h2⟩ := and2 hc
    simp only [exec] at h
    obtain ⟨rfl, k⟩ := grow_ok (Q := CPost w g μ nt dfs r) hμ h2 h hA
    have hdr : dr = false := by simpa using h1
    subst hdr
    exact wpIn_region (k fun a' w' g' hx hA' => .at rfl hx hA')
  | .range k f x ps sa b, c, hc, ro, hn, n, dfs, env, st, r, a, w, g, h, hA => by
    unfold chkCode at hc
    split at hc <;> first | (cases hc; done) | skip
    simp only [Bool.and_eq_true, decide_eq_true_eq] at hc
    obtain ⟨⟨⟨⟨⟨⟨c1, c2⟩, c3⟩, c4⟩, c5⟩, c6⟩, c7⟩ := hc
    have hro : ro = none := hn.resolve_right (by simp [noR])
    subst hro
    exact range_ok hμ hL hit c1 (List.contains_iff_mem.1 c2) c3 (fun l n dfs env st r a w g h hA => exec_sound hμ hR hL hit sa _ c5 (some l) (.inr c4) n dfs env st r a w g h hA)
      (fun l n dfs env st r a w g h hA => exec_sound hμ hR hL hit b _ c7 (some l) (.inr c6) n dfs env st r a w g h hA) h hA
  | .clone d x sz bytes, c, hc, ro, hn, n, dfs, env, st, r, a, w, g, h, hA => by
    unfold chkCode at hc
    split at hc <;> first | (cases hc; done) | skip
    rename_i id ops dr
    obtain ⟨h1, h2⟩ := and2 hc
    simp only [exec] at h
    obtain ⟨e, env', st'⟩ := r
    obtain ⟨rfl, k⟩ := clone_ok (Q := CPost w g μ nt dfs (e, env', st')) hμ h2 h hA
    have hdr : dr = false := by simpa using h1
    subst hdr
    exact wpIn_region (k fun a' w' g' hx hA' => .at rfl hx hA')
end
end Go.Q
