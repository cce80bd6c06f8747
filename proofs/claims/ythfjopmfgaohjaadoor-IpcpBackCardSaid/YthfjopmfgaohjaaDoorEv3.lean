/- Code: what the abstract machine tells of it holds. No condition. -/
import Derived.Test.YthfjopmfgaohjaaDoorEv2
import Derived.Test.YthfjopmfgaohjaaDoorEv1
import Derived.Below
set_option linter.all false
namespace Go.Q
variable [Known] [Iters]

def chkReg (μ : List Nat) (nt : Nat) (P : Program) (ops : Array Oper) (dr : Bool) (l : List SOper) : Option (List (Option Nat)) :=
  if dr = true then chkDraw μ nt P ops l else chkOps μ nt P ops ops.toList l []
def isIfs : SCode → Bool
  | .ifs _ _ _ _ => true
  | _ => false
def noR : SCode → Bool
  | .range _ _ _ _ _ _ => false
  | .ifs _ _ a b => noR a && noR b
  | .seq a b => noR a && noR b
  | .block _ a => noR a
  | .loop _ a => noR a
  | .nilc _ _ _ _ a => noR a
  | .frame a => noR a
  | _ => true
theorem noR2 {ro : Option Nat} {a b : Bool} (h : ro = none ∨ (a && b) = true) : (ro = none ∨ a = true) ∧ (ro = none ∨ b = true) := by
  rcases h with h | h
  · exact ⟨.inl h, .inl h⟩
  · simp only [Bool.and_eq_true] at h; exact ⟨.inr h.1, .inr h.2⟩
def isSkip : SCode → Bool
  | .skip => true
  | _ => false
def lblOf : Code → Nat
  | .seq (.label l) _ => l
  | .seq _ b => lblOf b
  | _ => 0
mutual
def chkCode (μ : List Nat) (nt : Nat) (P : Program) : SCode → Code → Bool
  | .skip, c => match c with | .skip => true | .label _ => true | _ => false
  | .ret, c => match c with | .ret => true | _ => false
  | .exit i, c => match c with | .exit j => i == j | _ => false
  | .ops l, c => match c with | .region _ ops dr => (chkReg μ nt P ops dr l).isSome | _ => false
  | .ifs l x sa sb, c => match c with
    | .seq (.region _ ops dr) (.cond y a b) => (orF (chkReg μ nt P ops dr l) fun τ => chkO μ τ y x) && chkCode μ nt P sa a && chkCode μ nt P sb b
    | .cond y a b => l.isEmpty && chkO μ [] y x && chkCode μ nt P sa a && chkCode μ nt P sb b
    | _ => false
  | .seq s t, c => match c with
    | .seq (.region i ops dr) (.seq (.cond y a b) e) => (isIfs s && chkCode μ nt P s (.seq (.region i ops dr) (.cond y a b)) && chkCode μ nt P t e) || (chkCode μ nt P s (.region i ops dr) && chkCode μ nt P t (.seq (.cond y a b) e))
    | .seq a b => (chkCode μ nt P s a && chkCode μ nt P t b) || (match b with | .seq b1 b2 => chkTwo μ nt P s a b1 && chkCode μ nt P t b2 | _ => false)
    | .scope c0 => (isSkip t && chkCode μ nt P s c0) || (isSkip s && chkPre μ nt P (lblOf c0) t c0)
    | _ => false
  | .block i s, c => match c with | .block j a => i == j && chkCode μ nt P s a | _ => false
  | .loop _ s, c => match c with | .loop a => chkCode μ nt P s a | _ => false
  | .frame s, c => chkCode μ nt P s c
  | .nilc d x sz bytes s, c => chkNilc μ nt P d x sz bytes c && chkCode μ nt P s c
  | .range k f x ps sa b, c => match c with
    | .rangeFunc (.tmp t) qs asg body => decide (μ[x]? = some t) && Iters.it.contains (k, f) && chkPs2 μ nt ps qs.toList && noR sa && chkCode μ nt P sa asg && noR b && chkCode μ nt P b body
    | _ => false
  | .clone d x sz bytes, c => match c with | .region _ ops dr => !dr && chkClone μ nt P d x sz bytes ops.toList | _ => false
  | .grow d n sz bytes, c => match c with | .region _ ops dr => !dr && chkGrow μ nt P d n sz bytes ops.toList | _ => false
def chkTwo (μ : List Nat) (nt : Nat) (P : Program) : SCode → Code → Code → Bool
  | .frame s, a, b => chkTwo1 μ nt P s a b
  | _, _, _ => false
def chkTwo1 (μ : List Nat) (nt : Nat) (P : Program) : SCode → Code → Code → Bool
  | .seq s t, a, b => chkCode μ nt P s a && chkCode μ nt P t b
  | _, _, _ => false
def chkTail (μ : List Nat) (nt : Nat) (P : Program) (l : Nat) : SCode → Code → Bool
  | .skip, c => match c with | .goto j => decide (j = l) | _ => false
  | .seq s t, c => match c with | .seq a b => chkCode μ nt P s a && chkTail μ nt P l t b | _ => false
  | _, _ => false
def chkPre (μ : List Nat) (nt : Nat) (P : Program) (l : Nat) : SCode → Code → Bool
  | .seq s t, c => match c with | .seq a b => (findLabel a l).isNone && chkCode μ nt P s a && chkPre μ nt P l t b | _ => false
  | .loop _ s, c => match c with | .seq (.label j) b => decide (j = l) && chkTail μ nt P l s b | _ => false
  | _, _ => false
end

def exOf : Ex → Exit
  | .normal => .normal
  | .exit i => .exit i
  | .ret => .ret

def Marks (N : Nat) (w : World) (g : Gh) (dfs : List Deferred) : Prop := dfs.Nodup ∧ ∀ d ∈ dfs, ∃ D, N ≤ D ∧ d = markOf D ∧ w.heap[D]? = some (.deferred (some [])) ∧ ¬ g.M D
theorem Marks.ext {N : Nat} {w w' : World} {g g' : Gh} {dfs : List Deferred} (h : Marks N w g dfs) (hx : Ext w w' g g') : Marks N w' g' dfs := ⟨h.1, fun d hd => by
  obtain ⟨D, h0, h1, h2, h3⟩ := h.2 d hd
  obtain ⟨h4, _, h5⟩ := hx.old D (Array.getElem?_eq_some_iff.1 h2).1 h3
  exact ⟨D, h0, h1, h4.trans h2, h5⟩⟩
def CPost (w : World) (g : Gh) (μ : List Nat) (nt : Nat) (dfs : List Deferred) (r : Out) (e : Exit) (a' : Act) (w' : World) : Prop :=
  e = exOf r.1 ∧ ∃ g' dfs', Ext w w' g g' ∧ (∀ N, N ≤ w.heap.size → Marks N w g dfs → Marks N w' g' dfs') ∧ At w' g' μ nt dfs' [] r.2.1 [] r.2.2 a'

section
variable {ro : Option Nat} {P : Program} {w : World} {g : Gh} {μ : List Nat} {nt : Nat} {dfs : List Deferred} {env ts : List D} {st : St} {a : Act} {R : Run}

theorem At.bare {τ : List (Option Nat)} (h : At w g μ nt dfs τ env ts st a) : At w g μ nt dfs [] env [] st a := ⟨⟨h.r.s, h.r.e, fun j t hj => by simp at hj⟩, h.n, h.d, rfl, h.st⟩
theorem CPost.of' {w1 : World} {g1 : Gh} {dfs1 : List Deferred} {r : Out} {e : Exit} {a' : Act} {w' : World} (hx : Ext w w1 g g1) (hm : ∀ N, N ≤ w.heap.size → Marks N w g dfs → Marks N w1 g1 dfs1) (h : CPost w1 g1 μ nt dfs1 r e a' w') : CPost w g μ nt dfs r e a' w' := by
  obtain ⟨h1, g', dfs', h2, h4, h3⟩ := h
  exact ⟨h1, g', dfs', hx.trans h2, fun N hN m => h4 N (Nat.le_trans hN hx.size) (hm N hN m), h3⟩
theorem CPost.of {w1 : World} {g1 : Gh} {r : Out} {e : Exit} {a' : Act} {w' : World} (hx : Ext w w1 g g1) (h : CPost w1 g1 μ nt dfs r e a' w') : CPost w g μ nt dfs r e a' w' := h.of' hx (fun N _ m => m.ext hx)
theorem CPost.at {r : Out} {e : Exit} {a' : Act} {w' : World} {g' : Gh} (he : e = exOf r.1) (hx : Ext w w' g g') (h : At w' g' μ nt dfs [] r.2.1 [] r.2.2 a') : CPost w g μ nt dfs r e a' w' := ⟨he, g', dfs, hx, fun N _ m => m.ext hx, h⟩

theorem region_ok {id : Nat} {ops : Array Oper} {dr : Bool} {l : List SOper} {τ : List (Option Nat)} {q : List D × List D × St} {Q : Exit → Act → World → Prop} (hμ : μ.Nodup) (hR : ROk P R) (hL : RLen R)
    (hc : chkReg μ nt P ops dr l = some τ) (he : evOps R l env [] st = some q) (h : At w g μ nt dfs [] env [] st a)
    (k : ∀ a' w' g', Ext w w' g g' → At w' g' μ nt dfs τ q.1 q.2.1 q.2.2 a' → Q .normal a' w') : (Code.region id ops dr).wpIn (wideR ro) 0 P Q a w := by
  unfold chkReg at hc
  cases dr with
  | true => exact draw_ok hμ hR hL hc he h k
  | false =>
    simp only [Bool.false_eq_true, if_false] at hc
    refine wpIn_region ?_
    have := ops_sound (ro := ro) (Q := Q) hμ hR hL ops.toList l 0 [] env [] st a w g q rfl hc h he k
    rw [List.range_eq_range']
    simpa using this

def LoopAt (ro : Option Nat) (P : Program) (c : Code) (Q : Exit → Act → World → Prop) (a : Act) (w : World) : Prop :=
  ∀ (b : Frame) (k : List Item) (cs : List Frame), b.roundOf = ro → ∃ e a' w', Q e a' w' ∧ ArrivesIn (Machine.fenced P (wideR ro)) P (lone (b.atR a (.code c :: .inLoop c :: k)) cs w) b k cs e a' w'
theorem roomR (ro : Option Nat) (n : Nat) : (wideR ro).room n := fun d hd => by cases hd
theorem loopAt_of {ro : Option Nat} {c : Code} {Q : Exit → Act → World → Prop} (h : c.wpIn (wideR ro) 0 P (Exit.then (LoopAt ro P c Q) Q) a w) : LoopAt ro P c Q a w := by
  intro b k cs hro
  obtain ⟨e, a₁, w₁, hq, harr⟩ := h b (.inLoop c :: k) cs hro trivial (roomR _ _)
  cases e with
  | normal =>
    obtain ⟨e₂, a₂, w₂, hq₂, harr₂⟩ := hq b k cs hro
    exact ⟨e₂, a₂, w₂, hq₂, .of_steps (StepsIn.trans harr (.one (fenced_calm (n := 0) (F := wideR ro) trivial (roomR _ _) rfl) stepR_inLoop)) harr₂⟩
  | exit id => exact ⟨_, a₁, w₁, hq, .pass (x := .inLoop c) rfl (fun _ _ => .inl (by simp)) harr⟩
  | goto l => exact ⟨_, a₁, w₁, hq, .pass (x := .inLoop c) rfl (fun _ _ => .inl (by simp)) harr⟩
  | ret => exact ⟨_, a₁, w₁, hq, .pass (x := .inLoop c) rfl (fun _ _ => .inl (by simp)) harr⟩
  | panic ch => exact ⟨_, a₁, w₁, hq, .pass (x := .inLoop c) rfl (fun _ _ => .inl (by simp)) harr⟩
  | outgrown => exact ⟨_, a₁, w₁, hq, .pass (x := .inLoop c) rfl (fun _ _ => .inl (by simp)) harr⟩
theorem wp_loopAt {ro : Option Nat} {c : Code} {Q : Exit → Act → World → Prop} (h : LoopAt ro P c Q a w) : (Code.loop c).wpIn (wideR ro) 0 P Q a w := by
  intro b k cs hro hb hr
  obtain ⟨e, a', w', hq, harr⟩ := h b k cs hro
  exact ⟨e, a', w', hq, .of_steps (.one (fenced_calm hb hr rfl) stepR_loop) harr⟩
theorem LoopAt.mono {ro : Option Nat} {c : Code} {Q Q' : Exit → Act → World → Prop} (h : LoopAt ro P c Q a w) (hq : ∀ e a w, Q e a w → Q' e a w) : LoopAt ro P c Q' a w := fun b k cs hro =>
  let ⟨e, a', w', h1, h2⟩ := h b k cs hro; ⟨e, a', w', hq _ _ _ h1, h2⟩

theorem loopN_len {body : List D → St → Option Out} {kill : List Nat} (hb : ∀ env st r, st ≠ [] → body env st = some r → r.2.1.length = env.length ∧ r.2.2.length = st.length) :
    ∀ (n : Nat) {env : List D} {st : St} {r : Out}, loopN body kill n env st = some r → r.2.1.length = env.length ∧ r.2.2.length = st.length
  | 0, env, st, r, h => by cases h
  | n + 1, env, st, r, h => by
    simp only [loopN] at h
    obtain ⟨⟨x, env', st'⟩, h1, h2⟩ := bind_some' h
    have := hb _ _ _ (by simp) h1
    have l1 : (pop (killE kill env') st').1.length = env.length := by simp [pop, killE_len, this.1]
    have l2 : (pop (killE kill env') st').2.length = st.length := by simp [pop, this.2]
    cases x with
    | normal => obtain ⟨k1, k2⟩ := loopN_len hb n h2; exact ⟨k1.trans l1, k2.trans l2⟩
    | exit i => cases h2; exact ⟨l1, l2⟩
    | ret => cases h2; exact ⟨l1, l2⟩
theorem rgU_len {B : List D → St → Option Out} {u : Option (Ref × List UInt8)} (hB : ∀ (env : List D) (st : St) (r : Out), st ≠ [] → B env st = some r → r.2.2.length = st.length) : ∀ (env : List D) (st : St) (r : Out), st ≠ [] → rgU B u env st = some r → r.2.2.length = st.length := by
  intro env st r hne h
  cases u with
  | none => exact hB env st r hne h
  | some q =>
    obtain ⟨rr, t⟩ := q
    simp only [rgU] at h
    obtain ⟨c, h1, h2⟩ := bind_some' h
    obtain ⟨⟨e, env', st'⟩, h3, h4⟩ := bind_some' h2
    have := hB _ _ _ hne h3
    cases e <;> simp only [rgT] at h4
    · split at h4 <;> cases h4
      rw [setB_len]; exact this
    · cases h4; exact this
    · cases h4; exact this
theorem exec_len (hL : RLen R) : ∀ (s : SCode) {n : Nat} {env : List D} {st : St} {r : Out}, st ≠ [] → exec R n s env st = some r → r.2.1.length = env.length ∧ r.2.2.length = st.length
  | .skip, n, env, st, r, hne, h => by simp only [exec] at h; cases h; exact ⟨rfl, rfl⟩
  | .ret, n, env, st, r, hne, h => by simp only [exec] at h; cases h; exact ⟨rfl, rfl⟩
  | .exit i, n, env, st, r, hne, h => by simp only [exec] at h; cases h; exact ⟨rfl, rfl⟩
  | .ops l, n, env, st, r, hne, h => by
    simp only [exec] at h
    obtain ⟨q, h1, rfl⟩ := map_some' h
    exact evOps_len hL hne h1
  | .ifs l c sa sb, n, env, st, r, hne, h => by
    simp only [exec] at h
    obtain ⟨q, h1, h2⟩ := bind_some' h
    obtain ⟨t, h3, h4⟩ := bind_some' h2
    obtain ⟨l1, l2⟩ := evOps_len hL hne h1
    have hne' : q.2.2 ≠ [] := fun e => by rw [e] at l2; exact hne (List.length_eq_zero_iff.1 l2.symm)
    split at h4
    · obtain ⟨k1, k2⟩ := exec_len hL sa hne' h4; exact ⟨k1.trans l1, k2.trans l2⟩
    · obtain ⟨k1, k2⟩ := exec_len hL sb hne' h4; exact ⟨k1.trans l1, k2.trans l2⟩
  | .seq sa sb, n, env, st, r, hne, h => by
    simp only [exec] at h
    obtain ⟨⟨x, env', st'⟩, h1, h2⟩ := bind_some' h
    obtain ⟨l1, l2⟩ := exec_len hL sa hne h1
    have hne' : st' ≠ [] := fun e => by simp only [e] at l2; exact hne (List.length_eq_zero_iff.1 l2.symm)
    cases x with
    | normal => obtain ⟨k1, k2⟩ := exec_len hL sb hne' h2; exact ⟨k1.trans l1, k2.trans l2⟩
    | exit i => cases h2; exact ⟨l1, l2⟩
    | ret => cases h2; exact ⟨l1, l2⟩
  | .block i s, n, env, st, r, hne, h => by
    simp only [exec] at h
    obtain ⟨⟨x, env', st'⟩, h1, h2⟩ := bind_some' h
    have := exec_len hL s hne h1
    cases x with
    | normal => cases h2; exact this
    | exit j => simp only [blkD] at h2; split at h2 <;> cases h2 <;> exact this
    | ret => cases h2; exact this
  | .loop kill s, n, env, st, r, hne, h => by
    simp only [exec] at h
    exact loopN_len (fun env st r hne h => exec_len hL s hne h) n h
  | .frame s, n, env, st, r, hne, h => by
    simp only [exec] at h
    obtain ⟨⟨x, env', st'⟩, h1, rfl⟩ := map_some' h
    obtain ⟨l1, l2⟩ := exec_len hL s (by simp) h1
    exact ⟨by simp [pop, l1], by simp [pop, l2]⟩
  | .nilc d x sz bytes s, n, env, st, r, hne, h => by
    simp only [exec] at h
    split at h
    · cases h; exact ⟨by simp, rfl⟩
    · exact exec_len hL s hne h
  | .grow d m sz bytes, n, env, st, r, hne, h => by
    simp only [exec] at h
    unfold growD at h
    split at h <;> first | (cases h; done) | skip
    split at h <;> cases h
    exact ⟨by simp, rfl⟩
  | .range k f x ps sa b, n, env, st, r, hne, h => by
    simp only [exec] at h
    obtain ⟨xs, _, h2⟩ := bind_some' h
    have hbody : ∀ (env : List D) (st : St) (r : Out), st ≠ [] → rgB (fun env st => exec R n sa env st) (fun env st => exec R n b env st) env st = some r → r.2.2.length = st.length := fun env st r hne h => by
      unfold rgB at h
      obtain ⟨⟨e, env', st'⟩, h3, h4⟩ := bind_some' h
      have l1 := (exec_len hL sa hne h3).2
      have hne' : st' ≠ [] := fun e => by simp only [e] at l1; exact hne (List.length_eq_zero_iff.1 l1.symm)
      cases e <;> simp only [rgM] at h4 <;> first | (cases h4; done) | skip
      split at h4 <;> first | (cases h4; done) | skip
      exact (exec_len hL b hne' h4).2.trans l1
    have hbody := rgU_len (u := iterU st k (cp (getT env x))) hbody
    generalize iterU st k (cp (getT env x)) = u at hbody h2
    have key : ∀ (xs : List (List V)) (st : St) (r : Out), rangeN (rgU (rgB (fun env st => exec R n sa env st) (fun env st => exec R n b env st)) u) ps (env.map cp) xs st = some r → r.2.1.length = env.length ∧ r.2.2.length = st.length := by
      intro xs
      induction xs with
      | nil => intro st r h; simp only [rangeN] at h; split at h <;> cases h; exact ⟨by simp, rfl⟩
      | cons y ys ih =>
        intro st r h
        simp only [rangeN] at h
        split at h <;> first | (cases h; done) | skip
        obtain ⟨⟨e, env', st'⟩, h3, h4⟩ := bind_some' h
        have := hbody _ _ _ (by simp) h3
        have l2 : st'.tail.length = st.length := by rw [List.length_tail, this]; rfl
        cases e <;> simp only [rgC] at h4
        · obtain ⟨h5, h6⟩ := ih _ _ h4; exact ⟨h5, h6.trans l2⟩
        · split at h4 <;> cases h4; exact ⟨by simp, l2⟩
        · split at h4 <;> cases h4; exact ⟨by simp, l2⟩
    exact key xs st r h2
  | .clone d x sz bytes, n, env, st, r, hne, h => by
    simp only [exec] at h
    obtain ⟨ys, _, h2⟩ := bind_some' h
    unfold cloneD at h2
    split at h2 <;> first | (cases h2; done) | skip
    obtain ⟨q, h3, rfl⟩ := map_some' h2
    unfold upB at h3
    split at h3 <;> cases h3
    exact ⟨by simp, by simp [addB]⟩

theorem loop_sound (hL : RLen R) {c : Code} {s : SCode} {kill : List Nat} {m : Nat}
    (ih : ∀ (n : Nat) (dfs : List Deferred) (env : List D) (st : St) (r : Out) (a : Act) (w : World) (g : Gh), exec R n s env st = some r → At w g μ nt dfs [] env [] st a → c.wpIn (wideR ro) 0 P (CPost w g μ nt dfs r) a w) :
    ∀ (n : Nat) (dfs : List Deferred) (env : List D) (st : St) (r : Out) (a : Act) (w : World) (g : Gh), loopN (fun env st => exec R m s env st) kill n env st = some r → At w g μ nt dfs [] env [] st a → LoopAt ro P c (CPost w g μ nt dfs r) a w
  | 0, dfs, env, st, r, a, w, g, h, hA => by cases h
  | n + 1, dfs, env, st, r, a, w, g, h, hA => by
    simp only [loopN] at h
    obtain ⟨⟨x, env1, st1⟩, h1, h2⟩ := bind_some' h
    have hpush : At w g μ nt dfs [] env [] ([] :: st) a := ⟨⟨hA.r.s.push, hA.r.e, hA.r.t⟩, hA.n, hA.d, rfl, by simp⟩
    have hlen := (exec_len hL s (by simp) h1).2
    have hlen' : st1.length = st.length + 1 := by simpa using hlen
    refine loopAt_of (wpIn_mono (ih m dfs env _ _ a w g h1 hpush) fun e a1 w1 hp => ?_)
    obtain ⟨rfl, g1, dfs1, hx, hm, hA1⟩ := hp
    have hA1' : RelA w1 g1 μ [] env1 [] st1 a1.tmps := hA1.r
    have hP := popA_rel (killE_rel kill hA1') hlen'
    have hE := (pop_rel hA1'.s hlen').E hx (fun r hr => by
      obtain ⟨b, hb⟩ := (hA.r.s.live r).1 hr
      exact getB_lvl hb)
    have hl2 : (pop (killE kill env1) st1).2.length = st.length := by simp [pop, hlen']
    have hm2 : ∀ N, N ≤ w.heap.size → Marks N w g dfs → Marks N w1 (g1.pop w1 st.length) dfs1 := fun N hN m => ⟨(hm N hN m).1, fun d hd => by
      obtain ⟨D, e0, e1, e2, e3⟩ := (hm N hN m).2 d hd
      exact ⟨D, e0, e1, e2, fun hh => e3 hh.1⟩⟩
    have hA2 : At w1 (g1.pop w1 st.length) μ nt dfs1 [] (pop (killE kill env1) st1).1 [] (pop (killE kill env1) st1).2 a1 :=
      ⟨hP, hA1.n, hA1.d, rfl, fun e => by rw [e] at hl2; exact hA.st (List.length_eq_zero_iff.1 hl2.symm)⟩
    cases x with
    | normal => exact (loop_sound hL ih n _ _ _ r a1 w1 _ h2 hA2).mono fun e a w hq => hq.of' hE hm2
    | exit i => cases h2; exact ⟨rfl, _, _, hE, hm2, hA2⟩
    | ret => cases h2; exact ⟨rfl, _, _, hE, hm2, hA2⟩

theorem frame_post (hA : At w g μ nt dfs [] env [] st a) {x : Ex} {env1 : List D} {st1 : St} (hlen' : st1.length = st.length + 1) {e : Exit} {a1 : Act} {w1 : World} (hp : CPost w g μ nt dfs (x, env1, st1) e a1 w1) :
    CPost w g μ nt dfs (x, (pop env1 st1).1, (pop env1 st1).2) e a1 w1 := by
  obtain ⟨rfl, g1, dfs1, hx, hm, hA1⟩ := hp
  have hA1' : RelA w1 g1 μ [] env1 [] st1 a1.tmps := hA1.r
  have hP := popA_rel hA1' hlen'
  have hE := (pop_rel hA1'.s hlen').E hx (fun r hr => by
    obtain ⟨b, hb⟩ := (hA.r.s.live r).1 hr
    exact getB_lvl hb)
  have hl2 : (pop env1 st1).2.length = st.length := by simp [pop, hlen']
  have hm2 : ∀ N, N ≤ w.heap.size → Marks N w g dfs → Marks N w1 (g1.pop w1 st.length) dfs1 := fun N hN m => ⟨(hm N hN m).1, fun d hd => by
    obtain ⟨D, e0, e1, e2, e3⟩ := (hm N hN m).2 d hd
    exact ⟨D, e0, e1, e2, fun hh => e3 hh.1⟩⟩
  have hA2 : At w1 (g1.pop w1 st.length) μ nt dfs1 [] (pop env1 st1).1 [] (pop env1 st1).2 a1 :=
    ⟨hP, hA1.n, hA1.d, rfl, fun e => by rw [e] at hl2; exact hA.st (List.length_eq_zero_iff.1 hl2.symm)⟩
  exact ⟨rfl, _, _, hE, hm2, hA2⟩
theorem frame_sound (hL : RLen R) {c : Code} {s : SCode}
    (ih : ∀ (n : Nat) (dfs : List Deferred) (env : List D) (st : St) (r : Out) (a : Act) (w : World) (g : Gh), exec R n s env st = some r → At w g μ nt dfs [] env [] st a → c.wpIn (wideR ro) 0 P (CPost w g μ nt dfs r) a w)
    (n : Nat) (dfs : List Deferred) (env : List D) (st : St) (r : Out) (a : Act) (w : World) (g : Gh) (h : exec R n (.frame s) env st = some r) (hA : At w g μ nt dfs [] env [] st a) : c.wpIn (wideR ro) 0 P (CPost w g μ nt dfs r) a w := by
  simp only [exec] at h
  obtain ⟨⟨x, env1, st1⟩, h1, rfl⟩ := map_some' h
  have hpush : At w g μ nt dfs [] env [] ([] :: st) a := ⟨⟨hA.r.s.push, hA.r.e, hA.r.t⟩, hA.n, hA.d, rfl, by simp⟩
  have hlen := (exec_len hL s (by simp) h1).2
  have hlen' : st1.length = st.length + 1 := by simpa using hlen
  exact wpIn_mono (ih n dfs env _ _ a w g h1 hpush) fun e a1 w1 hp => frame_post hA hlen' hp
theorem ifs_core (hμ : μ.Nodup) (hR : ROk P R) (hL : RLen R) {sa sb : SCode} {ca cb : Code} {l : List SOper} {x : Opd} {y : Operand} {id : Nat} {ops : Array Oper} {dr : Bool} {τ : List (Option Nat)}
    (iha : ∀ (n : Nat) (dfs : List Deferred) (env : List D) (st : St) (r : Out) (a : Act) (w : World) (g : Gh), exec R n sa env st = some r → At w g μ nt dfs [] env [] st a → ca.wpIn (wideR ro) 0 P (CPost w g μ nt dfs r) a w)
    (ihb : ∀ (n : Nat) (dfs : List Deferred) (env : List D) (st : St) (r : Out) (a : Act) (w : World) (g : Gh), exec R n sb env st = some r → At w g μ nt dfs [] env [] st a → cb.wpIn (wideR ro) 0 P (CPost w g μ nt dfs r) a w)
    (hc : chkReg μ nt P ops dr l = some τ) (hy : chkO μ τ y x = true) {n : Nat} {r : Out} {Q : Exit → Act → World → Prop} (h : exec R n (.ifs l x sa sb) env st = some r) (hA : At w g μ nt dfs [] env [] st a)
    (K : Act → World → Prop) (hK : ∀ a' w', (Code.cond y ca cb).wpIn (wideR ro) 0 P (CPost w g μ nt dfs r) a' w' → K a' w') :
    (Code.region id ops dr).wpIn (wideR ro) 0 P (Exit.then K Q) a w := by
  simp only [exec] at h
  obtain ⟨q, h1, h2⟩ := bind_some' h
  obtain ⟨t, h3, h4⟩ := bind_some' h2
  refine region_ok hμ hR hL hc h1 hA fun a' w' g' hx hA' => hK _ _ ?_
  have hb := boolD_rel (rd_rel hA'.r hy (fun _ => .nil)) h3
  cases t with
  | true =>
    simp only [if_true] at h4
    exact wpIn_cond_true hb (wpIn_mono (iha n _ _ _ r a' w' g' h4 hA'.bare) fun e a w hq => hq.of hx)
  | false =>
    simp only [Bool.false_eq_true, if_false] at h4
    exact wpIn_cond_false hb (wpIn_mono (ihb n _ _ _ r a' w' g' h4 hA'.bare) fun e a w hq => hq.of hx)

theorem nilRel {w : World} {g : Gh} {d : D} {v : Value} {pl : Nat → Pl} (h : RelD w g pl d v) : RelD w g (fun _ => .nil) (cp d) v := h.cp
theorem cp_free {w : World} {g : Gh} {d : D} {v : Value} (hn : ∀ b, g.own b ≠ some .nil) (h : RelD w g (fun _ => .nil) (cp d) v) (pl : Nat → Pl) : RelD w g pl (cp d) v := by
  have := h.cp (pl' := pl)
  rwa [cp_cp] at this
theorem rangeN_len {body : List D → St → Option Out} {ps env0} (hb : ∀ env st r, st ≠ [] → body env st = some r → r.2.2.length = st.length) : ∀ {xs : List (List V)} {st : St} {r : Out}, rangeN body ps env0 xs st = some r → solid st = true ∧ solid r.2.2 = true ∧ r.2.1 = env0 ∧ r.2.2.length = st.length
  | [], st, r, h => by
    simp only [rangeN] at h
    split at h <;> cases h
    rename_i hs
    exact ⟨hs, hs, rfl, rfl⟩
  | x :: xs, st, r, h => by
    simp only [rangeN] at h
    split at h <;> first | (cases h; done) | skip
    rename_i hs
    obtain ⟨⟨e, env', st'⟩, h1, h2⟩ := bind_some' h
    have l1 : st'.tail.length = st.length := by
      have := hb _ _ _ (by simp) h1
      rw [List.length_tail, this]; rfl
    cases e <;> simp only [rgC] at h2
    · obtain ⟨h3, h4, h5, h6⟩ := rangeN_len hb h2
      exact ⟨hs, h4, h5, h6.trans l1⟩
    · split at h2 <;> cases h2; rename_i h3; exact ⟨hs, h3, rfl, l1⟩
    · split at h2 <;> cases h2; rename_i h3; exact ⟨hs, h3, rfl, l1⟩
theorem foldA (qs : Array Tmp) (e tm : Array Value) : (qs.zip e).foldl (fun t (p, v) => t.setIfInBounds p v) tm = (qs.toList.zip e.toList).foldl (fun t (p, v) => t.setIfInBounds p v) tm := by
  rw [← Array.foldl_toList, Array.toList_zip]
theorem range_ok (hμ : μ.Nodup) (hL : RLen R) {k f x : Nat} (hit : IterOk1 P (k + 1) f) {ps : List Nat} {sa b : SCode} {t : Tmp} {qs : Array Tmp} {asg body : Code}
    (c1 : μ[x]? = some t) (c3 : chkPs2 μ nt ps qs.toList = true)
    (iha : ∀ (l n : Nat) (dfs : List Deferred) (env : List D) (st : St) (r : Out) (a : Act) (w : World) (g : Gh), exec R n sa env st = some r → At w g μ nt dfs [] env [] st a → asg.wpIn (wideR (some l)) 0 P (CPost w g μ nt dfs r) a w)
    (ih : ∀ (l n : Nat) (dfs : List Deferred) (env : List D) (st : St) (r : Out) (a : Act) (w : World) (g : Gh), exec R n b env st = some r → At w g μ nt dfs [] env [] st a → body.wpIn (wideR (some l)) 0 P (CPost w g μ nt dfs r) a w)
    {n : Nat} {r : Out} (h : exec R n (.range (k + 1) f x ps sa b) env st = some r) (hA : At w g μ nt dfs [] env [] st a) : (Code.rangeFunc (.tmp t) qs asg body).wpIn (wideR none) 0 P (CPost w g μ nt dfs r) a w := by
  simp only [exec] at h
  obtain ⟨xs, h1, h2⟩ := bind_some' h
  rw [show iterU st (k + 1) (cp (getT env x)) = none from rfl, rgU_none] at h2
  have hS := hA.r.s
  have hx := nilRel (hA.r.e x t c1)
  unfold iterD at h1
  split at h1 <;> first | (cases h1; done) | skip
  rename_i f' cs hcl
  split at h1 <;> first | (cases h1; done) | skip
  rename_i hf
  subst hf
  rw [hcl] at hx
  obtain ⟨vc, hl, hg, hcs⟩ : ∃ vc : Array Value, ∃ hl : cs.length = vc.size, a.eval (.tmp t) = .func (.func f') #[] vc ∧ ∀ i (h : i < cs.length), RelD w g (fun _ => .nil) cs[i] (vc[i]'(hl ▸ h)) := by
    have hx : RelD w g (fun _ => .nil) (.clo f' [] cs) (a.eval (.tmp t)) := hx
    generalize a.eval (.tmp t) = v at hx
    cases hx with | clo _ _ _ _ vf vc e1 e2 e3 e4 =>
    have : vf = #[] := Array.size_eq_zero_iff.1 (by simpa using e1.symm)
    subst this
    exact ⟨vc, e2, rfl, e4⟩
  obtain ⟨xs', h10, h1'⟩ := bind_some' h1
  unfold ofLen at h1'
  split at h1' <;> first | (cases h1'; done) | skip
  rename_i hps
  obtain rfl := Option.some.inj h1'
  obtain ⟨hfn, hit⟩ := hit st cs xs' h10
  obtain ⟨encs, he, hseq⟩ := hit vc w g hl hcs hS
  have hbody : ∀ (env : List D) (st : St) (r : Out), st ≠ [] → rgB (fun env st => exec R n sa env st) (fun env st => exec R n b env st) env st = some r → r.2.2.length = st.length := fun env st r hne h => by
    unfold rgB at h
    obtain ⟨⟨e, env', st'⟩, h3, h4⟩ := bind_some' h
    have l1 := (exec_len hL sa hne h3).2
    have hne' : st' ≠ [] := fun e => by simp only [e] at l1; exact hne (List.length_eq_zero_iff.1 l1.symm)
    cases e <;> simp only [rgM] at h4 <;> first | (cases h4; done) | skip
    split at h4 <;> first | (cases h4; done) | skip
    exact (exec_len hL b hne' h4).2.trans l1
  have hlen := rangeN_len hbody h2
  have hne : st.length = (st.length - 1) + 1 := by
    cases st with
    | nil => exact absurd rfl hA.st
    | cons a l => simp
  have env0 : ∀ i q, μ[i]? = some q → RelD w g (fun _ => .nil) (cp (getT env i)) (a.tmps.getD q undef) := fun i q hi => nilRel (hA.r.e i q hi)
  have envAt : ∀ {W : World} {g' : Gh}, Ext w W g g' → (∀ b, g'.own b ≠ some .nil) → ∀ i q, μ[i]? = some q → RelD W g' (fun _ => .env i) (getT (env.map cp) i) (a.tmps.getD q undef) := fun hx hn i q hi => by
    rw [getT_map _ rfl]
    exact cp_free hn ((env0 i q hi).mono hx.keeps hS.nil (fun b k hb => absurd hb (hS.nil b)) hx.refs) _
  have turnI : ∀ {A B : World} {row : Option Nat}, A.grownBy B row → (∀ r, row = some r → w.heap.size ≤ r ∧ ∃ o : Obj, A.heap[r]? = some o ∧ o.isCells = false) → Turn w.heap.size A B := Turn.of
  have hbl : ∀ p ∈ Known.bl, p.1 < w.heap.size := fun p hp => (hS.gl.2 p hp).2.1
  have hfr : ∀ b, w.heap.size ≤ b → g.L b = 0 := fun b hb => (hS.fresh b hb).1
  let env1 := env.map cp
  let I : Nat → World → Prop := fun i W => ∃ si gi, rangeN (rgB (fun env st => exec R n sa env st) (fun env st => exec R n b env st)) ps env1 (xs'.drop i) si = some r ∧ RelS W gi si ∧ Ext w W g gi ∧ si.length = st.length
  let Ix : Code → World → Prop := fun c W => ∃ gi, (r.1 = .ret ∧ c = .ret ∨ ∃ j, r.1 = .exit j ∧ c = .exit j) ∧ RelS W gi r.2.2 ∧ Ext w W g gi
  let Mid : Nat → Act → World → Prop := fun i a1 W => ∃ e2 s2 g2 dfs2, (exec R n b (e2.map cp) s2).bind (rgC (rangeN (rgB (fun env st => exec R n sa env st) (fun env st => exec R n b env st)) ps env1 (xs'.drop (i + 1))) env1) = some r ∧ At W g2 μ nt dfs2 [] e2 [] s2 a1 ∧ Ext w W g g2 ∧ solid s2 = true ∧ s2.length = st.length + 1
  have fin : ∀ (D : Nat) (W : World) (gi : Gh), w.heap.size ≤ D → RelS W gi r.2.2 → Ext w W g gi → W.heap[D]? = some (.deferred (some [])) →
      ∃ g' dfs', Ext w W g g' ∧ (∀ N, N ≤ w.heap.size → Marks N w g dfs → Marks N W g' dfs') ∧ At W g' μ nt dfs' [] r.2.1 [] r.2.2 { a with defers := markOf D :: a.defers } := fun D W gi hD hs hx hd => by
    have hs' := hs.cut hlen.2.1
    refine ⟨gi.cut W, markOf D :: dfs, hx.cut, fun N hN m => ⟨List.nodup_cons.2 ⟨fun hmem => ?_, m.1⟩, fun d hd' => ?_⟩, ⟨⟨hs', fun i q hi => ?_, fun j q hj => by simp at hj⟩, hA.n, by rw [hA.d], rfl, fun e => ?_⟩⟩
    · obtain ⟨D', _, e1, e2, _⟩ := m.2 _ hmem
      have : D = D' := by simpa [markOf] using e1
      have := (Array.getElem?_eq_some_iff.1 e2).1
      omega
    · rcases List.mem_cons.1 hd' with rfl | hd'
      · refine ⟨D, Nat.le_trans hN hD, rfl, hd, fun hm => ?_⟩
        obtain ⟨o, h3, h4⟩ := hm.2
        rw [hd] at h3; cases h3; cases h4
      · exact (m.ext hx.cut).2 d hd'
    · rw [hlen.2.2.1]
      exact envAt hx.cut hs'.nil i q hi
    · have := hlen.2.2.2
      rw [e] at this
      exact hA.st (List.length_eq_zero_iff.1 this.symm)
  refine range_law (n := xs'.length) (encs := encs) (I := I) (Ix := Ix) (Kp := KeepL g.L) (Mid := Mid)
    hg (fun args w => call_run hfn) hseq (fun h1 h2 b o ho => (h2 b o ho).trans (h1 b o ho)) (fun W l o o' hl hw hc b o2 ho => ?_) (fun i hi => ?_) (fun i A B row hs hb hr => ?_) (fun c u A B row hs hb hr => ?_)
    ⟨st, g, by simpa using h2, hS, Ext.refl w g, rfl⟩ (fun i a1 u A B row hs hb hr => ?_) (fun l i W hI hi => ?_) (fun l i a1 W hM hi => ?_) (fun D W hD hI hd => ?_) (fun D c W hD hI hd => ?_)
  · -- what is held is not turned
    have : b ≠ l := fun e => by rw [e, hfr l hl] at ho; omega
    exact (cell_heap (World.putObj_heap_other this) o2).1
  · -- as many as there are
    obtain ⟨e1, _⟩ := he i hi
    have h3 : (xs'[i]).length = ps.length := by simpa using List.all_eq_true.1 hps _ (List.getElem_mem hi)
    have h4 := chkPs2_len c3
    rw [← Array.length_toList, ← Array.length_toList, e1, h3, h4]
  · obtain ⟨si, gi, q1, q2, q3, q4⟩ := hs
    have tn := turnI hb hr
    exact ⟨si, gi, q1, q2.turn tn (rangeN_len hbody q1).1 hbl, q3.turn tn hfr, q4⟩
  · obtain ⟨gi, q1, q2, q3⟩ := hs
    have tn := turnI hb hr
    exact ⟨gi, q1, q2.turn tn hlen.2.1 hbl, q3.turn tn hfr⟩
  · obtain ⟨e2, s2, g2, dfs2, m1, m2, m3, m4, m5⟩ := hs
    have tn := turnI hb hr
    exact ⟨e2, s2, g2, dfs2, m1, ⟨⟨m2.r.s.turn tn m4 hbl, fun i t hi => (m2.r.e i t hi).turn tn, fun j t hj => by simp at hj⟩, m2.n, m2.d, rfl, m2.st⟩, m3.turn tn hfr, m4, m5⟩
  · -- a round's head
    obtain ⟨si, gi, q1, q2, q3, q4⟩ := hI
    have hdrop : xs'.drop i = xs'[i] :: xs'.drop (i + 1) := List.drop_eq_getElem_cons hi
    rw [hdrop] at q1
    simp only [rangeN] at q1
    split at q1 <;> first | (cases q1; done) | skip
    rename_i hsol
    have hpl : (xs'[i]).length = ps.length := by simpa using List.all_eq_true.1 hps _ (List.getElem_mem hi)
    obtain ⟨q5, q6, q7⟩ := bind_some' q1
    unfold rgB at q6
    obtain ⟨⟨e, env2, st2⟩, q8, q9⟩ := bind_some' q6
    have hsi := q2.cut hsol
    have hxi := q3.cut
    have hA0 : RelA W (gi.cut W) μ [] env1 [] ([] :: si) a.tmps := ⟨hsi.push, fun i q hi => envAt hxi hsi.nil i q hi, fun j q hj => by simp at hj⟩
    obtain ⟨e1, e2⟩ := he i hi
    have hA1 := setPs_rel (vs := (encs i).toList) hμ c3 hpl e1 (fun j h1 h2 => (e2 j h1 h2).mono hxi.cell hxi.L) hA.n hA0
    rw [← foldA] at hA1
    have hAt : At W (gi.cut W) μ nt [] [] (setPs ps xs'[i] env1) [] ([] :: si) { tmps := (qs.zip (encs i)).foldl (fun t (p, v) => t.setIfInBounds p v) a.tmps, defers := [] } := ⟨hA1.1, hA1.2, rfl, rfl, by simp⟩
    refine wpIn_mono (iha l n [] _ _ _ _ W _ q8 hAt) fun e' a' W' hp => ?_
    obtain ⟨rfl, g1, dfs1, y1, y2, y3⟩ := hp
    have keepO : KeepsOthers W W' := ⟨y1.size, fun b o hb ho => by
      have := (y1.old b (Array.getElem?_eq_some_iff.1 hb).1 (fun hm => by
        obtain ⟨o', h5, h6⟩ := hm.2
        rw [hb] at h5; cases h5; rw [ho] at h6; cases h6)).1
      rw [this]; exact hb⟩
    cases e <;> simp only [rgM] at q9 <;> first | (cases q9; done) | skip
    split at q9 <;> first | (cases q9; done) | skip
    rename_i hs2
    refine ⟨keepO, fun b o ho => y1.cell b o (Nat.lt_of_lt_of_le ho (q3.L b)), env2, st2, g1, dfs1, ?_, y3, q3.trans y1.ofCut, hs2, ?_⟩
    · rw [q9]; exact q7
    · have := (exec_len hL sa (by simp) q8).2
      rw [this, ← q4]; rfl
  · -- a round's body
    obtain ⟨e2, s2, g2, dfs2, m1, m2, m3, m4, m5⟩ := hM
    obtain ⟨⟨e, env3, st3⟩, q5, q6⟩ := bind_some' m1
    have hs2 := m2.r.s.cut m4
    have hAt : At W (g2.cut W) μ nt dfs2 [] (e2.map cp) [] s2 a1 := by
      refine ⟨⟨hs2, fun i t hi => ?_, fun j t hj => by simp at hj⟩, m2.n, m2.d, rfl, m2.st⟩
      rw [getT_map _ rfl]
      exact cp_free hs2.nil ((nilRel (m2.r.e i t hi)).cut m2.r.s.nil (.inl fun _ => rfl)) _
    refine wpIn_mono (ih l n dfs2 _ _ _ _ W _ q5 hAt) fun e' a' W' hp => ?_
    obtain ⟨rfl, g1, dfs1, y1, y2, y3⟩ := hp
    have l2 : st3.length = (s2.length - 1) + 1 := by
      have := (exec_len hL b m2.st q5).2
      rw [this, m5]; omega
    have PR := pop_rel y3.r.s l2
    have E0 : Ext W W' (g2.cut W) g1 := y1
    have keepO : KeepsOthers W W' := ⟨y1.size, fun b o hb ho => by
      have := (y1.old b (Array.getElem?_eq_some_iff.1 hb).1 (fun hm => by
        obtain ⟨o', h5, h6⟩ := hm.2
        rw [hb] at h5; cases h5; rw [ho] at h6; cases h6)).1
      rw [this]; exact hb⟩
    have E2 : Ext w W' g (g1.pop W' (s2.length - 1)) := PR.E (m3.trans y1.ofCut) fun r hr => by
      obtain ⟨bb, hb⟩ := (hS.live r).1 hr
      have := getB_lvl hb
      omega
    have l3 : st3.tail.length = st.length := by rw [List.length_tail, l2, m5]; omega
    cases e with
    | normal =>
      simp only [rgC] at q6
      exact ⟨keepO, fun b o ho => y1.cell b o (Nat.lt_of_lt_of_le ho (m3.L b)), st3.tail, _, q6, PR.S, E2, l3⟩
    | ret =>
      simp only [rgC] at q6
      split at q6 <;> cases q6
      exact ⟨keepO, _, .inl ⟨rfl, rfl⟩, PR.S, E2⟩
    | exit j =>
      simp only [rgC] at q6
      split at q6 <;> cases q6
      exact ⟨keepO, _, .inr ⟨j, rfl, rfl⟩, PR.S, E2⟩
  · -- all rounds are over
    obtain ⟨si, gi, q1, q2, q3, q4⟩ := hI
    rw [List.drop_length] at q1
    simp only [rangeN] at q1
    split at q1 <;> first | (cases q1; done) | skip
    obtain rfl := Option.some.inj q1
    obtain ⟨g', dfs', z1, z2, z3⟩ := fin D W gi hD q2 q3 hd
    exact ⟨rfl, g', dfs', z1, z2, z3⟩
  · obtain ⟨gi, q1, q2, q3⟩ := hI
    obtain ⟨g', dfs', z1, z2, z3⟩ := fin D W gi hD q2 q3 hd
    rcases q1 with ⟨q1, rfl⟩ | ⟨j, q1, rfl⟩
    · exact wpIn_ret ⟨by rw [q1]; rfl, g', dfs', z1, z2, z3⟩
    · exact wpIn_exit ⟨by rw [q1]; rfl, g', dfs', z1, z2, z3⟩

theorem strB_some {b : Option Blk} {s : List UInt8} (h : strB b = some s) : b = some (.row [.v (.str s)]) := by
  unfold strB at h
  split at h <;> first | (cases h; done) | skip
  cases h; rfl
theorem setB_tail : ∀ {st : St} {r : Ref} {b : Blk}, r.lvl < st.tail.length → (setB st r b).tail = setB st.tail r b
  | [], _, _, h => by simp at h
  | fr :: st, r, b, h => by
    simp only [setB]
    rw [if_neg (by simp at h; omega)]; rfl
theorem getB_tail : ∀ {st : St} {r : Ref}, r.lvl < st.tail.length → getB st r = getB st.tail r
  | [], _, h => by simp at h
  | fr :: st, r, h => by
    rw [getB_cons, if_neg (by simp at h; omega)]; rfl
theorem setB_same : ∀ {st : St} {r : Ref} {b : Blk}, getB st r = some b → setB st r b = st
  | [], _, _, _ => rfl
  | fr :: st, r, b, h => by
    rw [getB_cons] at h
    simp only [setB]
    by_cases e : r.lvl = st.length
    · rw [if_pos e] at h ⊢
      obtain ⟨h1, h2⟩ := List.getElem?_eq_some_iff.1 h
      rw [← h2, List.set_getElem_self]
    · rw [if_neg e] at h ⊢
      rw [setB_same h]
theorem all_set {α : Type} (p : α → Bool) : ∀ (l : List α) (k : Nat) (a b : α), l[k]? = some a → p a = p b → (l.set k b).all p = l.all p
  | [], _, _, _, h, _ => by simp at h
  | x :: l, 0, a, b, h, e => by
    simp at h; subst h
    simp [e]
  | x :: l, k + 1, a, b, h, e => by
    simp at h
    simp [all_set p l k a b h e]
theorem solid_setB (c' : List UInt8) : ∀ {st : St} {r : Ref} {c : List UInt8}, strB (getB st r) = some c → solid (setB st r (.row [.v (.str c')])) = solid st
  | [], _, _, h => by simp [getB, strB] at h
  | fr :: st, r, c, h => by
    rw [getB_cons] at h
    simp only [setB]
    by_cases e : r.lvl = st.length
    · rw [if_pos e] at h ⊢
      simp only [solid, List.all_cons]
      rw [all_set solidB fr r.k _ (.row [.v (.str c')]) (strB_some h) rfl]
    · rw [if_neg e] at h ⊢
      have := solid_setB c' h
      simp only [solid, List.all_cons] at this ⊢
      rw [this]
theorem leftN_next (t : List UInt8) : ∀ (k : Nat) (s : List UInt8), leftN t (k + 1) s = nextS t (leftN t k s)
  | 0, s => rfl
  | k + 1, s => by rw [leftN, leftN_next t k, leftN]
theorem ixS_lt (t : List UInt8) : ∀ (s : List UInt8) (i : Nat), ixS t s = some i → i < s.length
  | [], i, h => by simp [ixS] at h
  | b :: l, i, h => by
    simp only [ixS] at h
    split at h
    · cases h; simp
    · obtain ⟨j, h1, rfl⟩ := map_some' h
      have := ixS_lt t l j h1
      simp; omega
theorem piecesN_pos (t : List UInt8) (n : Nat) (s : List UInt8) : 1 ≤ (piecesN (n + 1) t s).length := by
  simp only [piecesN]
  split <;> simp
theorem leftN_last {t : List UInt8} (ht : t ≠ []) : ∀ (n : Nat) (s : List UInt8), s.length < n → ixS t (leftN t ((piecesN n t s).length - 1) s) = none
  | 0, s, h => by omega
  | n + 1, s, h => by
    cases hi : ixS t s with
    | none => simp only [piecesN, hi]; exact hi
    | some i =>
      have hl := ixS_lt t s i hi
      have htl : 0 < t.length := List.length_pos_iff.2 ht
      have hd : (s.drop (i + t.length)).length < n := by rw [List.length_drop]; omega
      have ih := leftN_last ht n (s.drop (i + t.length)) hd
      have hp : 1 ≤ (piecesN n t (s.drop (i + t.length))).length := by
        obtain ⟨m, rfl⟩ : ∃ m, n = m + 1 := ⟨n - 1, by omega⟩
        exact piecesN_pos t m _
      simp only [piecesN, hi, List.length_cons, Nat.add_sub_cancel]
      obtain ⟨m, hm⟩ : ∃ m, (piecesN n t (s.drop (i + t.length))).length = m + 1 := ⟨_, (Nat.sub_add_cancel hp).symm⟩
      rw [hm] at ih ⊢
      rw [leftN, nextS, hi]
      exact ih
theorem nextS_last {t s : List UInt8} (h : ixS t s = none) : nextS t s = s := by rw [nextS, h]
theorem strV8_of {L : Nat → Nat} {s : List UInt8} {v : Value} (h : RelV w L (.str s) v) : v = strV8 s := by
  cases h with | str b => simp [strV8]
theorem strV8_rel {L : Nat → Nat} (s : List UInt8) : RelV w L (.str s) (strV8 s) := by
  have := RelV.str (w := w) (L := L) ⟨s.toArray⟩
  simpa [strV8] using this
theorem va_cell {pl : Nat → Pl} {x : V} {v : Value} (h : RelD w g pl (.va [x] 0) v) : ∃ b o, v = .pointer (some ⟨b, o, none⟩) ∧ o < g.L b ∧ ∃ u, w.cell? ⟨b, o, none⟩ = some u ∧ RelV w g.L x u := by
  cases h with | va _ _ _ b o f h1 h2 h3 h4 =>
  exact ⟨b, o, by simp, by simpa using h1 0 (by simp), f 0, by simpa using h2 0 (by simp), by simpa using h4 0 (by simp)⟩
theorem str_cell {rr : Ref} {c : List UInt8} (hS : RelS w g st) (hb : getB st rr = some (.row [.v (.str c)])) : g.sz rr = 1 ∧ w.cell? ⟨g.be rr, 0, none⟩ = some (strV8 c) ∧ w.frozen? ⟨g.be rr, 0, none⟩ = false := by
  have hB := hS.blk rr _ hb
  simp only [RelB] at hB
  obtain ⟨h1, h2⟩ := hB.2 0 (by simp)
  have h1 : g.sz rr = 1 := by simpa [cellsOf] using h1.symm
  obtain ⟨_, _, v, h5, h6, h7⟩ := h2 0 (by simp [cellsOf])
  have h7 : RelD w g (fun _ => .cell rr 0 0) (.v (.str c)) v := h7
  have hv := strV8_of h7.toV
  subst hv
  simp only [Nat.zero_mul, Nat.zero_add] at h5 h6
  exact ⟨h1, h5, h6⟩
theorem setCells1 (w : World) (b o : Nat) (v : Value) : w.setCells b o [v] = w.setCell ⟨b, o, none⟩ v := rfl
theorem set_str {rr : Ref} {c : List UInt8} (hS : RelS w g st) (hb : getB st rr = some (.row [.v (.str c)])) (c' : List UInt8) : RelS (w.setCell ⟨g.be rr, 0, none⟩ (strV8 c')) g (setB st rr (.row [.v (.str c')])) := by
  obtain ⟨h1, h2, h3⟩ := str_cell hS hb
  have := set_blk (xs' := [.v (.str c')]) (off := 0) (vs := [strV8 c']) (f := id) hS hb rfl rfl (fun p h => h) (fun _ _ _ => rfl) (fun k hk => by
    have : k = 0 := by simpa using hk
    subst this
    exact ⟨by rw [Nat.add_zero, h2]; rfl, by rw [Nat.add_zero]; exact h3⟩) rfl (fun i hi => by
    have : i = 0 := by simpa using hi
    subst this
    rw [h1]; rfl) (fun i hi j hj => by
    have : i = 0 := by simpa using hi
    subst this
    have : j = 0 := by simpa [cellsOf] using hj
    subst this
    exact .inl ⟨0, strV8 c', fun _ => .cell rr 0 0, by simp, rfl, rfl, rfl, .v _ _ _ (strV8_rel c'), rfl⟩)
  have hmv : g.mv id = g := by
    cases g
    simp [Gh.mv]
  rw [hmv] at this
  exact this
theorem Ext.trans_set {w' : World} {g' : Gh} {b : Nat} {v : Value} (h : Ext w w' g g') (hM : g.M b) (hL : g.L b = 0) (hb : b < w.heap.size) : Ext w (w'.setCell ⟨b, 0, none⟩ v) g g' := by
  obtain ⟨ht, hs⟩ := tape_setCells b [v] 0 w'
  rw [setCells1] at ht hs
  refine ⟨(show (w'.setCell ⟨b, 0, none⟩ v).os = w'.os from World.os_setCells _ b 0 [v]).trans h.os, ht.trans h.tape, (show (w'.setCell ⟨b, 0, none⟩ v).output = w'.output from World.output_setCells _ b 0 [v]).trans h.output, by rw [hs]; exact h.size, fun b' o' hh => ?_, h.L, fun b' hb' hm => ?_, h.refs⟩
  · have hne : b' ≠ b := fun e => by rw [e, hL] at hh; omega
    exact (World.cell?_setCells_out b [v] 0 w' _ fun h1 _ => absurd h1 hne).trans (h.cell b' o' hh)
  · have hne : b' ≠ b := fun e => hm (e ▸ hM)
    obtain ⟨h1, h2, h3⟩ := h.old b' hb' hm
    exact ⟨(RowKit.Below.heap_setCell _ _ _ _ hne).trans h1, h2, h3⟩
theorem range_okU (hμ : μ.Nodup) (hL : RLen R) {f x : Nat} (hit : IterOk0 P f) {ps : List Nat} {sa b : SCode} {t : Tmp} {qs : Array Tmp} {asg body : Code}
    (c1 : μ[x]? = some t) (c3 : chkPs2 μ nt ps qs.toList = true)
    (iha : ∀ (l n : Nat) (dfs : List Deferred) (env : List D) (st : St) (r : Out) (a : Act) (w : World) (g : Gh), exec R n sa env st = some r → At w g μ nt dfs [] env [] st a → asg.wpIn (wideR (some l)) 0 P (CPost w g μ nt dfs r) a w)
    (ih : ∀ (l n : Nat) (dfs : List Deferred) (env : List D) (st : St) (r : Out) (a : Act) (w : World) (g : Gh), exec R n b env st = some r → At w g μ nt dfs [] env [] st a → body.wpIn (wideR (some l)) 0 P (CPost w g μ nt dfs r) a w)
    {n : Nat} {r : Out} (h : exec R n (.range 0 f x ps sa b) env st = some r) (hA : At w g μ nt dfs [] env [] st a) : (Code.rangeFunc (.tmp t) qs asg body).wpIn (wideR none) 0 P (CPost w g μ nt dfs r) a w := by
  simp only [exec] at h
  obtain ⟨xs, h1, h2⟩ := bind_some' h
  have hS := hA.r.s
  have hx := nilRel (hA.r.e x t c1)
  unfold iterD at h1
  split at h1 <;> first | (cases h1; done) | skip
  rename_i f' cs hcl
  split at h1 <;> first | (cases h1; done) | skip
  rename_i hf
  subst hf
  rw [hcl] at hx h2
  obtain ⟨vc, hl, hg, hcs⟩ : ∃ vc : Array Value, ∃ hl : cs.length = vc.size, a.eval (.tmp t) = .func (.func f') #[] vc ∧ ∀ i (h : i < cs.length), RelD w g (fun _ => .nil) cs[i] (vc[i]'(hl ▸ h)) := by
    have hx : RelD w g (fun _ => .nil) (.clo f' [] cs) (a.eval (.tmp t)) := hx
    generalize a.eval (.tmp t) = v at hx
    cases hx with | clo _ _ _ _ vf vc e1 e2 e3 e4 =>
    have : vf = #[] := Array.size_eq_zero_iff.1 (by simpa using e1.symm)
    subst this
    exact ⟨vc, e2, rfl, e4⟩
  obtain ⟨xs', h10, h1'⟩ := bind_some' h1
  unfold ofLen at h1'
  split at h1' <;> first | (cases h1'; done) | skip
  rename_i hps
  obtain rfl := Option.some.inj h1'
  simp only [iterK] at h10
  obtain ⟨⟨rr, tt, ss⟩, h11, hxs⟩ := map_some' h10
  simp only [iterU, h11, Option.map_some] at h2
  unfold splK at h11
  split at h11 <;> first | (cases h11; done) | skip
  rename_i c0 t0 r0 n0
  obtain ⟨s0, h13, h14⟩ := bind_some' h11
  split at h14 <;> cases h14
  rename_i hn0
  obtain ⟨rfl, hlen0⟩ := hn0
  have hb0 := strB_some h13
  have hlv0 : g.live rr := (hS.live rr).2 ⟨_, hb0⟩
  obtain ⟨hM0, hL0, ho0, hsz0⟩ := hS.be rr hlv0
  have hz0 : g.sz rr = 1 := by
    have hB := hS.blk rr _ hb0
    simp only [RelB] at hB
    have := (hB.2 0 (by simp)).1
    simpa [cellsOf] using this.symm
  obtain ⟨v0, v1, v2, rfl⟩ : ∃ v0 v1 v2, vc = #[v0, v1, v2] := by
    have h3 : vc.size = 3 := by simpa using hl.symm
    exact ⟨vc[0], vc[1], vc[2], by
      apply Array.ext
      · simpa using h3
      · intro i hi hj
        have : i = 0 ∨ i = 1 ∨ i = 2 := by simp at hj; omega
        rcases this with rfl | rfl | rfl <;> rfl⟩
  have r0 := hcs 0 (by simp)
  have r1 := hcs 1 (by simp)
  have r2 := hcs 2 (by simp)
  simp only [List.getElem_cons_zero, List.getElem_cons_succ, List.getElem_toArray] at r0 r1 r2
  obtain ⟨b1, o1, rfl, hL1, hc1⟩ := va_cell r0
  obtain ⟨b2, o2, rfl, hL2, hc2⟩ := va_cell r2
  obtain ⟨u1, hc1, hu1⟩ := hc1
  obtain ⟨u2, hc2, hu2⟩ := hc2
  have e1 : u1 = strV8 (c0 :: t0) := strV8_of hu1
  have e2 : u2 = .int .i64 0 := by cases hu2; rfl
  subst e1 e2
  have e3 : v1 = .pointer (some ⟨g.be rr, 0, none⟩) := by
    cases r1
    simp
  subst e3
  obtain ⟨hfn, hit⟩ := hit
  have hseq := hit _ _ _ w g.L b1 o1 b2 o2 ⟨g.be rr, 0, none⟩ (c0 :: t0) ss rfl rfl rfl (by simp) hlen0 hL1 hL2 hL0 hS.gl.1 hc1 hc2
  have hlast := leftN_last (t := c0 :: t0) (by simp) (ss.length + 1) ss (by omega)
  have hpos := piecesN_pos (c0 :: t0) (ss.length) ss
  generalize hpc : piecesN (ss.length + 1) (c0 :: t0) ss = pcs at *
  generalize htt : c0 :: t0 = tt at *
  have hxl : xs'.length = pcs.length := by rw [← hxs]; simp
  have hxa : ∀ k (h : k < xs'.length), xs'[k] = [V.str (pcs.getD k [])] := fun k h => by
    subst hxs
    simp at h
    simp [List.getD, h]
  have he : ∀ i (h : i < xs'.length), (#[strV8 (pcs.getD i [])] : Array Value).toList.length = xs'[i].length ∧ ∀ j (h1 : j < xs'[i].length) (h2 : j < (#[strV8 (pcs.getD i [])] : Array Value).toList.length), RelV w g.L xs'[i][j] ((#[strV8 (pcs.getD i [])] : Array Value).toList[j]) := fun i h => by
    rw [hxa i h]
    refine ⟨rfl, fun j h1 h2 => ?_⟩
    have : j = 0 := by simpa using h1
    subst this
    exact strV8_rel _
  have hbody : ∀ (env : List D) (st : St) (r : Out), st ≠ [] → rgB (fun env st => exec R n sa env st) (fun env st => exec R n b env st) env st = some r → r.2.2.length = st.length := fun env st r hne h => by
    unfold rgB at h
    obtain ⟨⟨e, env', st'⟩, h3, h4⟩ := bind_some' h
    have l1 := (exec_len hL sa hne h3).2
    have hne' : st' ≠ [] := fun e => by simp only [e] at l1; exact hne (List.length_eq_zero_iff.1 l1.symm)
    cases e <;> simp only [rgM] at h4 <;> first | (cases h4; done) | skip
    split at h4 <;> first | (cases h4; done) | skip
    exact (exec_len hL b hne' h4).2.trans l1
  have hbodyU := rgU_len (u := some (rr, tt)) hbody
  have hlen := rangeN_len hbodyU h2
  have hne : st.length = (st.length - 1) + 1 := by
    cases st with
    | nil => exact absurd rfl hA.st
    | cons a l => simp
  have env0 : ∀ i q, μ[i]? = some q → RelD w g (fun _ => .nil) (cp (getT env i)) (a.tmps.getD q undef) := fun i q hi => nilRel (hA.r.e i q hi)
  have envAt : ∀ {W : World} {g' : Gh}, Ext w W g g' → (∀ b, g'.own b ≠ some .nil) → ∀ i q, μ[i]? = some q → RelD W g' (fun _ => .env i) (getT (env.map cp) i) (a.tmps.getD q undef) := fun hx hn i q hi => by
    rw [getT_map _ rfl]
    exact cp_free hn ((env0 i q hi).mono hx.keeps hS.nil (fun b k hb => absurd hb (hS.nil b)) hx.refs) _
  have turnI : ∀ {A B : World} {row : Option Nat}, A.grownBy B row → (∀ r, row = some r → w.heap.size ≤ r ∧ ∃ o : Obj, A.heap[r]? = some o ∧ o.isCells = false) → Turn w.heap.size A B := Turn.of
  have hbl : ∀ p ∈ Known.bl, p.1 < w.heap.size := fun p hp => (hS.gl.2 p hp).2.1
  have hfr : ∀ b, w.heap.size ≤ b → g.L b = 0 := fun b hb => (hS.fresh b hb).1
  let env1 := env.map cp
  let BU := rgU (rgB (fun env st => exec R n sa env st) (fun env st => exec R n b env st)) (some (rr, tt))
  have hlr : rr.lvl < st.length := getB_lvl hb0
  let I : Nat → World → Prop := fun i W => ∃ si gi, rangeN BU ps env1 (xs'.drop i) si = some r ∧ RelS W gi si ∧ Ext w W g gi ∧ si.length = st.length ∧ strB (getB si rr) = some (leftN tt i ss)
  let Im : Nat → World → Prop := fun i W => ∃ si gi, rangeN BU ps env1 (xs'.drop (i + 1)) (setB si rr (.row [.v (.str (nextS tt (leftN tt i ss)))])) = some r ∧ RelS W gi si ∧ Ext w W g gi ∧ si.length = st.length ∧ strB (getB si rr) = some (leftN tt i ss)
  let Ix : Code → World → Prop := fun c W => ∃ gi, (r.1 = .ret ∧ c = .ret ∨ ∃ j, r.1 = .exit j ∧ c = .exit j) ∧ RelS W gi r.2.2 ∧ Ext w W g gi
  let Mid : Nat → Act → World → Prop := fun i a1 W => ∃ e2 s2 g2 dfs2, (exec R n b (e2.map cp) s2).bind (fun o => (rgT rr tt (leftN tt i ss) o).bind (rgC (rangeN BU ps env1 (xs'.drop (i + 1))) env1)) = some r ∧ At W g2 μ nt dfs2 [] e2 [] s2 a1 ∧ Ext w W g g2 ∧ solid s2 = true ∧ s2.length = st.length + 1
  have fin : ∀ (D : Nat) (W : World) (gi : Gh), w.heap.size ≤ D → RelS W gi r.2.2 → Ext w W g gi → W.heap[D]? = some (.deferred (some [])) →
      ∃ g' dfs', Ext w W g g' ∧ (∀ N, N ≤ w.heap.size → Marks N w g dfs → Marks N W g' dfs') ∧ At W g' μ nt dfs' [] r.2.1 [] r.2.2 { a with defers := markOf D :: a.defers } := fun D W gi hD hs hx hd => by
    have hs' := hs.cut hlen.2.1
    refine ⟨gi.cut W, markOf D :: dfs, hx.cut, fun N hN m => ⟨List.nodup_cons.2 ⟨fun hmem => ?_, m.1⟩, fun d hd' => ?_⟩, ⟨⟨hs', fun i q hi => ?_, fun j q hj => by simp at hj⟩, hA.n, by rw [hA.d], rfl, fun e => ?_⟩⟩
    · obtain ⟨D', _, e1, e2, _⟩ := m.2 _ hmem
      have : D = D' := by simpa [markOf] using e1
      have := (Array.getElem?_eq_some_iff.1 e2).1
      omega
    · rcases List.mem_cons.1 hd' with rfl | hd'
      · refine ⟨D, Nat.le_trans hN hD, rfl, hd, fun hm => ?_⟩
        obtain ⟨o, h3, h4⟩ := hm.2
        rw [hd] at h3; cases h3; cases h4
      · exact (m.ext hx.cut).2 d hd'
    · rw [hlen.2.2.1]
      exact envAt hx.cut hs'.nil i q hi
    · have := hlen.2.2.2
      rw [e] at this
      exact hA.st (List.length_eq_zero_iff.1 this.symm)
  rw [← hxl] at hseq
  refine range_lawU (n := xs'.length) (I := I) (Im := Im) (Ix := Ix) (Kp := KeepL g.L) (Mid := Mid)
    hg (fun args w => call_run hfn) hseq hsz0 (fun h1 h2 b o ho => (h2 b o ho).trans (h1 b o ho)) (fun W l o o' hl hw hc b o2 ho => ?_) (fun i hi => ?_) (fun i A B row hs hb hr => ?_) (fun i A B row hs hb hr => ?_) (fun c u A B row hs hb hr => ?_)
    ⟨st, g, by simpa using h2, hS, Ext.refl w g, rfl, h13⟩ (fun i a1 u A B row hs hb hr => ?_) (fun l i W hI hi => ?_) (fun l i a1 W hM hi => ?_) (fun k W hI hk => ?_) (fun k W hI hk => ?_) (fun D W hD hI hd => ?_) (fun D c W hD hI hd => ?_)
  · -- what is held is not turned
    have : b ≠ l := fun e => by rw [e, hfr l hl] at ho; omega
    exact (cell_heap (World.putObj_heap_other this) o2).1
  · -- as many as there are
    obtain ⟨e1, _⟩ := he i hi
    have h3 : (xs'[i]).length = ps.length := by simpa using List.all_eq_true.1 hps _ (List.getElem_mem hi)
    have h4 := chkPs2_len c3
    rw [← Array.length_toList, ← Array.length_toList, e1, h3, h4]
  · obtain ⟨si, gi, q1, q2, q3, q4, q10⟩ := hs
    have tn := turnI hb hr
    exact ⟨si, gi, q1, q2.turn tn (rangeN_len hbodyU q1).1 hbl, q3.turn tn hfr, q4, q10⟩
  · obtain ⟨si, gi, q1, q2, q3, q4, q10⟩ := hs
    have tn := turnI hb hr
    exact ⟨si, gi, q1, q2.turn tn ((solid_setB _ q10).symm.trans (rangeN_len hbodyU q1).1) hbl, q3.turn tn hfr, q4, q10⟩
  · obtain ⟨gi, q1, q2, q3⟩ := hs
    have tn := turnI hb hr
    exact ⟨gi, q1, q2.turn tn hlen.2.1 hbl, q3.turn tn hfr⟩
  · obtain ⟨e2, s2, g2, dfs2, m1, m2, m3, m4, m5⟩ := hs
    have tn := turnI hb hr
    exact ⟨e2, s2, g2, dfs2, m1, ⟨⟨m2.r.s.turn tn m4 hbl, fun i t hi => (m2.r.e i t hi).turn tn, fun j t hj => by simp at hj⟩, m2.n, m2.d, rfl, m2.st⟩, m3.turn tn hfr, m4, m5⟩
  · -- a round's head
    obtain ⟨si, gi, q1, q2, q3, q4, q10⟩ := hI
    have hdrop : xs'.drop i = xs'[i] :: xs'.drop (i + 1) := List.drop_eq_getElem_cons hi
    rw [hdrop] at q1
    simp only [rangeN] at q1
    split at q1 <;> first | (cases q1; done) | skip
    rename_i hsol
    have hpl : (xs'[i]).length = ps.length := by simpa using List.all_eq_true.1 hps _ (List.getElem_mem hi)
    obtain ⟨q5, q6, q7⟩ := bind_some' q1
    have q6 : (strB (getB ([] :: si) rr)).bind (fun c => (rgB (fun env st => exec R n sa env st) (fun env st => exec R n b env st) (setPs ps xs'[i] env1) ([] :: si)).bind (rgT rr tt c)) = some q5 := q6
    rw [getB_cons, if_neg (by omega), q10, Option.bind_some] at q6
    obtain ⟨y5, q6, q11⟩ := bind_some' q6
    unfold rgB at q6
    obtain ⟨⟨e, env2, st2⟩, q8, q9⟩ := bind_some' q6
    have hsi := q2.cut hsol
    have hxi := q3.cut
    have hA0 : RelA W (gi.cut W) μ [] env1 [] ([] :: si) a.tmps := ⟨hsi.push, fun i q hi => envAt hxi hsi.nil i q hi, fun j q hj => by simp at hj⟩
    obtain ⟨e1, e2⟩ := he i hi
    have hA1 := setPs_rel (vs := (#[strV8 (pcs.getD i [])] : Array Value).toList) hμ c3 hpl e1 (fun j h1 h2 => (e2 j h1 h2).mono hxi.cell hxi.L) hA.n hA0
    rw [← foldA] at hA1
    have hAt : At W (gi.cut W) μ nt [] [] (setPs ps xs'[i] env1) [] ([] :: si) { tmps := (qs.zip (#[strV8 (pcs.getD i [])] : Array Value)).foldl (fun t (p, v) => t.setIfInBounds p v) a.tmps, defers := [] } := ⟨hA1.1, hA1.2, rfl, rfl, by simp⟩
    refine wpIn_mono (iha l n [] _ _ _ _ W _ q8 hAt) fun e' a' W' hp => ?_
    obtain ⟨rfl, g1, dfs1, y1, y2, y3⟩ := hp
    have keepO : KeepsOthers W W' := ⟨y1.size, fun b o hb ho => by
      have := (y1.old b (Array.getElem?_eq_some_iff.1 hb).1 (fun hm => by
        obtain ⟨o', h5, h6⟩ := hm.2
        rw [hb] at h5; cases h5; rw [ho] at h6; cases h6)).1
      rw [this]; exact hb⟩
    cases e <;> simp only [rgM] at q9 <;> first | (cases q9; done) | skip
    split at q9 <;> first | (cases q9; done) | skip
    rename_i hs2
    refine ⟨keepO, fun b o ho => y1.cell b o (Nat.lt_of_lt_of_le ho (q3.L b)), env2, st2, g1, dfs1, ?_, y3, q3.trans y1.ofCut, hs2, ?_⟩
    · rw [q9, Option.bind_some, q11]; exact q7
    · have := (exec_len hL sa (by simp) q8).2
      rw [this, ← q4]; rfl
  · -- a round's body
    obtain ⟨e2, s2, g2, dfs2, m1, m2, m3, m4, m5⟩ := hM
    obtain ⟨⟨e, env3, st3⟩, q5, q11⟩ := bind_some' m1
    obtain ⟨o6, q12, q6⟩ := bind_some' q11
    have hs2 := m2.r.s.cut m4
    have hAt : At W (g2.cut W) μ nt dfs2 [] (e2.map cp) [] s2 a1 := by
      refine ⟨⟨hs2, fun i t hi => ?_, fun j t hj => by simp at hj⟩, m2.n, m2.d, rfl, m2.st⟩
      rw [getT_map _ rfl]
      exact cp_free hs2.nil ((nilRel (m2.r.e i t hi)).cut m2.r.s.nil (.inl fun _ => rfl)) _
    refine wpIn_mono (ih l n dfs2 _ _ _ _ W _ q5 hAt) fun e' a' W' hp => ?_
    obtain ⟨rfl, g1, dfs1, y1, y2, y3⟩ := hp
    have l2 : st3.length = (s2.length - 1) + 1 := by
      have := (exec_len hL b m2.st q5).2
      rw [this, m5]; omega
    have PR := pop_rel y3.r.s l2
    have E0 : Ext W W' (g2.cut W) g1 := y1
    have keepO : KeepsOthers W W' := ⟨y1.size, fun b o hb ho => by
      have := (y1.old b (Array.getElem?_eq_some_iff.1 hb).1 (fun hm => by
        obtain ⟨o', h5, h6⟩ := hm.2
        rw [hb] at h5; cases h5; rw [ho] at h6; cases h6)).1
      rw [this]; exact hb⟩
    have E2 : Ext w W' g (g1.pop W' (s2.length - 1)) := PR.E (m3.trans y1.ofCut) fun r hr => by
      obtain ⟨bb, hb⟩ := (hS.live r).1 hr
      have := getB_lvl hb
      omega
    have l3 : st3.tail.length = st.length := by rw [List.length_tail, l2, m5]; omega
    cases e with
    | normal =>
      simp only [rgT] at q12
      split at q12 <;> cases q12
      rename_i q13
      simp only [rgC] at q6
      rw [setB_tail (by omega)] at q6
      rw [getB_tail (by omega)] at q13
      exact ⟨keepO, fun b o ho => y1.cell b o (Nat.lt_of_lt_of_le ho (m3.L b)), st3.tail, _, q6, PR.S, E2, l3, q13⟩
    | ret =>
      simp only [rgT] at q12
      cases q12
      simp only [rgC] at q6
      split at q6 <;> cases q6
      exact ⟨keepO, _, .inl ⟨rfl, rfl⟩, PR.S, E2⟩
    | exit j =>
      simp only [rgT] at q12
      cases q12
      simp only [rgC] at q6
      split at q6 <;> cases q6
      exact ⟨keepO, _, .inr ⟨j, rfl, rfl⟩, PR.S, E2⟩
  · -- the text that is left
    obtain ⟨si, gi, q1, q2, q3, q4, q10⟩ := hI
    obtain ⟨_, h20, h21⟩ := str_cell q2 (strB_some q10)
    obtain ⟨k1, k2, k3, k4⟩ := q3.refs rr hlv0
    rw [k2] at h20
    exact h20
  · obtain ⟨si, gi, q1, q2, q3, q4, q10⟩ := hI
    obtain ⟨h19, h20, h21⟩ := str_cell q2 (strB_some q10)
    obtain ⟨k1, k2, k3, k4⟩ := q3.refs rr hlv0
    rw [k2] at h20 h21
    refine ⟨h20, h21, setB si rr (.row [.v (.str (nextS tt (leftN tt k ss)))]), gi, q1, ?_, ?_, by rw [setB_len]; exact q4, ?_⟩
    · have := set_str q2 (strB_some q10) (leftN tt (k + 1) ss)
      rw [k2] at this
      rw [← leftN_next]
      exact this
    · exact q3.trans_set hM0 hL0 hsz0
    · rw [getB_setB _ (strB_some q10), if_pos rfl, ← leftN_next]; rfl
  · -- all rounds are over
    obtain ⟨si, gi, q1, q2, q3, q4, q10⟩ := hI
    rw [Nat.sub_add_cancel (by rw [hxl]; exact hpos), List.drop_length, hxl, nextS_last hlast, setB_same (by rw [hxl] at q10; exact strB_some q10)] at q1
    simp only [rangeN] at q1
    split at q1 <;> first | (cases q1; done) | skip
    obtain rfl := Option.some.inj q1
    obtain ⟨g', dfs', z1, z2, z3⟩ := fin D W gi hD q2 q3 hd
    exact ⟨rfl, g', dfs', z1, z2, z3⟩
  · obtain ⟨gi, q1, q2, q3⟩ := hI
    obtain ⟨g', dfs', z1, z2, z3⟩ := fin D W gi hD q2 q3 hd
    rcases q1 with ⟨q1, rfl⟩ | ⟨j, q1, rfl⟩
    · exact wpIn_ret ⟨by rw [q1]; rfl, g', dfs', z1, z2, z3⟩
    · exact wpIn_exit ⟨by rw [q1]; rfl, g', dfs', z1, z2, z3⟩

def jmq (l : Nat) (J : Act → World → Prop) (Q : Exit → Act → World → Prop) : Exit → Act → World → Prop
  | .goto l', a, w => l' = l ∧ J a w
  | e, a, w => Q e a w
def jmt (l : Nat) (Q : Exit → Act → World → Prop) : Exit → Act → World → Prop
  | .goto l', a, w => l' = l ∧ Q .normal a w
  | .normal, _, _ => False
  | e, a, w => Q e a w
def ScopeAt (ro : Option Nat) (P : Program) (c0 c : Code) (Q : Exit → Act → World → Prop) (a : Act) (w : World) : Prop :=
  ∀ (b : Frame) (k : List Item) (cs : List Frame), b.roundOf = ro → ∃ e a' w', Q e a' w' ∧ ArrivesIn (Machine.fenced P (wideR ro)) P (lone (b.atR a (.code c :: .inScope c0 :: k)) cs w) b k cs e a' w'
theorem ScopeAt.mono {ro : Option Nat} {c0 c : Code} {Q Q' : Exit → Act → World → Prop} (h : ScopeAt ro P c0 c Q a w) (hq : ∀ e a w, Q e a w → Q' e a w) : ScopeAt ro P c0 c Q' a w := fun b k cs hro =>
  let ⟨e, a', w', h1, h2⟩ := h b k cs hro; ⟨e, a', w', hq _ _ _ h1, h2⟩
theorem stepR_scope {b : Frame} {k : List Item} {cs : List Frame} {c : Code} : step P (lone (b.atR a (.code (.scope c) :: k)) cs w) = .next (lone (b.atR a (.code c :: .inScope c :: k)) cs w) :=
  step_lone_go (by simp [stepG, stepG.exec, Frame.atR])
theorem stepR_inScope {b : Frame} {k : List Item} {cs : List Frame} {c : Code} : step P (lone (b.atR a (.inScope c :: k)) cs w) = .next (lone (b.atR a k) cs w) :=
  step_lone_go (by simp [stepG, stepG.exec, Frame.atR])
theorem scopeAt_of {ro : Option Nat} {l : Nat} {c0 c r1 : Code} {Q : Exit → Act → World → Prop} (hf : findLabel c0 l = some r1) (h : c.wpIn (wideR ro) 0 P (jmq l (ScopeAt ro P c0 r1 Q) Q) a w) : ScopeAt ro P c0 c Q a w := by
  intro b k cs hro
  obtain ⟨e, a₁, w₁, hq, harr⟩ := h b (.inScope c0 :: k) cs hro trivial (roomR _ _)
  cases e with
  | normal => exact ⟨.normal, a₁, w₁, hq, StepsIn.trans harr (.one (fenced_calm (n := 0) (F := wideR ro) trivial (roomR _ _) rfl) stepR_inScope)⟩
  | exit id => exact ⟨.exit id, a₁, w₁, hq, fun k' hk => harr.1 k' (by simpa [exitTo] using hk), fun hr hk => harr.2 hr (by simpa [exitTo] using hk)⟩
  | goto l' =>
    obtain ⟨rfl, hJ⟩ := hq
    obtain ⟨e₂, a₂, w₂, hq₂, harr₂⟩ := hJ b k cs hro
    exact ⟨e₂, a₂, w₂, hq₂, .of_steps (harr.1 _ (by simp [gotoIn, hf])) harr₂⟩
  | ret => exact ⟨.ret, a₁, w₁, hq, harr⟩
  | panic ch => exact ⟨.panic ch, a₁, w₁, hq, harr⟩
  | outgrown => exact ⟨.outgrown, a₁, w₁, hq, harr⟩
theorem wp_scopeAt {ro : Option Nat} {c : Code} {Q : Exit → Act → World → Prop} (h : ScopeAt ro P c c Q a w) : (Code.scope c).wpIn (wideR ro) 0 P Q a w := by
  intro b k cs hro hb hr
  obtain ⟨e, a', w', hq, harr⟩ := h b k cs hro
  exact ⟨e, a', w', hq, .of_steps (.one (fenced_calm hb hr rfl) stepR_scope) harr⟩
theorem wp_scope0 {ro : Option Nat} {c : Code} {Q : Exit → Act → World → Prop} (hn : ∀ l a w, ¬ Q (.goto l) a w) (h : c.wpIn (wideR ro) 0 P Q a w) : (Code.scope c).wpIn (wideR ro) 0 P Q a w := by
  refine wp_scopeAt ?_
  intro b k cs hro
  obtain ⟨e, a₁, w₁, hq, harr⟩ := h b (.inScope c :: k) cs hro trivial (roomR _ _)
  cases e with
  | normal => exact ⟨.normal, a₁, w₁, hq, StepsIn.trans harr (.one (fenced_calm (n := 0) (F := wideR ro) trivial (roomR _ _) rfl) stepR_inScope)⟩
  | exit id => exact ⟨.exit id, a₁, w₁, hq, fun k' hk => harr.1 k' (by simpa [exitTo] using hk), fun hr hk => harr.2 hr (by simpa [exitTo] using hk)⟩
  | goto l' => exact (hn _ _ _ hq).elim
  | ret => exact ⟨.ret, a₁, w₁, hq, harr⟩
  | panic ch => exact ⟨.panic ch, a₁, w₁, hq, harr⟩
  | outgrown => exact ⟨.outgrown, a₁, w₁, hq, harr⟩
theorem scope_sound (hL : RLen R) {c0 c : Code} {s : SCode} {l : Nat} {kill : List Nat} {m : Nat} (hf : findLabel c0 l = some (.seq .skip c))
    (ih : ∀ (n : Nat) (dfs : List Deferred) (env : List D) (st : St) (r : Out) (a : Act) (w : World) (g : Gh), exec R n s env st = some r → At w g μ nt dfs [] env [] st a → c.wpIn (wideR ro) 0 P (jmt l (CPost w g μ nt dfs r)) a w) :
    ∀ (n : Nat) (dfs : List Deferred) (env : List D) (st : St) (r : Out) (a : Act) (w : World) (g : Gh), loopN (fun env st => exec R m s env st) kill n env st = some r → At w g μ nt dfs [] env [] st a → c.wpIn (wideR ro) 0 P (jmq l (ScopeAt ro P c0 (.seq .skip c) (CPost w g μ nt dfs r)) (CPost w g μ nt dfs r)) a w
  | 0, dfs, env, st, r, a, w, g, h, hA => by cases h
  | n + 1, dfs, env, st, r, a, w, g, h, hA => by
    simp only [loopN] at h
    obtain ⟨⟨x, env1, st1⟩, h1, h2⟩ := bind_some' h
    have hpush : At w g μ nt dfs [] env [] ([] :: st) a := ⟨⟨hA.r.s.push, hA.r.e, hA.r.t⟩, hA.n, hA.d, rfl, by simp⟩
    have hlen := (exec_len hL s (by simp) h1).2
    have hlen' : st1.length = st.length + 1 := by simpa using hlen
    have key : ∀ e a1 w1, CPost w g μ nt dfs (x, env1, st1) e a1 w1 → (x = .normal → ScopeAt ro P c0 (.seq .skip c) (CPost w g μ nt dfs r) a1 w1) ∧ (x ≠ .normal → CPost w g μ nt dfs r e a1 w1) := fun e a1 w1 hp => by
      obtain ⟨rfl, g1, dfs1, hx, hm, hA1⟩ := hp
      have hA1' : RelA w1 g1 μ [] env1 [] st1 a1.tmps := hA1.r
      have hP := popA_rel (killE_rel kill hA1') hlen'
      have hE := (pop_rel hA1'.s hlen').E hx (fun r hr => by
        obtain ⟨b, hb⟩ := (hA.r.s.live r).1 hr
        exact getB_lvl hb)
      have hl2 : (pop (killE kill env1) st1).2.length = st.length := by simp [pop, hlen']
      have hm2 : ∀ N, N ≤ w.heap.size → Marks N w g dfs → Marks N w1 (g1.pop w1 st.length) dfs1 := fun N hN m => ⟨(hm N hN m).1, fun d hd => by
        obtain ⟨D, e0, e1, e2, e3⟩ := (hm N hN m).2 d hd
        exact ⟨D, e0, e1, e2, fun hh => e3 hh.1⟩⟩
      have hA2 : At w1 (g1.pop w1 st.length) μ nt dfs1 [] (pop (killE kill env1) st1).1 [] (pop (killE kill env1) st1).2 a1 :=
        ⟨hP, hA1.n, hA1.d, rfl, fun e => by rw [e] at hl2; exact hA.st (List.length_eq_zero_iff.1 hl2.symm)⟩
      refine ⟨fun e => ?_, fun e => ?_⟩
      · subst e
        exact (scopeAt_of hf (wpIn_seq (wpIn_skip (scope_sound hL hf ih n _ _ _ r a1 w1 _ h2 hA2)))).mono fun e a w hq => hq.of' hE hm2
      · cases x with
        | normal => exact (e rfl).elim
        | exit i => cases h2; exact ⟨rfl, _, _, hE, hm2, hA2⟩
        | ret => cases h2; exact ⟨rfl, _, _, hE, hm2, hA2⟩
    refine wpIn_mono (ih m dfs env _ _ a w g h1 hpush) fun e a1 w1 hp => ?_
    cases e with
    | goto l' =>
      obtain ⟨rfl, hp⟩ := hp
      have hx : x = .normal := by have := hp.1; cases x <;> simp [exOf] at this ⊢
      exact ⟨rfl, (key _ _ _ hp).1 hx⟩
    | normal => exact hp.elim
    | exit i => exact (key _ _ _ hp).2 (fun e => by subst e; have := hp.1; simp [exOf] at this)
    | ret => exact (key _ _ _ hp).2 (fun e => by subst e; have := hp.1; simp [exOf] at this)
    | panic ch => exact (key _ _ _ hp).2 (fun e => by subst e; have := hp.1; simp [exOf] at this)
    | outgrown => exact (key _ _ _ hp).2 (fun e => by subst e; have := hp.1; simp [exOf] at this)

theorem pre_lbl {μ : List Nat} {nt : Nat} {l : Nat} : ∀ (s : SCode) (c : Code), chkPre μ nt P l s c = true → ∃ x, findLabel c l = some x
  | .seq s t, c, hc => by
    unfold chkPre at hc
    split at hc <;> first | (cases hc; done) | skip
    obtain ⟨c1, _, c3⟩ := and3 hc
    obtain ⟨x, hx⟩ := pre_lbl t _ c3
    exact ⟨x, by simp only [findLabel, Option.isNone_iff_eq_none.1 c1]; exact hx⟩
  | .loop kill s, c, hc => by
    unfold chkPre at hc
    split at hc <;> first | (cases hc; done) | skip
    simp only [Bool.and_eq_true, decide_eq_true_eq] at hc
    exact ⟨_, by rw [hc.1]; simp [findLabel]; rfl⟩
  | .skip, c, hc => by simp [chkPre] at hc
  | .ret, c, hc => by simp [chkPre] at hc
  | .exit _, c, hc => by simp [chkPre] at hc
  | .ops _, c, hc => by simp [chkPre] at hc
  | .ifs _ _ _ _, c, hc => by simp [chkPre] at hc
  | .block _ _, c, hc => by simp [chkPre] at hc
  | .clone _ _ _ _, c, hc => by simp [chkPre] at hc
  | .nilc _ _ _ _ _, c, hc => by simp [chkPre] at hc
  | .grow _ _ _ _, c, hc => by simp [chkPre] at hc
  | .range _ _ _ _ _ _, c, hc => by simp [chkPre] at hc
  | .frame _, c, hc => by simp [chkPre] at hc

mutual
theorem exec_sound (hμ : μ.Nodup) (hR : ROk P R) (hL : RLen R) (hit : ∀ p ∈ Iters.it, IterOk P p.1 p.2) : ∀ (s : SCode) (c : Code), chkCode μ nt P s c = true → ∀ (ro : Option Nat), (ro = none ∨ noR s = true) → ∀ (n : Nat) (dfs : List Deferred) (env : List D) (st : St) (r : Out) (a : Act) (w : World) (g : Gh),
    exec R n s env st = some r → At w g μ nt dfs [] env [] st a → c.wpIn (wideR ro) 0 P (CPost w g μ nt dfs r) a w
  | .skip, c, hc, ro, hn, n, dfs, env, st, r, a, w, g, h, hA => by
    unfold chkCode at hc
    simp only [exec] at h
    cases h
    split at hc <;> first | (cases hc; done) | skip
    · exact wpIn_skip (.at rfl (Ext.refl w g) hA)
    · exact wpIn_label (.at rfl (Ext.refl w g) hA)
  | .ret, c, hc, ro, hn, n, dfs, env, st, r, a, w, g, h, hA => by
    unfold chkCode at hc
    split at hc <;> first | (cases hc; done) | skip
    simp only [exec] at h
    cases h
    exact wpIn_ret (.at rfl (Ext.refl w g) hA)
  | .exit i, c, hc, ro, hn, n, dfs, env, st, r, a, w, g, h, hA => by
    unfold chkCode at hc
    split at hc <;> first | (cases hc; done) | skip
    simp only [beq_iff_eq] at hc
    subst hc
    simp only [exec] at h
    cases h
    exact wpIn_exit (.at rfl (Ext.refl w g) hA)
  | .ops l, c, hc, ro, hn, n, dfs, env, st, r, a, w, g, h, hA => by
    unfold chkCode at hc
    split at hc <;> first | (cases hc; done) | skip
    obtain ⟨τ, hτ⟩ := Option.isSome_iff_exists.1 hc
    simp only [exec] at h
    obtain ⟨q, h1, rfl⟩ := map_some' h
    exact region_ok hμ hR hL hτ h1 hA fun a' w' g' hx hA' => .at rfl hx hA'.bare
  | .ifs l x sa sb, c, hc, ro, hn, n, dfs, env, st, r, a, w, g, h, hA => by
    obtain ⟨hn1, hn2⟩ := noR2 hn
    unfold chkCode at hc
    split at hc <;> first | (cases hc; done) | skip
    · obtain ⟨c1, c2, c3⟩ := and3 hc
      obtain ⟨τ, c4, c5⟩ := of_orF c1
      exact wpIn_seq (ifs_core hμ hR hL (exec_sound hμ hR hL hit sa _ c2 ro hn1) (exec_sound hμ hR hL hit sb _ c3 ro hn2) c4 c5 h hA _ (fun _ _ hh => hh))
    · obtain ⟨c0, c1, c2, c3⟩ := and4 hc
      have : l = [] := by simpa using c0
      subst this
      simp only [exec, evOps, Option.bind_some] at h
      obtain ⟨t, h3, h4⟩ := bind_some' h
      have hb := boolD_rel (rd_rel hA.r c1 (fun _ => .nil)) h3
      cases t with
      | true =>
        simp only [if_true] at h4
        exact wpIn_cond_true hb (exec_sound hμ hR hL hit sa _ c2 ro hn1 n _ _ _ r a w g h4 hA)
      | false =>
        simp only [Bool.false_eq_true, if_false] at h4
        exact wpIn_cond_false hb (exec_sound hμ hR hL hit sb _ c3 ro hn2 n _ _ _ r a w g h4 hA)
  | .seq s t, c, hc, ro, hn, n, dfs, env, st, r, a, w, g, h, hA => by
    obtain ⟨hn1, hn2⟩ := noR2 hn
    simp only [exec] at h
    obtain ⟨⟨x, env', st'⟩, h1, h2⟩ := bind_some' h
    have post : ∀ (cb : Code), chkCode μ nt P t cb = true → ∀ e a1 w1, CPost w g μ nt dfs (x, env', st') e a1 w1 → Exit.then (cb.wpIn (wideR ro) 0 P (CPost w g μ nt dfs r)) (CPost w g μ nt dfs r) e a1 w1 := fun cb hcb e a1 w1 hp => by
      obtain ⟨rfl, g1, dfs1, hx, hm, hA1⟩ := hp
      cases x with
      | normal => exact wpIn_mono (exec_sound hμ hR hL hit t cb hcb ro hn2 n _ _ _ r a1 w1 g1 h2 hA1) fun e a w hq => hq.of' hx hm
      | exit i => cases h2; exact ⟨rfl, g1, dfs1, hx, hm, hA1⟩
      | ret => cases h2; exact ⟨rfl, g1, dfs1, hx, hm, hA1⟩
    have fin : ∀ (ca cb : Code), chkCode μ nt P s ca = true → chkCode μ nt P t cb = true → ca.wpIn (wideR ro) 0 P (Exit.then (cb.wpIn (wideR ro) 0 P (CPost w g μ nt dfs r)) (CPost w g μ nt dfs r)) a w := fun ca cb hca hcb =>
      wpIn_mono (exec_sound hμ hR hL hit s ca hca ro hn1 n _ _ _ _ a w g h1 hA) (post cb hcb)
    unfold chkCode at hc
    split at hc <;> first | (cases hc; done) | skip
    · simp only [Bool.or_eq_true] at hc
      rcases hc with hc | hc
      · obtain ⟨c0, c1, c2⟩ := and3 hc
        cases s with
        | ifs l y sa sb =>
          simp only [chkCode] at c1
          obtain ⟨d1, d2, d3⟩ := and3 c1
          obtain ⟨τ, d4, d5⟩ := of_orF d1
          exact wpIn_seq (ifs_core hμ hR hL (exec_sound hμ hR hL hit sa _ d2 ro (noR2 hn1).1) (exec_sound hμ hR hL hit sb _ d3 ro (noR2 hn1).2) d4 d5 h1 hA _ (fun a' w' hh => wpIn_seq (wpIn_mono hh (post _ c2))))
        | _ => simp [isIfs] at c0
      · obtain ⟨c1, c2⟩ := and2 hc
        exact wpIn_seq (fin _ _ c1 c2)
    · rename_i ca cb hno
      simp only [Bool.or_eq_true] at hc
      rcases hc with hc | hc
      · obtain ⟨c1, c2⟩ := and2 hc
        exact wpIn_seq (fin _ _ c1 c2)
      · cases cb with
        | seq b1 b2 =>
          obtain ⟨c1, c3⟩ := and2 hc
          cases s with
          | frame s0 =>
            simp only [chkTwo] at c1
            cases s0 with
            | seq s1 s2 =>
              simp only [chkTwo1] at c1
              obtain ⟨c1, c2⟩ := and2 c1
              obtain ⟨hm1, hm2⟩ := noR2 (a := noR s1) (b := noR s2) hn1
              simp only [exec] at h1
              obtain ⟨⟨x1, env2, st2⟩, h3, h4⟩ := map_some' h1
              obtain ⟨⟨x0, env1, st1⟩, h5, h6⟩ := bind_some' h3
              have hlen : st2.length = st.length + 1 := by
                have := (exec_len hL (.seq s1 s2) (st := [] :: st) (by simp) (by simp only [exec]; exact h3)).2
                simpa using this
              cases h4
              have hpush : At w g μ nt dfs [] env [] ([] :: st) a := ⟨⟨hA.r.s.push, hA.r.e, hA.r.t⟩, hA.n, hA.d, rfl, by simp⟩
              refine wpIn_seq (wpIn_mono (exec_sound hμ hR hL hit s1 _ c1 ro hm1 n _ _ _ _ a w g h5 hpush) fun e a1 w1 hp => ?_)
              obtain ⟨rfl, g1, dfs1, hx, hm, hA1⟩ := hp
              cases x0 with
              | normal => exact wpIn_seq (wpIn_mono (exec_sound hμ hR hL hit s2 _ c2 ro hm2 n _ _ _ _ a1 w1 g1 h6 hA1) fun e a2 w2 hq => post _ c3 e a2 w2 (frame_post hA hlen (hq.of' hx hm)))
              | exit i => cases h6; exact post _ c3 _ a1 w1 (frame_post hA hlen ⟨rfl, g1, dfs1, hx, hm, hA1⟩)
              | ret => cases h6; exact post _ c3 _ a1 w1 (frame_post hA hlen ⟨rfl, g1, dfs1, hx, hm, hA1⟩)
            | _ => simp [chkTwo1] at c1
          | _ => simp [chkTwo] at c1
        | _ => cases hc
    · have hng : ∀ l a1 w1, ¬ CPost w g μ nt dfs r (.goto l) a1 w1 := fun l a1 w1 hp => by
        obtain ⟨x, env2, st2⟩ := r
        have := hp.1
        cases x <;> simp [exOf] at this
      simp only [Bool.or_eq_true] at hc
      rcases hc with hc | hc
      · obtain ⟨c1, c2⟩ := and2 hc
        cases t with
        | skip =>
          have hr : r = (x, env', st') := by
            cases x with
            | normal => simp only [exec] at h2; exact (Option.some.inj h2).symm
            | exit i => exact (Option.some.inj h2).symm
            | ret => exact (Option.some.inj h2).symm
          subst hr
          exact wp_scope0 hng (exec_sound hμ hR hL hit s _ c2 ro hn1 n _ _ _ _ a w g h1 hA)
        | _ => simp [isSkip] at c1
      · obtain ⟨c1, c2⟩ := and2 hc
        cases s with
        | skip =>
          simp only [exec] at h1
          cases h1
          obtain ⟨rb, hf⟩ := pre_lbl t _ c2
          exact wp_scopeAt (scopeAt_of hf (pre_sound hμ hR hL hit t _ _ _ _ c2 ⟨hf, hf⟩ ro hn2 n _ _ _ r a w g h2 hA))
        | _ => simp [isSkip] at c1
  | .block i s, c, hc, ro, hn, n, dfs, env, st, r, a, w, g, h, hA => by
    unfold chkCode at hc
    split at hc <;> first | (cases hc; done) | skip
    obtain ⟨c0, c1⟩ := and2 hc
    simp only [beq_iff_eq] at c0
    subst c0
    simp only [exec] at h
    obtain ⟨⟨x, env', st'⟩, h1, h2⟩ := bind_some' h
    refine wpIn_block (wpIn_mono (exec_sound hμ hR hL hit s _ c1 ro hn n _ _ _ _ a w g h1 hA) fun e a1 w1 hp => ?_)
    obtain ⟨rfl, g1, dfs1, hx, hm, hA1⟩ := hp
    cases x with
    | normal => cases h2; exact ⟨rfl, g1, dfs1, hx, hm, hA1⟩
    | ret => cases h2; exact ⟨rfl, g1, dfs1, hx, hm, hA1⟩
    | exit j =>
      simp only [blkD] at h2
      simp only [exOf, Exit.inBlock]
      split at h2 <;> cases h2
      · rename_i e; rw [if_pos e]; exact ⟨rfl, g1, dfs1, hx, hm, hA1⟩
      · rename_i e; rw [if_neg e]; exact ⟨rfl, g1, dfs1, hx, hm, hA1⟩
  | .loop kill s, c, hc, ro, hn, n, dfs, env, st, r, a, w, g, h, hA => by
    unfold chkCode at hc
    split at hc <;> first | (cases hc; done) | skip
    simp only [exec] at h
    exact wp_loopAt (loop_sound hL (m := n) (fun n dfs env st r a w g h hA => exec_sound hμ hR hL hit s _ hc ro hn n dfs env st r a w g h hA) n dfs env st r a w g h hA)
  | .frame s, c, hc, ro, hn, n, dfs, env, st, r, a, w, g, h, hA => by
    unfold chkCode at hc
    exact frame_sound hL (fun n dfs env st r a w g h hA => exec_sound hμ hR hL hit s c hc ro hn n dfs env st r a w g h hA) n dfs env st r a w g h hA
  | .nilc d x sz bytes s, c, hc, ro, hn, n, dfs, env, st, r, a, w, g, h, hA => by
    unfold chkCode at hc
    obtain ⟨h1, h2⟩ := and2 hc
    simp only [exec] at h
    split at h
    · rename_i h0
      cases h
      exact nilc_ok hμ h1 h0 hA fun a' w' g' hx hA' => .at rfl hx hA'
    · exact exec_sound hμ hR hL hit s c h2 ro hn n dfs env st r a w g h hA
  | .grow d m sz bytes, c, hc, ro, hn, n, dfs, env, st, r, a, w, g, h, hA => by
    unfold chkCode at hc
    split at hc <;> first | (cases hc; done) | skip
    rename_i id ops dr
    obtain ⟨h1, h2⟩ := and2 hc
    simp only [exec] at h
    obtain ⟨rfl, k⟩ := grow_ok (Q := CPost w g μ nt dfs r) hμ h2 h hA
    have hdr : dr = false := by simpa using h1
    subst hdr
    exact wpIn_region (k fun a' w' g' hx hA' => .at rfl hx hA')
  | .range k f x ps sa b, c, hc, ro, hn, n, dfs, env, st, r, a, w, g, h, hA => by
    unfold chkCode at hc
    split at hc <;> first | (cases hc; done) | skip
    simp only [Bool.and_eq_true, decide_eq_true_eq] at hc
    obtain ⟨⟨⟨⟨⟨⟨c1, c2⟩, c3⟩, c4⟩, c5⟩, c6⟩, c7⟩ := hc
    have hro : ro = none := hn.resolve_right (by simp [noR])
    subst hro
    have iha := fun l n dfs env st r a w g h hA => exec_sound hμ hR hL hit sa _ c5 (some l) (.inr c4) n dfs env st r a w g h hA
    have ihb := fun l n dfs env st r a w g h hA => exec_sound hμ hR hL hit b _ c7 (some l) (.inr c6) n dfs env st r a w g h hA
    have hk := hit _ (List.contains_iff_mem.1 c2)
    cases k with
    | zero => exact range_okU hμ hL hk c1 c3 iha ihb h hA
    | succ k => exact range_ok hμ hL hk c1 c3 iha ihb h hA
  | .clone d x sz bytes, c, hc, ro, hn, n, dfs, env, st, r, a, w, g, h, hA => by
    unfold chkCode at hc
    split at hc <;> first | (cases hc; done) | skip
    rename_i id ops dr
    obtain ⟨h1, h2⟩ := and2 hc
    simp only [exec] at h
    obtain ⟨e, env', st'⟩ := r
    obtain ⟨rfl, k⟩ := clone_ok (Q := CPost w g μ nt dfs (e, env', st')) hμ h2 h hA
    have hdr : dr = false := by simpa using h1
    subst hdr
    exact wpIn_region (k fun a' w' g' hx hA' => .at rfl hx hA')
theorem tail_sound (hμ : μ.Nodup) (hR : ROk P R) (hL : RLen R) (hit : ∀ p ∈ Iters.it, IterOk P p.1 p.2) : ∀ (s : SCode) (l : Nat) (c : Code), chkTail μ nt P l s c = true → ∀ (ro : Option Nat), (ro = none ∨ noR s = true) → ∀ (n : Nat) (dfs : List Deferred) (env : List D) (st : St) (r : Out) (a : Act) (w : World) (g : Gh),
    exec R n s env st = some r → At w g μ nt dfs [] env [] st a → c.wpIn (wideR ro) 0 P (jmt l (CPost w g μ nt dfs r)) a w
  | .skip, l, c, hc, ro, hn, n, dfs, env, st, r, a, w, g, h, hA => by
    unfold chkTail at hc
    split at hc <;> first | (cases hc; done) | skip
    simp only [decide_eq_true_eq] at hc
    simp only [exec] at h
    cases h
    exact wpIn_goto ⟨hc, .at rfl (Ext.refl w g) hA⟩
  | .seq s t, l, c, hc, ro, hn, n, dfs, env, st, r, a, w, g, h, hA => by
    obtain ⟨hn1, hn2⟩ := noR2 hn
    unfold chkTail at hc
    split at hc <;> first | (cases hc; done) | skip
    obtain ⟨c1, c2⟩ := and2 hc
    simp only [exec] at h
    obtain ⟨⟨x, env', st'⟩, h1, h2⟩ := bind_some' h
    refine wpIn_seq (wpIn_mono (exec_sound hμ hR hL hit s _ c1 ro hn1 n _ _ _ _ a w g h1 hA) fun e a1 w1 hp => ?_)
    obtain ⟨rfl, g1, dfs1, hx, hm, hA1⟩ := hp
    cases x with
    | normal =>
      refine wpIn_mono (tail_sound hμ hR hL hit t l _ c2 ro hn2 n _ _ _ r a1 w1 g1 h2 hA1) fun e a w hq => ?_
      cases e <;> first | exact hq.elim | exact ⟨hq.1, hq.2.of' hx hm⟩ | exact CPost.of' hx hm hq
    | exit i => cases h2; exact ⟨rfl, g1, dfs1, hx, hm, hA1⟩
    | ret => cases h2; exact ⟨rfl, g1, dfs1, hx, hm, hA1⟩
  | .ret, l, c, hc, ro, hn, n, dfs, env, st, r, a, w, g, h, hA => by simp [chkTail] at hc
  | .exit _, l, c, hc, ro, hn, n, dfs, env, st, r, a, w, g, h, hA => by simp [chkTail] at hc
  | .ops _, l, c, hc, ro, hn, n, dfs, env, st, r, a, w, g, h, hA => by simp [chkTail] at hc
  | .ifs _ _ _ _, l, c, hc, ro, hn, n, dfs, env, st, r, a, w, g, h, hA => by simp [chkTail] at hc
  | .block _ _, l, c, hc, ro, hn, n, dfs, env, st, r, a, w, g, h, hA => by simp [chkTail] at hc
  | .loop _ _, l, c, hc, ro, hn, n, dfs, env, st, r, a, w, g, h, hA => by simp [chkTail] at hc
  | .clone _ _ _ _, l, c, hc, ro, hn, n, dfs, env, st, r, a, w, g, h, hA => by simp [chkTail] at hc
  | .nilc _ _ _ _ _, l, c, hc, ro, hn, n, dfs, env, st, r, a, w, g, h, hA => by simp [chkTail] at hc
  | .grow _ _ _ _, l, c, hc, ro, hn, n, dfs, env, st, r, a, w, g, h, hA => by simp [chkTail] at hc
  | .range _ _ _ _ _ _, l, c, hc, ro, hn, n, dfs, env, st, r, a, w, g, h, hA => by simp [chkTail] at hc
  | .frame _, l, c, hc, ro, hn, n, dfs, env, st, r, a, w, g, h, hA => by simp [chkTail] at hc
theorem pre_sound (hμ : μ.Nodup) (hR : ROk P R) (hL : RLen R) (hit : ∀ p ∈ Iters.it, IterOk P p.1 p.2) : ∀ (s : SCode) (l : Nat) (c0 c r1 : Code), chkPre μ nt P l s c = true → (findLabel c l = some r1 ∧ findLabel c0 l = some r1) → ∀ (ro : Option Nat), (ro = none ∨ noR s = true) → ∀ (n : Nat) (dfs : List Deferred) (env : List D) (st : St) (r : Out) (a : Act) (w : World) (g : Gh),
    exec R n s env st = some r → At w g μ nt dfs [] env [] st a → c.wpIn (wideR ro) 0 P (jmq l (ScopeAt ro P c0 r1 (CPost w g μ nt dfs r)) (CPost w g μ nt dfs r)) a w
  | .seq s t, l, c0, c, r1, hc, hl, ro, hn, n, dfs, env, st, r, a, w, g, h, hA => by
    obtain ⟨hn1, hn2⟩ := noR2 hn
    unfold chkPre at hc
    split at hc <;> first | (cases hc; done) | skip
    rename_i ca cb
    obtain ⟨c1, c2, c3⟩ := and3 hc
    have hl2 : findLabel cb l = some r1 := by
      have := hl.1
      simp only [findLabel, Option.isNone_iff_eq_none.1 c1] at this
      exact this
    simp only [exec] at h
    obtain ⟨⟨x, env', st'⟩, h1, h2⟩ := bind_some' h
    refine wpIn_seq (wpIn_mono (exec_sound hμ hR hL hit s _ c2 ro hn1 n _ _ _ _ a w g h1 hA) fun e a1 w1 hp => ?_)
    obtain ⟨rfl, g1, dfs1, hx, hm, hA1⟩ := hp
    cases x with
    | normal =>
      refine wpIn_mono (pre_sound hμ hR hL hit t l c0 _ r1 c3 ⟨hl2, hl.2⟩ ro hn2 n _ _ _ r a1 w1 g1 h2 hA1) fun e a w hq => ?_
      cases e <;> first | exact ⟨hq.1, hq.2.mono fun e a w hq => hq.of' hx hm⟩ | exact CPost.of' hx hm hq
    | exit i => cases h2; exact ⟨rfl, g1, dfs1, hx, hm, hA1⟩
    | ret => cases h2; exact ⟨rfl, g1, dfs1, hx, hm, hA1⟩
  | .loop kill s, l, c0, c, r1, hc, hl, ro, hn, n, dfs, env, st, r, a, w, g, h, hA => by
    unfold chkPre at hc
    split at hc <;> first | (cases hc; done) | skip
    rename_i j b
    obtain ⟨c1, c2⟩ := and2 hc
    simp only [decide_eq_true_eq] at c1
    subst c1
    simp only [exec] at h
    have hf : some (.seq .skip b) = some r1 := by simpa [findLabel] using hl.1
    cases hf
    exact wpIn_seq (wpIn_label (scope_sound hL (m := n) hl.2 (fun n dfs env st r a w g h hA => tail_sound hμ hR hL hit s _ _ c2 ro hn n dfs env st r a w g h hA) n dfs env st r a w g h hA))
  | .skip, l, c0, c, r1, hc, hl, ro, hn, n, dfs, env, st, r, a, w, g, h, hA => by simp [chkPre] at hc
  | .ret, l, c0, c, r1, hc, hl, ro, hn, n, dfs, env, st, r, a, w, g, h, hA => by simp [chkPre] at hc
  | .exit _, l, c0, c, r1, hc, hl, ro, hn, n, dfs, env, st, r, a, w, g, h, hA => by simp [chkPre] at hc
  | .ops _, l, c0, c, r1, hc, hl, ro, hn, n, dfs, env, st, r, a, w, g, h, hA => by simp [chkPre] at hc
  | .ifs _ _ _ _, l, c0, c, r1, hc, hl, ro, hn, n, dfs, env, st, r, a, w, g, h, hA => by simp [chkPre] at hc
  | .block _ _, l, c0, c, r1, hc, hl, ro, hn, n, dfs, env, st, r, a, w, g, h, hA => by simp [chkPre] at hc
  | .clone _ _ _ _, l, c0, c, r1, hc, hl, ro, hn, n, dfs, env, st, r, a, w, g, h, hA => by simp [chkPre] at hc
  | .nilc _ _ _ _ _, l, c0, c, r1, hc, hl, ro, hn, n, dfs, env, st, r, a, w, g, h, hA => by simp [chkPre] at hc
  | .grow _ _ _ _, l, c0, c, r1, hc, hl, ro, hn, n, dfs, env, st, r, a, w, g, h, hA => by simp [chkPre] at hc
  | .range _ _ _ _ _ _, l, c0, c, r1, hc, hl, ro, hn, n, dfs, env, st, r, a, w, g, h, hA => by simp [chkPre] at hc
  | .frame _, l, c0, c, r1, hc, hl, ro, hn, n, dfs, env, st, r, a, w, g, h, hA => by simp [chkPre] at hc
end
end
end Go.Q
namespace Go.Q
variable [Known] [Iters]

def chkRes (μ : List Nat) (P : Program) : List ResultVar → List SRes → Bool
  | [], [] => true
  | .tmp t :: rs, .var i :: ss => μ[i]? == some t && chkRes μ P rs ss
  | .cell x t :: rs, .cell sz i :: ss => μ[i]? == some x && osz P t sz && chkRes μ P rs ss
  | _, _ => false
def resVars : List SRes → List Nat
  | [] => []
  | .var i :: r => i :: resVars r
  | .cell _ _ :: r => resVars r
def chkFn (P : Program) (f : Nat) (F : SFunc) (μ : List Nat) : Bool :=
  orF P.funcs[f]? fun fn => fn.name != "runtime.NumGoroutine" && (orF fn.body fun c => chkCode μ fn.ntmps P F.code c) && chkRes μ P fn.results.toList F.res &&
    decide (μ.Nodup) && decide ((resVars F.res).Nodup) && μ.take F.np == List.range F.np && decide (F.np ≤ fn.ntmps)

section
variable {P : Program} {w : World} {g : Gh} {μ : List Nat} {nt : Nat} {dfs : List Deferred} {env ts : List D} {st : St} {a : Act} {R : Run}

def toRes (rs : List SRes) : Pl → Pl
  | .env i => match rs.findIdx? (fun s => match s with | .var j => j == i | _ => false) with
    | some k => .res k
    | none => .env i
  | .res k => .tmp 0 k
  | p => p
def Gh.kept (g : Gh) : Gh := { g with own := fun b => (g.own b).bind fun p => if (p.isCell || p.isRes) = true then some p else none }

theorem kept_D {pl : Nat → Pl} {d : D} {v : Value} (hn : ∀ b, g.own b ≠ some .nil) (h : RelD w g pl d v) (hpl : ∀ k, ((pl k).isCell || (pl k).isRes) = true) : RelD w g.kept pl d v :=
  h.mono ⟨fun _ _ _ => rfl, fun _ => Nat.le_refl _⟩ hn (fun b k hb => ⟨by simp only [Gh.kept, hb, Option.bind_some, hpl k, if_true], rfl, fun _ => ⟨id, id⟩⟩) (fun r hr => ⟨hr, rfl, rfl, rfl, rfl⟩)
theorem kept_own {b : Nat} {p : Pl} (h : g.kept.own b = some p) : g.own b = some p ∧ (p.isCell || p.isRes) = true := by
  obtain ⟨q, h1, h2⟩ := bind_some' h
  split at h2 <;> cases h2
  exact ⟨h1, by assumption⟩
theorem kept_S (h : RelS w g st) : RelS w g.kept st := by
  refine ⟨h.live, fun r b hb => ?_, fun r hr => ?_, h.inj, fun b p hb => h.own b p (kept_own hb).1, fun b hb => h.nil b (kept_own hb).1, h.fresh, h.gl⟩
  · have hB := h.blk r b hb
    cases b with
    | dead => trivial
    | it s pos => exact hB
    | mp es =>
      obtain ⟨arr, clock, h8, h9, h10⟩ := hB
      refine ⟨arr, clock, h8, h9, fun i hi hi' => ?_⟩
      obtain ⟨h11, h12, h13⟩ := h10 i hi hi'
      exact ⟨h11, h12, kept_D h.nil h13 (fun _ => rfl)⟩
    | row xs =>
      simp only [RelB] at hB ⊢
      refine ⟨hB.1, fun i hi => ?_⟩
      obtain ⟨h2, h3⟩ := hB.2 i hi
      refine ⟨h2, fun j hj => ?_⟩
      obtain ⟨h4, h5, v, h6, h7, h8⟩ := h3 j hj
      exact ⟨h4, h5, v, h6, h7, kept_D h.nil h8 (fun _ => rfl)⟩
  · obtain ⟨h1, h2, h3, h4⟩ := h.be r hr
    exact ⟨h1, h2, by show (g.own (g.be r)).bind _ = none; rw [h3]; rfl, h4⟩
theorem toRes_nil (rs : List SRes) (p : Pl) (h : toRes rs p = .nil) : p = .nil := by
  cases p <;> simp only [toRes] at h <;> first | (cases h; done) | rfl | (split at h <;> cases h)

def D.plain : D → Bool
  | .lin _ _ => false
  | .agg _ => false
  | .tup _ => false
  | _ => true
theorem RelD.anyPl {pl : Nat → Pl} {d : D} {v : Value} (h : RelD w g pl d v) (hn : d.plain = true) (pl' : Nat → Pl) : RelD w g pl' d v := by
  cases h with
  | v _ x v h => exact .v _ _ _ h
  | nils _ z => exact .nils _ z
  | lin _ z xs v h hs => exact absurd hn (by simp [D.plain])
  | own _ r z off len x c ad hl hc' hz ha => exact .own _ r z off len x c ad hl hc' hz ha
  | arr _ r i off len c ad hl hc' ha => exact .arr _ r i off len c ad hl hc' ha
  | ptr _ r i off hl => exact .ptr _ r i off hl
  | va _ cs off b o f h1 h2 h3 h4 => exact .va _ cs off b o f h1 h2 h3 h4
  | map _ r hl => exact .map _ r hl
  | clo _ f fs cs vf vc h1 h2 h3 h4 => exact .clo _ f fs cs vf vc h1 h2 h3 h4
  | ifc _ t d v h => exact .ifc _ t d v h
  | agg => exact absurd hn (by simp [D.plain])
  | tup => exact absurd hn (by simp [D.plain])
  | undef _ v => exact .undef _ v

theorem frzs_at {n : Nat} : ∀ {ds ds' : List D}, frzs st n ds = some ds' → ds'.length = ds.length ∧ ∀ i (h : i < ds.length) (h' : i < ds'.length), frz st n ds[i] = some ds'[i]
  | [], ds', h => by simp only [frzs] at h; cases h; exact ⟨rfl, fun i h => by simp at h⟩
  | d :: ds, ds', h => by
    simp only [frzs] at h
    obtain ⟨x, h1, h2⟩ := bind_some' h
    obtain ⟨r, h3, rfl⟩ := map_some' h2
    obtain ⟨h4, h5⟩ := frzs_at h3
    refine ⟨by simp [h4], fun i hi hi' => ?_⟩
    cases i with
    | zero => exact h1
    | succ i => exact h5 i (by simpa using hi) (by simpa using hi')
theorem toVs_get : ∀ {ds : List D} {xs : List V}, toVs ds = some xs → xs.length = ds.length ∧ ∀ i (h : i < ds.length) (h' : i < xs.length), toV1 ds[i] = some xs[i]
  | [], xs, h => by simp only [toVs] at h; cases h; exact ⟨rfl, fun i h => by simp at h⟩
  | d :: ds, xs, h => by
    simp only [toVs] at h
    obtain ⟨x, h1, h2⟩ := bind_some' h
    obtain ⟨r, h3, rfl⟩ := map_some' h2
    obtain ⟨h4, h5⟩ := toVs_get h3
    refine ⟨by simp [h4], fun i hi hi' => ?_⟩
    cases i with
    | zero => exact h1
    | succ i => exact h5 i (by simpa using hi) (by simpa using hi')
theorem refsBelows_get {n : Nat} : ∀ {ds : List D}, refsBelows n ds = true → ∀ i (h : i < ds.length), refsBelow n ds[i] = true
  | [], _, i, h => by simp at h
  | d :: ds, hb, i, h => by
    simp only [refsBelows, Bool.and_eq_true] at hb
    cases i with
    | zero => exact hb.1
    | succ i => exact refsBelows_get hb.2 i (by simpa using h)
theorem frz_rel {n : Nat} {p : Pl} {d d' : D} {v : Value} (h : RelS w g st) (hl : st.length = n + 1) (hp : lowPl n p = true) (hd : RelD w g (fun _ => p) d v) (hc : d.isCell = true) (hr : frz st n d = some d') :
    d'.isCell = true ∧ (refsBelow n d' = true → RelD w (g.pop w n) (fun _ => p) d' v) ∧ ∀ x, toV1 d' = some x → RelV w (g.pop w n).L x v := by
  have hP := pop_rel h hl
  have row : ∀ r, rowRef d = some r → ¬ r.lvl < n → ∀ x, rdV st d = some x → RelV w (g.pop w n).L x v := fun r hr hge x hx => by
    refine rdV_rel h hd hx hP.L fun r' hr' hlv => ?_
    rw [hr] at hr'; cases hr'
    have hlvl : r.lvl < n + 1 := by
      obtain ⟨b, hb⟩ := (h.live r).1 hlv
      rw [← hl]; exact getB_lvl hb
    have hg : g.gone n (g.be r) := ⟨r, hlv, by omega, rfl⟩
    simp only [Gh.pop]; rw [if_pos hg]; exact Nat.le_refl _
  have same : d' = d → (∀ x, toV1 d = some x → toV d = some x) → d'.isCell = true ∧ (refsBelow n d' = true → RelD w (g.pop w n) (fun _ => p) d' v) ∧ ∀ x, toV1 d' = some x → RelV w (g.pop w n).L x v := fun e ht => by
    subst e
    exact ⟨hc, fun hb => hP.D hd (fun _ => hp) hb, fun x hx => (toV_rel hd (ht x hx)).mono (fun _ _ _ => rfl) hP.L⟩
  have slcCell : ∀ x, rdV st d = some x → isRow d = true → x.isCell = true := fun x hx hrow => by
    cases d <;> first | (cases hrow; done) | skip
    · simp only [rdV] at hx
      unfold rowV at hx
      split at hx <;> first | (cases hx; done) | skip
      split at hx <;> first | (cases hx; done) | skip
      obtain ⟨ys, _, rfl⟩ := map_some' hx
      rfl
    · simp only [rdV] at hx
      unfold arrV at hx
      split at hx <;> first | (cases hx; done) | skip
      split at hx <;> first | (cases hx; done) | skip
      obtain ⟨ys, _, rfl⟩ := map_some' hx
      rfl
  cases d with
  | own r z off len fl =>
    simp only [frz] at hr
    split at hr
    · cases hr; exact same rfl (fun x hx => by simp [toV1] at hx)
    · rename_i hge
      obtain ⟨x, h1, rfl⟩ := map_some' hr
      have hv := row r rfl hge x h1
      exact ⟨slcCell x h1 rfl, fun _ => .v _ _ _ hv, fun x' hx' => by simp only [toV1] at hx'; cases hx'; exact hv⟩
  | arr r i off len =>
    simp only [frz] at hr
    split at hr
    · cases hr; exact same rfl (fun x hx => by simp [toV1] at hx)
    · rename_i hge
      obtain ⟨x, h1, rfl⟩ := map_some' hr
      have hv := row r rfl hge x h1
      exact ⟨slcCell x h1 rfl, fun _ => .v _ _ _ hv, fun x' hx' => by simp only [toV1] at hx'; cases hx'; exact hv⟩
  | _ => simp only [frz] at hr; cases hr; exact same rfl (fun x hx => by first | exact hx | simp [toV1] at hx)

theorem linOf_or (b : Bool) (x : V) : (∃ z xs, linOf b x = .lin z xs) ∨ linOf b x = .v x := by
  unfold linOf
  split
  · exact .inl ⟨_, _, rfl⟩
  · exact .inr rfl
theorem retD_rel {n : Nat} {p : Pl} {d d' : D} {v : Value} (h : RelS w g st) (hl : st.length = n + 1) (hp : lowPl n p = true) (hd : RelD w g (fun _ => p) d v) (hr : retD st n d = some d') :
    ∀ pl : Nat → Pl, pl 0 = p → RelD w (g.pop w n) pl d' v := by
  intro pl hpl
  have hP := pop_rel h hl
  have row : ∀ r, rowRef d = some r → ¬ r.lvl < n → ∀ x, rdV st d = some x → RelD w (g.pop w n) pl (.v x) v := fun r hr hge x hx => by
    refine .v _ _ _ (rdV_rel h hd hx hP.L fun r' hr' hlv => ?_)
    rw [hr] at hr'; cases hr'
    have hlvl : r.lvl < n + 1 := by
      obtain ⟨b, hb⟩ := (h.live r).1 hlv
      rw [← hl]; exact getB_lvl hb
    have hg : g.gone n (g.be r) := ⟨r, hlv, by omega, rfl⟩
    simp only [Gh.pop]; rw [if_pos hg]; exact Nat.le_refl _
  cases d with
  | v x => simp only [retD] at hr; cases hr; exact (hP.D hd (fun _ => hp) rfl).anyPl rfl _
  | nils z =>
    simp only [retD] at hr; cases hr; cases hd
    exact .lin _ _ _ _ (.slc0 _ _ _) (.inl rfl)
  | lin z xs =>
    simp only [retD] at hr; cases hr
    exact (hP.D hd (fun _ => hp) rfl).place rfl hpl.symm
  | own r z off len fl =>
    simp only [retD] at hr
    split at hr
    · rename_i hlt
      cases hr
      exact (hP.D hd (fun _ => hp) (by simp [refsBelow, hlt])).anyPl rfl _
    · rename_i hge
      obtain ⟨x, h1, rfl⟩ := map_some' hr
      have hrow := row r rfl hge x h1
      unfold linOf
      split
      · rename_i z' xs hb
        cases hrow with | v _ _ _ hrow =>
        simp only [Bool.and_eq_true] at hb
        obtain ⟨hb1, hb2⟩ := hb
        cases hd with | own _ _ _ _ _ _ c ad hl' hc hz ha =>
        refine .lin _ _ _ _ hrow (.inl ?_)
        unfold fullB at hb2
        split at hb2 <;> first | (cases hb2; done) | skip
        rename_i ys hg
        have hB := h.blk r _ hg
        simp only [RelB] at hB
        have := hc.2.1 hb1
        have := hc.1
        have := of_decide_eq_true hb2
        omega
      · exact hrow
  | arr r i off len =>
    simp only [retD] at hr
    split at hr
    · rename_i hlt
      cases hr
      exact (hP.D hd (fun _ => hp) (by simp [refsBelow, hlt])).anyPl rfl _
    · rename_i hge
      obtain ⟨x, h1, rfl⟩ := map_some' hr
      exact row r rfl hge x h1
  | agg ds =>
    simp only [retD] at hr
    obtain ⟨ds', hz, hr⟩ := bind_some' hr
    obtain ⟨z1, z2⟩ := frzs_at hz
    cases hd with | agg _ _ cs hlen hk hrr =>
    have part : ∀ i (hi : i < ds'.length) (hc : i < cs.size), ds'[i].isCell = true ∧ (refsBelow n ds'[i] = true → RelD w (g.pop w n) (fun _ => p) ds'[i] cs[i]) ∧ ∀ x, toV1 ds'[i] = some x → RelV w (g.pop w n).L x cs[i] := fun i hi hc =>
      frz_rel h hl hp (hrr i (by omega)) (hk i (by omega)) (z2 i (by omega) hi)
    unfold retA at hr
    split at hr
    · rename_i x hx
      cases hr
      obtain ⟨t1, t2⟩ := toVs_get hx
      refine .v _ _ _ (.agg _ cs (by omega) (fun i hi => ?_) (fun i hi => ?_))
      · obtain ⟨p1, _, p3⟩ := part i (by omega) (by omega)
        have h9 := t2 i (by omega) hi
        generalize ds'[i]'(by omega) = dd at p1 h9
        cases dd <;> simp only [toV1] at h9 <;> first | (cases h9; done) | skip
        · rw [← Option.some.inj h9]; exact p1
        · rw [← Option.some.inj h9]; rfl
        · rw [← Option.some.inj h9]; rfl
      · exact (part i (by omega) (by omega)).2.2 _ (t2 i (by omega) hi)
    · split at hr <;> cases hr
      rename_i hb
      have hb' := refsBelows_get hb
      refine .agg _ _ cs (by simp; omega) (fun i hi => ?_) (fun i hi => ?_)
      · simp only [List.getElem_map]
        have hi' : i < ds'.length := by simpa using hi
        obtain ⟨p1, p2, _⟩ := part i hi' (by omega)
        exact ((p2 (hb' i hi')).cp1 (pl' := fun _ => .nil) p1).2
      · simp only [List.getElem_map]
        have hi' : i < ds'.length := by simpa using hi
        obtain ⟨p1, p2, _⟩ := part i hi' (by omega)
        exact ((p2 (hb' i hi')).cp1 p1).1
  | tup ds => simp only [retD] at hr; cases hr
  | ptr r i off => simp only [retD] at hr; split at hr <;> cases hr; exact (hP.D hd (fun _ => hp) (by assumption)).anyPl rfl _
  | va cs off => simp only [retD] at hr; split at hr <;> cases hr; exact (hP.D hd (fun _ => hp) (by assumption)).anyPl rfl _
  | map r => simp only [retD] at hr; split at hr <;> cases hr; exact (hP.D hd (fun _ => hp) (by assumption)).anyPl rfl _
  | clo f fs cs => simp only [retD] at hr; split at hr <;> cases hr; exact (hP.D hd (fun _ => hp) (by assumption)).anyPl rfl _
  | ifc t d => simp only [retD] at hr; split at hr <;> cases hr; exact (hP.D hd (fun _ => hp) (by assumption)).anyPl rfl _
  | undef => simp only [retD] at hr; split at hr <;> cases hr; exact .undef _ _

def resF (tmps : Array Value) : ResultVar → Sem Value
  | .tmp t => pure (tmps.getD t undef)
  | .cell a t => do loadVar t (← asAddr (tmps.getD a undef))
theorem results_eq (fn : Func) (tmps : Array Value) : results fn tmps = (do let vs ← fn.results.mapM (resF tmps); pure (if h : vs.size = 1 then vs[0] else .tuple vs)) := by
  have : (fun x => match x with | .tmp t => pure (tmps.getD t undef) | .cell a t => do loadVar t (← asAddr (tmps.getD a undef)) : ResultVar → Sem Value) = resF tmps := by
    funext x; cases x <;> rfl
  unfold results
  rw [← this]
  rfl
theorem resOne {tmps : Array Value} {env : List D} {d : D} {s : SRes} {rv : ResultVar} (h : RelA w g μ [] env [] st tmps) (hc : chkRes μ P [rv] [s] = true) (hd : resOf env st s = some d) :
    ∃ v, (resF tmps rv).run P w = .ok v w ∧
      match s with | .var i => RelD w g (fun _ => .env i) d v | .cell _ _ => ∀ pl, RelD w g pl d v := by
  cases rv with
  | tmp t =>
    cases s with
    | var i =>
      simp only [chkRes, Bool.and_true, beq_iff_eq] at hc
      simp only [resOf] at hd
      cases hd
      exact ⟨_, rfl, h.e i t hc⟩
    | cell sz i => simp [chkRes] at hc
  | cell x t =>
    cases s with
    | var i => simp [chkRes] at hc
    | cell sz i =>
      simp only [chkRes, Bool.and_true, Bool.and_eq_true, beq_iff_eq] at hc
      simp only [resOf] at hd
      obtain ⟨r, h1, h2⟩ := load_ok (P := P) h.s ((h.e i x hc.1).cp (pl' := fun _ => .nil)) hd hc.2
      refine ⟨r, ?_, h2⟩
      show (do loadVar t (← asAddr (tmps.getD x undef)) : Sem Value).run P w = _
      generalize hv : tmps.getD x undef = v at h1 ⊢
      cases v <;> try (simp [Instr.loadAt, Instr.sureAddr, stuck] at h1; done)
      rename_i ad
      cases ad with
      | none => simp [Instr.loadAt, Instr.sureAddr, stuck] at h1
      | some ad =>
        simp only [Instr.loadAt, Instr.sureAddr, Sem.run_bind, Sem.run_pure, Result.andThen_ok] at h1
        simp only [asAddr, Sem.run_bind, Sem.run_pure, Result.andThen_ok]
        exact h1
end
end Go.Q

namespace Go.Q
variable [Known] [Iters]
section
variable {P : Program} {w : World} {g : Gh} {μ : List Nat} {nt : Nat} {st : St} {R : Run}

def onePl (s : SRes) (k : Nat) : Pl := match s with
  | .var i => .env i
  | .cell _ _ => .res k

theorem resAll {tmps : Array Value} {env : List D} : ∀ {rs : List ResultVar} {ss : List SRes} {ds : List D}, RelA w g μ [] env [] st tmps → chkRes μ P rs ss = true → resList env st ss = some ds →
    ∃ vs : List Value, (rs.mapM (resF tmps)).run P w = .ok vs w ∧ vs.length = ds.length ∧ ss.length = ds.length ∧
      ∀ i (h : i < ds.length) (h' : i < vs.length) (h'' : i < ss.length), match ss[i] with | .var j => RelD w g (fun _ => .env j) ds[i] vs[i] | .cell _ _ => ∀ pl, RelD w g pl ds[i] vs[i]
  | [], [], ds, h, hc, hd => by
    simp only [resList] at hd; cases hd
    exact ⟨[], rfl, rfl, rfl, fun i hi => by simp at hi⟩
  | [], _ :: _, ds, h, hc, hd => by simp [chkRes] at hc
  | rv :: rs, [], ds, h, hc, hd => by cases rv <;> simp [chkRes] at hc
  | rv :: rs, s :: ss, ds, h, hc, hd => by
    have c12 : chkRes μ P [rv] [s] = true ∧ chkRes μ P rs ss = true := by
      cases rv <;> cases s <;> simp only [chkRes, Bool.and_eq_true, and_true, Bool.false_eq_true] at hc ⊢ <;> first | exact hc | exact hc.elim
    simp only [resList] at hd
    obtain ⟨d, h1, h2⟩ := bind_some' hd
    obtain ⟨ds', h3, rfl⟩ := map_some' h2
    obtain ⟨v, e1, e2⟩ := resOne h c12.1 h1
    obtain ⟨vs, e3, e4, e5, e6⟩ := resAll h c12.2 h3
    refine ⟨v :: vs, ?_, by simp [e4], by simp [e5], fun i hi hi' hi'' => ?_⟩
    · rw [List.mapM_cons, Sem.run_bind, e1, Result.andThen_ok, Sem.run_bind, e3, Result.andThen_ok]
      rfl
    · cases i with
      | zero => cases s <;> exact e2
      | succ i => exact e6 i (by simpa using hi) (by simpa using hi') (by simpa using hi'')

theorem retDs_at {k : Bool} {n : Nat} : ∀ {ds ds' : List D}, retDs k st n ds = some ds' → ds'.length = ds.length ∧ ∀ i (h : i < ds.length) (h' : i < ds'.length), retK k st n ds[i] = some ds'[i]
  | [], ds', h => by simp only [retDs] at h; cases h; exact ⟨rfl, fun i h => by simp at h⟩
  | d :: r, ds', h => by
    simp only [retDs] at h
    obtain ⟨x, h1, h2⟩ := bind_some' h
    obtain ⟨ys, h3, rfl⟩ := map_some' h2
    obtain ⟨h4, h5⟩ := retDs_at h3
    refine ⟨by simp [h4], fun i hi hi' => ?_⟩
    cases i with
    | zero => exact h1
    | succ i => exact h5 i (by simpa using hi) (by simpa using hi')

theorem toRes_at : ∀ {rs : List SRes} {k : Nat} {i : Nat}, (resVars rs).Nodup → (hk : k < rs.length) → rs[k] = .var i → toRes rs (.env i) = .res k := by
  intro rs k i hn hk hr
  have find : rs.findIdx? (fun s => match s with | .var j => j == i | _ => false) = some k := by
    rw [List.findIdx?_eq_some_iff_getElem]
    refine ⟨hk, by rw [hr]; simp, fun j hj => ?_⟩
    intro hp
    have key : ∀ (rs : List SRes) (j k : Nat) (hj : j < k) (hk : k < rs.length), rs[j]'(by omega) = .var i → rs[k] = .var i → ¬ (resVars rs).Nodup := by
      intro rs
      induction rs with
      | nil => intro j k hj hk; simp at hk
      | cons s rs ih =>
        intro j k hj hk h1 h2 hnd
        cases k with
        | zero => omega
        | succ k =>
          have mem : ∀ (rs : List SRes) (k : Nat) (hk : k < rs.length), rs[k] = .var i → i ∈ resVars rs := by
            intro rs
            induction rs with
            | nil => intro k hk; simp at hk
            | cons s rs ih =>
              intro k hk h
              cases k with
              | zero => simp at h; subst h; simp [resVars]
              | succ k =>
                have := ih k (by simpa using hk) (by simpa using h)
                cases s <;> simp [resVars, this]
          cases j with
          | zero =>
            simp at h1
            subst h1
            simp only [resVars, List.nodup_cons] at hnd
            exact hnd.1 (mem rs k (by simpa using hk) (by simpa using h2))
          | succ j =>
            have hnd' : (resVars rs).Nodup := by
              cases s with
              | var x => simp only [resVars, List.nodup_cons] at hnd; exact hnd.2
              | cell a b => exact hnd
            exact ih j k (by omega) (by simpa using hk) (by simpa using h1) (by simpa using h2) hnd'
    have hj' : rs[j]'(by omega) = .var i := by
      split at hp
      · rename_i x hx; rw [hx]; simp at hp; rw [hp]
      · cases hp
    exact key rs j k hj hk hj' hr hn
  simp only [toRes]
  rw [find]

theorem RelD.ofNil1 {pl0 : Nat → Pl} {d : D} {v : Value} (hn : ∀ b, g.own b ≠ some .nil) (hd : RelD w g pl0 d v) : (∀ k, pl0 k = .nil) → ∀ pl, RelD w g pl d v := by
  induction hd with
  | v _ x v h => exact fun _ pl => .v _ _ _ h
  | nils _ z => exact fun _ pl => .nils _ z
  | lin pl0 z xs v h hs =>
    intro h0 pl
    refine .lin _ z xs v h ?_
    cases v <;> first | exact hs.elim | skip
    rcases hs with hs | ⟨b, o, _, h2, _⟩
    · exact .inl hs
    · rw [h0] at h2; exact absurd h2 (hn b)
  | own _ r z off len x c ad hl hc' hz ha => exact fun _ pl => .own _ r z off len x c ad hl hc' hz ha
  | arr _ r i off len c ad hl hc' ha => exact fun _ pl => .arr _ r i off len c ad hl hc' ha
  | ptr _ r i off hl => exact fun _ pl => .ptr _ r i off hl
  | va _ cs off b o f h1 h2 h3 h4 => exact fun _ pl => .va _ cs off b o f h1 h2 h3 h4
  | map _ r hl => exact fun _ pl => .map _ r hl
  | clo _ f fs cs vf vc h1 h2 h3 h4 => exact fun _ pl => .clo _ f fs cs vf vc h1 h2 h3 h4
  | ifc _ t d v h => exact fun _ pl => .ifc _ t d v h
  | agg pl0 ds cs hl hk hr ih => exact fun h0 pl => .agg _ ds cs hl hk (fun i hi => ih i hi (fun _ => h0 i) _)
  | tup pl0 ds cs hl hr ih => exact fun h0 pl => .tup _ ds cs hl (fun i hi => ih i hi (fun _ => h0 i) _)
  | undef _ v => exact fun _ pl => .undef _ v
theorem RelD.ofNil {d : D} {v : Value} (hd : RelD w g (fun _ => .nil) d v) (hn : ∀ b, g.own b ≠ some .nil) (pl : Nat → Pl) : RelD w g pl d v := hd.ofNil1 hn (fun _ => rfl) pl

theorem cp1_not {d : D} : ∀ z xs, cp1 d ≠ .lin z xs := by
  intro z xs
  cases d <;> simp [cp1]
theorem retD_free {n : Nat} {d d' : D} {v : Value} {p : Pl} (hr : retD st n d = some d') (h : RelD w g (fun _ => p) d' v) (pl : Nat → Pl) (hpl : pl 0 = p) : RelD w g pl d' v := by
  have one : d'.isCell = true → RelD w g pl d' v := fun hc => h.place hc hpl.symm
  cases d with
  | agg ds =>
    simp only [retD] at hr
    obtain ⟨ds', _, hr⟩ := bind_some' hr
    unfold retA at hr
    split at hr
    · cases hr; exact h.anyPl rfl _
    · split at hr <;> cases hr
      cases h with | agg _ _ cs hlen hk hrr =>
      refine .agg _ _ cs hlen hk (fun i hi => (hrr i hi).anyPl ?_ _)
      have h1 := hk i hi
      have h2 : ∀ z xs, (ds'.map cp1)[i] ≠ .lin z xs := by simp only [List.getElem_map]; exact cp1_not
      generalize (ds'.map cp1)[i] = x at h1 h2
      cases x <;> first | rfl | (simp [D.isCell] at h1; done) | exact absurd rfl (h2 _ _)
  | v x => simp only [retD] at hr; cases hr; exact h.anyPl rfl _
  | nils z => simp only [retD] at hr; cases hr; exact one rfl
  | lin z xs => simp only [retD] at hr; cases hr; exact one rfl
  | own r z off len fl =>
    simp only [retD] at hr
    split at hr
    · cases hr; exact one rfl
    · obtain ⟨x, _, rfl⟩ := map_some' hr
      rcases linOf_or (fl && fullB (off + len) (getB st r)) x with ⟨z', xs, e⟩ | e
      · rw [e] at h one ⊢; exact one rfl
      · rw [e] at h ⊢; exact h.anyPl rfl _
  | arr r i off len =>
    simp only [retD] at hr
    split at hr
    · cases hr; exact one rfl
    · obtain ⟨x, _, rfl⟩ := map_some' hr; exact h.anyPl rfl _
  | tup ds => simp only [retD] at hr; cases hr
  | _ => simp only [retD] at hr; split at hr <;> cases hr; exact h.anyPl rfl _

theorem isNils_eq {d : D} (h : isNils d = true) : ∃ z, d = .nils z := by cases d <;> first | exact ⟨_, rfl⟩ | cases h
theorem retK_rel {k : Bool} {n : Nat} {p : Pl} {d d' : D} {v : Value} (h : RelS w g st) (hl : st.length = n + 1) (hp : lowPl n p = true) (hd : RelD w g (fun _ => p) d v) (hr : retK k st n d = some d') :
    ∀ pl : Nat → Pl, pl 0 = p → RelD w (g.pop w n) pl d' v := by
  unfold retK at hr
  split at hr
  · rename_i hk
    obtain ⟨z, rfl⟩ := isNils_eq hk.2
    cases hr
    cases hd
    exact fun _ _ => .nils _ _
  · exact retD_rel h hl hp hd hr
theorem retK_free {k : Bool} {n : Nat} {d d' : D} {v : Value} {p : Pl} (hr : retK k st n d = some d') (h : RelD w g (fun _ => p) d' v) (pl : Nat → Pl) (hpl : pl 0 = p) : RelD w g pl d' v := by
  unfold retK at hr
  split at hr
  · rename_i hk
    obtain ⟨z, rfl⟩ := isNils_eq hk.2
    cases hr
    cases h
    exact .nils _ _
  · exact retD_free hr h pl hpl
theorem leaves_marks {fn : Func} {tmps : Array Value} {Po : Ending → World → Prop} {N : Nat} {g1 : Gh} : ∀ (dfs : List Deferred) (w1 : World), Marks N w1 g1 dfs → (∀ wf, TurnD N w1 wf → ∃ v, (results fn tmps).run P wf = .ok v wf ∧ Po (.returned v) wf) → LeavesInM (wideR none) 0 P fn tmps Po dfs .returning w1
  | [], w1, hm, k => k w1 (TurnD.refl _ _)
  | d :: ds, w1, hm, k => by
    obtain ⟨hnd, hm⟩ := hm
    obtain ⟨D, h1, rfl, h2, h3⟩ := hm d (by simp)
    have hlt := (Array.getElem?_eq_some_iff.1 h2).1
    refine ⟨by simp, .inl ⟨D, _, rfl, run_takeDeferred h2, leaves_marks (N := N) (g1 := g1) ds _ ⟨(List.nodup_cons.1 hnd).2, fun d hd => ?_⟩ fun wf ht => k wf ?_⟩⟩
    · obtain ⟨D', e1, rfl, e2, e3⟩ := hm d (by simp [hd])
      have hne : D' ≠ D := fun e => by subst e; exact (List.nodup_cons.1 hnd).1 hd
      exact ⟨D', e1, rfl, (World.putObj_heap_other hne).trans e2, e3⟩
    · refine ⟨ht.os, ht.tape, ht.output, Nat.le_trans (by simp) ht.size, fun b hb => ?_⟩
      by_cases e : b = D
      · subst e; exact .inr ⟨h1, _, h2⟩
      · rcases ht.block b (by simpa using hb) with h4 | ⟨h4, x, h5⟩
        · exact .inl (h4.trans (World.putObj_heap_other e))
        · exact .inr ⟨h4, x, (World.putObj_heap_other e).symm.trans h5⟩
theorem fn_sound {f : Nat} {F : SFunc} (hR : ROk P R) (hL : RLen R) (hit : ∀ p ∈ Iters.it, IterOk P p.1 p.2) (hc : chkFn P f F μ = true) {n : Nat} {args : List D} {r : D × St} (he : runF R n F args st = some r) :
    FnOk P f ∧ ∀ (vals : Array Value) (w : World) (g : Gh) (hl : args.length = vals.size),
      (∀ i (h : i < args.length), RelD w g (fun _ => .nil) args[i] (vals[i]'(hl ▸ h))) → RelS w g st → (∀ b p, g.own b = some p → p.isCell = true) →
      Calls P f vals w fun e w' => ∃ v g', e = .returned v ∧ Back w g w' g' r.1 r.2 v := by
  obtain ⟨fn, hf, h1⟩ := of_orF hc
  simp only [Bool.and_eq_true, bne_iff_ne, ne_eq, decide_eq_true_eq, beq_iff_eq] at h1
  obtain ⟨⟨⟨⟨⟨⟨c1, c2⟩, c3⟩, c4⟩, c5⟩, c6⟩, c7⟩ := h1
  obtain ⟨c, hb, hcode⟩ := of_orF c2
  refine ⟨⟨fn, hf, c1, by rw [hb]; rfl⟩, fun vals w g hl hv hS hown => ?_⟩
  unfold runF at he
  split at he <;> first | (cases he; done) | skip
  rename_i hnp
  obtain ⟨⟨x, env1, st1⟩, e1, e2⟩ := bind_some' he
  have hvs : vals.size = F.np := by rw [← hl, hnp]
  have free : ∀ {d : D} {v : Value}, RelD w g (fun _ => .nil) d v → ∀ pl, RelD w g pl d v := fun h => h.ofNil hS.nil
  have hA : At w g μ fn.ntmps [] [] (args ++ List.replicate (F.nv - F.np) .undef) [] ([] :: st) { tmps := vals ++ Array.replicate (fn.ntmps - vals.size) undef, defers := [] } := by
    refine ⟨⟨hS.push, fun i t hi => ?_, fun j t hj => by simp at hj⟩, by simp; omega, rfl, rfl, by simp⟩
    by_cases hin : i < F.np
    · have ht : t = i := by
        have h3 : (μ.take F.np)[i]? = some t := by rw [List.getElem?_take_of_lt hin]; exact hi
        rw [c6] at h3
        simp [hin] at h3
        exact h3.symm
      subst ht
      have g1 : getT (args ++ List.replicate (F.nv - F.np) .undef) t = args[t]'(by omega) := by
        have : ∀ (l r : List D) (i : Nat) (h : i < l.length), getT (l ++ r) i = l[i] := by
          intro l
          induction l with
          | nil => intro r i h; simp at h
          | cons d l ih =>
            intro r i h
            cases i with
            | zero => rfl
            | succ i => exact ih r i (by simpa using h)
        exact this _ _ _ _
      have g2 : (vals ++ Array.replicate (fn.ntmps - vals.size) undef).getD t undef = vals[t]'(by omega) := by
        rw [Array.getD_eq_getD_getElem?, Array.getElem?_append_left (by omega), Array.getElem?_eq_getElem (by omega)]; rfl
      show RelD w g _ _ ((vals ++ Array.replicate (fn.ntmps - vals.size) undef).getD t undef)
      rw [g1, g2]
      exact free (hv t (by omega)) _
    · have : getT (args ++ List.replicate (F.nv - F.np) .undef) i = .undef := by
        have : ∀ (l : List D) (m i : Nat), l.length ≤ i → getT (l ++ List.replicate m .undef) i = .undef := by
          intro l
          induction l with
          | nil =>
            intro m i _
            induction m generalizing i with
            | zero => rfl
            | succ m ih => cases i with
              | zero => rfl
              | succ i => exact ih i (Nat.zero_le _)
          | cons d l ih =>
            intro m i h
            cases i with
            | zero => simp at h
            | succ i => exact ih m i (by simpa using h)
        exact this _ _ _ (by omega)
      rw [this]
      exact .undef _ _
  refine calls_of_R (ro := none) (n := 0) (callsIn_of_wp_marks (F := wideR none) hf hb trivial (wpIn_mono (exec_sound c4 hR hL hit F.code c hcode none (.inl rfl) n [] _ _ _ _ w g e1 hA) fun e a1 w0 hp => ?_))
  obtain ⟨rfl, g1, dfs1, hx0, hm0, hA0⟩ := hp
  have hbl : ∀ p ∈ Known.bl, p.1 < w.heap.size := fun p hp => (hS.gl.2 p hp).2.1
  have key : (∀ w1, TurnD w.heap.size w0 w1 → ∃ v, (results fn a1.tmps).run P w1 = .ok v w1 ∧ ∃ v' g', Ending.returned v = .returned v' ∧ Back w g w1 g' r.1 r.2 v') → LeavesInM (wideR none) 0 P fn a1.tmps (fun e w' => ∃ v g', e = .returned v ∧ Back w g w' g' r.1 r.2 v) a1.defers .returning w0 := fun k => by
    rw [hA0.d]
    exact leaves_marks dfs1 w0 (hm0 _ (Nat.le_refl _) ⟨List.nodup_nil, fun d hd => by cases hd⟩) k
  have hlen : st1.length = st.length + 1 := by simpa using (exec_len hL F.code (by simp) e1).2
  have fin : endD F.keep F.res st env1 st1 = some r → ∀ w1, TurnD w.heap.size w0 w1 → ∃ v, (results fn a1.tmps).run P w1 = .ok v w1 ∧ ∃ v' g', Ending.returned v = .returned v' ∧ Back w g w1 g' r.1 r.2 v' := fun hend w1 ht => by
    have hx : Ext w w1 g g1 := hx0.turn ht.turn (fun b hb => (hS.fresh b hb).1)
    have hA1 : RelA w1 g1 μ [] env1 [] st1 a1.tmps := ⟨hA0.r.s.turnD ht hbl, fun i t hi => (hA0.r.e i t hi).turn ht.turn, fun j t hj => by simp at hj⟩
    obtain ⟨ds, k1, k2⟩ := bind_some' hend
    obtain ⟨ds', k3, k4⟩ := bind_some' k2
    have hA1' : RelA w1 g1 μ [] env1 [] st1 a1.tmps := hA1
    obtain ⟨vs, m1, m2, m3, m4⟩ := resAll (P := P) hA1' c3 k1
    obtain ⟨m5, m6⟩ := retDs_at k3
    have hPop := pop_rel hA1'.s hlen
    let g2 := ((g1.pop w1 st.length).mv (toRes F.res)).kept
    have hn2 : ∀ b, ((g1.pop w1 st.length).mv (toRes F.res)).own b ≠ some .nil := fun b hb => by
      simp only [Gh.mv, Option.map_eq_some_iff] at hb
      obtain ⟨p, h1, h2⟩ := hb
      exact hPop.S.nil b (toRes_nil F.res p h2 ▸ h1)
    have hS2 : RelS w1 g2 st1.tail := kept_S (hPop.S.mv rfl (toRes_nil F.res) (fun r i j => rfl))
    have hx2 : Ext w w1 g g2 := by
      have := hPop.E hx (fun r hr => by
        obtain ⟨b, hb⟩ := (hS.live r).1 hr
        exact getB_lvl hb)
      exact ⟨this.os, this.tape, this.output, this.size, this.cell, this.L, this.old, this.refs⟩
    have each : ∀ i (h : i < ds'.length) (h' : i < vs.length), RelD w1 g2 (fun _ => .res i) ds'[i] vs[i] := fun i h h' => by
      have h1 := m4 i (by omega) h' (by omega)
      have h2 := m6 i (by omega) h
      have h3 : i < F.res.length := by omega
      refine kept_D hn2 ?_ (fun k => rfl)
      cases hs : F.res[i] with
      | var j =>
        rw [hs] at h1
        have h4 := retK_rel hA1'.s hlen (p := .env j) rfl h1 h2 (fun _ => .env j) rfl
        exact h4.mv (fun _ => toRes_at c5 h3 hs) rfl
      | cell sz j =>
        rw [hs] at h1
        have h4 := retK_rel hA1'.s hlen (p := .nil) rfl (h1 (fun _ => .nil)) h2 (fun _ => .nil) rfl
        exact (h4.mv (f := toRes F.res) (pl' := fun _ => .nil) (fun _ => rfl) rfl).ofNil hn2 _
    have run : (results fn a1.tmps).run P w1 = .ok (if h : vs.toArray.size = 1 then vs.toArray[0] else .tuple vs.toArray) w1 := by
      rw [results_eq, Sem.run_bind, Array.mapM_eq_mapM_toList, Sem.run_map, m1]
      rfl
    refine ⟨_, run, _, g2, rfl, ?_⟩
    have own2 : ∀ b p, g2.own b = some p → p.isCell = true ∨ p.isRes = true := fun b p hb => by
      have := (kept_own hb).2
      simpa using this
    have hvl : vs.length = ds'.length := by omega
    cases ds' with
    | nil =>
      simp only [oneD] at k4; cases k4
      have : vs = [] := List.length_eq_zero_iff.1 hvl
      subst this
      exact ⟨hx2, hS2, .tup _ _ _ rfl (fun i hi => by simp at hi), own2⟩
    | cons d ds'' =>
      cases ds'' with
      | nil =>
        simp only [oneD] at k4; cases k4
        obtain ⟨v, rfl⟩ : ∃ v, vs = [v] := List.length_eq_one_iff.1 hvl
        refine ⟨hx2, hS2, ?_, own2⟩
        have := each 0 (by simp) (by simp)
        exact retK_free (m6 0 (by simp at m5; omega) (by simp)) this .res rfl
      | cons d2 ds3 =>
        simp only [oneD] at k4; cases k4
        have hne : ¬ vs.toArray.size = 1 := by simp at hvl ⊢; omega
        rw [dif_neg hne]
        exact ⟨hx2, hS2, .tup _ _ _ (by simpa using hvl.symm) (fun i hi => by have := each i hi (by omega); simpa using this), own2⟩
  cases x with
  | normal => exact key (fin e2)
  | ret => exact key (fin e2)
  | exit i => cases e2
end
end Go.Q
namespace Go.Q
variable [Known] [Iters]

theorem runF_len {R : Run} (hL : RLen R) {n : Nat} {F : SFunc} {args : List D} {st : St} {r : D × St} (h : runF R n F args st = some r) : r.2.length = st.length := by
  unfold runF at h
  split at h <;> first | (cases h; done) | skip
  obtain ⟨⟨x, env', st'⟩, h1, h2⟩ := bind_some' h
  have hlen : st'.length = st.length + 1 := by simpa using (exec_len hL F.code (by simp) h1).2
  have fin : endD F.keep F.res st env' st' = some r → r.2.length = st.length := fun hend => by
    obtain ⟨ds, _, k2⟩ := bind_some' hend
    obtain ⟨ds', _, k4⟩ := bind_some' k2
    unfold oneD at k4
    split at k4 <;> cases k4 <;> simp [hlen]
  cases x with
  | normal => exact fin h2
  | ret => exact fin h2
  | exit i => cases h2

def PrimOk (P : Program) (f : Nat) (F : List D → St → Option (D × St)) : Prop := ∀ args st r, F args st = some r → r.2.length = st.length ∧ FnOk P f ∧ ∀ (vals : Array Value) (w : World) (g : Gh) (hl : args.length = vals.size),
  (∀ i (h : i < args.length), RelD w g (fun _ => .nil) args[i] (vals[i]'(hl ▸ h))) → RelS w g st → (∀ b p, g.own b = some p → p.isCell = true) →
  Calls P f vals w fun e w' => ∃ v g', e = .returned v ∧ Back w g w' g' r.1 r.2 v

theorem runN_sound {P : Program} {G : Prg} (hfn : ∀ f F, G.prim f = none → G.fn f = some F → ∃ μ, chkFn P f F μ = true) (hprim : ∀ f F, G.prim f = some F → PrimOk P f F) (hit : ∀ p ∈ Iters.it, IterOk P p.1 p.2) :
    ∀ n, ROk P (runN G n) ∧ RLen (runN G n)
  | 0 => ⟨fun f args st r h => (by cases h), fun f args st r h => (by cases h)⟩
  | n + 1 => by
    obtain ⟨h1, h2⟩ := runN_sound hfn hprim hit n
    refine ⟨fun f args st r h => ?_, fun f args st r h => ?_⟩
    · simp only [runN] at h
      cases hp : G.prim f with
      | some F =>
        rw [hp] at h
        exact (hprim f F hp args st r h).2
      | none =>
        rw [hp] at h
        cases hf : G.fn f with
        | none => rw [hf] at h; cases h
        | some F =>
          rw [hf] at h
          obtain ⟨μ, hc⟩ := hfn f F hp hf
          exact fn_sound h1 h2 hit hc h
    · simp only [runN] at h
      cases hp : G.prim f with
      | some F =>
        rw [hp] at h
        exact (hprim f F hp args st r h).1
      | none =>
        rw [hp] at h
        cases hf : G.fn f with
        | none => rw [hf] at h; cases h
        | some F => rw [hf] at h; exact runF_len h2 h

theorem calls_true {P : Program} {G : Prg} (hfn : ∀ f F, G.prim f = none → G.fn f = some F → ∃ μ, chkFn P f F μ = true) (hprim : ∀ f F, G.prim f = some F → PrimOk P f F) (hit : ∀ p ∈ Iters.it, IterOk P p.1 p.2)
    {f : Nat} {xs : List V} {b : Bool} (h : run G f (xs.map .v) [] = some (.v (.bool b), [])) {vals : Array Value} {w : World} {L : Nat → Nat} (hl : xs.length = vals.size)
    (hx : ∀ i (h : i < xs.length), RelV w L xs[i] (vals[i]'(hl ▸ h))) (hL : ∀ c, w.heap.size ≤ c → L c = 0) (hgl : ∀ p ∈ Known.gl, p.2.1 < L p.1 ∧ w.cell? ⟨p.1, p.2.1, none⟩ = some p.2.2) (hbl : ∀ p ∈ Known.bl, w.heap[p.1]? = some p.2) :
    Calls P f vals w fun e w' => e = .returned (.bool b) ∧ w'.os = w.os ∧ w'.tape = w.tape ∧ w'.output = w.output ∧ w.heap.size ≤ w'.heap.size ∧ ∀ c, c < w.heap.size → w'.heap[c]? = w.heap[c]? := by
  obtain ⟨n, hn⟩ := of_run h
  let g : Gh := { L := L, M := fun _ => False, own := fun _ => none, be := fun _ => 0, sz := fun _ => 0, n := fun _ => 0, cp := fun _ => 0, live := fun _ => False }
  have lS : RelS w g [] := ⟨fun r => ⟨fun hh => hh.elim, fun ⟨b, hb⟩ => by simp [getB] at hb⟩, fun r b hb => by simp [getB] at hb, fun r hr => hr.elim, fun r r' hr => hr.elim, fun b p hb => (by cases hb), fun b hb => (by cases hb), fun b hb => ⟨hL b hb, fun hh => hh⟩, ⟨hgl, fun p hp => ⟨fun hh => hh, (Array.getElem?_eq_some_iff.1 (hbl p hp)).1, hbl p hp⟩⟩⟩
  refine Calls.mono (((runN_sound hfn hprim hit n).1 f _ _ _ hn).2 vals w g (by simpa using hl) (fun i hi => ?_) lS (fun b p hb => by cases hb)) fun e w' he => ?_
  · simp only [List.getElem_map]
    exact .v _ _ _ (hx i (by simpa using hi))
  · obtain ⟨v, g', rfl, B⟩ := he
    exact ⟨by rw [boolOf B.r], B.ext.os, B.ext.tape, B.ext.output, B.ext.size, fun c hc => (B.ext.old c hc (fun hm => hm)).1⟩
theorem calls_true1 {P : Program} {G : Prg} (hfn : ∀ f F, G.prim f = none → G.fn f = some F → ∃ μ, chkFn P f F μ = true) (hprim : ∀ f F, G.prim f = some F → PrimOk P f F) (hit : ∀ p ∈ Iters.it, IterOk P p.1 p.2)
    {f : Nat} {xs : List V} {b : Bool} {st' : St} (h : run G f (xs.map .v) [[]] = some (.v (.bool b), st')) {vals : Array Value} {w : World} {L : Nat → Nat} (hl : xs.length = vals.size)
    (hx : ∀ i (h : i < xs.length), RelV w L xs[i] (vals[i]'(hl ▸ h))) (hL : ∀ c, w.heap.size ≤ c → L c = 0) (hgl : ∀ p ∈ Known.gl, p.2.1 < L p.1 ∧ w.cell? ⟨p.1, p.2.1, none⟩ = some p.2.2) (hbl : ∀ p ∈ Known.bl, w.heap[p.1]? = some p.2) :
    Calls P f vals w fun e w' => e = .returned (.bool b) ∧ w'.os = w.os ∧ w'.tape = w.tape ∧ w'.output = w.output ∧ w.heap.size ≤ w'.heap.size ∧ ∀ c, c < w.heap.size → w'.heap[c]? = w.heap[c]? := by
  obtain ⟨n, hn⟩ := of_run h
  let g : Gh := { L := L, M := fun _ => False, own := fun _ => none, be := fun _ => 0, sz := fun _ => 0, n := fun _ => 0, cp := fun _ => 0, live := fun _ => False }
  have lS : RelS w g [[]] := ⟨fun r => ⟨fun hh => hh.elim, fun ⟨b, hb⟩ => by simp [getB] at hb⟩, fun r b hb => by simp [getB] at hb, fun r hr => hr.elim, fun r r' hr => hr.elim, fun b p hb => (by cases hb), fun b hb => (by cases hb), fun b hb => ⟨hL b hb, fun hh => hh⟩, ⟨hgl, fun p hp => ⟨fun hh => hh, (Array.getElem?_eq_some_iff.1 (hbl p hp)).1, hbl p hp⟩⟩⟩
  refine Calls.mono (((runN_sound hfn hprim hit n).1 f _ _ _ hn).2 vals w g (by simpa using hl) (fun i hi => ?_) lS (fun b p hb => by cases hb)) fun e w' he => ?_
  · simp only [List.getElem_map]
    exact .v _ _ _ (hx i (by simpa using hi))
  · obtain ⟨v, g', rfl, B⟩ := he
    exact ⟨by rw [boolOf B.r], B.ext.os, B.ext.tape, B.ext.output, B.ext.size, fun c hc => (B.ext.old c hc (fun hm => hm)).1⟩
end Go.Q
