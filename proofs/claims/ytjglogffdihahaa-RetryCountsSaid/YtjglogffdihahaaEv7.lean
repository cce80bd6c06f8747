/- Regions whose order is drawn. No condition. -/
import Derived.Test.YtjglogffdihahaaEv6
set_option linter.unusedVariables false
set_option linter.unusedSimpArgs false
namespace Go.Q

def hasAfter (o : Oper) (i : Nat) : Bool := o.after.any fun e => Region.binds .any e && e.on == i
def backOk (o : Oper) (i : Nat) : Bool := o.after.all fun e => !Region.binds .any e || decide (e.on < i)
def shO (k : Nat) (s : SOper) : SOper := ⟨s.g.map fun p => (p.1 + k, p.2), s.dst, shOp k s.op⟩
def dstA (μ : List Nat) (nt : Nat) (τ : List (Option Nat)) (j : Nat) : Option Tmp → Dst → Bool
  | none, .none => true
  | some d, .none => !μ.contains d && !τ.contains (some d)
  | some d, .tmp => !μ.contains d && decide (d < nt) && τ.idxOf? (some d) == some j
  | _, _ => false
def gA (o : Oper) (i : Nat) : Option (Nat × Bool) → Bool
  | none => true
  | some (j, _) => decide (j < i) && hasAfter o (i - 1 - j)
/-- the i-th operation of m calm ones -/
def chkA (μ : List Nat) (nt : Nat) (P : Program) (ops : Array Oper) (τ : List (Option Nat)) (m i : Nat) (o : Oper) (s : SOper) : Bool :=
  calm s.op && chkOp μ τ P o.op (shOp (m - i) s.op) && ((readsT s.op).all fun j => decide (j < i) && hasAfter o (i - 1 - j)) && gA o i s.g && chkG ops τ o.guard (shO (m - i) s).g && dstA μ nt τ (m - 1 - i) o.dst s.dst
def chkAs (μ : List Nat) (nt : Nat) (P : Program) (ops : Array Oper) (τ : List (Option Nat)) (m : Nat) : Nat → List Oper → List SOper → Bool
  | _, _, [] => true
  | i, o :: os, s :: ss => chkA μ nt P ops τ m i o s && chkAs μ nt P ops τ m (i + 1) os ss
  | _, [], _ :: _ => false
def isVar : Dst → Bool
  | .var _ => true
  | _ => false
def pre : List SOper → Nat
  | [] => 0
  | s :: l => if calm s.op && !isVar s.dst then pre l + 1 else 0
def chkB (ops : Array Oper) (m : Nat) : Bool := (List.range ops.size).all fun i => (orF ops[i]? fun o => backOk o i && (decide (i < m) || (List.range i).all (hasAfter o)))
def chkDraw (μ : List Nat) (nt : Nat) (P : Program) (ops : Array Oper) (l : List SOper) : Option (List (Option Nat)) :=
  (chkOps μ nt P ops (ops.toList.take (pre l)) (l.take (pre l)) []).bind fun τ =>
    if (P.follows .mixedOrders && chkAs μ nt P ops τ (pre l) 0 ops.toList (l.take (pre l)) && chkB ops (pre l)) = true then chkOps μ nt P ops (ops.toList.drop (pre l)) (l.drop (pre l)) τ else none

section
variable {P : Program} {w : World} {g : Gh} {μ : List Nat} {τ τ' : List (Option Nat)} {env ts : List D} {st : St} {a : Act} {q : Rg} {R : Run} {nt : Nat} {dfs : List Deferred} {ops : Array Oper} {Q : Exit → Act → World → Prop}

theorem evOps_append : ∀ (l1 l2 : List SOper) (env ts : List D) (st : St), evOps R (l1 ++ l2) env ts st = (evOps R l1 env ts st).bind fun q => evOps R l2 q.1 q.2.1 q.2.2
  | [], l2, env, ts, st => rfl
  | o :: l1, l2, env, ts, st => by
    simp only [List.cons_append, evOps]
    cases wantO ts o.g with
    | none => rfl
    | some b =>
      simp only [Option.bind_some]
      cases b with
      | true =>
        simp only [if_true]
        cases evOp R env ts st o.op with
        | none => rfl
        | some q => simp only [Option.bind_some]; exact evOps_append l1 l2 _ _ _
      | false =>
        simp only [Bool.false_eq_true, if_false]
        exact evOps_append l1 l2 _ _ _

/-- what a calm operation leaves -/
def outD (x : Dst) (d : D) : D := match x with
  | .tmp => d
  | _ => .undef
def StepOk (R : Run) (env : List D) (st : St) (s : SOper) (ts : List D) (d : D) : Prop :=
  ∃ b, wantO ts s.g = some b ∧ if b = true then ∃ q, evOp R env ts st s.op = some q ∧ d = outD s.dst q.1 else d = outD s.dst (.tup [])
theorem getT_drop (l : List D) (k j : Nat) : getT (l.drop k) j = getT l (k + j) := by
  induction l generalizing k with
  | nil => simp [getT]
  | cons d l ih => cases k with
    | zero => simp
    | succ k => simp only [List.drop_succ_cons]; rw [ih]; rw [Nat.succ_add]; rfl
theorem putD_calm {d : D} {env ts : List D} {x : Dst} (h : isVar x = false) : putD d env ts x = (env, outD x d :: ts) := by
  cases x <;> first | rfl | (simp [isVar] at h; done)
theorem calm_trace : ∀ {l : List SOper} {ts : List D} {r : List D × List D × St}, (∀ s ∈ l, calm s.op = true ∧ isVar s.dst = false) → evOps R l env ts st = some r →
    r.1 = env ∧ r.2.2 = st ∧ ∃ new, r.2.1 = new ++ ts ∧ new.length = l.length ∧ ∀ i (h : i < l.length), StepOk R env st l[i] (new.drop (l.length - i) ++ ts) (getT new (l.length - 1 - i))
  | [], ts, r, hc, h => by
    simp only [evOps] at h; cases h
    exact ⟨rfl, rfl, [], rfl, rfl, fun i hi => by simp at hi⟩
  | s :: l, ts, r, hc, h => by
    simp only [evOps] at h
    obtain ⟨b, h1, h2⟩ := bind_some' h
    obtain ⟨c1, c2⟩ := hc s (by simp)
    have go : ∀ d, evOps R l env (outD s.dst d :: ts) st = some r → (if b = true then ∃ q, evOp R env ts st s.op = some q ∧ outD s.dst d = outD s.dst q.1 else outD s.dst d = outD s.dst (.tup [])) →
        r.1 = env ∧ r.2.2 = st ∧ ∃ new, r.2.1 = new ++ ts ∧ new.length = (s :: l).length ∧ ∀ i (h : i < (s :: l).length), StepOk R env st (s :: l)[i] (new.drop ((s :: l).length - i) ++ ts) (getT new ((s :: l).length - 1 - i)) := fun d hd hok => by
      obtain ⟨e1, e2, new, e3, e4, e5⟩ := calm_trace (fun s hs => hc s (by simp [hs])) hd
      refine ⟨e1, e2, new ++ [outD s.dst d], by rw [e3]; simp, by simp [e4], fun i hi => ?_⟩
      have gl : ∀ (l : List D) (d : D) (j : Nat), j ≤ l.length → getT (l ++ [d]) j = if j = l.length then d else getT l j := by
        intro l
        induction l with
        | nil => intro d j hj; have : j = 0 := by simpa using hj
                 subst this; rfl
        | cons x l ih => intro d j hj; cases j with
          | zero => rfl
          | succ j => simp only [List.cons_append, getT, List.length_cons, Nat.add_right_cancel_iff]; exact ih d j (by simpa using hj)
      cases i with
      | zero =>
        simp only [List.length_cons, Nat.sub_zero, List.getElem_cons_zero, Nat.add_sub_cancel]
        rw [List.drop_of_length_le (by simp [e4]), List.nil_append, gl _ _ _ (by omega), if_pos e4.symm]
        exact ⟨b, h1, hok⟩
      | succ i =>
        have hi' : i < l.length := by simpa using hi
        have := e5 i hi'
        simp only [List.length_cons, List.getElem_cons_succ]
        have x1 : l.length + 1 - (i + 1) = l.length - i := by omega
        have x2 : l.length + 1 - 1 - (i + 1) = l.length - 1 - i := by omega
        rw [x1, x2, gl _ _ _ (by omega), if_neg (by omega), List.drop_append_of_le_length (by omega), List.append_assoc]
        exact this
    split at h2
    · rename_i hb
      obtain ⟨q, h3, h4⟩ := bind_some' h2
      obtain ⟨e1, _⟩ := evOp_calm (ts2 := ts) (k := 0) c1 h3 (fun j _ => rfl)
      rw [e1] at h4
      simp only [putD_calm c2] at h4
      exact go q.1 h4 (by rw [if_pos hb]; exact ⟨q, h3, rfl⟩)
    · rename_i hb
      rw [putD_calm c2] at h2
      exact go (.tup []) h2 (by rw [if_neg hb])

theorem ready_mem {listed : Array Bool} {i : Nat} : i ∈ Region.ready .any ops listed ↔ i < ops.size ∧ listed.getD i true = false ∧ ∃ o, ops[i]? = some o ∧ ∀ e ∈ o.after, Region.binds .any e = true → listed.getD e.on false = true := by
  simp only [Region.ready, List.mem_filter, List.mem_range, Bool.and_eq_true, Bool.not_eq_true']
  constructor
  · rintro ⟨h1, h2, h3⟩
    refine ⟨h1, h2, ops[i], Array.getElem?_eq_getElem h1, fun e he hb => ?_⟩
    rw [Array.getElem?_eq_getElem h1] at h3
    simp only [Option.map_some, Option.getD_some, Array.all_eq_true_iff_forall_mem] at h3
    have := h3 e he
    simpa [hb] using this
  · rintro ⟨h1, h2, o, ho, h3⟩
    refine ⟨h1, h2, ?_⟩
    rw [ho]
    simp only [Option.map_some, Option.getD_some, Array.all_eq_true_iff_forall_mem]
    intro e he
    cases hb : Region.binds .any e with
    | false => rfl
    | true => simp [h3 e he hb]
theorem hasAfter_listed {listed : Array Bool} {o : Oper} {i : Nat} (h : hasAfter o i = true) (hl : ∀ e ∈ o.after, Region.binds .any e = true → listed.getD e.on false = true) : listed.getD i false = true := by
  rw [hasAfter, Array.any_eq_true] at h
  obtain ⟨k, hk, h⟩ := h
  simp only [Bool.and_eq_true, beq_iff_eq] at h
  obtain ⟨hb, rfl⟩ := h
  exact hl _ (Array.getElem_mem hk) hb
theorem back_listed {listed : Array Bool} {o : Oper} {i : Nat} (h : backOk o i = true) (hl : ∀ j, j < i → listed.getD j false = true) : ∀ e ∈ o.after, Region.binds .any e = true → listed.getD e.on false = true := fun e he hb => by
  simp only [backOk, Array.all_eq_true_iff_forall_mem] at h
  have := h e he
  simp [hb] at this
  exact hl _ this
theorem getD_set {listed : Array Bool} {i j : Nat} {x : Bool} (h : i < listed.size) : (listed.setIfInBounds i true).getD j x = if j = i then true else listed.getD j x := by
  simp only [Array.getD_eq_getD_getElem?]
  by_cases e : j = i
  · subst e; rw [if_pos rfl, Array.getElem?_setIfInBounds_self_of_lt h]; rfl
  · rw [if_neg e, Array.getElem?_setIfInBounds_ne (Ne.symm e)]
theorem chkB_at {m i : Nat} {o : Oper} (h : chkB ops m = true) (ho : ops[i]? = some o) : backOk o i = true ∧ (m ≤ i → ∀ j, j < i → hasAfter o j = true) := by
  obtain ⟨hi, _⟩ := Array.getElem?_eq_some_iff.1 ho
  simp only [chkB, List.all_eq_true, List.mem_range] at h
  have := h i hi
  rw [ho] at this
  obtain ⟨o', e, h2⟩ := of_orF this
  cases e
  simp only [Bool.and_eq_true, Bool.or_eq_true, decide_eq_true_eq, List.all_eq_true, List.mem_range] at h2
  refine ⟨h2.1, fun hm j hj => ?_⟩
  rcases h2.2 with h3 | h3
  · omega
  · exact h3 j hj

/-- the last ones come in their order -/
theorem tail_sound (hμ : μ.Nodup) (hR : ROk P R) (hL : RLen R) {m : Nat} (hB : chkB ops m = true) : ∀ (fuel k : Nat) (ss : List SOper) (τ : List (Option Nat)) (env ts : List D) (st : St) (a : Act) (w : World) (g : Gh) (listed : Array Bool) (r : List D × List D × St),
    k + fuel = ops.size → m ≤ k → listed.size = ops.size → (∀ i, i < ops.size → listed.getD i false = decide (i < k)) → chkOps μ nt P ops (ops.toList.drop k) ss τ = some τ' → At w g μ nt dfs τ env ts st a → evOps R ss env ts st = some r →
    (∀ a' w' g', Ext w w' g g' → At w' g' μ nt dfs τ' r.1 r.2.1 r.2.2 a' → Q .normal a' w') → wpAny P .any ops Q fuel listed a w
  | 0, k, ss, τ, env, ts, st, a, w, g, listed, r, hk, hm, hsz, hls, hc, h, he, K => by
    have : ops.toList.drop k = [] := List.drop_of_length_le (by simp; omega)
    rw [this] at hc
    refine ⟨?_, ?_⟩
    · refine List.eq_nil_iff_forall_not_mem.2 fun i hi => ?_
      obtain ⟨h1, h2, _⟩ := ready_mem.1 hi
      have h3 := hls i h1
      have h4 : listed.getD i true = listed.getD i false := by
        simp only [Array.getD_eq_getD_getElem?, Array.getElem?_eq_getElem (show i < listed.size by omega), Option.getD_some]
      rw [h4, h3] at h2
      simp at h2; omega
    · cases ss with
      | cons s ss => simp [chkOps] at hc
      | nil =>
        simp only [chkOps] at hc
        cases hc
        simp only [evOps] at he
        cases he
        exact K a w g (Ext.refl w g) h
  | fuel + 1, k, ss, τ, env, ts, st, a, w, g, listed, r, hk, hm, hsz, hls, hc, h, he, K => by
    have hklt : k < ops.size := by omega
    have ho : ops[k]? = some ops[k] := Array.getElem?_eq_getElem hklt
    have gd : ∀ i, i < ops.size → listed.getD i true = listed.getD i false := fun i hi => by
      simp only [Array.getD_eq_getD_getElem?, Array.getElem?_eq_getElem (show i < listed.size by omega), Option.getD_some]
    have mem : k ∈ Region.ready .any ops listed := ready_mem.2 ⟨hklt, by rw [gd k hklt, hls k hklt]; simp, ops[k], ho, back_listed (chkB_at hB ho).1 (fun j hj => by rw [hls j (by omega)]; simpa using hj)⟩
    refine ⟨fun hn => by rw [hn] at mem; simp at mem, fun i hi => ?_⟩
    obtain ⟨h1, h2, o, ho', h3⟩ := ready_mem.1 hi
    have hge : k ≤ i := by
      rw [gd i h1, hls i h1] at h2
      simpa using h2
    have hik : i = k := by
      rcases Nat.lt_or_eq_of_le hge with hlt | e
      · have := hasAfter_listed ((chkB_at hB ho').2 (by omega) k hlt) h3
        rw [hls k hklt] at this
        simp at this
      · exact e.symm
    subst hik
    have : ops.toList.drop i = ops[i] :: ops.toList.drop (i + 1) := by
      rw [List.drop_eq_getElem_cons (by simpa using h1)]; simp
    rw [this] at hc
    cases ss with
    | nil => simp [chkOps] at hc
    | cons s ss =>
      simp only [chkOps] at hc
      split at hc <;> first | (cases hc; done) | skip
      rename_i hcc
      obtain ⟨c1, c2⟩ := and2 hcc
      obtain ⟨τ1, c3, c4⟩ := bind_some' hc
      simp only [evOps] at he
      obtain ⟨b, e1, e2⟩ := bind_some' he
      have hw := wanted_rel h c1 e1
      have hτ1 : τ1.length = τ.length + 1 := by
        unfold chkDst at c3
        split at c3 <;> first | (cases c3; rfl) | (split at c3 <;> cases c3; rfl) | cases c3
      have hls' : ∀ j, j < ops.size → (listed.setIfInBounds i true).getD j false = decide (j < i + 1) := fun j hj => by
        rw [getD_set (by omega)]
        split
        · rename_i e; subst e; simp
        · rename_i e
          rw [hls j hj]
          by_cases hji : j < i
          · simp [hji]; omega
          · have : ¬ j < i + 1 := by omega
            simp [hji, this]
      simp only [wpOp, ho]
      cases b with
      | true =>
        simp only [if_true] at e2
        obtain ⟨q, e3, e4⟩ := bind_some' e2
        rw [if_pos hw]
        left
        have hS := evOp_sound hR h.r h.l c2 e3
        refine OpRes.wp hS fun v w' hp => ?_
        obtain ⟨g1, x1, x2, x3⟩ := hp
        have lens := evOp_len hL h.st e3
        obtain ⟨f, x4⟩ := put_rel (dst := ops[i].dst) (x := s.dst) hμ h.n (τ := τ) (by rw [lens.2.1]; exact h.l) c3 x2 x3 (w0 := w) (g0 := g)
        obtain ⟨p1, p2⟩ := put_size a ops[i].dst v
        refine tail_sound hμ hR hL hB fuel (i + 1) ss τ1 _ _ _ _ _ _ _ r (by omega) (by omega) (by simpa using hsz) hls' c4 ⟨x4, by rw [p1]; exact h.n, by rw [p2]; exact h.d, by rw [(putD_len _ _ _ _).2, lens.2.1, h.l, hτ1], fun e => ?_⟩ e4 fun a' w'' g'' hx ha => ?_
        · have := lens.2.2; rw [e] at this; exact h.st (List.length_eq_zero_iff.1 this.symm)
        · exact K a' w'' g'' (x1.trans ((Ext.mv f).trans hx)) ha
      | false =>
        simp only [Bool.false_eq_true, if_false] at e2
        rw [if_neg (by rw [hw]; simp)]
        obtain ⟨f, x4⟩ := put_rel (d := .tup []) (v := undef) (dst := ops[i].dst) (x := s.dst) hμ h.n h.l c3 h.r (.tup _ _ _ rfl (fun i hi => by simp at hi)) (w0 := w) (g0 := g)
        obtain ⟨p1, p2⟩ := put_size a ops[i].dst undef
        refine tail_sound hμ hR hL hB fuel (i + 1) ss τ1 _ _ _ _ _ _ _ r (by omega) (by omega) (by simpa using hsz) hls' c4 ⟨x4, by rw [p1]; exact h.n, by rw [p2]; exact h.d, by rw [(putD_len _ _ _ _).2, h.l, hτ1], h.st⟩ e2 fun a' w'' g'' hx ha => ?_
        exact K a' w'' g'' ((Ext.mv f).trans hx) ha
end
end Go.Q
