/- Regions whose order is drawn: whatever the order, the same comes of it. No condition. -/
import Derived.Test.YthldpjhmhjhpeaaDoorEv7
set_option linter.unusedVariables false
set_option linter.unusedSimpArgs false
set_option linter.unusedSectionVars false
namespace Go.Q
variable [Known]

def hasAfter (o : Oper) (i : Nat) : Bool := o.after.any fun e => Region.binds .any e && e.on == i
/-- after it, be it by others -/
def anc (ops : Array Oper) : Nat → Oper → Nat → Bool
  | 0, o, j => hasAfter o j
  | n + 1, o, j => hasAfter o j || o.after.any fun e => Region.binds .any e && orF ops[e.on]? fun o' => anc ops n o' j
def backOk (o : Oper) (i : Nat) : Bool := o.after.all fun e => !Region.binds .any e || decide (e.on < i)
def dstA (μ : List Nat) (nt : Nat) (τ : List (Option Nat)) (j : Nat) : Option Tmp → Dst → Bool
  | none, .none => true
  | some d, .none => !μ.contains d && !τ.contains (some d)
  | some d, .tmp => !μ.contains d && decide (d < nt) && τ.idxOf? (some d) == some j
  | some d, .var i => decide (μ[i]? = some d) && !τ.contains (some d) && decide (d < nt)
  | _, _ => false
def sO (a : AOp) : SOper := ⟨a.g, a.dst, a.op⟩
/-- is the i-th operation the one at its place? -/
def chkA (μ : List Nat) (nt : Nat) (P : Program) (ops : Array Oper) (τ : List (Option Nat)) (i : Nat) (o : Oper) (a : AOp) : Bool :=
  chkG ops τ o.guard a.g && chkOp μ τ P o.op a.op && dstA μ nt τ a.j o.dst a.dst && (a.j == τ.length - 1 - i) && backOk o i
def chkAs (μ : List Nat) (nt : Nat) (P : Program) (ops : Array Oper) (τ : List (Option Nat)) (l : List AOp) : Nat → List Oper → List AOp → Bool
  | _, [], [] => true
  | i, o :: os, a :: as => chkA μ nt P ops τ i o a && (l.take i).zipIdx.all (fun q => hasAfter o q.2 || comm q.1 a || anc ops 4 o q.2) && chkAs μ nt P ops τ l (i + 1) os as
  | _, _, _ => false
def tausOf : List Oper → List SOper → List (Option Nat) → List (Option Nat)
  | o :: os, s :: ss, τ => tausOf os ss ((match s.dst with | .tmp => o.dst | _ => none) :: τ)
  | _, _, τ => τ
def chkDraw (μ : List Nat) (nt : Nat) (P : Program) (ops : Array Oper) (l : List SOper) : Option (List (Option Nat)) :=
  if (P.follows .mixedOrders && decide (l.length = ops.size) && decide ((tausOf ops.toList l []).length = ops.size) && chkAs μ nt P ops (tausOf ops.toList l []) (absL l.length 0 l) 0 ops.toList (absL l.length 0 l)) = true then some (tausOf ops.toList l []) else none

section
variable {P : Program} {w : World} {g : Gh} {μ : List Nat} {τ τ' : List (Option Nat)} {env ts : List D} {st : St} {a : Act} {q : Rg} {R : Run} {nt : Nat} {dfs : List Deferred} {ops : Array Oper} {Q : Exit → Act → World → Prop}

theorem ready_mem {listed : Array Bool} {i : Nat} : i ∈ Region.ready .any ops listed ↔ i < ops.size ∧ listed.getD i true = false ∧ ∃ o, ops[i]? = some o ∧ ∀ e ∈ o.after, Region.binds .any e = true → listed.getD e.on false = true := by
  simp only [Region.ready, List.mem_filter, List.mem_range, Bool.and_eq_true, Bool.not_eq_true']
  constructor
  · rintro ⟨h1, h2, h3⟩
    refine ⟨h1, h2, ops[i], Array.getElem?_eq_getElem h1, fun e he hb => ?_⟩
    rw [Array.getElem?_eq_getElem h1] at h3
    simp only [Option.map_some, Option.getD_some, Array.all_eq_true_iff_forall_mem] at h3
    have := h3 e he
    simpa [hb] using this
  · rintro ⟨h1, h2, o, ho, h3⟩
    refine ⟨h1, h2, ?_⟩
    rw [ho]
    simp only [Option.map_some, Option.getD_some, Array.all_eq_true_iff_forall_mem]
    intro e he
    cases hb : Region.binds .any e with
    | false => rfl
    | true => simp [h3 e he hb]
theorem hasAfter_listed {listed : Array Bool} {o : Oper} {i : Nat} (h : hasAfter o i = true) (hl : ∀ e ∈ o.after, Region.binds .any e = true → listed.getD e.on false = true) : listed.getD i false = true := by
  rw [hasAfter, Array.any_eq_true] at h
  obtain ⟨k, hk, h⟩ := h
  simp only [Bool.and_eq_true, beq_iff_eq] at h
  obtain ⟨hb, rfl⟩ := h
  exact hl _ (Array.getElem_mem hk) hb
theorem back_listed {listed : Array Bool} {o : Oper} {i : Nat} (h : backOk o i = true) (hl : ∀ j, j < i → listed.getD j false = true) : ∀ e ∈ o.after, Region.binds .any e = true → listed.getD e.on false = true := fun e he hb => by
  simp only [backOk, Array.all_eq_true_iff_forall_mem] at h
  have := h e he
  simp [hb] at this
  exact hl _ this
theorem getD_set {listed : Array Bool} {i j : Nat} {x : Bool} (h : i < listed.size) : (listed.setIfInBounds i true).getD j x = if j = i then true else listed.getD j x := by
  simp only [Array.getD_eq_getD_getElem?]
  by_cases e : j = i
  · subst e; rw [if_pos rfl, Array.getElem?_setIfInBounds_self_of_lt h]; rfl
  · rw [if_neg e, Array.getElem?_setIfInBounds_ne (Ne.symm e)]
theorem idx_inj {t d j : Nat} (h1 : τ.idxOf? (some t) = some j) (h2 : τ.idxOf? (some d) = some j) : t = d := by
  simp only [List.idxOf?, List.findIdx?_eq_some_iff_getElem] at h1 h2
  obtain ⟨_, h3, _⟩ := h1
  obtain ⟨_, h4, _⟩ := h2
  simp at h3 h4
  have := h3.symm.trans h4
  simpa using this

/-- a value goes where it belongs -/
theorem putA_rel {i j : Nat} {d : D} {v : Value} {dst : Option Tmp} {x : Dst} (hs : a.tmps.size = nt) (hj : j = τ.length - 1 - i) (hi : i < τ.length) (hl : ts.length = τ.length) (hμ : μ.Nodup) (hc : dstA μ nt τ j dst x = true)
    (h : RelA w g μ τ env ts st a.tmps) (hd : RelD w g (.tmp τ.length) d v) : ∃ f, RelA w (g.mv f) μ τ (apU (putU j x d) (env, ts)).1 (apU (putU j x d) (env, ts)).2 st (a.put dst v).tmps := by
  have hid : g.mv id = g := by simp [Gh.mv]
  have drop : ∀ (dst : Option Tmp), (∀ e, dst = some e → μ.contains e = false ∧ τ.contains (some e) = false) → RelA w g μ τ env (ts.set j .undef) st (a.put dst v).tmps := by
    intro dst e2
    have same : ∀ t, (∀ e, dst = some e → t ≠ e) → (a.put dst v).tmps.getD t undef = a.tmps.getD t undef := fun t ht => by
      cases dst with
      | none => rfl
      | some e => rw [put_getD, if_neg (fun hh => ht e rfl hh.1)]
    refine ⟨h.s, fun i t hi => ?_, fun k t hk => ?_⟩
    · rw [same t (fun e he => mu_ne (e2 e he).1 hi)]; exact h.e i t hi
    · rw [same t (fun e he => notmem (e2 e he).2 hk), getT_set]
      split
      · exact .undef _ _
      · exact h.t k t hk
  unfold dstA at hc
  split at hc
  · exact ⟨id, by rw [hid]; exact drop none (fun e he => by cases he)⟩
  · rename_i d'
    simp only [Bool.and_eq_true, Bool.not_eq_true'] at hc
    exact ⟨id, by rw [hid]; exact drop (some d') (fun e he => by cases he; exact hc)⟩
  · rename_i d'
    simp only [Bool.and_eq_true, Bool.not_eq_true', decide_eq_true_eq, beq_iff_eq] at hc
    obtain ⟨⟨h1, h2⟩, h3⟩ := hc
    let f : Pl → Pl := fun p => match p with | .tmp b k => if b = τ.length then .tmp i k else .tmp b k | p => p
    refine ⟨f, h.s.mv rfl (fun p hp => by cases p <;> simp only [f] at hp <;> first | rfl | (cases hp; done) | (split at hp <;> cases hp)) (fun r i j => rfl), fun i' t hi' => ?_, fun k t hk => ?_⟩
    · rw [put_getD, if_neg (fun hh => mu_ne h1 hi' hh.1)]
      exact (h.e i' t hi').mv (fun _ => rfl) rfl
    · show RelD w (g.mv f) _ (getT (ts.set j d) k) _
      rw [getT_set, put_getD]
      by_cases e : j = k
      · subst e
        have ht := idx_inj hk h3
        subst ht
        rw [if_pos (show j = j ∧ j < ts.length from ⟨rfl, by omega⟩), if_pos (show t = t ∧ t < a.tmps.size from ⟨rfl, hs ▸ h2⟩)]
        have e' : τ.length - 1 - j = i := by omega
        rw [e']
        exact hd.mv (fun k => by simp [f]) rfl
      · have hne : t ≠ d' := fun e2 => by subst e2; rw [h3] at hk; cases hk; exact e rfl
        rw [if_neg (fun hh => e hh.1), if_neg (fun hh => hne hh.1)]
        have hlt := idxOf_lt hk
        exact (h.t k t hk).mv (fun kk => by
          have hne : ¬ τ.length - 1 - k = τ.length := by omega
          simp [f, hne]) rfl
  · rename_i d' i0
    simp only [Bool.and_eq_true, Bool.not_eq_true', decide_eq_true_eq, beq_iff_eq] at hc
    obtain ⟨⟨h1, h2⟩, h3⟩ := hc
    let f : Pl → Pl := fun p => match p with | .tmp b k => if b = τ.length then .env i0 else .tmp b k | p => p
    refine ⟨f, h.s.mv rfl (fun p hp => by cases p <;> simp only [f] at hp <;> first | rfl | (cases hp; done) | (split at hp <;> cases hp)) (fun r i j => rfl), fun i' t hi => ?_, fun k t hk => ?_⟩
    · show RelD w (g.mv f) _ (getT (env.set i0 d) i') _
      rw [getT_set, put_getD]
      by_cases e : i0 = i'
      · subst e
        rw [h1] at hi
        cases hi
        rw [if_pos (show d' = d' ∧ d' < a.tmps.size from ⟨rfl, hs ▸ h3⟩)]
        by_cases hl : i0 < env.length
        · rw [if_pos ⟨rfl, hl⟩]
          exact hd.mv (fun k => by simp [f]) rfl
        · rw [if_neg (fun hh => hl hh.2), getT_nil (by omega)]
          exact .undef _ _
      · have hne : t ≠ d' := by
          rintro rfl
          have l1 := (List.getElem?_eq_some_iff.1 h1)
          have l2 := (List.getElem?_eq_some_iff.1 hi)
          obtain ⟨b1, e1⟩ := l1
          obtain ⟨b2, e2⟩ := l2
          exact e (nodup_inj hμ b1 b2 (e1.trans e2.symm))
        rw [if_neg (fun hh => e hh.1), if_neg (fun hh => hne hh.1)]
        exact (h.e i' t hi).mv (fun _ => rfl) rfl
    · rw [put_getD, if_neg (fun hh => notmem h2 hk hh.1)]
      show RelD w (g.mv f) _ (getT (ts.set j .undef) k) _
      rw [getT_set]
      split
      · exact .undef _ _
      · have hlt := idxOf_lt hk
        exact (h.t k t hk).mv (fun kk => by
          have hne : ¬ τ.length - 1 - k = τ.length := by omega
          simp [f, hne]) rfl
  · cases hc


theorem chkAs_at {l : List AOp} : ∀ {os : List Oper} {as : List AOp} {i0 : Nat}, chkAs μ nt P ops τ l i0 os as = true → ∀ i o, os[i]? = some o → ∃ a, as[i]? = some a ∧ chkA μ nt P ops τ (i0 + i) o a = true ∧ ∀ j b, j < i0 + i → l[j]? = some b → anc ops 4 o j = true ∨ comm b a = true
  | [], as, i0, hc, i, o, h => by simp at h
  | o :: os, [], i0, hc, i, o', h => by simp [chkAs] at hc
  | o :: os, a :: as, i0, hc, i, o', h => by
    simp only [chkAs, Bool.and_eq_true] at hc
    obtain ⟨⟨h1, h2⟩, h3⟩ := hc
    cases i with
    | zero =>
      simp at h; subst h
      refine ⟨a, rfl, h1, fun j b hj hb => ?_⟩
      have hm : (b, j) ∈ (l.take i0).zipIdx := by
        rw [List.mem_zipIdx_iff_getElem?]
        rw [List.getElem?_take]
        simp at hj
        rw [if_pos hj]; exact hb
      have := List.all_eq_true.1 h2 _ hm
      simp only [Bool.or_eq_true] at this
      rcases this with (h | h) | h
      · exact .inl (by simp only [anc, h, Bool.true_or])
      · exact .inr h
      · exact .inl h
    | succ i =>
      obtain ⟨a', k1, k2, k3⟩ := chkAs_at h3 i o' (by simpa using h)
      have e : i0 + (i + 1) = i0 + 1 + i := by omega
      exact ⟨a', by simpa using k1, by rw [e]; exact k2, fun j b hj hb => k3 j b (by omega) hb⟩

/-- with each one all that it comes after -/
def Closed (ops : Array Oper) (listed : Array Bool) : Prop := ∀ i o, listed.getD i false = true → ops[i]? = some o → ∀ e ∈ o.after, Region.binds .any e = true → listed.getD e.on false = true
theorem anc_listed {listed : Array Bool} (hc : Closed ops listed) : ∀ {n : Nat} {o : Oper} {j : Nat}, anc ops n o j = true → (∀ e ∈ o.after, Region.binds .any e = true → listed.getD e.on false = true) → listed.getD j false = true
  | 0, o, j, h, hl => hasAfter_listed h hl
  | n + 1, o, j, h, hl => by
    simp only [anc, Bool.or_eq_true] at h
    rcases h with h | h
    · exact hasAfter_listed h hl
    · rw [Array.any_eq_true] at h
      obtain ⟨k, hk, h⟩ := h
      simp only [Bool.and_eq_true] at h
      obtain ⟨hb, h2⟩ := h
      obtain ⟨o', e1, e2⟩ := of_orF h2
      exact anc_listed hc e2 (hc _ _ (hl _ (Array.getElem_mem hk) hb) e1)

/-- those not done yet, in their order -/
def rest (n : Nat) (listed : Array Bool) : List Nat := (List.range n).filter fun i => !listed.getD i false
theorem rest_mem {n i : Nat} {listed : Array Bool} : i ∈ rest n listed ↔ i < n ∧ listed.getD i false = false := by simp [rest]
theorem rest_sorted (n : Nat) (listed : Array Bool) : (rest n listed).Pairwise (· < ·) := List.Pairwise.filter _ List.pairwise_lt_range
theorem rest_set {n i : Nat} {listed : Array Bool} {l1 l2 : List Nat} (hi : i < listed.size) (h : rest n listed = l1 ++ i :: l2) : rest n (listed.setIfInBounds i true) = l1 ++ l2 := by
  have e : rest n (listed.setIfInBounds i true) = (rest n listed).filter (fun j => decide (j ≠ i)) := by
    unfold rest
    rw [List.filter_filter]
    congr 1
    funext j
    rw [getD_set hi]
    by_cases hj : j = i
    · simp [hj]
    · simp [hj]
  have hs := rest_sorted n listed
  rw [h] at hs
  rw [e, h]
  rw [List.pairwise_append] at hs
  obtain ⟨s1, s2, s3⟩ := hs
  rw [List.pairwise_cons] at s2
  rw [List.filter_append, List.filter_cons_of_neg (by simp)]
  congr 1
  · rw [List.filter_eq_self]; intro j hj; have := s3 j hj i (by simp); simp; omega
  · rw [List.filter_eq_self]; intro j hj; have := s2.1 j hj; simp; omega

theorem any_sound (hμ : μ.Nodup) (hR : ROk P R) (hL : RLen R) {l : List AOp} {r : S3} (hlen : l.length = ops.size) (hτ : τ.length = ops.size)
    (hA : chkAs μ nt P ops τ l 0 ops.toList l = true) : ∀ (fuel : Nat) (listed : Array Bool) (S : S3) (a : Act) (w : World) (g : Gh),
    listed.size = ops.size → Closed ops listed → (rest ops.size listed).length = fuel → runA R ((rest ops.size listed).map fun i => l.getD i default) S = some r →
    At w g μ nt dfs τ S.1.1 S.1.2 S.2 a → (∀ a' w' g', Ext w w' g g' → At w' g' μ nt dfs τ r.1.1 r.1.2 r.2 a' → Q .normal a' w') → wpAny P .any ops Q fuel listed a w := by
  intro fuel
  have gd : ∀ (listed : Array Bool) i, listed.size = ops.size → i < ops.size → listed.getD i true = listed.getD i false := fun listed i hs hi => by
    simp only [Array.getD_eq_getD_getElem?, Array.getElem?_eq_getElem (show i < listed.size by omega), Option.getD_some]
  induction fuel with
  | zero =>
    intro listed S a w g l1 lc l2 l3 hAt K
    have hnil : rest ops.size listed = [] := List.length_eq_zero_iff.1 l2
    refine ⟨?_, ?_⟩
    · refine List.eq_nil_iff_forall_not_mem.2 fun i hi => ?_
      obtain ⟨h1, h2, _⟩ := ready_mem.1 hi
      have : i ∈ rest ops.size listed := rest_mem.2 ⟨h1, by rw [← gd listed i l1 h1]; exact h2⟩
      rw [hnil] at this; simp at this
    · rw [hnil] at l3
      simp only [List.map_nil, runA] at l3
      cases l3
      exact K a w g (Ext.refl w g) hAt
  | succ fuel ih =>
    intro listed S a w g l1 lc l2 l3 hAt K
    have hsorted := rest_sorted ops.size listed
    refine ⟨fun hn => ?_, fun i hi => ?_⟩
    · -- the first one is ready
      cases hr : rest ops.size listed with
      | nil => rw [hr] at l2; simp at l2
      | cons i0 t =>
        have hm : i0 ∈ rest ops.size listed := by rw [hr]; simp
        obtain ⟨h1, h2⟩ := rest_mem.1 hm
        have ho : ops.toList[i0]? = some ops[i0] := by rw [Array.getElem?_toList]; exact Array.getElem?_eq_getElem h1
        obtain ⟨_, _, k2, _⟩ := chkAs_at hA i0 _ ho
        simp only [chkA, Bool.and_eq_true, Nat.zero_add] at k2
        have mem : i0 ∈ Region.ready .any ops listed := ready_mem.2 ⟨h1, by rw [gd listed i0 l1 h1]; exact h2, _, Array.getElem?_eq_getElem h1, back_listed k2.2 fun j hj => by
          cases hh : listed.getD j false with
          | true => rfl
          | false =>
            have hj2 : j ∈ rest ops.size listed := rest_mem.2 ⟨by omega, hh⟩
            rw [hr] at hj2 hsorted
            rw [List.pairwise_cons] at hsorted
            rcases List.mem_cons.1 hj2 with e | e
            · omega
            · have := hsorted.1 j e; omega⟩
        rw [hn] at mem; simp at mem
    · obtain ⟨h1, h2, o, ho, h3⟩ := ready_mem.1 hi
      have hm : i ∈ rest ops.size listed := rest_mem.2 ⟨h1, by rw [← gd listed i l1 h1]; exact h2⟩
      obtain ⟨p1, p2, hp⟩ := List.append_of_mem hm
      have hset := rest_set (by omega) hp
      rw [hp] at l3 l2 hsorted
      have ho' : ops.toList[i]? = some o := by rw [Array.getElem?_toList]; exact ho
      obtain ⟨b, k1, k2, k3⟩ := chkAs_at hA i o ho'
      have hb : l.getD i default = b := by rw [List.getD_eq_getElem?_getD, k1]; rfl
      rw [List.map_append, List.map_cons, hb] at l3
      rw [List.pairwise_append] at hsorted
      obtain ⟨S1, s1, s2⟩ := run_front l3 fun c hc => by
        obtain ⟨j, hj, rfl⟩ := List.mem_map.1 hc
        have hji := hsorted.2.2 j hj i (by simp)
        have hjl : j < l.length := by omega
        rcases k3 j (l.getD j default) (by omega) (by rw [List.getD_eq_getElem?_getD, List.getElem?_eq_getElem hjl]; rfl) with h | h
        · have hjr : j ∈ rest ops.size listed := by rw [hp]; simp [hj]
          have := anc_listed lc h h3
          rw [(rest_mem.1 hjr).2] at this
          cases this
        · exact h
      rw [← List.map_append, ← hset] at s2
      simp only [chkA, Bool.and_eq_true, Nat.zero_add, beq_iff_eq] at k2
      obtain ⟨⟨⟨⟨c1, c2⟩, c3⟩, c4⟩, c5⟩ := k2
      unfold stepA at s1
      obtain ⟨wn, t1, t2⟩ := bind_some' s1
      have hw := wanted_rel (s := sO b) hAt c1 t1
      have next : ∀ (d : D) (v : Value) (w1 : World) (g1 : Gh) (env' ts' : List D) (st' : St), Ext w w1 g g1 → RelA w1 g1 μ τ env' ts' st' a.tmps → RelD w1 g1 (.tmp τ.length) d v → ts'.length = τ.length → st' ≠ [] →
          S1 = (apU (putU b.j b.dst d) (env', ts'), st') → wpAny P .any ops Q fuel (listed.setIfInBounds i true) (a.put o.dst v) w1 := fun d v w1 g1 env' ts' st' x1 x2 x3 x4 x5 x6 => by
        obtain ⟨f, y⟩ := putA_rel (i := i) (j := b.j) (dst := o.dst) (x := b.dst) hAt.n c4 (by omega) x4 hμ c3 x2 x3
        obtain ⟨q1, q2⟩ := put_size a o.dst v
        subst x6
        refine ih (listed.setIfInBounds i true) _ _ _ _ (by simpa using l1) (fun i' o' hi' ho2 e he hbd => ?_) (by rw [hset]; simp at l2 ⊢; omega) s2 ⟨y, by rw [q1]; exact hAt.n, by rw [q2]; exact hAt.d, ?_, x5⟩ (fun a' w'' g'' hx ha => K a' w'' g'' (x1.trans ((Ext.mv f).trans hx)) ha)
        · have hin : listed.getD e.on false = true := by
            rw [getD_set (by omega)] at hi'
            by_cases e3 : i' = i
            · subst e3; rw [ho] at ho2; cases ho2; exact h3 e he hbd
            · rw [if_neg e3] at hi'; exact lc i' o' hi' ho2 e he hbd
          rw [getD_set (by omega)]
          split
          · rfl
          · exact hin
        have : ∀ (u : Up) (e : List D × List D), (apU u e).2.length = e.2.length := by
          intro u
          induction u with
          | nil => intro e; rfl
          | cons p u ih => intro e; simp only [apU]; rw [ih]; obtain ⟨p, d⟩ := p; cases p <;> simp [ap1]
        rw [this]; exact x4
      simp only [wpOp, ho]
      cases wn with
      | true =>
        simp only [if_true] at t2
        obtain ⟨q, e3, e4⟩ := map_some' t2
        rw [if_pos hw]
        left
        have hS := evOp_sound hR hAt.r hAt.l c2 e3
        refine OpRes.wp hS fun v w' hp => ?_
        obtain ⟨g1, x1, x2, x3⟩ := hp
        have lens := evOp_len hL hAt.st e3
        exact next q.1 v w' g1 _ _ _ x1 x2 x3 (by rw [lens.2.1]; exact hAt.l) (fun e => by have := lens.2.2; rw [e] at this; exact hAt.st (List.length_eq_zero_iff.1 this.symm)) e4.symm
      | false =>
        simp only [Bool.false_eq_true, if_false] at t2
        rw [if_neg (by rw [hw]; simp)]
        exact next (.tup []) undef w g S.1.1 S.1.2 S.2 (Ext.refl w g) hAt.r (.tup _ _ _ rfl (fun i hi => by simp at hi)) hAt.l hAt.st (by cases t2; rfl)

theorem draw_ok {id : Nat} {l : List SOper} {q : List D × List D × St} (hμ : μ.Nodup) (hR : ROk P R) (hL : RLen R)
    (hc : chkDraw μ nt P ops l = some τ') (he : evOps R l env [] st = some q) (h : At w g μ nt dfs [] env [] st a)
    (k : ∀ a' w' g', Ext w w' g g' → At w' g' μ nt dfs τ' q.1 q.2.1 q.2.2 a' → Q .normal a' w') : (Code.region id ops true).wp P Q a w := by
  unfold chkDraw at hc
  split at hc <;> cases hc
  rename_i hcc
  simp only [Bool.and_eq_true, decide_eq_true_eq] at hcc
  obtain ⟨⟨⟨hm, hl⟩, hτ⟩, hA⟩ := hcc
  obtain ⟨s1, s2⟩ := sim hL (m := l.length) l 0 env [] st q h.st (by omega) rfl he
  rw [List.append_nil, Nat.sub_zero] at s1
  refine wp_region_any hm ?_
  have hG : Grow w { w with drawn := w.drawn + 1 } g g := ⟨rfl, rfl, rfl, Nat.le_refl _, fun _ _ => rfl, fun _ _ => rfl, fun _ _ => Iff.rfl, fun _ _ => rfl, fun r hr => ⟨hr, rfl, rfl, rfl⟩, fun b p hb hp => by have := (h.r.s.own b p hp).2; omega, fun b hb => h.r.s.fresh b hb⟩
  have h' := hG.relA h.r (fun r => Iff.rfl)
  have hrest : rest ops.size (Array.replicate ops.size false) = List.range ops.size := by
    unfold rest
    rw [List.filter_eq_self]
    intro i hi
    have : i < ops.size := by simpa using hi
    simp [Array.getD_eq_getD_getElem?, this]
  have hmap : (List.range ops.size).map (fun i => (absL l.length 0 l).getD i default) = absL l.length 0 l := by
    refine List.ext_getElem? fun i => ?_
    rw [List.getElem?_map]
    by_cases hi : i < ops.size
    · rw [List.getElem?_range hi]
      have hlt : i < (absL l.length 0 l).length := by rw [absL_len]; omega
      simp only [Option.map_some, List.getD_eq_getElem?_getD, List.getElem?_eq_getElem hlt, Option.getD_some]
    · rw [List.getElem?_eq_none (by simpa using hi), List.getElem?_eq_none (by rw [absL_len]; omega)]; rfl
  have und : ∀ (m j : Nat), getT (List.replicate m D.undef) j = .undef := by
    intro m
    induction m with
    | zero => intro j; rfl
    | succ m ih => intro j; cases j with
      | zero => rfl
      | succ j => exact ih j
  refine any_sound (dfs := dfs) (r := ((q.1, q.2.1), q.2.2)) hμ hR hL (by rw [absL_len]; exact hl) hτ hA ops.size (Array.replicate ops.size false) ((env, List.replicate l.length .undef), st) a _ g (by simp) (fun i o hi _ => by simp [Array.getD_eq_getD_getElem?, Array.getElem?_replicate] at hi; split at hi <;> simp at hi) (by rw [hrest]; simp) (by rw [hrest, hmap]; exact s1) ⟨⟨h'.s, h'.e, fun j t hj => ?_⟩, h.n, h.d, by simp [hl, hτ], h.st⟩ (fun a' w' g' hx ha => k a' w' g' ((hG.ext h.r.s).trans hx) ha)
  show RelD _ _ _ (getT (List.replicate l.length D.undef) j) _
  rw [und]
  exact .undef _ _
end
end Go.Q
