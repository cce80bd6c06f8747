/- Lengths; a region's operations one after the other. No condition. -/
import Derived.Test.YtmbdamompcdolaaDoorEvV
import Derived.Control
import Derived.Test.YtmbdamompcdolaaDoorEvw
import Derived.Lib.SlBytesConst
set_option linter.unusedVariables false
set_option linter.unusedSimpArgs false
set_option linter.unusedSectionVars false
namespace Go.Q
variable [Known]

def RLen (R : Run) : Prop := ∀ f args st r, R f args st = some r → r.2.length = st.length

section
variable {R : Run} {env ts : List D} {st : St} {q : Rg}
theorem takeO_len (env ts : List D) (y : Opd) : (takeO env ts y).2.1.length = env.length ∧ (takeO env ts y).2.2.length = ts.length := by
  unfold takeO takeD
  split <;> simp
theorem addB_len (b : Blk) (h : st ≠ []) : (addB st b).1.length = st.length := by
  cases st with
  | nil => exact absurd rfl h
  | cons fr st => rfl
theorem extL_len {i j : Nat} {ds : List D} {d : D} : (extL env ts st i j ds d).2.1 = env ∧ (extL env ts st i j ds d).2.2.1.length = ts.length ∧ (extL env ts st i j ds d).2.2.2 = st := by
  unfold extL; split <;> simp
theorem evOp_len (hR : RLen R) (hne : st ≠ []) {s : SOp} (he : evOp R env ts st s = some q) : q.2.1.length = env.length ∧ q.2.2.1.length = ts.length ∧ q.2.2.2.length = st.length := by
  cases s <;> simp only [evOp] at he <;> first
    | (cases he; exact ⟨rfl, rfl, rfl⟩)
    | (obtain ⟨_, _, rfl⟩ := map_some' he; exact ⟨rfl, rfl, rfl⟩)
    | (cases he; exact ⟨(takeO_len _ _ _).1, (takeO_len _ _ _).2, rfl⟩)
    | skip
  case pick => obtain ⟨b, _, h2⟩ := bind_some' he; split at h2 <;> cases h2 <;> exact ⟨rfl, rfl, rfl⟩
  case alloc =>
    split at he
    · split at he <;> cases he; exact ⟨rfl, rfl, (addBot_lvl st _).2 hne⟩
    · cases he; exact ⟨rfl, rfl, addB_len _ hne⟩
  case box =>
    split at he <;> first | (cases he; done) | skip
    split at he
    · split at he <;> cases he
      exact ⟨(takeO_len _ _ _).1, (takeO_len _ _ _).2, (addBot_lvl st _).2 hne⟩
    · cases he
      exact ⟨(takeO_len _ _ _).1, (takeO_len _ _ _).2, addB_len _ hne⟩
  case lit => split at he <;> first | (cases he; done) | skip
              obtain ⟨b, _, h2⟩ := bind_some' he; split at h2 <;> cases h2; exact ⟨rfl, rfl, rfl⟩
  case subl => obtain ⟨_, _, rfl⟩ := map_some' he; exact ⟨(takeO_len _ _ _).1, (takeO_len _ _ _).2, rfl⟩
  case mkmap => split at he <;> cases he; exact ⟨rfl, rfl, (addBot_lvl st _).2 hne⟩; exact ⟨rfl, rfl, addB_len _ hne⟩
  case look =>
    obtain ⟨_, _, h2⟩ := bind_some' he
    obtain ⟨_, _, h4⟩ := bind_some' h2
    obtain ⟨_, _, rfl⟩ := map_some' h4
    exact ⟨rfl, rfl, rfl⟩
  case mupd =>
    obtain ⟨_, _, h2⟩ := bind_some' he
    obtain ⟨st', h3, rfl⟩ := map_some' h2
    refine ⟨rfl, rfl, ?_⟩
    unfold mupdD at h3
    split at h3 <;> first | (cases h3; done) | skip
    split at h3 <;> first | (cases h3; done) | skip
    obtain ⟨_, _, h5⟩ := bind_some' h3
    obtain ⟨_, _, rfl⟩ := map_some' h5
    exact setB_len _ _ _
  case loadR => split at he <;> first | (cases he; done) | skip
                obtain ⟨_, _, rfl⟩ := map_some' he; exact ⟨rfl, rfl, rfl⟩
  case store =>
    obtain ⟨st', h1, rfl⟩ := map_some' he
    refine ⟨(takeO_len _ _ _).1, (takeO_len _ _ _).2, ?_⟩
    unfold opStore at h1
    split at h1 <;> first | (cases h1; done) | skip
    obtain ⟨xs, _, h3⟩ := bind_some' h1
    obtain ⟨d, _, h5⟩ := bind_some' h3
    split at h5 <;> cases h5
    exact setB_len _ _ _
  case loadT =>
    split at he <;> first | (cases he; done) | skip
    obtain ⟨p, h1, rfl⟩ := map_some' he
    refine ⟨rfl, rfl, ?_⟩
    unfold opLoadT at h1
    split at h1 <;> first | (cases h1; done) | skip
    obtain ⟨xs, _, h3⟩ := bind_some' h1
    obtain ⟨d, _, h5⟩ := bind_some' h3
    obtain ⟨c, _, rfl⟩ := map_some' h5
    exact setB_len _ _ _
  case loadF => split at he <;> first | (cases he; done) | skip
                obtain ⟨_, _, rfl⟩ := map_some' he; exact ⟨rfl, rfl, rfl⟩
  case callB =>
    obtain ⟨p, h1, h2⟩ := bind_some' he
    split at h2 <;> first | (cases h2; done) | skip
    cases h2
    refine ⟨rfl, rfl, ?_⟩
    unfold callBD at h1
    split at h1 <;> first | (cases h1; done) | skip
    split at h1 <;> first | (cases h1; done) | skip
    obtain ⟨xs, _, h3⟩ := bind_some' h1
    unfold callBr at h3
    split at h3 <;> first | (cases h3; done) | skip
    split at h3 <;> first | (cases h3; done) | skip
    obtain ⟨p', _, h5⟩ := bind_some' h3
    unfold callBe at h5
    split at h5 <;> first | (cases h5; done) | skip
    split at h5 <;> cases h5
    exact setB_len _ _ _
  case storeS =>
    split at he <;> first | (cases he; done) | skip
    obtain ⟨st', h1, rfl⟩ := map_some' he
    refine ⟨(takeO_len _ _ _).1, (takeO_len _ _ _).2, ?_⟩
    unfold opStore at h1
    split at h1 <;> first | (cases h1; done) | skip
    obtain ⟨xs, _, h3⟩ := bind_some' h1
    obtain ⟨d, _, h5⟩ := bind_some' h3
    split at h5 <;> cases h5
    exact setB_len _ _ _
  case app => obtain ⟨b, _, h2⟩ := bind_some' he; obtain ⟨_, _, rfl⟩ := map_some' h2; exact ⟨(takeO_len _ _ _).1, (takeO_len _ _ _).2, rfl⟩
  case cpy =>
    obtain ⟨b, _, h2⟩ := bind_some' he; obtain ⟨p, h3, rfl⟩ := map_some' h2
    refine ⟨rfl, rfl, ?_⟩
    unfold opCpy at h3
    split at h3 <;> first | (cases h3; done) | skip
    · split at h3 <;> first | (cases h3; done) | skip
      obtain ⟨xs, _, h5⟩ := bind_some' h3
      unfold cpyRow at h5
      split at h5 <;> cases h5
      exact setB_len _ _ _
    · split at h3 <;> first | (cases h3; done) | skip
      obtain ⟨xs, _, h5⟩ := bind_some' h3
      unfold cpyArr at h5
      obtain ⟨d, _, h6⟩ := bind_some' h5
      split at h6 <;> cases h6
      exact setB_len _ _ _
  case make =>
    obtain ⟨a, _, h2⟩ := bind_some' he; obtain ⟨b, _, h3⟩ := bind_some' h2
    unfold makeD at h3
    split at h3
    · cases h3; exact ⟨rfl, rfl, addB_len _ hne⟩
    · split at h3 <;> cases h3; exact ⟨rfl, rfl, rfl⟩
  case call gen f xs =>
    obtain ⟨p, h1, rfl⟩ := map_some' he
    refine ⟨rfl, rfl, ?_⟩
    unfold opCall at h1
    split at h1
    · exact hR _ _ _ _ h1
    · obtain ⟨xs, _, h3⟩ := bind_some' h1
      obtain ⟨p', _, h5⟩ := bind_some' h3
      unfold backD at h5
      split at h5 <;> first | (cases h5; done) | skip
      split at h5
      · split at h5 <;> cases h5; rfl
      · cases h5; rfl
  case callv f xs =>
    obtain ⟨p, h1, rfl⟩ := map_some' he
    refine ⟨rfl, rfl, ?_⟩
    unfold callV at h1
    split at h1 <;> first | (cases h1; done) | exact hR _ _ _ _ h1
  case ext i x =>
    unfold extD at he
    split at he <;> first | (cases he; done) | skip
    · obtain ⟨d, _, rfl⟩ := map_some' he
      obtain ⟨h1, h2, h3⟩ := extL_len (env := env) (ts := ts) (st := st) (i := i) (d := d)
      exact ⟨by rw [h1], h2, by rw [h3]⟩
    · obtain ⟨d, _, rfl⟩ := map_some' he
      exact ⟨rfl, rfl, rfl⟩
  case clr sz z x =>
    obtain ⟨st', h1, rfl⟩ := map_some' he
    refine ⟨rfl, rfl, ?_⟩
    unfold opClr at h1
    split at h1 <;> first | (cases h1; done) | skip
    split at h1 <;> first | (cases h1; done) | skip
    split at h1
    · cases h1; rfl
    · obtain ⟨xs, _, h3⟩ := bind_some' h1
      unfold clrRow at h3
      split at h3 <;> cases h3
      exact setB_len _ _ _
  case die => cases he
theorem putD_len (d : D) (env ts : List D) (x : Dst) : (putD d env ts x).1.length = env.length ∧ (putD d env ts x).2.length = ts.length + 1 := by
  cases x <;> simp [putD]
theorem evOps_len (hR : RLen R) : ∀ {l : List SOper} {env ts : List D} {st : St} {q : List D × List D × St}, st ≠ [] → evOps R l env ts st = some q → q.1.length = env.length ∧ q.2.2.length = st.length
  | [], env, ts, st, q, hne, he => by simp only [evOps] at he; cases he; exact ⟨rfl, rfl⟩
  | o :: l, env, ts, st, q, hne, he => by
    simp only [evOps] at he
    obtain ⟨b, h1, h2⟩ := bind_some' he
    split at h2
    · obtain ⟨p, h3, h4⟩ := bind_some' h2
      obtain ⟨l1, l2, l3⟩ := evOp_len hR hne h3
      have hne' : p.2.2.2 ≠ [] := fun e => by rw [e] at l3; simp at l3; exact hne (List.length_eq_zero_iff.1 l3.symm)
      obtain ⟨k1, k2⟩ := evOps_len hR hne' h4
      exact ⟨by rw [k1, (putD_len _ _ _ _).1, l1], by rw [k2, l3]⟩
    · obtain ⟨k1, k2⟩ := evOps_len hR hne h2
      exact ⟨by rw [k1, (putD_len _ _ _ _).1], k2⟩
end

/-! ### A region: when slim operations are its operations -/
def chkDst (μ : List Nat) (nt : Nat) (τ : List (Option Nat)) : Option Tmp → Dst → Option (List (Option Nat))
  | none, .none => some (none :: τ)
  | some d, .none => if μ.contains d = false ∧ τ.contains (some d) = false then some (none :: τ) else none
  | some d, .tmp => if μ.contains d = false ∧ τ.contains (some d) = false ∧ d < nt then some (some d :: τ) else none
  | some d, .var i => if μ[i]? = some d ∧ τ.contains (some d) = false ∧ d < nt then some (none :: τ) else none
  | none, .tmp => none
  | none, .var _ => none
def chkG (ops : Array Oper) (τ : List (Option Nat)) : Option (Nat × Bool) → Option (Nat × Bool) → Bool
  | none, none => true
  | some (j, b), some (k, c) => b == c && (orF ((ops[j]?).bind (·.dst)) fun d => τ.idxOf? (some d) == some k)
  | _, _ => false
def isC : Opd → Bool
  | .c _ => true
  | _ => false
def litP : Op → Option (TypeId × Nat × List (Nat × Operand))
  | .buildSlice t n ps => some (t, n, ps.toList)
  | _ => none
def cvP : Op → Option (TypeId × TypeId × Tmp)
  | .convert t u (.tmp d) => some (t, u, d)
  | _ => none
def isUn : SOper → Bool
  | ⟨none, .none, .cst .undef⟩ => true
  | _ => false
def lit1 : SOp → Option (List Opd)
  | .lit 1 ys => some ys
  | _ => none
/-- bytes of a constant text: a literal, and its conversion -/
def chkPair (μ : List Nat) (nt : Nat) (P : Program) (τ : List (Option Nat)) (o o2 : Oper) (s s2 : SOper) : Bool :=
  isUn s && s2.g.isNone && o.guard.isNone && o2.guard.isNone && (orF (lit1 s2.op) fun ys => orF (litP o.op) fun q => orF (cvP o2.op) fun c => orF o.dst fun d =>
    (decide (c.2.2 = d) && decide (c.1 = q.1) && decide (c.2.1 = q.1)) && (!μ.contains d && !τ.contains (some d) && decide (d < nt)) && (orF (uSlc P q.1) fun e => szT P e == some 1 && uInt P e == some .u8 && (zeroT P e).isSome) &&
    (q.2.2.map (·.1) == List.range q.2.1) && decide (q.2.1 * 1 ≤ 16777216) && chkL μ τ (q.2.2.map (·.2)) ys && ys.all isC)
def chkOps (μ : List Nat) (nt : Nat) (P : Program) (ops : Array Oper) : List Oper → List SOper → List (Option Nat) → Option (List (Option Nat))
  | [], [], τ => some τ
  | o :: os, s :: ss, τ => if (chkG ops τ o.guard s.g && chkOp μ τ P o.op s.op) = true then (chkDst μ nt τ o.dst s.dst).bind (chkOps μ nt P ops os ss) else match os, ss with
    | o2 :: os', s2 :: ss' => if chkPair μ nt P τ o o2 s s2 = true then (chkDst μ nt (none :: τ) o2.dst s2.dst).bind (chkOps μ nt P ops os' ss') else none
    | _, _ => none
  | _, _, _ => none

section
variable {P : Program} {w : World} {g : Gh} {μ : List Nat} {τ τ' : List (Option Nat)} {env ts : List D} {st : St} {a : Act} {q : Rg} {R : Run} {nt : Nat}

theorem idxOf_cons {x : Option Nat} {t : Nat} {j : Nat} (h : (x :: τ).idxOf? (some t) = some j) : (x = some t ∧ j = 0) ∨ (x ≠ some t ∧ ∃ k, j = k + 1 ∧ τ.idxOf? (some t) = some k) := by
  rw [List.idxOf?_cons] at h
  by_cases hx : x = some t
  · left; simp [hx] at h; exact ⟨hx, h.symm⟩
  · right
    have : (x == some t) = false := by simpa using hx
    simp only [this, Bool.false_eq_true, if_false] at h
    obtain ⟨k, h1, h2⟩ := map_some' h
    exact ⟨hx, k, h2.symm, h1⟩
theorem put_getD (a : Act) (d : Nat) (v : Value) (t : Nat) : (a.put (some d) v).tmps.getD t undef = if t = d ∧ d < a.tmps.size then v else a.tmps.getD t undef := by
  show (a.tmps.setIfInBounds d v).getD t undef = _
  simp only [Array.getD_eq_getD_getElem?]
  by_cases h : t = d
  · subst h
    by_cases h2 : t < a.tmps.size
    · simp [h2]
    · rw [if_neg (fun hh => h2 hh.2)]
      simp [h2]
  · rw [if_neg (fun hh => h hh.1), Array.getElem?_setIfInBounds_ne (Ne.symm h)]
theorem put_size (a : Act) (d : Option Tmp) (v : Value) : (a.put d v).tmps.size = a.tmps.size ∧ (a.put d v).defers = a.defers := by
  cases d <;> simp [Act.put]
theorem notmem {d t j : Nat} (h : τ.contains (some d) = false) (hj : τ.idxOf? (some t) = some j) : t ≠ d := by
  rintro rfl
  have h1 := idxOf_lt hj
  simp only [List.idxOf?, List.findIdx?_eq_some_iff_getElem] at hj
  obtain ⟨_, h2, _⟩ := hj
  simp at h2
  have : some t ∈ τ := by rw [← h2]; exact List.getElem_mem _
  simp at h
  exact h this
theorem mu_ne {i d t : Nat} (h : μ.contains d = false) (hi : μ[i]? = some t) : t ≠ d := by
  rintro rfl
  have : t ∈ μ := List.mem_of_getElem? hi
  simp at h
  exact h this

theorem nodup_inj {l : List Nat} (h : l.Nodup) {i j : Nat} (hi : i < l.length) (hj : j < l.length) (e : l[i] = l[j]) : i = j := by
  have := List.pairwise_iff_getElem.1 h
  rcases Nat.lt_trichotomy i j with h1 | h1 | h1
  · exact absurd e (this i j hi hj h1)
  · exact h1
  · exact absurd e.symm (this j i hj hi h1)

/-- where the value goes -/
theorem put_rel {w0 : World} {g0 : Gh} {d : D} {v : Value} {dst : Option Tmp} {x : Dst} (hμ : μ.Nodup) (hs : a.tmps.size = nt) (hts : ts.length = τ.length) (hc : chkDst μ nt τ dst x = some τ')
    (h : RelA w g μ τ env ts st a.tmps) (hd : RelD w g (.tmp τ.length) d v) :
    ∃ f, RelA w (g.mv f) μ τ' (putD d env ts x).1 (putD d env ts x).2 st (a.put dst v).tmps := by
  have hid : g.mv id = g := by simp [Gh.mv]
  have drop : ∀ (dst : Option Tmp), τ' = none :: τ → (∀ e, dst = some e → μ.contains e = false ∧ τ.contains (some e) = false) → RelA w g μ τ' env (.undef :: ts) st (a.put dst v).tmps := by
    intro dst e1 e2
    subst e1
    have same : ∀ t, (∀ e, dst = some e → t ≠ e) → (a.put dst v).tmps.getD t undef = a.tmps.getD t undef := fun t ht => by
      cases dst with
      | none => rfl
      | some e => rw [put_getD, if_neg (fun hh => ht e rfl hh.1)]
    refine ⟨h.s, fun i t hi => ?_, fun j t hj => ?_⟩
    · rw [same t (fun e he => mu_ne (e2 e he).1 hi)]; exact h.e i t hi
    · rcases idxOf_cons hj with ⟨h1, _⟩ | ⟨_, k, rfl, hk⟩
      · cases h1
      · rw [same t (fun e he => notmem (e2 e he).2 hk)]
        have := h.t k t hk
        have e : (none :: τ).length - 1 - (k + 1) = τ.length - 1 - k := by simp; omega
        rw [e]; exact this
  unfold chkDst at hc
  split at hc
  · cases hc
    exact ⟨id, by rw [hid]; exact drop none rfl (fun e he => by cases he)⟩
  · split at hc <;> cases hc
    rename_i d' hh
    exact ⟨id, by rw [hid]; exact drop (some d') rfl (fun e he => by cases he; exact hh)⟩
  · split at hc <;> cases hc
    rename_i d' hh
    obtain ⟨h1, h2, h3⟩ := hh
    refine ⟨id, ?_⟩
    rw [hid]
    refine ⟨h.s, fun i t hi => ?_, fun j t hj => ?_⟩
    · rw [put_getD, if_neg (fun hh => mu_ne h1 hi hh.1)]; exact h.e i t hi
    · rcases idxOf_cons hj with ⟨h4, rfl⟩ | ⟨_, k, rfl, hk⟩
      · cases h4
        rw [put_getD, if_pos ⟨rfl, hs ▸ h3⟩]
        have e : (some d' :: τ).length - 1 - 0 = τ.length := by simp
        rw [e]; exact hd
      · rw [put_getD, if_neg (fun hh => notmem h2 hk hh.1)]
        have := h.t k t hk
        have e : (some d' :: τ).length - 1 - (k + 1) = τ.length - 1 - k := by simp; omega
        rw [e]; exact this
  · split at hc <;> cases hc
    rename_i d' i hh
    obtain ⟨h1, h2, h3⟩ := hh
    let f : Pl → Pl := fun p => match p with | .tmp b k => if b = τ.length then .env i else .tmp b k | p => p
    refine ⟨f, h.s.mv rfl (fun p hp => by cases p <;> simp only [f] at hp <;> first | rfl | (cases hp; done) | (split at hp <;> cases hp)) (fun r i j => rfl), fun i' t hi => ?_, fun j t hj => ?_⟩
    · show RelD w (g.mv f) _ (getT (env.set i d) i') _
      rw [getT_set, put_getD]
      by_cases e : i = i'
      · subst e
        rw [h1] at hi
        cases hi
        rw [if_pos (show d' = d' ∧ d' < a.tmps.size from ⟨rfl, hs ▸ h3⟩)]
        by_cases hl : i < env.length
        · rw [if_pos ⟨rfl, hl⟩]
          exact hd.mv (fun k => by simp [f]) rfl
        · rw [if_neg (fun hh => hl hh.2), getT_nil (by omega)]
          exact .undef _ _
      · have hne : t ≠ d' := by
          rintro rfl
          have l1 := (List.getElem?_eq_some_iff.1 h1)
          have l2 := (List.getElem?_eq_some_iff.1 hi)
          obtain ⟨b1, e1⟩ := l1
          obtain ⟨b2, e2⟩ := l2
          exact e (nodup_inj hμ b1 b2 (e1.trans e2.symm))
        rw [if_neg (fun hh => e hh.1), if_neg (fun hh => hne hh.1)]
        exact (h.e i' t hi).mv (fun _ => rfl) rfl
    · rcases idxOf_cons hj with ⟨h4, _⟩ | ⟨_, k, rfl, hk⟩
      · cases h4
      · rw [put_getD, if_neg (fun hh => notmem h2 hk hh.1)]
        have := h.t k t hk
        have e : (none :: τ).length - 1 - (k + 1) = τ.length - 1 - k := by simp; omega
        rw [e]
        have hlt := idxOf_lt hk
        exact this.mv (fun kk => by
          have hne : ¬ τ.length - 1 - k = τ.length := by omega
          simp [f, hne]) rfl
  · cases hc
  · cases hc
end
end Go.Q

namespace Go.Q
variable [Known]
section
variable {P : Program} {w : World} {g : Gh} {μ : List Nat} {τ τ' : List (Option Nat)} {env ts : List D} {st : St} {a : Act} {q : Rg} {R : Run} {nt : Nat}

/-- what is known of an activation between two operations -/
structure At (w : World) (g : Gh) (μ : List Nat) (nt : Nat) (dfs : List Deferred) (τ : List (Option Nat)) (env ts : List D) (st : St) (a : Act) : Prop where
  r : RelA w g μ τ env ts st a.tmps
  n : a.tmps.size = nt
  d : a.defers = dfs
  l : ts.length = τ.length
  st : st ≠ []

theorem wanted_rel {dfs : List Deferred} {ops : Array Oper} {o : Oper} {s : SOper} {b : Bool} (h : At w g μ nt dfs τ env ts st a) (hg : chkG ops τ o.guard s.g = true) (hw : wantO ts s.g = some b) : Region.wanted o (yielded ops a.tmps) = b := by
  unfold chkG at hg
  split at hg
  · rename_i h1 h2
    rw [h2] at hw
    simp only [wantO] at hw
    cases hw
    simp [Region.wanted, h1]
  · rename_i j c k c' h1 h2
    rw [h2] at hw
    simp only [wantO] at hw
    obtain ⟨e1, e2⟩ := and2 hg
    obtain ⟨d, h3, h4⟩ := of_orF e2
    simp only [beq_iff_eq] at e1 h4
    subst e1
    have hr := h.r.t k d h4
    have key : Region.wanted o (yielded ops a.tmps) = (yielded ops a.tmps j == some c) := by simp [Region.wanted, h1]
    rw [key]
    unfold yielded
    rw [h3]
    simp only [Option.bind_some]
    unfold wantD at hw
    split at hw
    · rename_i t ht
      rw [ht] at hr
      have hv := boolOf hr
      cases hw
      have : a.tmps[d]? = some (.bool t) := by
        rw [Array.getD_eq_getD_getElem?] at hv
        cases hx : a.tmps[d]? with
        | none => rw [hx] at hv; cases hv
        | some v => rw [hx] at hv; exact congrArg some hv
      rw [this]
      simp
    · rename_i ht
      rw [ht] at hr
      cases hw
      generalize hv : a.tmps.getD d undef = v at hr
      cases hr with | tup _ _ cs hl hcs =>
      have : ∀ b, a.tmps[d]? ≠ some (.bool b) := fun b hb => by
        rw [Array.getD_eq_getD_getElem?, hb] at hv; cases hv
      split
      · rename_i b hb; exact absurd hb (this b)
      · simp
    · cases hw
  · cases hg

theorem litP_eq {op : Op} {q : TypeId × Nat × List (Nat × Operand)} (h : litP op = some q) : op = .buildSlice q.1 q.2.1 q.2.2.toArray := by
  unfold litP at h
  split at h <;> cases h
  simp
theorem cvP_eq {op : Op} {q : TypeId × TypeId × Tmp} (h : cvP op = some q) : op = .convert q.1 q.2.1 (.tmp q.2.2) := by
  unfold cvP at h
  split at h <;> cases h
  rfl
theorem isUn_eq {s : SOper} (h : isUn s = true) : s = ⟨none, .none, .cst .undef⟩ := by
  unfold isUn at h
  split at h <;> first | rfl | cases h
theorem lit1_eq {s : SOp} {ys : List Opd} (h : lit1 s = some ys) : s = .lit 1 ys := by
  unfold lit1 at h
  split at h <;> cases h
  rfl
theorem rd_c {ts' : List D} : ∀ {ys : List Opd}, ys.all isC = true → ys.map (rd env ts) = ys.map (rd env ts')
  | [], _ => rfl
  | y :: ys, h => by
    simp only [List.all_cons, Bool.and_eq_true] at h
    cases y with
    | x i => cases h.1
    | t i => cases h.1
    | c d => simp only [List.map_cons]; rw [rd_c h.2]; rfl
/-- .. both of them -/
theorem pair_sound {dfs : List Deferred} {o o2 : Oper} {s s2 : SOper} (hμ : μ.Nodup) (hc : chkPair μ nt P τ o o2 s s2 = true) (h : At w g μ nt dfs τ env ts st a) (he : evOp R env (.undef :: ts) st s2.op = some q) :
    ∃ v1 w1 v2 w2, o.guard = none ∧ o2.guard = none ∧ s = ⟨none, .none, .cst .undef⟩ ∧ s2.g = none ∧ (execOp a.eval o).run P w = .ok (.value v1) w1 ∧ (execOp (a.put o.dst v1).eval o2).run P w1 = .ok (.value v2) w2 ∧
      Post w g μ (none :: τ) (a.put o.dst v1).tmps q v2 w2 ∧ q.2.1.length = env.length ∧ q.2.2.1.length = ts.length + 1 ∧ q.2.2.2 = st := by
  simp only [chkPair, Bool.and_eq_true, Option.isNone_iff_eq_none] at hc
  obtain ⟨⟨⟨⟨c1, c2⟩, c3⟩, c4⟩, hc⟩ := hc
  obtain ⟨ys, e1, hc⟩ := of_orF hc
  obtain ⟨⟨t, n, ps⟩, e2, hc⟩ := of_orF hc
  obtain ⟨⟨t1, t2, d2⟩, e3, hc⟩ := of_orF hc
  obtain ⟨d, e4, hc⟩ := of_orF hc
  simp only [Bool.and_eq_true, Bool.not_eq_true', decide_eq_true_eq, beq_iff_eq] at hc
  obtain ⟨⟨⟨⟨⟨⟨⟨⟨hd, ht1⟩, ht2⟩, ⟨m1, m2⟩, m3⟩, hty⟩, hp⟩, hn⟩, hl⟩, hall⟩ := hc
  subst hd ht1 ht2
  obtain ⟨e, u1, u2⟩ := of_orF hty
  simp only [Bool.and_eq_true, beq_iff_eq] at u2
  obtain ⟨⟨u2, u3⟩, u4⟩ := u2
  have hop : o.op = .buildSlice t2 n ps.toArray := litP_eq e2
  have hop2 : o2.op = .convert t2 t2 (.tmp d2) := cvP_eq e3
  have hs2 := lit1_eq e1
  rw [hs2] at he
  -- the literal, ahead of the step
  have he' : ∃ xs, q = (.lin 1 xs, env, .undef :: ts, st) ∧ evOp R env ts st (.lit 1 ys) = some (.lin 1 xs, env, ts, st) := by
    simp only [evOp] at he ⊢
    rw [rd_c (env := env) (ts' := ts) hall] at he
    split at he <;> first | (cases he; done) | skip
    rename_i hrow
    obtain ⟨xs, h1, h2⟩ := bind_some' he
    split at h2 <;> cases h2
    rename_i hszs
    exact ⟨xs, rfl, by rw [if_neg hrow, h1, Option.bind_some, if_pos hszs]⟩
  obtain ⟨xs, rfl, he2⟩ := he'
  obtain ⟨xs', cells', hq, run, hxn, hsz, E, hat⟩ := lit_core h.r hop u1 u2 u4 (by simpa using hp) hn (by simpa using hl) he2
  cases hq
  obtain ⟨f, h2⟩ := put_rel (d := .undef) (v := .slice (some ⟨w.heap.size, 0, none⟩) n n) (dst := o.dst) (x := .none) (nt := nt) (τ' := none :: τ) hμ h.n h.l (by rw [e4]; simp only [chkDst]; rw [if_pos ⟨m1, m2⟩]) h.r (.undef _ _) (w0 := w) (g0 := g)
  have r2 : (execOp (a.put o.dst (.slice (some ⟨w.heap.size, 0, none⟩) n n)).eval o2).run P (w.alloc (.cells cells' e)) = .ok (.value (.slice (some ⟨w.heap.size, 0, none⟩) n n)) (w.alloc (.cells cells' e (cells'.size, cells'.size + 1))) := by
    have hv : (a.put o.dst (.slice (some ⟨w.heap.size, 0, none⟩) n n)).eval (.tmp d2) = .slice (some ⟨w.heap.size, 0, none⟩) n n := by
      show (a.put o.dst _).tmps.getD d2 undef = _
      rw [e4, put_getD, if_pos ⟨rfl, by rw [h.n]; exact m3⟩]
    simp only [execOp, hop2]
    rw [hv]
    exact run_v (Lib.run_convert_bytes_const w t2 e cells' n n (of_uSlc P u1) (of_uInt P u3))
  have hlin := new_lin (ob := .cells cells' e (cells'.size, cells'.size + 1)) (f := fun i j => ((cells'[i * 1 + j]?).getD undef)) (c := n) (sz := 1) 0 h2 (ys := xs) (E.mono fun x v hx => hx.mono (fun _ _ _ => rfl) (fun _ => Nat.le_refl _)) (by omega) (fun i j hi hj => by
    rw [drewN_zero, World.cell?_alloc_mark]
    exact hat i j hi hj) (fun j hj => by
    rw [drewN_zero, World.cell?_alloc_mark, World.frozen?_alloc_mark]
    refine ⟨by rw [Array.getElem?_eq_getElem (by rw [hsz]; exact hj)]; rfl, ?_⟩
    have : ¬ cells'.size ≤ j := by omega
    simp [this])
  rw [hxn] at hlin
  obtain ⟨g1, p1, p2, p3⟩ := hlin
  exact ⟨_, _, _, _, c3, c4, isUn_eq c1, c2, run, r2, ⟨g1, (Ext.mv f).trans p1, p2, p3⟩, rfl, by simp, rfl⟩
theorem ops_sound {ro : Option Nat} {dfs : List Deferred} {ops : Array Oper} (hμ : μ.Nodup) (hR : ROk P R) (hL : RLen R) {Q : Exit → Act → World → Prop} : ∀ (os : List Oper) (ss : List SOper) (i : Nat) (τ : List (Option Nat)) (env ts : List D) (st : St) (a : Act) (w : World) (g : Gh) (r : List D × List D × St),
    ops.toList.drop i = os → chkOps μ nt P ops os ss τ = some τ' → At w g μ nt dfs τ env ts st a → evOps R ss env ts st = some r →
    (∀ a' w' g', Ext w w' g g' → At w' g' μ nt dfs τ' r.1 r.2.1 r.2.2 a' → Q .normal a' w') → wpOpsIn (wideR ro) 0 P ops Q (List.range' i os.length) a w
  | [], ss, i, τ, env, ts, st, a, w, g, r, hd, hc, h, he, k => by
    cases ss with
    | cons s ss => simp [chkOps] at hc
    | nil =>
      simp only [chkOps] at hc
      cases hc
      simp only [evOps] at he
      cases he
      exact k a w g (Ext.refl w g) h
  | o :: os, ss, i, τ, env, ts, st, a, w, g, r, hd, hc, h, he, k => by
    cases ss with
    | nil => simp [chkOps] at hc
    | cons s ss =>
      unfold chkOps at hc
      split at hc
      case isFalse =>
        split at hc <;> first | (cases hc; done) | skip
        rename_i o2 os' s2 ss'
        split at hc <;> first | (cases hc; done) | skip
        rename_i hp
        obtain ⟨τ1, c3, c4⟩ := bind_some' hc
        have ho : ops[i]? = some o := by
          have : (ops.toList.drop i)[0]? = some o := by rw [hd]; rfl
          rw [List.getElem?_drop] at this
          simpa using this
        have hd1 : ops.toList.drop (i + 1) = o2 :: os' := by
          have := congrArg List.tail hd
          simpa using this
        have ho2 : ops[i + 1]? = some o2 := by
          have : (ops.toList.drop (i + 1))[0]? = some o2 := by rw [hd1]; rfl
          rw [List.getElem?_drop] at this
          simpa using this
        have hd' : ops.toList.drop (i + 1 + 1) = os' := by
          have := congrArg List.tail hd1
          simpa using this
        simp only [List.length_cons, List.range'_succ, wpOpsIn, ho, ho2]
        -- what they compute
        have he' : ∃ q, evOp R env (.undef :: ts) st s2.op = some q ∧ evOps R ss' (putD q.1 q.2.1 q.2.2.1 s2.dst).1 (putD q.1 q.2.1 q.2.2.1 s2.dst).2 q.2.2.2 = some r := by
          simp only [chkPair, Bool.and_eq_true, Option.isNone_iff_eq_none] at hp
          obtain ⟨⟨⟨⟨p1, p2⟩, _⟩, _⟩, _⟩ := hp
          rw [isUn_eq p1] at he
          simp only [evOps, wantO, Option.bind_some, if_true, evOp, putD, p2] at he
          obtain ⟨q, h3, h4⟩ := bind_some' he
          exact ⟨q, h3, h4⟩
        obtain ⟨q, e1, e2⟩ := he'
        obtain ⟨v1, w1, v2, w2, g1, g2, hs, hs2, r1, r2, ⟨g3, x1, x2, x3⟩, l1, l2, l3⟩ := pair_sound hμ hp h e1
        rw [if_pos (by simp [Region.wanted, g1])]
        refine OpRes.wq (Po := fun u w' => v1 = u ∧ w1 = w') (res_ok r1 ⟨rfl, rfl⟩) ?_
        rintro u w' ⟨rfl, rfl⟩
        rw [if_pos (by simp [Region.wanted, g2])]
        refine OpRes.wq (Po := fun u w' => v2 = u ∧ w2 = w') (res_ok r2 ⟨rfl, rfl⟩) ?_
        rintro u w' ⟨rfl, rfl⟩
        obtain ⟨p1, p2⟩ := put_size a o.dst v1
        obtain ⟨p3, p4⟩ := put_size (a.put o.dst v1) o2.dst v2
        have hτ1 : τ1.length = τ.length + 1 + 1 := by
          unfold chkDst at c3
          split at c3 <;> first | (cases c3; rfl) | (split at c3 <;> cases c3; rfl) | cases c3
        obtain ⟨f, x4⟩ := put_rel (dst := o2.dst) (x := s2.dst) (nt := nt) hμ (by rw [p1]; exact h.n) (τ := none :: τ) (by rw [l2, h.l]; rfl) c3 x2 x3 (w0 := w) (g0 := g)
        refine ops_sound (dfs := dfs) (ops := ops) hμ hR hL os' ss' (i + 1 + 1) τ1 _ _ _ _ _ _ r hd' c4 ⟨x4, by rw [p3, p1]; exact h.n, by rw [p4, p2]; exact h.d, by rw [(putD_len _ _ _ _).2, l2, h.l, hτ1], by rw [l3]; exact h.st⟩ e2 fun a' w'' g'' hx ha => ?_
        exact k a' w'' g'' (x1.trans ((Ext.mv f).trans hx)) ha
      rename_i hcc
      obtain ⟨c1, c2⟩ := and2 hcc
      obtain ⟨τ1, c3, c4⟩ := bind_some' hc
      have ho : ops[i]? = some o := by
        have : (ops.toList.drop i)[0]? = some o := by rw [hd]; rfl
        rw [List.getElem?_drop] at this
        simpa using this
      have hd' : ops.toList.drop (i + 1) = os := by
        have := congrArg List.tail hd
        simpa using this
      simp only [List.length_cons, List.range'_succ, wpOpsIn, ho]
      simp only [evOps] at he
      obtain ⟨b, e1, e2⟩ := bind_some' he
      have hw := wanted_rel h c1 e1
      have hτ1 : τ1.length = τ.length + 1 := by
        unfold chkDst at c3
        split at c3 <;> first | (cases c3; rfl) | (split at c3 <;> cases c3; rfl) | cases c3
      cases b with
      | true =>
        simp only [if_true] at e2
        obtain ⟨q, e3, e4⟩ := bind_some' e2
        rw [if_pos hw]
        have hS := evOp_sound hR h.r h.l c2 e3
        refine OpRes.wq hS fun v w' hp => ?_
        obtain ⟨g1, x1, x2, x3⟩ := hp
        obtain ⟨f, x4⟩ := put_rel (dst := o.dst) (x := s.dst) hμ (by exact h.n) (τ := τ) (by rw [(evOp_len hL h.st e3).2.1]; exact h.l) c3 x2 x3 (w0 := w) (g0 := g)
        obtain ⟨p1, p2⟩ := put_size a o.dst v
        have lens := evOp_len hL h.st e3
        refine ops_sound (dfs := dfs) (ops := ops) hμ hR hL os ss (i + 1) τ1 _ _ _ _ _ _ r hd' c4 ⟨x4, by rw [p1]; exact h.n, by rw [p2]; exact h.d, by rw [(putD_len _ _ _ _).2, lens.2.1, h.l, hτ1], fun e => ?_⟩ e4 fun a' w'' g'' hx ha => ?_
        · have := lens.2.2; rw [e] at this; exact h.st (List.length_eq_zero_iff.1 this.symm)
        · exact k a' w'' g'' (x1.trans ((Ext.mv f).trans hx)) ha
      | false =>
        simp only [Bool.false_eq_true, if_false] at e2
        rw [if_neg (by rw [hw]; simp)]
        obtain ⟨f, x4⟩ := put_rel (d := .tup []) (v := undef) (dst := o.dst) (x := s.dst) hμ (by exact h.n) h.l c3 h.r (.tup _ _ _ rfl (fun i hi => by simp at hi)) (w0 := w) (g0 := g)
        obtain ⟨p1, p2⟩ := put_size a o.dst undef
        refine ⟨fun _ _ => trivial, ?_⟩
        refine ops_sound (dfs := dfs) (ops := ops) hμ hR hL os ss (i + 1) τ1 _ _ _ _ _ _ r hd' c4 ⟨x4, by rw [p1]; exact h.n, by rw [p2]; exact h.d, by rw [(putD_len _ _ _ _).2, h.l, hτ1], h.st⟩ e2 fun a' w'' g'' hx ha => ?_
        exact k a' w'' g'' ((Ext.mv f).trans hx) ha
end
end Go.Q
