/- Lengths; a region's operations one after the other. No condition. -/
import Derived.Test.YthfjopmfgaohjaaDoorEvN
import Derived.Control
import Derived.Test.YthfjopmfgaohjaaDoorEvO
import Derived.Lib.SlBytesConst
import Derived.Orders
set_option linter.all false
namespace Go.Q
variable [Known]

def RLen (R : Run) : Prop := ∀ f args st r, R f args st = some r → r.2.length = st.length

section
variable {R : Run} {env ts : List D} {st : St} {q : Rg}
theorem takeO_len (env ts : List D) (y : Opd) : (takeO env ts y).2.1.length = env.length ∧ (takeO env ts y).2.2.length = ts.length := by
  unfold takeO takeD
  split <;> simp
theorem addB_len (b : Blk) (h : st ≠ []) : (addB st b).1.length = st.length := by
  cases st with
  | nil => exact absurd rfl h
  | cons fr st => rfl
theorem extL_len {i j : Nat} {ds : List D} {d : D} : (extL env ts st i j ds d).2.1 = env ∧ (extL env ts st i j ds d).2.2.1.length = ts.length ∧ (extL env ts st i j ds d).2.2.2 = st := by
  unfold extL; split <;> simp
theorem evOp_len (hR : RLen R) (hne : st ≠ []) {s : SOp} (he : evOp R env ts st s = some q) : q.2.1.length = env.length ∧ q.2.2.1.length = ts.length ∧ q.2.2.2.length = st.length := by
  cases s <;> simp only [evOp] at he <;> first
    | (cases he; exact ⟨rfl, rfl, rfl⟩)
    | (obtain ⟨_, _, rfl⟩ := map_some' he; exact ⟨rfl, rfl, rfl⟩)
    | (cases he; exact ⟨(takeO_len _ _ _).1, (takeO_len _ _ _).2, rfl⟩)
    | skip
  case pick => obtain ⟨b, _, h2⟩ := bind_some' he; split at h2 <;> cases h2 <;> exact ⟨rfl, rfl, rfl⟩
  case alloc =>
    split at he
    · split at he <;> cases he; exact ⟨rfl, rfl, (addBot_lvl st _).2 hne⟩
    · cases he; exact ⟨rfl, rfl, addB_len _ hne⟩
  case box =>
    split at he <;> first | (cases he; done) | skip
    split at he
    · split at he <;> cases he
      exact ⟨(takeO_len _ _ _).1, (takeO_len _ _ _).2, (addBot_lvl st _).2 hne⟩
    · cases he
      exact ⟨(takeO_len _ _ _).1, (takeO_len _ _ _).2, addB_len _ hne⟩
  case lit => split at he <;> first | (cases he; done) | skip
              obtain ⟨b, _, h2⟩ := bind_some' he; split at h2 <;> cases h2; exact ⟨rfl, rfl, rfl⟩
  case subl => obtain ⟨_, _, rfl⟩ := map_some' he; exact ⟨(takeO_len _ _ _).1, (takeO_len _ _ _).2, rfl⟩
  case s2o => obtain ⟨_, _, rfl⟩ := map_some' he; exact ⟨rfl, rfl, addB_len _ hne⟩
  case mkmap => split at he <;> cases he; exact ⟨rfl, rfl, (addBot_lvl st _).2 hne⟩; exact ⟨rfl, rfl, addB_len _ hne⟩
  case look =>
    obtain ⟨_, _, h2⟩ := bind_some' he
    obtain ⟨_, _, h4⟩ := bind_some' h2
    obtain ⟨_, _, rfl⟩ := map_some' h4
    exact ⟨rfl, rfl, rfl⟩
  case mupd =>
    obtain ⟨_, _, h2⟩ := bind_some' he
    obtain ⟨st', h3, rfl⟩ := map_some' h2
    refine ⟨rfl, rfl, ?_⟩
    unfold mupdD at h3
    split at h3 <;> first | (cases h3; done) | skip
    split at h3 <;> first | (cases h3; done) | skip
    obtain ⟨_, _, h5⟩ := bind_some' h3
    obtain ⟨_, _, rfl⟩ := map_some' h5
    exact setB_len _ _ _
  case loadR => split at he <;> first | (cases he; done) | skip
                obtain ⟨_, _, rfl⟩ := map_some' he; exact ⟨rfl, rfl, rfl⟩
  case store =>
    obtain ⟨st', h1, rfl⟩ := map_some' he
    refine ⟨(takeO_len _ _ _).1, (takeO_len _ _ _).2, ?_⟩
    unfold opStore at h1
    split at h1 <;> first | (cases h1; done) | skip
    obtain ⟨xs, _, h3⟩ := bind_some' h1
    obtain ⟨d, _, h5⟩ := bind_some' h3
    split at h5 <;> cases h5
    exact setB_len _ _ _
  case loadT =>
    split at he <;> first | (cases he; done) | skip
    obtain ⟨p, h1, rfl⟩ := map_some' he
    refine ⟨rfl, rfl, ?_⟩
    unfold opLoadT at h1
    split at h1 <;> first | (cases h1; done) | skip
    obtain ⟨xs, _, h3⟩ := bind_some' h1
    obtain ⟨d, _, h5⟩ := bind_some' h3
    obtain ⟨c, _, rfl⟩ := map_some' h5
    exact setB_len _ _ _
  case litO => split at he <;> first | (cases he; done) | skip
               obtain ⟨b, _, h2⟩ := bind_some' he; split at h2 <;> cases h2; exact ⟨rfl, rfl, addB_len _ hne⟩
  case litD => split at he <;> cases he; exact ⟨rfl, rfl, addB_len _ hne⟩
  case callP f xs =>
    split at he <;> first | (cases he; done) | skip
    obtain ⟨p, h1, rfl⟩ := map_some' he
    refine ⟨rfl, rfl, ?_⟩
    simp only [opCall, Bool.false_eq_true, if_false] at h1
    obtain ⟨xs, _, h3⟩ := bind_some' h1
    obtain ⟨p', _, h5⟩ := bind_some' h3
    unfold backD at h5
    split at h5 <;> first | (cases h5; done) | skip
    split at h5
    · split at h5 <;> cases h5; rfl
    · cases h5; rfl
  case appO =>
    split at he <;> first | (cases he; done) | skip
    obtain ⟨ys, _, h2⟩ := bind_some' he
    obtain ⟨q, h3, rfl⟩ := map_some' h2
    refine ⟨rfl, rfl, ?_⟩
    unfold opAppO at h3
    split at h3 <;> first | (cases h3; done) | skip
    · cases h3; rfl
    · split at h3 <;> cases h3
      exact addB_len _ hne
    · split at h3 <;> first | (cases h3; done) | skip
      obtain ⟨xs, _, h4⟩ := bind_some' h3
      obtain ⟨vs, _, h5⟩ := bind_some' h4
      unfold appRow at h5
      split at h5 <;> first | (cases h5; done) | skip
      obtain ⟨p, h6, rfl⟩ := map_some' h5
      exact (addAt_some h6).2.2.2.trans (setB_len _ _ _)
  case loadF => split at he <;> first | (cases he; done) | skip
                obtain ⟨_, _, rfl⟩ := map_some' he; exact ⟨rfl, rfl, rfl⟩
  case callB =>
    obtain ⟨p, h1, h2⟩ := bind_some' he
    split at h2 <;> first | (cases h2; done) | skip
    cases h2
    refine ⟨rfl, rfl, ?_⟩
    unfold callBD at h1
    split at h1 <;> first | (cases h1; done) | skip
    split at h1 <;> first | (cases h1; done) | skip
    obtain ⟨xs, _, h3⟩ := bind_some' h1
    unfold callBr at h3
    split at h3 <;> first | (cases h3; done) | skip
    split at h3 <;> first | (cases h3; done) | skip
    obtain ⟨p', _, h5⟩ := bind_some' h3
    unfold callBe at h5
    split at h5 <;> first | (cases h5; done) | skip
    split at h5 <;> cases h5
    exact setB_len _ _ _
  case storeS =>
    split at he <;> first | (cases he; done) | skip
    obtain ⟨st', h1, rfl⟩ := map_some' he
    refine ⟨(takeO_len _ _ _).1, (takeO_len _ _ _).2, ?_⟩
    unfold opStore at h1
    split at h1 <;> first | (cases h1; done) | skip
    obtain ⟨xs, _, h3⟩ := bind_some' h1
    obtain ⟨d, _, h5⟩ := bind_some' h3
    split at h5 <;> cases h5
    exact setB_len _ _ _
  case app => obtain ⟨b, _, h2⟩ := bind_some' he; obtain ⟨_, _, rfl⟩ := map_some' h2; exact ⟨(takeO_len _ _ _).1, (takeO_len _ _ _).2, rfl⟩
  case cpy =>
    obtain ⟨b, _, h2⟩ := bind_some' he; obtain ⟨p, h3, rfl⟩ := map_some' h2
    refine ⟨rfl, rfl, ?_⟩
    unfold opCpy at h3
    split at h3 <;> first | (cases h3; done) | skip
    split at h3 <;> first | (cases h3; done) | skip
    obtain ⟨xs, _, h5⟩ := bind_some' h3
    unfold cpyRow at h5
    split at h5 <;> cases h5
    exact setB_len _ _ _
  case make =>
    obtain ⟨a, _, h2⟩ := bind_some' he; obtain ⟨b, _, h3⟩ := bind_some' h2
    unfold makeD at h3
    split at h3
    · cases h3; exact ⟨rfl, rfl, addB_len _ hne⟩
    · split at h3 <;> cases h3; exact ⟨rfl, rfl, rfl⟩
  case call gen f xs =>
    obtain ⟨p, h1, rfl⟩ := map_some' he
    refine ⟨rfl, rfl, ?_⟩
    unfold opCall at h1
    split at h1
    · exact hR _ _ _ _ h1
    · obtain ⟨xs, _, h3⟩ := bind_some' h1
      obtain ⟨p', _, h5⟩ := bind_some' h3
      unfold backD at h5
      split at h5 <;> first | (cases h5; done) | skip
      split at h5
      · split at h5 <;> cases h5; rfl
      · cases h5; rfl
  case callv f xs =>
    obtain ⟨p, h1, rfl⟩ := map_some' he
    refine ⟨rfl, rfl, ?_⟩
    unfold callV at h1
    split at h1 <;> first | (cases h1; done) | exact hR _ _ _ _ h1
  case ext i x =>
    unfold extD at he
    split at he <;> first | (cases he; done) | skip
    · obtain ⟨d, _, rfl⟩ := map_some' he
      obtain ⟨h1, h2, h3⟩ := extL_len (env := env) (ts := ts) (st := st) (i := i) (d := d)
      exact ⟨by rw [h1], h2, by rw [h3]⟩
    · obtain ⟨d, _, rfl⟩ := map_some' he
      exact ⟨rfl, rfl, rfl⟩
  case clr sz z x =>
    obtain ⟨st', h1, rfl⟩ := map_some' he
    refine ⟨rfl, rfl, ?_⟩
    unfold opClr at h1
    split at h1 <;> first | (cases h1; done) | skip
    split at h1 <;> first | (cases h1; done) | skip
    split at h1
    · cases h1; rfl
    · obtain ⟨xs, _, h3⟩ := bind_some' h1
      unfold clrRow at h3
      split at h3 <;> cases h3
      exact setB_len _ _ _
  case die => cases he
theorem putD_len (d : D) (env ts : List D) (x : Dst) : (putD d env ts x).1.length = env.length ∧ (putD d env ts x).2.length = ts.length + 1 := by
  cases x <;> simp [putD]
theorem evOps_len (hR : RLen R) : ∀ {l : List SOper} {env ts : List D} {st : St} {q : List D × List D × St}, st ≠ [] → evOps R l env ts st = some q → q.1.length = env.length ∧ q.2.2.length = st.length
  | [], env, ts, st, q, hne, he => by simp only [evOps] at he; cases he; exact ⟨rfl, rfl⟩
  | o :: l, env, ts, st, q, hne, he => by
    simp only [evOps] at he
    obtain ⟨b, h1, h2⟩ := bind_some' he
    split at h2
    · obtain ⟨p, h3, h4⟩ := bind_some' h2
      obtain ⟨l1, l2, l3⟩ := evOp_len hR hne h3
      have hne' : p.2.2.2 ≠ [] := fun e => by rw [e] at l3; simp at l3; exact hne (List.length_eq_zero_iff.1 l3.symm)
      obtain ⟨k1, k2⟩ := evOps_len hR hne' h4
      exact ⟨by rw [k1, (putD_len _ _ _ _).1, l1], by rw [k2, l3]⟩
    · obtain ⟨k1, k2⟩ := evOps_len hR hne h2
      exact ⟨by rw [k1, (putD_len _ _ _ _).1], k2⟩
end

def chkDst (μ : List Nat) (nt : Nat) (τ : List (Option Nat)) : Option Tmp → Dst → Option (List (Option Nat))
  | none, .none => some (none :: τ)
  | some d, .none => if μ.contains d = false ∧ τ.contains (some d) = false then some (none :: τ) else none
  | some d, .tmp => if μ.contains d = false ∧ τ.contains (some d) = false ∧ d < nt then some (some d :: τ) else none
  | some d, .var i => if μ[i]? = some d ∧ τ.contains (some d) = false ∧ d < nt then some (none :: τ) else none
  | none, .tmp => none
  | none, .var _ => none
def chkG (ops : Array Oper) (τ : List (Option Nat)) : Option (Nat × Bool) → Option (Nat × Bool) → Bool
  | none, none => true
  | some (j, b), some (k, c) => b == c && (orF ((ops[j]?).bind (·.dst)) fun d => τ.idxOf? (some d) == some k)
  | _, _ => false
def isC : Opd → Bool
  | .c _ => true
  | _ => false
def litP : Op → Option (TypeId × Nat × List (Nat × Operand))
  | .buildSlice t n ps => some (t, n, ps.toList)
  | _ => none
def cvP : Op → Option (TypeId × TypeId × Tmp)
  | .convert t u (.tmp d) => some (t, u, d)
  | _ => none
def isUn : SOper → Bool
  | ⟨_, .none, .cst .undef⟩ => true
  | _ => false
def gNext : Option (Nat × Bool) → Option (Nat × Bool)
  | some (j, b) => some (j + 1, b)
  | none => none
def lit1 : SOp → Option (List Opd)
  | .lit 1 ys => some ys
  | _ => none
def chkPair (μ : List Nat) (nt : Nat) (P : Program) (ops : Array Oper) (τ : List (Option Nat)) (o o2 : Oper) (s s2 : SOper) : Bool :=
  isUn s && s2.g == gNext s.g && chkG ops τ o.guard s.g && chkG ops (none :: τ) o2.guard s2.g && (orF (lit1 s2.op) fun ys => orF (litP o.op) fun q => orF (cvP o2.op) fun c => orF o.dst fun d =>
    (decide (c.2.2 = d) && decide (c.1 = q.1) && decide (c.2.1 = q.1)) && (!μ.contains d && !τ.contains (some d) && decide (d < nt)) && (orF (uSlc P q.1) fun e => szT P e == some 1 && uInt P e == some .u8 && (zeroT P e).isSome) &&
    (q.2.2.map (·.1) == List.range q.2.1) && decide (q.2.1 * 1 ≤ 16777216) && chkL μ τ (q.2.2.map (·.2)) ys && ys.all isC)
def chkOps (μ : List Nat) (nt : Nat) (P : Program) (ops : Array Oper) : List Oper → List SOper → List (Option Nat) → Option (List (Option Nat))
  | [], [], τ => some τ
  | o :: os, s :: ss, τ => if (chkG ops τ o.guard s.g && chkOp μ τ P o.op s.op) = true then (chkDst μ nt τ o.dst s.dst).bind (chkOps μ nt P ops os ss) else match os, ss with
    | o2 :: os', s2 :: ss' => if chkPair μ nt P ops τ o o2 s s2 = true then (chkDst μ nt (none :: τ) o2.dst s2.dst).bind (chkOps μ nt P ops os' ss') else none
    | _, _ => none
  | _, _, _ => none

section
variable {P : Program} {w : World} {g : Gh} {μ : List Nat} {τ τ' : List (Option Nat)} {env ts : List D} {st : St} {a : Act} {q : Rg} {R : Run} {nt : Nat}

theorem idxOf_cons {x : Option Nat} {t : Nat} {j : Nat} (h : (x :: τ).idxOf? (some t) = some j) : (x = some t ∧ j = 0) ∨ (x ≠ some t ∧ ∃ k, j = k + 1 ∧ τ.idxOf? (some t) = some k) := by
  rw [List.idxOf?_cons] at h
  by_cases hx : x = some t
  · left; simp [hx] at h; exact ⟨hx, h.symm⟩
  · right
    have : (x == some t) = false := by simpa using hx
    simp only [this, Bool.false_eq_true, if_false] at h
    obtain ⟨k, h1, h2⟩ := map_some' h
    exact ⟨hx, k, h2.symm, h1⟩
theorem put_getD (a : Act) (d : Nat) (v : Value) (t : Nat) : (a.put (some d) v).tmps.getD t undef = if t = d ∧ d < a.tmps.size then v else a.tmps.getD t undef := by
  show (a.tmps.setIfInBounds d v).getD t undef = _
  simp only [Array.getD_eq_getD_getElem?]
  by_cases h : t = d
  · subst h
    by_cases h2 : t < a.tmps.size
    · simp [h2]
    · rw [if_neg (fun hh => h2 hh.2)]
      simp [h2]
  · rw [if_neg (fun hh => h hh.1), Array.getElem?_setIfInBounds_ne (Ne.symm h)]
theorem put_size (a : Act) (d : Option Tmp) (v : Value) : (a.put d v).tmps.size = a.tmps.size ∧ (a.put d v).defers = a.defers := by
  cases d <;> simp [Act.put]
theorem notmem {d t j : Nat} (h : τ.contains (some d) = false) (hj : τ.idxOf? (some t) = some j) : t ≠ d := by
  rintro rfl
  have h1 := idxOf_lt hj
  simp only [List.idxOf?, List.findIdx?_eq_some_iff_getElem] at hj
  obtain ⟨_, h2, _⟩ := hj
  simp at h2
  have : some t ∈ τ := by rw [← h2]; exact List.getElem_mem _
  simp at h
  exact h this
theorem mu_ne {i d t : Nat} (h : μ.contains d = false) (hi : μ[i]? = some t) : t ≠ d := by
  rintro rfl
  have : t ∈ μ := List.mem_of_getElem? hi
  simp at h
  exact h this

theorem nodup_inj {l : List Nat} (h : l.Nodup) {i j : Nat} (hi : i < l.length) (hj : j < l.length) (e : l[i] = l[j]) : i = j := by
  have := List.pairwise_iff_getElem.1 h
  rcases Nat.lt_trichotomy i j with h1 | h1 | h1
  · exact absurd e (this i j hi hj h1)
  · exact h1
  · exact absurd e.symm (this j i hj hi h1)

theorem put_rel {w0 : World} {g0 : Gh} {d : D} {v : Value} {dst : Option Tmp} {x : Dst} (hμ : μ.Nodup) (hs : a.tmps.size = nt) (hts : ts.length = τ.length) (hc : chkDst μ nt τ dst x = some τ')
    (h : RelA w g μ τ env ts st a.tmps) (hd : RelD w g (.tmp τ.length) d v) :
    ∃ f, RelA w (g.mv f) μ τ' (putD d env ts x).1 (putD d env ts x).2 st (a.put dst v).tmps := by
  have hid : g.mv id = g := by simp [Gh.mv]
  have drop : ∀ (dst : Option Tmp), τ' = none :: τ → (∀ e, dst = some e → μ.contains e = false ∧ τ.contains (some e) = false) → RelA w g μ τ' env (.undef :: ts) st (a.put dst v).tmps := by
    intro dst e1 e2
    subst e1
    have same : ∀ t, (∀ e, dst = some e → t ≠ e) → (a.put dst v).tmps.getD t undef = a.tmps.getD t undef := fun t ht => by
      cases dst with
      | none => rfl
      | some e => rw [put_getD, if_neg (fun hh => ht e rfl hh.1)]
    refine ⟨h.s, fun i t hi => ?_, fun j t hj => ?_⟩
    · rw [same t (fun e he => mu_ne (e2 e he).1 hi)]; exact h.e i t hi
    · rcases idxOf_cons hj with ⟨h1, _⟩ | ⟨_, k, rfl, hk⟩
      · cases h1
      · rw [same t (fun e he => notmem (e2 e he).2 hk)]
        have := h.t k t hk
        have e : (none :: τ).length - 1 - (k + 1) = τ.length - 1 - k := by simp; omega
        rw [e]; exact this
  unfold chkDst at hc
  split at hc
  · cases hc
    exact ⟨id, by rw [hid]; exact drop none rfl (fun e he => by cases he)⟩
  · split at hc <;> cases hc
    rename_i d' hh
    exact ⟨id, by rw [hid]; exact drop (some d') rfl (fun e he => by cases he; exact hh)⟩
  · split at hc <;> cases hc
    rename_i d' hh
    obtain ⟨h1, h2, h3⟩ := hh
    refine ⟨id, ?_⟩
    rw [hid]
    refine ⟨h.s, fun i t hi => ?_, fun j t hj => ?_⟩
    · rw [put_getD, if_neg (fun hh => mu_ne h1 hi hh.1)]; exact h.e i t hi
    · rcases idxOf_cons hj with ⟨h4, rfl⟩ | ⟨_, k, rfl, hk⟩
      · cases h4
        rw [put_getD, if_pos ⟨rfl, hs ▸ h3⟩]
        have e : (some d' :: τ).length - 1 - 0 = τ.length := by simp
        rw [e]; exact hd
      · rw [put_getD, if_neg (fun hh => notmem h2 hk hh.1)]
        have := h.t k t hk
        have e : (some d' :: τ).length - 1 - (k + 1) = τ.length - 1 - k := by simp; omega
        rw [e]; exact this
  · split at hc <;> cases hc
    rename_i d' i hh
    obtain ⟨h1, h2, h3⟩ := hh
    let f : Pl → Pl := fun p => match p with | .tmp b k => if b = τ.length then .env i else .tmp b k | p => p
    refine ⟨f, h.s.mv rfl (fun p hp => by cases p <;> simp only [f] at hp <;> first | rfl | (cases hp; done) | (split at hp <;> cases hp)) (fun r i j => rfl), fun i' t hi => ?_, fun j t hj => ?_⟩
    · show RelD w (g.mv f) _ (getT (env.set i d) i') _
      rw [getT_set, put_getD]
      by_cases e : i = i'
      · subst e
        rw [h1] at hi
        cases hi
        rw [if_pos (show d' = d' ∧ d' < a.tmps.size from ⟨rfl, hs ▸ h3⟩)]
        by_cases hl : i < env.length
        · rw [if_pos ⟨rfl, hl⟩]
          exact hd.mv (fun k => by simp [f]) rfl
        · rw [if_neg (fun hh => hl hh.2), getT_nil (by omega)]
          exact .undef _ _
      · have hne : t ≠ d' := by
          rintro rfl
          have l1 := (List.getElem?_eq_some_iff.1 h1)
          have l2 := (List.getElem?_eq_some_iff.1 hi)
          obtain ⟨b1, e1⟩ := l1
          obtain ⟨b2, e2⟩ := l2
          exact e (nodup_inj hμ b1 b2 (e1.trans e2.symm))
        rw [if_neg (fun hh => e hh.1), if_neg (fun hh => hne hh.1)]
        exact (h.e i' t hi).mv (fun _ => rfl) rfl
    · rcases idxOf_cons hj with ⟨h4, _⟩ | ⟨_, k, rfl, hk⟩
      · cases h4
      · rw [put_getD, if_neg (fun hh => notmem h2 hk hh.1)]
        have := h.t k t hk
        have e : (none :: τ).length - 1 - (k + 1) = τ.length - 1 - k := by simp; omega
        rw [e]
        have hlt := idxOf_lt hk
        exact this.mv (fun kk => by
          have hne : ¬ τ.length - 1 - k = τ.length := by omega
          simp [f, hne]) rfl
  · cases hc
  · cases hc
end
end Go.Q

namespace Go.Q
variable [Known]
section
variable {P : Program} {w : World} {g : Gh} {μ : List Nat} {τ τ' : List (Option Nat)} {env ts : List D} {st : St} {a : Act} {q : Rg} {R : Run} {nt : Nat}

structure At (w : World) (g : Gh) (μ : List Nat) (nt : Nat) (dfs : List Deferred) (τ : List (Option Nat)) (env ts : List D) (st : St) (a : Act) : Prop where
  r : RelA w g μ τ env ts st a.tmps
  n : a.tmps.size = nt
  d : a.defers = dfs
  l : ts.length = τ.length
  st : st ≠ []

theorem wanted_rel {dfs : List Deferred} {ops : Array Oper} {o : Oper} {s : SOper} {b : Bool} (h : At w g μ nt dfs τ env ts st a) (hg : chkG ops τ o.guard s.g = true) (hw : wantO ts s.g = some b) : Region.wanted o (yielded ops a.tmps) = b := by
  unfold chkG at hg
  split at hg
  · rename_i h1 h2
    rw [h2] at hw
    simp only [wantO] at hw
    cases hw
    simp [Region.wanted, h1]
  · rename_i j c k c' h1 h2
    rw [h2] at hw
    simp only [wantO] at hw
    obtain ⟨e1, e2⟩ := and2 hg
    obtain ⟨d, h3, h4⟩ := of_orF e2
    simp only [beq_iff_eq] at e1 h4
    subst e1
    have hr := h.r.t k d h4
    have key : Region.wanted o (yielded ops a.tmps) = (yielded ops a.tmps j == some c) := by simp [Region.wanted, h1]
    rw [key]
    unfold yielded
    rw [h3]
    simp only [Option.bind_some]
    unfold wantD at hw
    split at hw
    · rename_i t ht
      rw [ht] at hr
      have hv := boolOf hr
      cases hw
      have : a.tmps[d]? = some (.bool t) := by
        rw [Array.getD_eq_getD_getElem?] at hv
        cases hx : a.tmps[d]? with
        | none => rw [hx] at hv; cases hv
        | some v => rw [hx] at hv; exact congrArg some hv
      rw [this]
      simp
    · rename_i ht
      rw [ht] at hr
      cases hw
      generalize hv : a.tmps.getD d undef = v at hr
      cases hr with | tup _ _ cs hl hcs =>
      have : ∀ b, a.tmps[d]? ≠ some (.bool b) := fun b hb => by
        rw [Array.getD_eq_getD_getElem?, hb] at hv; cases hv
      split
      · rename_i b hb; exact absurd hb (this b)
      · simp
    · cases hw
  · cases hg

theorem litP_eq {op : Op} {q : TypeId × Nat × List (Nat × Operand)} (h : litP op = some q) : op = .buildSlice q.1 q.2.1 q.2.2.toArray := by
  unfold litP at h
  split at h <;> cases h
  simp
theorem cvP_eq {op : Op} {q : TypeId × TypeId × Tmp} (h : cvP op = some q) : op = .convert q.1 q.2.1 (.tmp q.2.2) := by
  unfold cvP at h
  split at h <;> cases h
  rfl
theorem isUn_eq {s : SOper} (h : isUn s = true) : s = ⟨s.g, .none, .cst .undef⟩ := by
  unfold isUn at h
  split at h <;> first | rfl | cases h
theorem lit1_eq {s : SOp} {ys : List Opd} (h : lit1 s = some ys) : s = .lit 1 ys := by
  unfold lit1 at h
  split at h <;> cases h
  rfl
theorem rd_c {ts' : List D} : ∀ {ys : List Opd}, ys.all isC = true → ys.map (rd env ts) = ys.map (rd env ts')
  | [], _ => rfl
  | y :: ys, h => by
    simp only [List.all_cons, Bool.and_eq_true] at h
    cases y with
    | x i => cases h.1
    | t i => cases h.1
    | c d => simp only [List.map_cons]; rw [rd_c h.2]; rfl
theorem pair_sound {dfs : List Deferred} {o o2 : Oper} {s s2 : SOper} (hμ : μ.Nodup) {ops : Array Oper} (hc : chkPair μ nt P ops τ o o2 s s2 = true) (h : At w g μ nt dfs τ env ts st a) (he : evOp R env (.undef :: ts) st s2.op = some q) :
    ∃ v1 w1 v2 w2, (execOp a.eval o).run P w = .ok (.value v1) w1 ∧ (execOp (a.put o.dst v1).eval o2).run P w1 = .ok (.value v2) w2 ∧
      Post w g μ (none :: τ) (a.put o.dst v1).tmps q v2 w2 ∧ q.2.1.length = env.length ∧ q.2.2.1.length = ts.length + 1 ∧ q.2.2.2 = st := by
  simp only [chkPair, Bool.and_eq_true] at hc
  obtain ⟨_, hc⟩ := hc
  obtain ⟨ys, e1, hc⟩ := of_orF hc
  obtain ⟨⟨t, n, ps⟩, e2, hc⟩ := of_orF hc
  obtain ⟨⟨t1, t2, d2⟩, e3, hc⟩ := of_orF hc
  obtain ⟨d, e4, hc⟩ := of_orF hc
  simp only [Bool.and_eq_true, Bool.not_eq_true', decide_eq_true_eq, beq_iff_eq] at hc
  obtain ⟨⟨⟨⟨⟨⟨⟨⟨hd, ht1⟩, ht2⟩, ⟨m1, m2⟩, m3⟩, hty⟩, hp⟩, hn⟩, hl⟩, hall⟩ := hc
  subst hd ht1 ht2
  obtain ⟨e, u1, u2⟩ := of_orF hty
  simp only [Bool.and_eq_true, beq_iff_eq] at u2
  obtain ⟨⟨u2, u3⟩, u4⟩ := u2
  have hop : o.op = .buildSlice t2 n ps.toArray := litP_eq e2
  have hop2 : o2.op = .convert t2 t2 (.tmp d2) := cvP_eq e3
  have hs2 := lit1_eq e1
  rw [hs2] at he
  have he' : ∃ xs, q = (.lin 1 xs, env, .undef :: ts, st) ∧ evOp R env ts st (.lit 1 ys) = some (.lin 1 xs, env, ts, st) := by
    simp only [evOp] at he ⊢
    rw [rd_c (env := env) (ts' := ts) hall] at he
    split at he <;> first | (cases he; done) | skip
    rename_i hrow
    obtain ⟨xs, h1, h2⟩ := bind_some' he
    split at h2 <;> cases h2
    rename_i hszs
    exact ⟨xs, rfl, by rw [if_neg hrow, h1, Option.bind_some, if_pos hszs]⟩
  obtain ⟨xs, rfl, he2⟩ := he'
  obtain ⟨xs', cells', hq, run, hxn, hsz, E, hat⟩ := lit_core h.r hop u1 u2 u4 (by simpa using hp) hn (by simpa using hl) he2
  cases hq
  obtain ⟨f, h2⟩ := put_rel (d := .undef) (v := .slice (some ⟨w.heap.size, 0, none⟩) n n) (dst := o.dst) (x := .none) (nt := nt) (τ' := none :: τ) hμ h.n h.l (by rw [e4]; simp only [chkDst]; rw [if_pos ⟨m1, m2⟩]) h.r (.undef _ _) (w0 := w) (g0 := g)
  have r2 : (execOp (a.put o.dst (.slice (some ⟨w.heap.size, 0, none⟩) n n)).eval o2).run P (w.alloc (.cells cells' e)) = .ok (.value (.slice (some ⟨w.heap.size, 0, none⟩) n n)) (w.alloc (.cells cells' e (cells'.size, cells'.size + 1))) := by
    have hv : (a.put o.dst (.slice (some ⟨w.heap.size, 0, none⟩) n n)).eval (.tmp d2) = .slice (some ⟨w.heap.size, 0, none⟩) n n := by
      show (a.put o.dst _).tmps.getD d2 undef = _
      rw [e4, put_getD, if_pos ⟨rfl, by rw [h.n]; exact m3⟩]
    simp only [execOp, hop2]
    rw [hv]
    exact run_v (Lib.run_convert_bytes_const w t2 e cells' n n (of_uSlc P u1) (of_uInt P u3))
  have hlin := new_lin (ob := .cells cells' e (cells'.size, cells'.size + 1)) (f := fun i j => ((cells'[i * 1 + j]?).getD undef)) (c := n) (sz := 1) 0 h2 (ys := xs) (E.mono fun x v hx => hx.mono (fun _ _ _ => rfl) (fun _ => Nat.le_refl _)) (by omega) (fun i j hi hj => by
    rw [drewN_zero, World.cell?_alloc_mark]
    exact hat i j hi hj) (fun j hj => by
    rw [drewN_zero, World.cell?_alloc_mark, World.frozen?_alloc_mark]
    refine ⟨by rw [Array.getElem?_eq_getElem (by rw [hsz]; exact hj)]; rfl, ?_⟩
    have : ¬ cells'.size ≤ j := by omega
    simp [this])
  rw [hxn] at hlin
  obtain ⟨g1, p1, p2, p3⟩ := hlin
  exact ⟨_, _, _, _, run, r2, ⟨g1, (Ext.mv f).trans p1, p2, p3⟩, rfl, by simp, rfl⟩
theorem pair_facts {ops : Array Oper} {o o2 : Oper} {s s2 : SOper} (hc : chkPair μ nt P ops τ o o2 s s2 = true) :
    s = ⟨s.g, .none, .cst .undef⟩ ∧ s2.g = gNext s.g ∧ chkG ops τ o.guard s.g = true ∧ chkG ops (none :: τ) o2.guard s2.g = true ∧ chkDst μ nt τ o.dst .none = some (none :: τ) := by
  simp only [chkPair, Bool.and_eq_true] at hc
  obtain ⟨⟨⟨⟨c1, c2⟩, c3⟩, c4⟩, hc⟩ := hc
  obtain ⟨ys, e1, hc⟩ := of_orF hc
  obtain ⟨⟨t, n, ps⟩, e2, hc⟩ := of_orF hc
  obtain ⟨⟨t1, t2, d2⟩, e3, hc⟩ := of_orF hc
  obtain ⟨d, e4, hc⟩ := of_orF hc
  simp only [Bool.and_eq_true, Bool.not_eq_true', decide_eq_true_eq, beq_iff_eq] at hc
  obtain ⟨⟨⟨⟨⟨⟨⟨⟨hd, ht1⟩, ht2⟩, ⟨m1, m2⟩, m3⟩, hty⟩, hp⟩, hn⟩, hl⟩, hall⟩ := hc
  exact ⟨isUn_eq c1, by simpa using c2, c3, c4, by rw [e4]; simp only [chkDst]; rw [if_pos ⟨m1, m2⟩]⟩
theorem gNext_want {ts : List D} {g : Option (Nat × Bool)} {b : Bool} (h : wantO ts g = some b) : wantO (.undef :: ts) (gNext g) = some b := by
  cases g with
  | none => exact h
  | some p => obtain ⟨j, c⟩ := p; exact h
theorem ops_sound {ro : Option Nat} {dfs : List Deferred} {ops : Array Oper} (hμ : μ.Nodup) (hR : ROk P R) (hL : RLen R) {Q : Exit → Act → World → Prop} : ∀ (os : List Oper) (ss : List SOper) (i : Nat) (τ : List (Option Nat)) (env ts : List D) (st : St) (a : Act) (w : World) (g : Gh) (r : List D × List D × St),
    ops.toList.drop i = os → chkOps μ nt P ops os ss τ = some τ' → At w g μ nt dfs τ env ts st a → evOps R ss env ts st = some r →
    (∀ a' w' g', Ext w w' g g' → At w' g' μ nt dfs τ' r.1 r.2.1 r.2.2 a' → Q .normal a' w') → wpOpsIn (wideR ro) 0 P ops Q (List.range' i os.length) a w
  | [], ss, i, τ, env, ts, st, a, w, g, r, hd, hc, h, he, k => by
    cases ss with
    | cons s ss => simp [chkOps] at hc
    | nil =>
      simp only [chkOps] at hc
      cases hc
      simp only [evOps] at he
      cases he
      exact k a w g (Ext.refl w g) h
  | o :: os, ss, i, τ, env, ts, st, a, w, g, r, hd, hc, h, he, k => by
    cases ss with
    | nil => simp [chkOps] at hc
    | cons s ss =>
      unfold chkOps at hc
      split at hc
      case isFalse =>
        split at hc <;> first | (cases hc; done) | skip
        rename_i o2 os' s2 ss'
        split at hc <;> first | (cases hc; done) | skip
        rename_i hp
        obtain ⟨τ1, c3, c4⟩ := bind_some' hc
        have ho : ops[i]? = some o := by
          have : (ops.toList.drop i)[0]? = some o := by rw [hd]; rfl
          rw [List.getElem?_drop] at this
          simpa using this
        have hd1 : ops.toList.drop (i + 1) = o2 :: os' := by
          have := congrArg List.tail hd
          simpa using this
        have ho2 : ops[i + 1]? = some o2 := by
          have : (ops.toList.drop (i + 1))[0]? = some o2 := by rw [hd1]; rfl
          rw [List.getElem?_drop] at this
          simpa using this
        have hd' : ops.toList.drop (i + 1 + 1) = os' := by
          have := congrArg List.tail hd1
          simpa using this
        simp only [List.length_cons, List.range'_succ, wpOpsIn, ho, ho2]
        obtain ⟨f1, f2, f3, f4, f5⟩ := pair_facts hp
        have hτ1 : τ1.length = τ.length + 1 + 1 := by
          unfold chkDst at c3
          split at c3 <;> first | (cases c3; rfl) | (split at c3 <;> cases c3; rfl) | cases c3
        rw [f1] at he
        simp only [evOps] at he
        obtain ⟨b, hb, he⟩ := bind_some' he
        have hb2 := gNext_want hb
        rw [← f2] at hb2
        have hw1 := wanted_rel h f3 hb
        have mid : ∀ v1 : Value, ∃ g', Ext w w g g' ∧ At w g' μ nt dfs (none :: τ) env (.undef :: ts) st (a.put o.dst v1) := fun v1 => by
          obtain ⟨f, x4⟩ := put_rel (d := .undef) (v := v1) (dst := o.dst) (x := .none) (nt := nt) hμ (by exact h.n) h.l f5 h.r (.undef _ _) (w0 := w) (g0 := g)
          obtain ⟨p1, p2⟩ := put_size a o.dst v1
          exact ⟨_, Ext.mv f, x4, by rw [p1]; exact h.n, by rw [p2]; exact h.d, by simp [h.l], h.st⟩
        cases b with
        | true =>
          simp only [if_true, evOp, Option.bind_some, putD, hb2] at he
          obtain ⟨q, e1, e2⟩ := bind_some' he
          obtain ⟨v1, w1, v2, w2, r1, r2, ⟨g3, x1, x2, x3⟩, l1, l2, l3⟩ := pair_sound hμ hp h e1
          rw [if_pos hw1]
          refine OpRes.wq (Po := fun u w' => v1 = u ∧ w1 = w') (res_ok r1 ⟨rfl, rfl⟩) ?_
          rintro u w' ⟨rfl, rfl⟩
          obtain ⟨gm, _, Am⟩ := mid v1
          rw [if_pos (wanted_rel Am f4 hb2)]
          refine OpRes.wq (Po := fun u w' => v2 = u ∧ w2 = w') (res_ok r2 ⟨rfl, rfl⟩) ?_
          rintro u w' ⟨rfl, rfl⟩
          obtain ⟨p1, p2⟩ := put_size a o.dst v1
          obtain ⟨p3, p4⟩ := put_size (a.put o.dst v1) o2.dst v2
          obtain ⟨f, x4⟩ := put_rel (dst := o2.dst) (x := s2.dst) (nt := nt) hμ (by rw [p1]; exact h.n) (τ := none :: τ) (by rw [l2, h.l]; rfl) c3 x2 x3 (w0 := w) (g0 := g)
          refine ops_sound (dfs := dfs) (ops := ops) hμ hR hL os' ss' (i + 1 + 1) τ1 _ _ _ _ _ _ r hd' c4 ⟨x4, by rw [p3, p1]; exact h.n, by rw [p4, p2]; exact h.d, by rw [(putD_len _ _ _ _).2, l2, h.l, hτ1], by rw [l3]; exact h.st⟩ e2 fun a' w'' g'' hx ha => ?_
          exact k a' w'' g'' (x1.trans ((Ext.mv f).trans hx)) ha
        | false =>
          simp only [Bool.false_eq_true, if_false, Option.bind_some, putD, hb2] at he
          rw [if_neg (by rw [hw1]; simp)]
          refine ⟨fun _ _ => trivial, ?_⟩
          obtain ⟨gm, hxm, Am⟩ := mid undef
          rw [if_neg (by rw [wanted_rel Am f4 hb2]; simp)]
          obtain ⟨f, x4⟩ := put_rel (d := .tup []) (v := undef) (dst := o2.dst) (x := s2.dst) hμ (by exact Am.n) Am.l c3 Am.r (.tup _ _ _ rfl (fun i hi => by simp at hi)) (w0 := w) (g0 := g)
          obtain ⟨p1, p2⟩ := put_size a o.dst undef
          obtain ⟨p3, p4⟩ := put_size (a.put o.dst undef) o2.dst undef
          refine ⟨fun _ _ => trivial, ?_⟩
          refine ops_sound (dfs := dfs) (ops := ops) hμ hR hL os' ss' (i + 1 + 1) τ1 _ _ _ _ _ _ r hd' c4 ⟨x4, by rw [p3]; exact Am.n, by rw [p4]; exact Am.d, by rw [(putD_len _ _ _ _).2, Am.l, hτ1]; rfl, h.st⟩ he fun a' w'' g'' hx ha => ?_
          exact k a' w'' g'' (hxm.trans ((Ext.mv f).trans hx)) ha
      rename_i hcc
      obtain ⟨c1, c2⟩ := and2 hcc
      obtain ⟨τ1, c3, c4⟩ := bind_some' hc
      have ho : ops[i]? = some o := by
        have : (ops.toList.drop i)[0]? = some o := by rw [hd]; rfl
        rw [List.getElem?_drop] at this
        simpa using this
      have hd' : ops.toList.drop (i + 1) = os := by
        have := congrArg List.tail hd
        simpa using this
      simp only [List.length_cons, List.range'_succ, wpOpsIn, ho]
      simp only [evOps] at he
      obtain ⟨b, e1, e2⟩ := bind_some' he
      have hw := wanted_rel h c1 e1
      have hτ1 : τ1.length = τ.length + 1 := by
        unfold chkDst at c3
        split at c3 <;> first | (cases c3; rfl) | (split at c3 <;> cases c3; rfl) | cases c3
      cases b with
      | true =>
        simp only [if_true] at e2
        obtain ⟨q, e3, e4⟩ := bind_some' e2
        rw [if_pos hw]
        have hS := evOp_sound hR h.r h.l c2 e3
        refine OpRes.wq hS fun v w' hp => ?_
        obtain ⟨g1, x1, x2, x3⟩ := hp
        obtain ⟨f, x4⟩ := put_rel (dst := o.dst) (x := s.dst) hμ (by exact h.n) (τ := τ) (by rw [(evOp_len hL h.st e3).2.1]; exact h.l) c3 x2 x3 (w0 := w) (g0 := g)
        obtain ⟨p1, p2⟩ := put_size a o.dst v
        have lens := evOp_len hL h.st e3
        refine ops_sound (dfs := dfs) (ops := ops) hμ hR hL os ss (i + 1) τ1 _ _ _ _ _ _ r hd' c4 ⟨x4, by rw [p1]; exact h.n, by rw [p2]; exact h.d, by rw [(putD_len _ _ _ _).2, lens.2.1, h.l, hτ1], fun e => ?_⟩ e4 fun a' w'' g'' hx ha => ?_
        · have := lens.2.2; rw [e] at this; exact h.st (List.length_eq_zero_iff.1 this.symm)
        · exact k a' w'' g'' (x1.trans ((Ext.mv f).trans hx)) ha
      | false =>
        simp only [Bool.false_eq_true, if_false] at e2
        rw [if_neg (by rw [hw]; simp)]
        obtain ⟨f, x4⟩ := put_rel (d := .tup []) (v := undef) (dst := o.dst) (x := s.dst) hμ (by exact h.n) h.l c3 h.r (.tup _ _ _ rfl (fun i hi => by simp at hi)) (w0 := w) (g0 := g)
        obtain ⟨p1, p2⟩ := put_size a o.dst undef
        refine ⟨fun _ _ => trivial, ?_⟩
        refine ops_sound (dfs := dfs) (ops := ops) hμ hR hL os ss (i + 1) τ1 _ _ _ _ _ _ r hd' c4 ⟨x4, by rw [p1]; exact h.n, by rw [p2]; exact h.d, by rw [(putD_len _ _ _ _).2, h.l, hτ1], h.st⟩ e2 fun a' w'' g'' hx ha => ?_
        exact k a' w'' g'' ((Ext.mv f).trans hx) ha
end
end Go.Q
namespace Go.Q
variable [Known]

def shOpd (k : Nat) : Opd → Opd
  | .t j => .t (j + k)
  | o => o
theorem shOpd_zero (x : Opd) : shOpd 0 x = x := by cases x <;> rfl
def mapOp (ρ : Opd → Opd) : SOp → SOp
  | .mov x => .mov (ρ x)
  | .take x => .take (ρ x)
  | .pick c a b => .pick (ρ c) (ρ a) (ρ b)
  | .alloc e z => .alloc e z
  | .box e x => .box e (ρ x)
  | .build zs ps => .build zs (ps.map fun p => (p.1, p.2.1, ρ p.2.2))
  | .lit sz xs => .lit sz (xs.map ρ)
  | .load s a => .load s (ρ a)
  | .loadR y s a => .loadR (ρ y) s (ρ a)
  | .store s a x => .store s (ρ a) (ρ x)
  | .storeS s a x ys => .storeS s (ρ a) (ρ x) (ys.map ρ)
  | .bin o x y => .bin o (ρ x) (ρ y)
  | .eq d n x y => .eq d n (ρ x) (ρ y)
  | .un o x => .un o (ρ x)
  | .cvi d x => .cvi d (ρ x)
  | .s2b x => .s2b (ρ x)
  | .s2o x => .s2o (ρ x)
  | .b2s x => .b2s (ρ x)
  | .sub s x l h m => .sub s (ρ x) (l.map ρ) (h.map ρ) (m.map ρ)
  | .subA s x l h m => .subA s (ρ x) (l.map ρ) (h.map ρ) (m.map ρ)
  | .nck x => .nck (ρ x)
  | .fa o x => .fa o (ρ x)
  | .fld o s x => .fld o s (ρ x)
  | .ia s x i => .ia s (ρ x) (ρ i)
  | .iaA l s x i => .iaA l s (ρ x) (ρ i)
  | .idx x i => .idx (ρ x) (ρ i)
  | .idxA l s a x i => .idxA l s a (ρ x) (ρ i)
  | .len x => .len (ρ x)
  | .capn x => .capn (ρ x)
  | .lens x => .lens (ρ x)
  | .mkmap e => .mkmap e
  | .look kd ok z x y => .look kd ok z (ρ x) (ρ y)
  | .mupd kd x y v => .mupd kd (ρ x) (ρ y) (ρ v)
  | .lenm x => .lenm (ρ x)
  | .subs x l h => .subs (ρ x) (l.map ρ) (h.map ρ)
  | .cst d => .cst d
  | .subl s x l => .subl s (ρ x) (ρ l)
  | .app s b x y => .app s b (ρ x) (ρ y)
  | .cpy s x y => .cpy s (ρ x) (ρ y)
  | .make s b z n c => .make s b z (ρ n) (ρ c)
  | .call g f xs => .call g f (xs.map ρ)
  | .callv f xs => .callv (ρ f) (xs.map ρ)
  | .mkf f a b => .mkf f (a.map ρ) (b.map ρ)
  | .mki t x => .mki t (ρ x)
  | .ext i x => .ext i (ρ x)
  | .s2a n x => .s2a n (ρ x)
  | .mx x y => .mx (ρ x) (ρ y)
  | .mn x y => .mn (ρ x) (ρ y)
  | .clr sz z x => .clr sz z (ρ x)
  | .die => .die
  | .loadT a ys => .loadT (ρ a) (ys.map ρ)
  | .callB f a ys => .callB f (ρ a) (ys.map fun p => (ρ p.1, p.2))
  | .loadF y o s a => .loadF (ρ y) o s (ρ a)
  | .litO sz xs => .litO sz (xs.map ρ)
  | .appO s b x y ps => .appO s b (ρ x) (ρ y) (ps.map ρ)
  | .callP f xs => .callP f (xs.map ρ)
  | .litD xs => .litD (xs.map ρ)
abbrev shOp (k : Nat) : SOp → SOp := mapOp (shOpd k)
theorem map_pair_id {ρ : Opd → Opd} (h : ∀ x, ρ x = x) : ∀ l : List (Opd × Nat × Option Nat), (l.map fun p => (ρ p.1, p.2)) = l
  | [] => rfl
  | a :: l => by rw [List.map_cons, h, map_pair_id h l]
theorem mapOp_id {ρ : Opd → Opd} (h : ∀ x, ρ x = x) (s : SOp) : mapOp ρ s = s := by
  have h1 : ∀ l : List Opd, l.map ρ = l := fun l => by induction l with
    | nil => rfl
    | cons a l ih => rw [List.map_cons, h, ih]
  have h2 : ∀ o : Option Opd, o.map ρ = o := fun o => by cases o <;> simp [h]
  have h3 : ∀ l : List (Nat × Nat × Opd), (l.map fun p => (p.1, p.2.1, ρ p.2.2)) = l := fun l => by induction l with
    | nil => rfl
    | cons a l ih => rw [List.map_cons, h, ih]
  cases s <;> simp only [mapOp, h1, h2, h3, map_pair_id h] <;> simp only [h]

def opds : SOp → List Opd
  | .mov x => [x]
  | .pick c a b => [c, a, b]
  | .build _ ps => ps.map (·.2.2)
  | .lit _ xs => xs
  | .load _ a => [a]
  | .loadR y _ a => [y, a]
  | .store _ a _ => [a]
  | .storeS _ a _ ys => a :: ys
  | .bin _ x y => [x, y]
  | .eq _ _ x y => [x, y]
  | .un _ x => [x]
  | .cvi _ x => [x]
  | .s2b x => [x]
  | .s2o x => [x]
  | .b2s x => [x]
  | .sub _ x l h m => x :: (l.toList ++ h.toList ++ m.toList)
  | .subA _ x l h m => x :: (l.toList ++ h.toList ++ m.toList)
  | .nck x => [x]
  | .fa _ x => [x]
  | .fld _ _ x => [x]
  | .ia _ x i => [x, i]
  | .iaA _ _ x i => [x, i]
  | .idx x i => [x, i]
  | .idxA _ _ _ x i => [x, i]
  | .len x => [x]
  | .capn x => [x]
  | .lens x => [x]
  | .look _ _ _ x y => [x, y]
  | .mupd _ x y v => [x, y, v]
  | .lenm x => [x]
  | .subs x l h => x :: (l.toList ++ h.toList)
  | .subl _ _ l => [l]
  | .app _ _ _ y => [y]
  | .cpy _ x y => [x, y]
  | .make _ _ _ n c => [n, c]
  | .call _ _ xs => xs
  | .callv f xs => f :: xs
  | .mkf _ a b => a ++ b
  | .mki _ x => [x]
  | .s2a _ x => [x]
  | .mx x y => [x, y]
  | .mn x y => [x, y]
  | .clr _ _ x => [x]
  | .loadT a ys => a :: ys
  | .callB _ a ys => a :: ys.map (·.1)
  | .loadF y _ _ a => [y, a]
  | .litO _ xs => xs
  | .appO _ _ x y ps => x :: y :: ps
  | .callP _ xs => xs
  | .litD xs => xs
  | _ => []
def tko : SOp → Option Opd
  | .take x => some x
  | .box _ x => some x
  | .store _ _ x => some x
  | .storeS _ _ x _ => some x
  | .subl _ x _ => some x
  | .app _ _ x _ => some x
  | .ext _ x => some x
  | _ => none
def blind : SOp → Bool
  | .alloc _ _ => false
  | .box _ _ => false
  | .load _ _ => false
  | .loadR _ _ _ => false
  | .store _ _ _ => false
  | .storeS _ _ _ _ => false
  | .b2s _ => false
  | .mkmap _ => false
  | .s2o _ => false
  | .look _ _ _ _ _ => false
  | .mupd _ _ _ _ => false
  | .lenm _ => false
  | .subl _ _ _ => false
  | .app _ _ _ _ => false
  | .cpy _ _ _ => false
  | .make _ _ _ _ _ => false
  | .call _ _ _ => false
  | .callv _ _ => false
  | .clr _ _ _ => false
  | .loadT _ _ => false
  | .callB _ _ _ => false
  | .loadF _ _ _ _ => false
  | .litO _ _ => false
  | .litD _ => false
  | .appO _ _ _ _ _ => false
  | _ => true
def keeps : SOp → Bool
  | .alloc _ _ => false
  | .box _ _ => false
  | .store _ _ _ => false
  | .storeS _ _ _ _ => false
  | .cpy _ _ _ => false
  | .make _ _ _ _ _ => false
  | .call g _ _ => !g
  | .callv _ _ => false
  | .clr _ _ _ => false
  | .mkmap _ => false
  | .s2o _ => false
  | .mupd _ _ _ _ => false
  | .loadT _ _ => false
  | .callB _ _ _ => false
  | .litO _ _ => false
  | .litD _ => false
  | .appO _ _ _ _ _ => false
  | _ => true
theorem blind_keeps {s : SOp} (h : blind s = true) : keeps s = true := by cases s <;> first | rfl | (simp [blind] at h; done)

abbrev Up := List (Opd × D)
def ap1 (p : Opd × D) (e : List D × List D) : List D × List D := match p.1 with
  | .x i => (e.1.set i p.2, e.2)
  | .t j => (e.1, e.2.set j p.2)
  | .c _ => e
def apU : Up → List D × List D → List D × List D
  | [], e => e
  | p :: r, e => apU r (ap1 p e)
theorem apU_append : ∀ (a b : Up) (e : List D × List D), apU (a ++ b) e = apU b (apU a e)
  | [], b, e => rfl
  | p :: a, b, e => apU_append a b _
def takeU : Opd → D → Up
  | .x i, .lin z xs => [(.x i, .v (.slc z xs))]
  | .t j, .lin z xs => [(.t j, .v (.slc z xs))]
  | .t j, .tup ds => [(.t j, .undef)]
  | _, _ => []
def takeV : Opd → D → D
  | .x _, .lin z xs => .lin z xs
  | .t _, .lin z xs => .lin z xs
  | .t _, .tup ds => .tup ds
  | _, d => cp d
def extU1 (i j : Nat) (ds : List D) : Option D → Up
  | some (.lin z xs) => [(.t j, .tup (ds.set i (.v (.slc z xs))))]
  | _ => []
def extU (i : Nat) : Opd → D → Up
  | .t j, .tup ds => extU1 i j ds ds[i]?
  | _, _ => []
def extV1 (tmp : Bool) : D → D
  | .lin z xs => if tmp = true then .lin z xs else .v (.slc z xs)
  | d => cp d
def isT : Opd → Bool
  | .t _ => true
  | _ => false
def extV (i : Nat) : Opd → D → Option D
  | .c _, _ => none
  | x, .tup ds => (ds[i]?).map (extV1 (isT x))
  | _, _ => none
def upd (env ts : List D) : SOp → Up
  | .take x => takeU x (raw env ts x)
  | .box _ x => takeU x (raw env ts x)
  | .store _ _ x => takeU x (raw env ts x)
  | .storeS _ _ x _ => takeU x (raw env ts x)
  | .subl _ x _ => takeU x (raw env ts x)
  | .app _ _ x _ => takeU x (raw env ts x)
  | .ext i x => extU i x (raw env ts x)
  | _ => []
def shU (k : Nat) (u : Up) : Up := u.map fun p => (shOpd k p.1, p.2)

section
variable {R : Run} {env ts env2 ts2 : List D} {st st2 : St} {q : Rg} {k : Nat}
theorem takeO_eq (env ts : List D) (x : Opd) : takeO env ts x = (takeV x (raw env ts x), apU (takeU x (raw env ts x)) (env, ts)) := by
  unfold takeO
  generalize raw env ts x = d
  cases x <;> cases d <;> rfl
theorem takeU_sh (x : Opd) (d : D) : takeU (shOpd k x) d = shU k (takeU x d) := by cases x <;> cases d <;> rfl
theorem takeV_sh (x : Opd) (d : D) : takeV (shOpd k x) d = takeV x d := by cases x <;> cases d <;> rfl
theorem extU_sh (i : Nat) (x : Opd) (d : D) : extU i (shOpd k x) d = shU k (extU i x d) := by
  cases x <;> cases d <;> first | rfl | skip
  rename_i j ds
  simp only [shOpd, extU]
  cases ds[i]? with
  | none => rfl
  | some d => cases d <;> rfl

theorem rds_eq : ∀ {ys : List Opd}, (∀ y ∈ ys, rd env2 ts2 (shOpd k y) = rd env ts y) → (ys.map (shOpd k)).map (rd env2 ts2) = ys.map (rd env ts)
  | [], _ => rfl
  | y :: r, h => by
    simp only [List.map_cons]
    rw [h y (by simp), rds_eq (fun j hj => h j (by simp [hj]))]
theorem rdq_eq : ∀ {ys : List (Opd × Nat × Option Nat)}, (∀ y ∈ ys.map (·.1), rd env2 ts2 (shOpd k y) = rd env ts y) → ((ys.map fun p => (shOpd k p.1, p.2)).map fun p => (rd env2 ts2 p.1, p.2)) = ys.map fun p => (rd env ts p.1, p.2)
  | [], _ => rfl
  | y :: r, h => by
    simp only [List.map_cons]
    rw [h y.1 (by simp), rdq_eq (fun j hj => h j (by simp only [List.map_cons, List.mem_cons]; exact .inr hj))]
theorem rdo_eq {y : Option Opd} (h : ∀ x ∈ y.toList, rd env2 ts2 (shOpd k x) = rd env ts x) : (y.map (shOpd k)).map (rd env2 ts2) = y.map (rd env ts) := by
  cases y with
  | none => rfl
  | some y => simp only [Option.map_some]; rw [h y (by simp)]
theorem rdp_eq : ∀ {ys : List (Nat × Nat × Opd)}, (∀ y ∈ ys.map (·.2.2), rd env2 ts2 (shOpd k y) = rd env ts y) → ((ys.map fun p => (p.1, p.2.1, shOpd k p.2.2)).map fun p => (p.1, p.2.1, rd env2 ts2 p.2.2)) = ys.map fun p => (p.1, p.2.1, rd env ts p.2.2)
  | [], _ => rfl
  | y :: r, h => by
    simp only [List.map_cons]
    rw [h y.2.2 (by simp), rdp_eq (fun j hj => h j (by simp only [List.map_cons, List.mem_cons]; exact .inr hj))]

def More (st st2 : St) : Prop := ∀ r b, getB st r = some b → getB st2 r = some b
theorem rdV_more (h : More st st2) {d : D} {x : V} (hd : rdV st d = some x) : rdV st2 d = some x := by
  cases d <;> first | exact hd | skip
  · simp only [rdV, rowV] at hd ⊢
    split at hd <;> first | (cases hd; done) | skip
    rename_i hb
    rw [h _ _ hb]; exact hd
  · simp only [rdV] at hd ⊢
    unfold arrV at hd
    split at hd <;> first | (cases hd; done) | skip
    rename_i hb
    unfold rowAt at hb
    split at hb <;> first | (cases hb; done) | skip
    rename_i hb2
    rw [h _ _ hb2]
    simp only [rowAt, hb, arrV]; exact hd
theorem rdVs_more (h : More st st2) : ∀ {ds : List D} {xs : List V}, rdVs st ds = some xs → rdVs st2 ds = some xs
  | [], xs, hd => hd
  | d :: ds, xs, hd => by
    simp only [rdVs] at hd ⊢
    obtain ⟨x, h1, h2⟩ := bind_some' hd
    obtain ⟨y, h3, rfl⟩ := map_some' h2
    rw [rdV_more h h1, rdVs_more h h3]; rfl
theorem rdVs_noRow : ∀ {ds : List D}, anyRow ds = false → rdVs st ds = rdVs st2 ds
  | [], _ => rfl
  | d :: ds, h => by
    simp only [anyRow, Bool.or_eq_false_iff] at h
    simp only [rdVs]
    rw [rdVs_noRow h.2]
    have : rdV st d = rdV st2 d := by
      have h1 := h.1
      cases d <;> first | rfl | (simp [isRow] at h1)
    rw [this]
theorem mapOf_more (h : More st st2) {d : D} {es : List (V × D)} (hd : mapOf st d = some es) : mapOf st2 d = some es := by
  unfold mapOf at hd ⊢
  split at hd <;> first | exact hd | skip
  rename_i r
  unfold mpOf at hd
  split at hd <;> cases hd
  rename_i hb
  rw [h _ _ hb]; rfl
theorem elems_more (h : More st st2) {sz : Nat} {d : D} {ys : List V} (hd : elems sz st d = some ys) : elems sz st2 d = some ys := by
  unfold elems at hd ⊢
  split at hd <;> first | exact hd | skip
  rename_i h1 h2
  obtain ⟨x, h3, h4⟩ := bind_some' hd
  rw [rdV_more h h3]; exact h4
def FrOk (env ts : List D) (st st2 : St) (s : SOp) : Prop := blind s = true ∨ st2 = st ∨ (keeps s = true ∧ More st st2) ∨ (∃ sz y, (s = .load sz y ∨ ∃ a, s = .loadR y sz a) ∧ ∀ r i o, rd env ts y = .ptr r i o → getB st2 r = getB st r) ∨ ∃ y off sz a, s = .loadF y off sz a ∧ ldF st2 sz off (rd env ts y) = ldF st sz off (rd env ts y)
theorem FrOk.same {s : SOp} (h : FrOk env ts st st2 s) (hk : keeps s = false) : st2 = st := by
  rcases h with h | h | h | ⟨sz, y, rfl | ⟨a, rfl⟩, _⟩ | ⟨y, off, sz, a, rfl, _⟩
  · rw [blind_keeps h] at hk; cases hk
  · exact h
  · rw [h.1] at hk; cases hk
  · cases hk
  · cases hk
  · cases hk
theorem FrOk.more {s : SOp} (h : FrOk env ts st st2 s) (hb : blind s = false) (hl : ∀ sz y, s ≠ .load sz y) (hl2 : ∀ y sz a, s ≠ .loadR y sz a) (hl3 : ∀ y o sz a, s ≠ .loadF y o sz a) : More st st2 := by
  rcases h with h | h | h | ⟨sz, y, rfl | ⟨a, rfl⟩, _⟩ | ⟨y, off, sz, a, rfl, _⟩
  · rw [h] at hb; cases hb
  · subst h; exact fun r b h => h
  · exact h.2
  · exact absurd rfl (hl _ _)
  · exact absurd rfl (hl2 _ _ _)
  · exact absurd rfl (hl3 _ _ _ _)

theorem evOp_frame {s : SOp} (he : evOp R env ts st s = some q) (hr : ∀ x ∈ opds s, rd env2 ts2 (shOpd k x) = rd env ts x)
    (ht : ∀ x, tko s = some x → raw env2 ts2 (shOpd k x) = raw env ts x) (hs : FrOk env ts st st2 s) :
    (q.2.1, q.2.2.1) = apU (upd env ts s) (env, ts) ∧ (keeps s = true → q.2.2.2 = st) ∧
      ∃ u, evOp R env2 ts2 st2 (shOp k s) = some (q.1, (apU u (env2, ts2)).1, (apU u (env2, ts2)).2, if keeps s = true then st2 else q.2.2.2) ∧ u = shU k (upd env ts s) := by
  have nb : keeps s = false → st2 = st := hs.same
  have simple : ∀ {d : D} {st' : St}, q = (d, env, ts, st') → upd env ts s = [] → (keeps s = true → st' = st) → evOp R env2 ts2 st2 (shOp k s) = some (d, env2, ts2, if keeps s = true then st2 else st') →
      (q.2.1, q.2.2.1) = apU (upd env ts s) (env, ts) ∧ (keeps s = true → q.2.2.2 = st) ∧
      ∃ u, evOp R env2 ts2 st2 (shOp k s) = some (q.1, (apU u (env2, ts2)).1, (apU u (env2, ts2)).2, if keeps s = true then st2 else q.2.2.2) ∧ u = shU k (upd env ts s) := by
    intro d st' e1 e2 e3 e4
    subst e1
    rw [e2]
    exact ⟨rfl, e3, [], e4, rfl⟩
  cases s
  all_goals simp only [opds, List.mem_cons, List.mem_append, List.not_mem_nil, or_false, forall_eq_or_imp, forall_eq] at hr
  all_goals simp only [evOp] at he
  case mov x => cases he; exact simple rfl rfl (fun _ => rfl) (by simp only [mapOp, evOp, hr]; rfl)
  case take x =>
    have h1 := ht x rfl
    cases he
    rw [takeO_eq]
    exact ⟨rfl, fun _ => rfl, _, by simp only [mapOp, evOp, takeO_eq, h1, takeV_sh, takeU_sh]; rfl, rfl⟩
  case pick c a b =>
    obtain ⟨t, h1, h2⟩ := bind_some' he
    have e : evOp R env2 ts2 st2 (shOp k (.pick c a b)) = some (q.1, env2, ts2, st2) := by
      simp only [mapOp, evOp, hr.1, hr.2.1, hr.2.2, h1, Option.bind_some]
      split at h2 <;> (rename_i h3; cases h2; simp [h3])
    split at h2 <;> (cases h2; exact simple rfl rfl (fun _ => rfl) e)
  case alloc esc z =>
    have := nb rfl; subst this
    split at he
    · rename_i h
      split at he
      · cases he
      · rename_i h2
        cases he
        exact simple rfl rfl (fun h => by cases h) (by simp only [mapOp, evOp, h, if_true, h2, if_false]; rfl)
    · rename_i h
      cases he
      exact simple rfl rfl (fun h => by cases h) (by simp only [mapOp, evOp, h]; rfl)
  case box esc x =>
    have := nb rfl; subst this
    have h1 := ht x rfl
    rw [takeO_eq] at he
    have e : evOp R env2 ts2 st2 (shOp k (.box esc x)) = some (q.1, (apU (shU k (takeU x (raw env ts x))) (env2, ts2)).1, (apU (shU k (takeU x (raw env ts x))) (env2, ts2)).2, q.2.2.2) ∧ (q.2.1, q.2.2.1) = apU (takeU x (raw env ts x)) (env, ts) := by
      simp only [mapOp, evOp, takeO_eq, h1, takeV_sh, takeU_sh]
      split at he <;> first | (cases he; done) | skip
      rename_i c1
      rw [if_neg c1]
      split at he
      · rename_i c2
        rw [if_pos c2]
        split at he <;> first | (cases he; done) | skip
        rename_i c3
        rw [if_neg c3]
        cases he
        exact ⟨rfl, rfl⟩
      · rename_i c2
        rw [if_neg c2]
        cases he
        exact ⟨rfl, rfl⟩
    exact ⟨e.2, (fun h => by cases h), _, e.1, rfl⟩
  case build zs ps => obtain ⟨d, h1, rfl⟩ := map_some' he; exact simple rfl rfl (fun _ => rfl) (by simp only [mapOp, evOp]; rw [rdp_eq hr, h1]; rfl)
  case lit sz xs =>
    split at he <;> first | (cases he; done) | skip
    rename_i hrow
    obtain ⟨ys, h1, h2⟩ := bind_some' he
    split at h2 <;> cases h2
    rename_i hz
    refine simple rfl rfl (fun _ => rfl) ?_
    simp only [mapOp, evOp]
    rw [rds_eq hr, if_neg hrow, rdVs_noRow (st := st2) (st2 := st) (by simpa using hrow), h1]
    simp only [Option.bind_some]
    rw [if_pos hz]; rfl
  case load s a =>
    obtain ⟨d, h1, rfl⟩ := map_some' he
    have h2 : opLoad st2 s (rd env ts a) = some d := by
      unfold opLoad at h1 ⊢
      split at h1 <;> first | (cases h1; done) | exact h1 | skip
      rename_i r i off hp
      obtain ⟨c, h3, h4⟩ := bind_some' h1
      have hg : getB st2 r = getB st r := by
        rcases hs with h | h | h | ⟨sz, y, e, h⟩ | ⟨_, _, _, _, e, _⟩
        · cases h
        · rw [h]
        · unfold rowAt at h3
          split at h3 <;> first | (cases h3; done) | skip
          rename_i hb
          rw [h.2 _ _ hb, hb]
        · rcases e with e | ⟨_, e⟩
          · cases e; exact h _ _ _ hp
          · cases e
        · cases e
      rw [hg, h3]; exact h4
    exact simple rfl rfl (fun _ => rfl) (by simp only [mapOp, evOp, hr, h2]; rfl)
  case loadR y s a =>
    split at he <;> first | (cases he; done) | skip
    rename_i hsame
    obtain ⟨d, h1, rfl⟩ := map_some' he
    have h2 : opLoad st2 s (rd env ts a) = some d := by
      unfold opLoad at h1 ⊢
      split at h1 <;> first | (cases h1; done) | exact h1 | skip
      rename_i r i off hp
      obtain ⟨c, h3, h4⟩ := bind_some' h1
      have hg : getB st2 r = getB st r := by
        rcases hs with h | h | h | ⟨sz, y', e, h⟩ | ⟨_, _, _, _, e, _⟩
        · cases h
        · rw [h]
        · unfold rowAt at h3
          split at h3 <;> first | (cases h3; done) | skip
          rename_i hb
          rw [h.2 _ _ hb, hb]
        · rcases e with e | ⟨_, e⟩
          · cases e
          · cases e
            rw [hp] at hsame
            unfold sameR at hsame
            split at hsame <;> first | (cases hsame; done) | skip
            rename_i h5 h6
            cases h6
            rw [of_decide_eq_true hsame] at h5
            exact h _ _ _ h5
        · cases e
      rw [hg, h3]; exact h4
    refine simple rfl rfl (fun _ => rfl) ?_
    simp only [mapOp, evOp]
    rw [hr.1, hr.2, if_pos hsame, h2]; rfl
  case store sz a x =>
    have := nb rfl; subst this
    have h1 := ht x rfl
    rw [takeO_eq] at he
    obtain ⟨d, h2, rfl⟩ := map_some' he
    exact ⟨rfl, (fun h => by cases h), _, by simp only [mapOp, evOp, takeO_eq, h1, takeV_sh, takeU_sh, hr, h2]; rfl, rfl⟩
  case loadT a ys =>
    have := nb rfl; subst this
    split at he <;> first | (cases he; done) | skip
    rename_i hsep
    obtain ⟨d, h2, rfl⟩ := map_some' he
    refine simple rfl rfl (fun h => by cases h) ?_
    simp only [mapOp, evOp]
    rw [rds_eq hr.2, hr.1, if_pos hsep, h2]
    rfl
  case litO sz xs =>
    have := nb rfl; subst this
    split at he <;> first | (cases he; done) | skip
    rename_i hrow
    obtain ⟨ys, h1, h2⟩ := bind_some' he
    split at h2 <;> cases h2
    rename_i hz
    refine simple rfl rfl (fun h => by cases h) ?_
    simp only [mapOp, evOp]
    rw [rds_eq hr, if_neg hrow, h1]
    simp only [Option.bind_some]
    rw [if_pos hz]; rfl
  case litD xs =>
    have := nb rfl; subst this
    split at he <;> cases he
    rename_i hcl
    refine simple rfl rfl (fun h => by cases h) ?_
    simp only [mapOp, evOp]
    rw [rds_eq hr, if_pos hcl, List.length_map]; rfl
  case appO sz b x y ps =>
    have := nb rfl; subst this
    split at he <;> first | (cases he; done) | skip
    rename_i hsep
    obtain ⟨ys, h2, h3⟩ := bind_some' he
    obtain ⟨d, h4, rfl⟩ := map_some' h3
    refine simple rfl rfl (fun h => by cases h) ?_
    simp only [mapOp, evOp]
    rw [rds_eq hr.2.2, hr.1, hr.2.1, if_pos hsep, h2]
    simp only [Option.bind_some, h4]
    rfl
  case callP f xs =>
    split at he <;> first | (cases he; done) | skip
    rename_i hrow
    obtain ⟨d, h1, rfl⟩ := map_some' he
    simp only [opCall, Bool.false_eq_true, if_false] at h1
    obtain ⟨ys, h2, h3⟩ := bind_some' h1
    obtain ⟨p', h4, h5⟩ := bind_some' h3
    have h6 : d.2 = st ∧ backD (anyRow (xs.map (rd env ts))) st2 p' = some (d.1, st2) := by
      unfold backD at h5 ⊢
      split at h5 <;> first | (cases h5; done) | skip
      split at h5
      · rename_i hc; exact absurd hc hrow
      · rename_i hc
        rw [if_neg hc]
        cases h5; exact ⟨rfl, rfl⟩
    refine simple rfl rfl (fun hk => h6.1) ?_
    simp only [mapOp, evOp]
    rw [rds_eq hr, if_neg hrow]
    simp only [opCall, Bool.false_eq_true, if_false]
    rw [rdVs_noRow (st := st2) (st2 := st) (by simpa using hrow), h2]
    simp only [Option.bind_some, h4, h6.2]
    rfl
  case loadF y off sz a =>
    split at he <;> first | (cases he; done) | skip
    rename_i hsame
    obtain ⟨d, h1, rfl⟩ := map_some' he
    have h2 : opLoad st2 sz (rd env ts a) = some d := by
      unfold sameP at hsame
      split at hsame <;> first | (cases hsame; done) | skip
      rename_i r i o r' i' o' hy hp
      simp only [Bool.and_eq_true, decide_eq_true_eq] at hsame
      obtain ⟨⟨rfl, rfl⟩, rfl⟩ := hsame
      rw [hp] at h1 ⊢
      have more : (∀ b, getB st r = some b → getB st2 r = some b) → opLoad st2 sz (.ptr r i (o + off)) = some d := fun hm => by
        simp only [opLoad] at h1 ⊢
        obtain ⟨c, h3, h4⟩ := bind_some' h1
        unfold rowAt at h3
        split at h3 <;> first | (cases h3; done) | skip
        rename_i hb
        rw [hm _ hb]
        simp only [rowAt, h3]; exact h4
      rcases hs with h | h | h | ⟨_, _, e, _⟩ | ⟨y', off', sz', a', e, h⟩
      · cases h
      · rw [h]; exact h1
      · exact more fun b hb => h.2 _ _ hb
      · rcases e with e | ⟨_, e⟩ <;> cases e
      · cases e
        rw [hy] at h
        simp only [ldF] at h
        rw [h]; exact h1
    refine simple rfl rfl (fun _ => rfl) ?_
    simp only [mapOp, evOp]
    rw [hr.1, hr.2, if_pos hsame, h2]; rfl
  case callB f a ys =>
    have := nb rfl; subst this
    obtain ⟨d, h2, h3⟩ := bind_some' he
    split at h3 <;> cases h3
    rename_i hsame
    refine simple rfl rfl (fun h => by cases h) ?_
    simp only [mapOp, evOp]
    rw [rdq_eq hr.2, hr.1, h2]
    simp only [Option.bind_some]
    rw [if_pos hsame]; rfl
  case storeS sz a x ys =>
    have := nb rfl; subst this
    have h1 := ht x rfl
    rw [takeO_eq] at he
    split at he <;> first | (cases he; done) | skip
    rename_i hsep
    obtain ⟨d, h2, rfl⟩ := map_some' he
    refine ⟨rfl, (fun h => by cases h), _, ?_, rfl⟩
    simp only [mapOp, evOp]
    rw [rds_eq hr.2, hr.1, if_pos hsep, takeO_eq, h1, takeV_sh, takeU_sh, h2]
    rfl
  case bin o x y => obtain ⟨d, h1, rfl⟩ := map_some' he; exact simple rfl rfl (fun _ => rfl) (by simp only [mapOp, evOp, hr.1, hr.2, h1]; rfl)
  case eq d n x y => obtain ⟨d, h1, rfl⟩ := map_some' he; exact simple rfl rfl (fun _ => rfl) (by simp only [mapOp, evOp, hr.1, hr.2, h1]; rfl)
  case un o x => obtain ⟨d, h1, rfl⟩ := map_some' he; exact simple rfl rfl (fun _ => rfl) (by simp only [mapOp, evOp, hr, h1]; rfl)
  case cvi o x => obtain ⟨d, h1, rfl⟩ := map_some' he; exact simple rfl rfl (fun _ => rfl) (by simp only [mapOp, evOp, hr, h1]; rfl)
  case s2b x => obtain ⟨d, h1, rfl⟩ := map_some' he; exact simple rfl rfl (fun _ => rfl) (by simp only [mapOp, evOp, hr, h1]; rfl)
  case s2o x =>
    have := nb rfl; subst this
    obtain ⟨d, h1, rfl⟩ := map_some' he; exact simple rfl rfl (fun h => by cases h) (by simp only [mapOp, evOp, hr, h1]; rfl)
  case b2s x =>
    have hm := hs.more rfl (fun _ _ h => by cases h) (fun _ _ _ h => by cases h) (fun _ _ _ _ h => by cases h)
    obtain ⟨d, h1, rfl⟩ := map_some' he
    obtain ⟨y, h2, h3⟩ := bind_some' h1
    obtain ⟨z, h4, h5⟩ := bind_some' h2
    exact simple rfl rfl (fun _ => rfl) (by simp only [mapOp, evOp, hr, rdV_more hm h4, Option.bind_some, h5, h3]; rfl)
  case sub s x l h m =>
    obtain ⟨d, h1, rfl⟩ := map_some' he
    refine simple rfl rfl (fun _ => rfl) ?_
    simp only [mapOp, evOp]
    rw [hr.1, rdo_eq (y := l) (fun j hj => hr.2 j (.inl (.inl hj))), rdo_eq (y := h) (fun j hj => hr.2 j (.inl (.inr hj))), rdo_eq (y := m) (fun j hj => hr.2 j (.inr hj)), h1]; rfl
  case subA s x l h m =>
    obtain ⟨d, h1, rfl⟩ := map_some' he
    refine simple rfl rfl (fun _ => rfl) ?_
    simp only [mapOp, evOp]
    rw [hr.1, rdo_eq (y := l) (fun j hj => hr.2 j (.inl (.inl hj))), rdo_eq (y := h) (fun j hj => hr.2 j (.inl (.inr hj))), rdo_eq (y := m) (fun j hj => hr.2 j (.inr hj)), h1]; rfl
  case nck x => obtain ⟨d, h1, rfl⟩ := map_some' he; exact simple rfl rfl (fun _ => rfl) (by simp only [mapOp, evOp, hr, h1]; rfl)
  case fa o x => obtain ⟨d, h1, rfl⟩ := map_some' he; exact simple rfl rfl (fun _ => rfl) (by simp only [mapOp, evOp, hr, h1]; rfl)
  case fld o s x => obtain ⟨d, h1, rfl⟩ := map_some' he; exact simple rfl rfl (fun _ => rfl) (by simp only [mapOp, evOp, hr, h1]; rfl)
  case ia s x y => obtain ⟨d, h1, rfl⟩ := map_some' he; exact simple rfl rfl (fun _ => rfl) (by simp only [mapOp, evOp, hr.1, hr.2, h1]; rfl)
  case iaA l s x y => obtain ⟨d, h1, rfl⟩ := map_some' he; exact simple rfl rfl (fun _ => rfl) (by simp only [mapOp, evOp, hr.1, hr.2, h1]; rfl)
  case idx x y => obtain ⟨d, h1, rfl⟩ := map_some' he; exact simple rfl rfl (fun _ => rfl) (by simp only [mapOp, evOp, hr.1, hr.2, h1]; rfl)
  case idxA l s a x y => obtain ⟨d, h1, rfl⟩ := map_some' he; exact simple rfl rfl (fun _ => rfl) (by simp only [mapOp, evOp, hr.1, hr.2, h1]; rfl)
  case len x => obtain ⟨d, h1, rfl⟩ := map_some' he; exact simple rfl rfl (fun _ => rfl) (by simp only [mapOp, evOp, hr, h1]; rfl)
  case capn x => obtain ⟨d, h1, rfl⟩ := map_some' he; exact simple rfl rfl (fun _ => rfl) (by simp only [mapOp, evOp, hr, h1]; rfl)
  case mkmap esc =>
    have := nb rfl; subst this
    split at he
    all_goals (rename_i h; cases he; exact simple rfl rfl (fun h => by cases h) (by simp only [mapOp, evOp, h]; rfl))
  case look kd ok z x y =>
    have hm := hs.more rfl (fun _ _ h => by cases h) (fun _ _ _ h => by cases h) (fun _ _ _ _ h => by cases h)
    obtain ⟨kv, h1, h2⟩ := bind_some' he
    obtain ⟨es, h3, h4⟩ := bind_some' h2
    obtain ⟨d, h5, rfl⟩ := map_some' h4
    exact simple rfl rfl (fun _ => rfl) (by simp only [mapOp, evOp, hr.1, hr.2, h1, mapOf_more hm h3, Option.bind_some, h5]; rfl)
  case mupd kd x y v =>
    have := nb rfl; subst this
    obtain ⟨kv, h1, h2⟩ := bind_some' he
    obtain ⟨st', h3, rfl⟩ := map_some' h2
    exact simple rfl rfl (fun h => by cases h) (by simp only [mapOp, evOp, hr.1, hr.2.1, hr.2.2, h1, Option.bind_some, h3]; rfl)
  case lenm x =>
    have hm := hs.more rfl (fun _ _ h => by cases h) (fun _ _ _ h => by cases h) (fun _ _ _ _ h => by cases h)
    obtain ⟨es, h1, rfl⟩ := map_some' he
    exact simple rfl rfl (fun _ => rfl) (by simp only [mapOp, evOp, hr, mapOf_more hm h1]; rfl)
  case lens x => obtain ⟨d, h1, rfl⟩ := map_some' he; exact simple rfl rfl (fun _ => rfl) (by simp only [mapOp, evOp, hr, h1]; rfl)
  case subs x l h =>
    obtain ⟨d, h1, rfl⟩ := map_some' he
    refine simple rfl rfl (fun _ => rfl) ?_
    simp only [mapOp, evOp]
    rw [hr.1, rdo_eq (y := l) (fun j hj => hr.2 j (.inl hj)), rdo_eq (y := h) (fun j hj => hr.2 j (.inr hj)), h1]; rfl
  case cst d => cases he; exact simple rfl rfl (fun _ => rfl) rfl
  case subl sz x l =>
    have h1 := ht x rfl
    rw [takeO_eq] at he
    obtain ⟨d, h4, rfl⟩ := map_some' he
    exact ⟨rfl, fun _ => rfl, _, by simp only [mapOp, evOp, takeO_eq, h1, takeV_sh, takeU_sh, hr, h4]; rfl, rfl⟩
  case app sz b x y =>
    have hm := hs.more rfl (fun _ _ h => by cases h) (fun _ _ _ h => by cases h) (fun _ _ _ _ h => by cases h)
    have h1 := ht x rfl
    rw [takeO_eq] at he
    obtain ⟨ys, h2, h3⟩ := bind_some' he
    obtain ⟨d, h4, rfl⟩ := map_some' h3
    exact ⟨rfl, fun _ => rfl, _, by simp only [mapOp, evOp, takeO_eq, h1, takeV_sh, takeU_sh, hr, elems_more hm h2, Option.bind_some, h4]; rfl, rfl⟩
  case cpy sz x y =>
    have := nb rfl; subst this
    obtain ⟨ys, h2, h3⟩ := bind_some' he
    obtain ⟨d, h4, rfl⟩ := map_some' h3
    exact simple rfl rfl (fun h => by cases h) (by simp only [mapOp, evOp, hr.1, hr.2, h2, Option.bind_some, h4]; rfl)
  case make sz b z n c =>
    have := nb rfl; subst this
    obtain ⟨a1, h2, h3⟩ := bind_some' he
    obtain ⟨a2, h4, h5⟩ := bind_some' h3
    unfold makeD at h5
    split at h5
    · rename_i h6
      cases h5
      exact simple rfl rfl (fun h => by cases h) (by simp only [mapOp, evOp, hr.1, hr.2, h2, Option.bind_some, h4]; unfold makeD; rw [if_pos h6]; rfl)
    · rename_i h6
      split at h5 <;> cases h5
      rename_i h7
      exact simple rfl rfl (fun h => by cases h) (by simp only [mapOp, evOp, hr.1, hr.2, h2, Option.bind_some, h4]; unfold makeD; rw [if_neg h6, if_pos h7]; rfl)
  case call g f xs =>
    cases g with
    | true =>
      have := nb rfl; subst this
      obtain ⟨d, h1, rfl⟩ := map_some' he
      exact simple rfl rfl (fun hk => by cases hk) (by simp only [mapOp, evOp]; rw [rds_eq hr, h1]; rfl)
    | false =>
      have hm := hs.more rfl (fun _ _ h => by cases h) (fun _ _ _ h => by cases h) (fun _ _ _ _ h => by cases h)
      obtain ⟨d, h1, rfl⟩ := map_some' he
      simp only [opCall, Bool.false_eq_true, if_false] at h1
      obtain ⟨ys, h2, h3⟩ := bind_some' h1
      obtain ⟨p', h4, h5⟩ := bind_some' h3
      have h6 : d.2 = st ∧ backD (anyRow (xs.map (rd env ts))) st2 p' = some (d.1, st2) := by
        unfold backD at h5 ⊢
        split at h5 <;> first | (cases h5; done) | skip
        split at h5
        · rename_i hc
          rw [if_pos hc]
          split at h5 <;> cases h5
          rename_i hf
          rw [if_pos hf]; exact ⟨rfl, rfl⟩
        · rename_i hc
          rw [if_neg hc]
          cases h5; exact ⟨rfl, rfl⟩
      refine simple rfl rfl (fun hk => h6.1) ?_
      simp only [mapOp, evOp]
      rw [rds_eq hr]
      simp only [opCall, Bool.false_eq_true, if_false, rdVs_more hm h2, Option.bind_some, h4, h6.2]
      rfl
  case callv f xs =>
    have := nb rfl; subst this
    obtain ⟨d, h1, rfl⟩ := map_some' he
    exact simple rfl rfl (fun h => by cases h) (by simp only [mapOp, evOp]; rw [rds_eq hr.2, hr.1, h1]; rfl)
  case mkf f a b =>
    cases he
    exact simple rfl rfl (fun _ => rfl) (by simp only [mapOp, evOp]; rw [rds_eq (ys := a) (fun j hj => hr j (.inl hj)), rds_eq (ys := b) (fun j hj => hr j (.inr hj))]; rfl)
  case mki t x => cases he; exact simple rfl rfl (fun _ => rfl) (by simp only [mapOp, evOp, hr]; rfl)
  case ext i x =>
    have h1 := ht x rfl
    cases x with
    | t j =>
      simp only [shOpd] at h1
      unfold extD at he
      split at he <;> first | (cases he; done) | skip
      · rename_i j' ds hx hd
        cases hx
        obtain ⟨d, h2, rfl⟩ := map_some' he
        have key : (extL env ts st i j ds d) = (extV1 true d, (apU (extU1 i j ds (some d)) (env, ts)).1, (apU (extU1 i j ds (some d)) (env, ts)).2, st) := by cases d <;> rfl
        have key2 : (extL env2 ts2 st2 i (j + k) ds d) = (extV1 true d, (apU (shU k (extU1 i j ds (some d))) (env2, ts2)).1, (apU (shU k (extU1 i j ds (some d))) (env2, ts2)).2, st2) := by cases d <;> rfl
        rw [key]
        refine ⟨?_, fun _ => rfl, _, ?_, rfl⟩
        · simp only [upd, hd, extU, h2]
        · simp only [mapOp, evOp, shOpd, h1, hd, extD, h2, Option.map_some, key2, upd, extU]
          rfl
      · rename_i hn
        exact (hn j rfl).elim
    | x n =>
      simp only [shOpd] at h1
      cases hd : raw env ts (.x n) <;> rw [hd] at he h1 <;> simp only [extD] at he <;> first | (cases he; done) | skip
      obtain ⟨d, h2, rfl⟩ := map_some' he
      exact simple rfl rfl (fun _ => rfl) (by simp only [mapOp, evOp, shOpd, h1, extD, h2]; rfl)
    | c n =>
      simp only [shOpd] at h1
      cases hd : raw env ts (.c n) <;> rw [hd] at he h1 <;> simp only [extD] at he <;> first | (cases he; done) | skip
      obtain ⟨d, h2, rfl⟩ := map_some' he
      exact simple rfl rfl (fun _ => rfl) (by simp only [mapOp, evOp, shOpd, h1, extD, h2]; rfl)
  case s2a n x => obtain ⟨d, h1, rfl⟩ := map_some' he; exact simple rfl rfl (fun _ => rfl) (by simp only [mapOp, evOp, hr, h1]; rfl)
  case mx x y => obtain ⟨d, h1, rfl⟩ := map_some' he; exact simple rfl rfl (fun _ => rfl) (by simp only [mapOp, evOp, hr.1, hr.2, h1]; rfl)
  case mn x y => obtain ⟨d, h1, rfl⟩ := map_some' he; exact simple rfl rfl (fun _ => rfl) (by simp only [mapOp, evOp, hr.1, hr.2, h1]; rfl)
  case clr sz z x => have := nb rfl; subst this; obtain ⟨d, h1, rfl⟩ := map_some' he; exact simple rfl rfl (fun h => by cases h) (by simp only [mapOp, evOp, hr, h1]; rfl)
  case die => cases he
end
end Go.Q
namespace Go.Q
variable [Known]

structure AOp where
  g : Option (Nat × Bool)
  dst : Dst
  op : SOp
  j : Nat
instance : Inhabited AOp := ⟨⟨none, .none, .die, 0⟩⟩
def outD (x : Dst) (d : D) : D := match x with
  | .tmp => d
  | _ => .undef
def putU (j : Nat) (x : Dst) (d : D) : Up := (.t j, outD x d) :: (match x with | .var i => [(.x i, d)] | _ => [])
abbrev S3 := (List D × List D) × St
def stepA (R : Run) (a : AOp) (S : S3) : Option S3 :=
  (wantO S.1.2 a.g).bind fun w => if w = true then (evOp R S.1.1 S.1.2 S.2 a.op).map fun q => (apU (putU a.j a.dst q.1) (q.2.1, q.2.2.1), q.2.2.2)
    else some (apU (putU a.j a.dst (.tup [])) S.1, S.2)
def runA (R : Run) : List AOp → S3 → Option S3
  | [], S => some S
  | a :: l, S => (stepA R a S).bind (runA R l)

def Opd.same : Opd → Opd → Bool
  | .x i, .x j => i == j
  | .t i, .t j => i == j
  | _, _ => false
def guardP : Option (Nat × Bool) → List Opd
  | some (j, _) => [.t j]
  | none => []
def rawP (a : AOp) : List Opd := guardP a.g ++ (tko a.op).toList
def varP : Dst → List Opd
  | .var i => [.x i]
  | _ => []
def wrsP (a : AOp) : List Opd := .t a.j :: varP a.dst
def tkT1 : Option Opd → List Opd
  | some (.t j) => [.t j]
  | _ => []
def tkT (s : SOp) : List Opd := tkT1 (tko s)
def apart (xs ys : List Opd) : Bool := xs.all fun x => ys.all fun y => !x.same y
def clear (a b : AOp) : Bool := apart (wrsP a) (opds b.op) && apart (wrsP a) (rawP b) && apart (tkT a.op) (opds b.op) && apart (tko a.op).toList (rawP b)
def Opd.eqO : Opd → Opd → Bool
  | .x i, .x j => i == j
  | .t i, .t j => i == j
  | _, _ => false
def sepYs : SOp → List Opd
  | .storeS _ _ _ ys => ys
  | .loadT _ ys => ys
  | .appO _ _ _ _ ps => ps
  | _ => []
def sepOk (s l : SOp) : Bool := match l with
  | .load _ y => (sepYs s).any (Opd.eqO y)
  | .loadR y _ _ => (sepYs s).any (Opd.eqO y)
  | .loadF y off sz _ => (match s with | .callB _ _ ys => ys.any fun q => Opd.eqO y q.1 && q.2.1 == off && q.2.2 == sz | _ => false)
  | _ => false
def stOk (a b : SOp) : Bool := keeps b || blind a || match b with
  | .alloc _ _ => keeps a
  | _ => sepOk b a
def stOk2 (a b : SOp) : Bool := keeps a || blind b || sepOk a b
def commA (a b : AOp) : Bool := clear a b && clear b a && apart (wrsP a) (wrsP b) && apart (wrsP a) (tko b.op).toList && apart (tko a.op).toList (wrsP b) && apart (tko a.op).toList (tko b.op).toList && stOk a.op b.op && stOk2 a.op b.op && (keeps a.op || keeps b.op)
def commX (a b : AOp) : Bool := match a.op, b.op with
  | .ext i (.t k), .ext i' (.t k') => k == k' && i != i' && a.g.isNone && b.g.isNone && a.j != k && b.j != k && apart (wrsP a) (wrsP b)
  | _, _ => false
def commB (a b : AOp) : Bool := match a.op, b.op with
  | .callB _ _ _, .alloc false _ => a.g.isNone && b.g.isNone && clear a b && clear b a && apart (wrsP a) (wrsP b)
  | _, _ => false
def commC (a b : AOp) : Bool := match a.op, b.op with
  | .alloc false _, .alloc true _ => a.g.isNone && b.g.isNone && apart (wrsP a) (wrsP b)
  | .alloc true _, .alloc false _ => a.g.isNone && b.g.isNone && apart (wrsP a) (wrsP b)
  | _, _ => false
def comm (a b : AOp) : Bool := commA a b || commX a b || commB a b || commC a b

theorem apart_at {xs ys : List Opd} (h : apart xs ys = true) {x y : Opd} (hx : x ∈ xs) (hy : y ∈ ys) : x.same y = false := by
  have := List.all_eq_true.1 (List.all_eq_true.1 h x hx) y hy
  simpa using this
theorem getT_set' (l : List D) (i j : Nat) (d : D) (h : i ≠ j) : getT (l.set i d) j = getT l j := by
  rw [getT_set, if_neg (fun hh => h hh.1)]
theorem raw_ap {p : Opd × D} {x : Opd} {e : List D × List D} (h : p.1.same x = false) : raw (ap1 p e).1 (ap1 p e).2 x = raw e.1 e.2 x := by
  obtain ⟨y, d⟩ := p
  cases y <;> cases x <;> first | rfl | skip
  all_goals simp only [Opd.same, beq_eq_false_iff_ne, ne_eq] at h
  all_goals simp only [ap1, raw]
  all_goals exact getT_set' _ _ _ _ h
theorem raw_apU {x : Opd} : ∀ {U : Up} {e : List D × List D}, (∀ p ∈ U, p.1.same x = false) → raw (apU U e).1 (apU U e).2 x = raw e.1 e.2 x
  | [], e, _ => rfl
  | p :: U, e, h => by
    simp only [apU]
    rw [raw_apU (fun p hp => h p (by simp [hp])), raw_ap (h p (by simp))]
theorem ap1_comm {p q : Opd × D} {e : List D × List D} (h : p.1.same q.1 = false) : ap1 p (ap1 q e) = ap1 q (ap1 p e) := by
  obtain ⟨y, d⟩ := p
  obtain ⟨x, c⟩ := q
  cases y <;> cases x <;> first | rfl | skip
  all_goals simp only [Opd.same, beq_eq_false_iff_ne, ne_eq] at h
  all_goals simp only [ap1]
  · rw [List.set_comm _ _ (Ne.symm h)]
  · rw [List.set_comm _ _ (Ne.symm h)]
theorem apU_ap1 {p : Opd × D} : ∀ {U : Up} {e : List D × List D}, (∀ q ∈ U, p.1.same q.1 = false) → apU U (ap1 p e) = ap1 p (apU U e)
  | [], e, _ => rfl
  | q :: U, e, h => by
    simp only [apU]
    rw [← ap1_comm (h q (by simp)), apU_ap1 (fun q hq => h q (by simp [hq]))]
theorem apU_comm : ∀ {U V : Up} {e : List D × List D}, (∀ p ∈ U, ∀ q ∈ V, p.1.same q.1 = false) → apU V (apU U e) = apU U (apU V e)
  | [], V, e, _ => rfl
  | p :: U, V, e, h => by
    simp only [apU]
    rw [apU_comm (fun p hp q hq => h p (by simp [hp]) q hq), apU_ap1 (fun q hq => h p (by simp) q hq)]
theorem upd_places {env ts : List D} {s : SOp} {p : Opd × D} (h : p ∈ upd env ts s) : ∃ x, tko s = some x ∧ p.1 = x := by
  have tk : ∀ {x : Opd} {d : D}, p ∈ takeU x d → p.1 = x := fun {x d} h => by
    cases x <;> cases d <;> simp [takeU] at h <;> rw [h]
  cases s <;> simp only [upd, List.not_mem_nil] at h
  case take x => exact ⟨x, rfl, tk h⟩
  case box _ x => exact ⟨x, rfl, tk h⟩
  case store _ _ x => exact ⟨x, rfl, tk h⟩
  case storeS _ _ x _ => exact ⟨x, rfl, tk h⟩
  case subl _ x _ => exact ⟨x, rfl, tk h⟩
  case app _ _ x _ => exact ⟨x, rfl, tk h⟩
  case ext i x =>
    refine ⟨x, rfl, ?_⟩
    revert h
    generalize raw env ts x = d
    intro h
    cases x <;> cases d <;> simp [extU] at h
    rename_i j ds
    revert h
    cases ds[i]? with
    | none => intro h; simp [extU1] at h
    | some d => cases d <;> intro h <;> simp [extU1] at h <;> rw [h]
theorem putU_places {j : Nat} {x : Dst} {d : D} {p : Opd × D} (h : p ∈ putU j x d) : p.1 ∈ (.t j :: varP x : List Opd) := by
  cases x <;> simp [putU, varP] at h ⊢
  · rw [h]
  · rw [h]
  · rcases h with h | h <;> rw [h] <;> simp

section
variable {R : Run}
theorem cp_raw {env ts env2 ts2 : List D} {x : Opd} (h : raw env2 ts2 x = raw env ts x) : rd env2 ts2 x = rd env ts x := by unfold rd; rw [h]
theorem shOpd_sh0 {env ts env2 ts2 : List D} {x : Opd} (h : raw env2 ts2 x = raw env ts x) : raw env2 ts2 (shOpd 0 x) = raw env ts x := by rw [shOpd_zero]; exact h
theorem rd_takeU {x y : Opd} {d : D} {e : List D × List D} (hd : raw e.1 e.2 x = d) (h : ∀ j, x = .t j → x.same y = false) : rd (apU (takeU x d) e).1 (apU (takeU x d) e).2 y = rd e.1 e.2 y := by
  cases x with
  | c z => cases d <;> rfl
  | t j =>
    have := h j rfl
    unfold rd
    congr 1
    refine raw_apU fun p hp => ?_
    cases d <;> simp [takeU] at hp <;> rw [hp] <;> exact this
  | x i =>
    cases d <;> first | rfl | skip
    rename_i z xs
    simp only [takeU, apU, ap1]
    cases y with
    | c z => rfl
    | t j => rfl
    | x j =>
      unfold rd
      simp only [raw] at hd ⊢
      rw [getT_set]
      split
      · rename_i hh
        rw [← hh.1, hd]; rfl
      · rfl
theorem rd_extU {x y : Opd} {d : D} {i : Nat} {e : List D × List D} (h : ∀ j, x = .t j → x.same y = false) : rd (apU (extU i x d) e).1 (apU (extU i x d) e).2 y = rd e.1 e.2 y := by
  cases x with
  | c z => cases d <;> rfl
  | x z => cases d <;> rfl
  | t j =>
    have := h j rfl
    unfold rd
    congr 1
    refine raw_apU fun p hp => ?_
    cases d <;> simp [extU] at hp
    rename_i ds
    revert hp
    cases ds[i]? with
    | none => intro hp; simp [extU1] at hp
    | some d => cases d <;> intro hp <;> simp [extU1] at hp <;> rw [hp] <;> exact this
theorem rd_upd {s : SOp} {y : Opd} {e : List D × List D} (h : ∀ x ∈ tkT s, x.same y = false) : rd (apU (upd e.1 e.2 s) e).1 (apU (upd e.1 e.2 s) e).2 y = rd e.1 e.2 y := by
  have tk : ∀ {x : Opd}, tko s = some x → ∀ j, x = .t j → x.same y = false := fun {x} hx j hj => h x (by unfold tkT; rw [hx, hj]; simp [tkT1])
  cases s <;> simp only [upd] <;> first | rfl | skip
  case take x => exact rd_takeU rfl (tk rfl)
  case box _ x => exact rd_takeU rfl (tk rfl)
  case store _ _ x => exact rd_takeU rfl (tk rfl)
  case storeS _ _ x _ => exact rd_takeU rfl (tk rfl)
  case subl _ x _ => exact rd_takeU rfl (tk rfl)
  case app _ _ x _ => exact rd_takeU rfl (tk rfl)
  case ext i x => exact rd_extU (tk rfl)

theorem stepA_frame {a : AOp} {e : List D × List D} {st : St} {S1 : S3} (h : stepA R a (e, st) = some S1) :
    ∃ U st1, S1 = (apU U e, st1) ∧ (∀ p ∈ U, p.1 ∈ wrsP a ∨ tko a.op = some p.1) ∧ (keeps a.op = true → st1 = st) ∧
      (∀ y, (∀ x ∈ wrsP a, x.same y = false) → (∀ x ∈ tkT a.op, x.same y = false) → rd (apU U e).1 (apU U e).2 y = rd e.1 e.2 y) ∧
      (st1 = st ∨ evOp R e.1 e.2 st a.op ≠ none) ∧
      (∀ esc z, a.op = .alloc esc z → More st st1) ∧ (∀ y ∈ sepYs a.op, ∀ r i o, rd e.1 e.2 y = .ptr r i o → getB st1 r = getB st r) ∧ (∀ f p ys, a.op = .callB f p ys → ∀ q ∈ ys, ldF st1 q.2.2 q.2.1 (rd e.1 e.2 q.1) = ldF st q.2.2 q.2.1 (rd e.1 e.2 q.1)) ∧
      ∀ (e2 : List D × List D) st2, (∀ x ∈ opds a.op, rd e2.1 e2.2 x = rd e.1 e.2 x) → (∀ x ∈ rawP a, raw e2.1 e2.2 x = raw e.1 e.2 x) → FrOk e.1 e.2 st st2 a.op → stepA R a (e2, st2) = some (apU U e2, if keeps a.op = true then st2 else st1) := by
  unfold stepA at h
  obtain ⟨b, h1, h2⟩ := bind_some' h
  have want : ∀ e2 : List D × List D, (∀ x ∈ rawP a, raw e2.1 e2.2 x = raw e.1 e.2 x) → wantO e2.2 a.g = some b := fun e2 hr => by
    rw [← h1]
    cases hg : a.g with
    | none => rfl
    | some p =>
      have := hr (.t p.1) (by simp [rawP, hg, guardP])
      simp only [raw] at this
      simp only [wantO, this]
  have putRd : ∀ (d : D) (e' : List D × List D) (y : Opd), (∀ x ∈ wrsP a, x.same y = false) → rd (apU (putU a.j a.dst d) e').1 (apU (putU a.j a.dst d) e').2 y = rd e'.1 e'.2 y := fun d e' y hy => by
    unfold rd
    congr 1
    exact raw_apU fun p hp => hy _ (putU_places hp)
  split at h2
  · rename_i hb
    obtain ⟨q, h3, rfl⟩ := map_some' h2
    have fr : ∀ (e2 : List D × List D) st2, (∀ x ∈ opds a.op, rd e2.1 e2.2 x = rd e.1 e.2 x) → (∀ x ∈ rawP a, raw e2.1 e2.2 x = raw e.1 e.2 x) → FrOk e.1 e.2 st st2 a.op → _ := fun e2 st2 hr hw hs =>
      evOp_frame (env2 := e2.1) (ts2 := e2.2) (st2 := st2) (k := 0) h3 (fun x hx => by rw [shOpd_zero]; exact hr x hx) (fun x hx => shOpd_sh0 (hw x (by simp [rawP, hx]))) hs
    have base := fr e st (fun x _ => rfl) (fun x _ => rfl) (.inr (.inl rfl))
    refine ⟨upd e.1 e.2 a.op ++ putU a.j a.dst q.1, q.2.2.2, ?_, fun p hp => ?_, base.2.1, fun y hy hy2 => ?_, .inr (by rw [show evOp R e.1 e.2 st a.op = some q from h3]; simp), fun esc z hz => ?_, fun y hy r i o hp => ?_, fun f p ys hz q' hq => ?_, fun e2 st2 hr hw hs => ?_⟩
    · rw [apU_append]
      rw [base.1]
    · rcases List.mem_append.1 hp with hp | hp
      · obtain ⟨x, h4, h5⟩ := upd_places hp
        right; rw [h4, h5]
      · exact .inl (putU_places hp)
    · rw [apU_append, putRd _ _ y hy]
      exact rd_upd hy2
    · rw [hz] at h3
      simp only [evOp] at h3
      intro r b hg
      split at h3
      · split at h3 <;> cases h3
        simp only
        rw [getB_addBot, if_neg]
        · exact hg
        · rintro rfl; rw [addBot_none] at hg; cases hg
      · cases h3
        simp only
        rw [getB_addB, if_neg]
        · exact hg
        · rintro rfl; rw [addB_none] at hg; cases hg
    · have sep : ∀ (r0 : Ref) (i0 o0 : Nat) (ds : List D), sepD (.ptr r0 i0 o0) ds = true → .ptr r i o ∈ ds → r ≠ r0 := by
        intro r0 i0 o0 ds
        induction ds with
        | nil => intro _ hm; simp at hm
        | cons d ds ih =>
          intro hs hm
          rcases List.mem_cons.1 hm with e' | e'
          · subst e'
            simp only [sepD, Bool.and_eq_true, decide_eq_true_eq] at hs
            exact hs.1
          · unfold sepD at hs
            split at hs
            · simp at *
            · rename_i h5 h6; cases h6; simp only [Bool.and_eq_true] at hs; cases h5; exact ih hs.2 e'
            · rename_i h5 h6; cases h6; cases h5; exact ih hs e'
            · rename_i h5 h6; cases h6; cases h5; exact ih hs e'
            · cases hs
      cases hz : a.op <;> rw [hz] at hy <;> simp only [sepYs, List.not_mem_nil] at hy
      · rw [hz] at h3
        simp only [evOp] at h3
        split at h3 <;> first | (cases h3; done) | skip
        rename_i hsep
        obtain ⟨st', h4, rfl⟩ := map_some' h3
        simp only
        unfold opStore at h4
        split at h4 <;> first | (cases h4; done) | skip
        rename_i r0 i0 o0 hp0
        rw [hp0] at hsep
        have hne : r ≠ r0 := sep _ _ _ _ hsep (List.mem_map.2 ⟨y, hy, hp⟩)
        obtain ⟨xs, h5, h6⟩ := bind_some' h4
        obtain ⟨d, h7, h8⟩ := bind_some' h6
        split at h8 <;> cases h8
        cases hb0 : getB st r0 with
        | none => rw [hb0] at h5; cases h5
        | some b0 => rw [getB_setB _ hb0, if_neg hne]
      · rw [hz] at h3
        simp only [evOp] at h3
        split at h3 <;> first | (cases h3; done) | skip
        rename_i hsep
        obtain ⟨pr, h4, rfl⟩ := map_some' h3
        simp only
        unfold opLoadT at h4
        split at h4 <;> first | (cases h4; done) | skip
        rename_i r0 i0 o0 hp0
        rw [hp0] at hsep
        have hne : r ≠ r0 := sep _ _ _ _ hsep (List.mem_map.2 ⟨y, hy, hp⟩)
        obtain ⟨xs, h5, h6⟩ := bind_some' h4
        obtain ⟨d, h7, h8⟩ := bind_some' h6
        obtain ⟨c, h9, rfl⟩ := map_some' h8
        cases hb0 : getB st r0 with
        | none => rw [hb0] at h5; cases h5
        | some b0 => rw [getB_setB _ hb0, if_neg hne]
      · rw [hz] at h3
        simp only [evOp] at h3
        split at h3 <;> first | (cases h3; done) | skip
        rename_i hsep
        obtain ⟨ys', h4, h5⟩ := bind_some' h3
        obtain ⟨pr, h6, rfl⟩ := map_some' h5
        simp only
        have hsa : ∀ (d0 : D) (ds : List D), sepA st d0 ds = true → D.ptr r i o ∈ ds → sepA1 st d0 (.ptr r i o) = true := by
          intro d0 ds
          induction ds with
          | nil => intro _ hm; simp at hm
          | cons d ds ih =>
            intro hs hm
            simp only [sepA, Bool.and_eq_true] at hs
            rcases List.mem_cons.1 hm with e' | e'
            · rw [e']; exact hs.1
            · exact ih hs.2 e'
        have hs1 := hsa _ _ hsep (List.mem_map.2 ⟨y, hy, hp⟩)
        simp only [sepA1, Bool.and_eq_true] at hs1
        obtain ⟨hs2, hs3⟩ := hs1
        obtain ⟨b1, hb1⟩ := Option.isSome_iff_exists.1 hs3
        unfold opAppO at h6
        split at h6 <;> first | (cases h6; done) | skip
        · cases h6; rfl
        · split at h6 <;> cases h6
          rw [getB_addB, if_neg]
          rintro rfl; rw [addB_none] at hb1; cases hb1
        · rename_i r0 z0 len0 fl0 hx0
          split at h6 <;> first | (cases h6; done) | skip
          obtain ⟨xs, h7, h8⟩ := bind_some' h6
          obtain ⟨vs, h9, h10⟩ := bind_some' h8
          unfold appRow at h10
          split at h10 <;> first | (cases h10; done) | skip
          obtain ⟨p2, h11, rfl⟩ := map_some' h10
          obtain ⟨k1, k2, _, _⟩ := addAt_some h11
          rw [hx0] at hs2
          have hne : r ≠ r0 := by simpa using hs2
          cases hb0 : getB st r0 with
          | none => rw [hb0] at h7; cases h7
          | some b0 =>
            have e5 := getB_setB .dead hb0 r
            rw [if_neg hne] at e5
            rw [k2, if_neg, e5]
            rintro rfl
            rw [e5, hb1] at k1; cases k1
    · rw [hz] at h3
      simp only [evOp] at h3
      obtain ⟨pr, h4, h5⟩ := bind_some' h3
      split at h5 <;> first | (cases h5; done) | skip
      rename_i hsame
      obtain rfl := Option.some.inj h5
      exact (sameLs_at hsame _ (List.mem_map.2 ⟨q', hq, rfl⟩)).symm
    · obtain ⟨_, _, u, h4, h5⟩ := fr e2 st2 hr hw hs
      have e0 : shOp 0 a.op = a.op := mapOp_id shOpd_zero _
      rw [e0] at h4
      have h6 : shU 0 (upd e.1 e.2 a.op) = upd e.1 e.2 a.op := by
        unfold shU
        have : ∀ l : Up, (l.map fun p => (shOpd 0 p.1, p.2)) = l := fun l => by
          induction l with
          | nil => rfl
          | cons p l ih => rw [List.map_cons, ih, shOpd_zero]
        exact this _
      rw [h6] at h5
      subst h5
      unfold stepA
      simp only [want e2 hw, Option.bind_some]
      rw [if_pos hb, h4]
      simp only [Option.map_some, apU_append]
  · rename_i hb
    cases h2
    refine ⟨putU a.j a.dst (.tup []), st, rfl, fun p hp => .inl (putU_places hp), fun _ => rfl, fun y hy hy2 => putRd _ _ y hy, .inl rfl, fun _ z _ => fun r b h => h, fun y _ r i o _ => rfl, fun f p ys _ q' _ => rfl, fun e2 st2 hr hw hs => ?_⟩
    unfold stepA
    simp only [want e2 hw, Option.bind_some]
    rw [if_neg hb]
    split
    · rfl
    · rename_i hbl
      rw [hs.same (by simpa using hbl)]

theorem same_comm (x y : Opd) : x.same y = y.same x := by
  cases x <;> cases y <;> simp only [Opd.same]
  · exact Bool.beq_comm
  · exact Bool.beq_comm
theorem eqO_eq {x y : Opd} (h : x.eqO y = true) : x = y := by
  cases x <;> cases y <;> simp [Opd.eqO] at h <;> rw [h]
theorem clear_frame {a b : AOp} (hc : clear a b = true) {e : List D × List D} {U : Up} (u1 : ∀ p ∈ U, p.1 ∈ wrsP a ∨ tko a.op = some p.1)
    (u2 : ∀ y, (∀ x ∈ wrsP a, x.same y = false) → (∀ x ∈ tkT a.op, x.same y = false) → rd (apU U e).1 (apU U e).2 y = rd e.1 e.2 y) :
    (∀ x ∈ opds b.op, rd (apU U e).1 (apU U e).2 x = rd e.1 e.2 x) ∧ (∀ x ∈ rawP b, raw (apU U e).1 (apU U e).2 x = raw e.1 e.2 x) := by
  simp only [clear, Bool.and_eq_true] at hc
  obtain ⟨⟨⟨c1, c2⟩, c3⟩, c4⟩ := hc
  refine ⟨fun x hx => u2 x (fun y hy => apart_at c1 hy hx) (fun y hy => apart_at c3 hy hx), fun x hx => raw_apU fun p hp => ?_⟩
  rcases u1 p hp with h | h
  · exact apart_at c2 h hx
  · exact apart_at c4 (by rw [h]; simp) hx
theorem sepOk_or {s l : SOp} (h : sepOk s l = true) : (∃ sz y, (l = .load sz y ∨ ∃ a, l = .loadR y sz a) ∧ y ∈ sepYs s) ∨ ∃ f p ys y off sz a, s = .callB f p ys ∧ l = .loadF y off sz a ∧ (y, off, sz) ∈ ys := by
  unfold sepOk at h
  split at h
  · obtain ⟨y', hy, hy2⟩ := List.any_eq_true.1 h
    have := eqO_eq hy2
    subst this
    exact .inl ⟨_, _, .inl rfl, hy⟩
  · obtain ⟨y', hy, hy2⟩ := List.any_eq_true.1 h
    have := eqO_eq hy2
    subst this
    exact .inl ⟨_, _, .inr ⟨_, rfl⟩, hy⟩
  · split at h <;> first | (cases h; done) | skip
    obtain ⟨q, hq, hq2⟩ := List.any_eq_true.1 h
    simp only [Bool.and_eq_true, beq_iff_eq] at hq2
    obtain ⟨⟨h1, h2⟩, h3⟩ := hq2
    have := eqO_eq h1
    obtain ⟨q1, q2, q3⟩ := q
    simp only at this h2 h3
    subst this h2 h3
    exact .inr ⟨_, _, _, _, _, _, _, rfl, rfl, hq⟩
  · cases h
theorem step_commA {a b : AOp} (hc : commA a b = true) {S S1 S2 : S3} (h1 : stepA R a S = some S1) (h2 : stepA R b S1 = some S2) : ∃ S1', stepA R b S = some S1' ∧ stepA R a S1' = some S2 := by
  simp only [commA, Bool.and_eq_true, Bool.or_eq_true] at hc
  obtain ⟨⟨⟨⟨⟨⟨⟨⟨c1, c2⟩, c3⟩, c4⟩, c5⟩, c6⟩, c7⟩, c8⟩, c9⟩ := hc
  obtain ⟨e, st⟩ := S
  obtain ⟨U, st1, rfl, u1, u2, u3, u4, u5, u6, u8, u7⟩ := stepA_frame h1
  obtain ⟨V, st2, rfl, v1, v2, v3, v4, v5, v6, v8, v7⟩ := stepA_frame h2
  obtain ⟨r1, r2⟩ := clear_frame c1 u1 u3
  simp only [stOk2, Bool.or_eq_true] at c8
  have hb : FrOk (apU U e).1 (apU U e).2 st1 st b.op := by
    rcases c8 with (c | c) | c
    · exact .inr (.inl (u2 c).symm)
    · exact .inl c
    · rcases sepOk_or c with ⟨sz, y, e3, hy⟩ | ⟨f, p, ys, y, off, sz, a', e3, e4, hy⟩
      · refine .inr (.inr (.inr (.inl ⟨sz, y, e3, fun r i o hp => (u6 y hy r i o ?_).symm⟩)))
        rw [← hp]
        refine (r1 y ?_).symm
        rcases e3 with e3 | ⟨a', e3⟩ <;> rw [e3] <;> simp [opds]
      · refine .inr (.inr (.inr (.inr ⟨y, off, sz, a', e4, ?_⟩)))
        have := u8 f p ys e3 _ hy
        simp only at this
        rw [r1 y (by rw [e4]; simp [opds])]
        exact this.symm
  have k1 := v7 e st (fun x hx => (r1 x hx).symm) (fun x hx => (r2 x hx).symm) hb
  refine ⟨_, k1, ?_⟩
  obtain ⟨V', st2', e1, w1, w2, w3, w4, w5, w6, w8, w7⟩ := stepA_frame k1
  have hrd : (∀ x ∈ opds a.op, rd (apU V e).1 (apU V e).2 x = rd e.1 e.2 x) ∧ (∀ x ∈ rawP a, raw (apU V e).1 (apU V e).2 x = raw e.1 e.2 x) := by
    have e2 : apU V e = apU V' e := congrArg Prod.fst e1
    rw [e2]
    exact clear_frame c2 w1 w3
  have est : (if keeps b.op = true then st else st2) = st2' := congrArg Prod.snd e1
  have ha : FrOk e.1 e.2 st (if keeps b.op = true then st else st2) a.op := by
    by_cases hk : keeps b.op = true
    · rw [if_pos hk]; exact .inr (.inl rfl)
    · simp only [stOk, Bool.or_eq_true] at c7
      rw [est]
      rcases c7 with (c | c) | c
      · exact absurd c hk
      · exact .inl c
      · split at c
        · rename_i esc z hz
          exact .inr (.inr (.inl ⟨c, w5 esc z hz⟩))
        · rcases sepOk_or c with ⟨sz, y, e3, hy⟩ | ⟨f, p, ys, y, off, sz, a', e3, e4, hy⟩
          · exact .inr (.inr (.inr (.inl ⟨sz, y, e3, fun r i o hp => w6 y hy r i o hp⟩)))
          · exact .inr (.inr (.inr (.inr ⟨y, off, sz, a', e4, w8 f p ys e3 _ hy⟩)))
  have k2 := u7 (apU V e) _ hrd.1 hrd.2 ha
  rw [k2]
  have e1 : apU U (apU V e) = apU V (apU U e) := (apU_comm fun p hp q hq => by
    rcases u1 p hp with h | h <;> rcases v1 q hq with h' | h'
    · exact apart_at c3 h h'
    · exact apart_at c4 h (by rw [h']; simp)
    · exact apart_at c5 (by rw [h]; simp) h'
    · exact apart_at c6 (by rw [h]; simp) (by rw [h']; simp)).symm
  rw [e1]
  have e2 : (if keeps a.op = true then (if keeps b.op = true then st else st2) else st1) = st2 := by
    by_cases hA : keeps a.op = true
    · rw [if_pos hA]
      split
      · rename_i hB; rw [v2 hB, u2 hA]
      · rfl
    · rw [if_neg hA]
      rcases c9 with c | c
      · exact absurd c hA
      · exact (v2 c).symm
  rw [e2]

def wkL (i : Nat) (ds : List D) : D → List D
  | .lin z xs => ds.set i (.v (.slc z xs))
  | _ => ds
theorem ext_step {a : AOp} {i k : Nat} (hg : a.g = none) (ho : a.op = .ext i (.t k)) {e : List D × List D} {st : St} {S1 : S3} :
    stepA R a (e, st) = some S1 ↔ ∃ ds d, getT e.2 k = .tup ds ∧ ds[i]? = some d ∧ S1 = (apU (putU a.j a.dst (extV1 true d)) (ap1 (.t k, .tup (wkL i ds d)) e), st) := by
  unfold stepA
  rw [hg, ho]
  simp only [wantO, Option.bind_some, if_true, evOp, extD, raw]
  have self : ∀ (l : List D) (k : Nat), l.set k (getT l k) = l := by
    intro l
    induction l with
    | nil => intro k; rfl
    | cons d l ih => intro k; cases k with
      | zero => rfl
      | succ k => simp only [List.set_cons_succ, getT, ih]
  constructor
  · intro h
    obtain ⟨q, h1, rfl⟩ := map_some' h
    split at h1 <;> first | (cases h1; done) | skip
    · rename_i j ds hx hd
      cases hx
      obtain ⟨d, h2, rfl⟩ := map_some' h1
      refine ⟨ds, d, hd, h2, ?_⟩
      have : ∀ l : List D, getT l k = .tup ds → l.set k (.tup ds) = l := fun l hl => by rw [← hl]; exact self l k
      have e3 := this e.2 hd
      cases d <;> simp [extL, extV1, wkL, ap1, e3]
    · rename_i hn
      exact (hn k rfl).elim
  · rintro ⟨ds, d, hd, h2, rfl⟩
    rw [hd]
    simp only [h2, Option.map_some]
    have : ∀ l : List D, getT l k = .tup ds → l.set k (.tup ds) = l := fun l hl => by rw [← hl]; exact self l k
    have e3 := this e.2 hd
    cases d <;> simp [extL, extV1, wkL, ap1, e3]
theorem wkL_other {i i' : Nat} {ds : List D} {d : D} (h : i ≠ i') : (wkL i ds d)[i']? = ds[i']? := by
  cases d <;> first | rfl | (simp only [wkL]; exact List.getElem?_set_ne h)
theorem wkL_comm {i i' : Nat} {ds : List D} {d d' : D} (h : i ≠ i') : wkL i' (wkL i ds d) d' = wkL i (wkL i' ds d') d := by
  cases d <;> cases d' <;> first | rfl | (simp only [wkL]; exact List.set_comm _ _ h)
theorem step_commX {a b : AOp} (hc : commX a b = true) {S S1 S2 : S3} (h1 : stepA R a S = some S1) (h2 : stepA R b S1 = some S2) : ∃ S1', stepA R b S = some S1' ∧ stepA R a S1' = some S2 := by
  unfold commX at hc
  split at hc <;> first | (cases hc; done) | skip
  rename_i i k i' k' ha hb
  simp only [Bool.and_eq_true, beq_iff_eq, bne_iff_ne, ne_eq, Option.isNone_iff_eq_none] at hc
  obtain ⟨⟨⟨⟨⟨⟨rfl, hi⟩, ga⟩, gb⟩, ja⟩, jb⟩, hw⟩ := hc
  obtain ⟨e, st⟩ := S
  obtain ⟨ds, d, t1, t2, rfl⟩ := (ext_step ga ha).1 h1
  have hlen : k < e.2.length := by
    refine Classical.byContradiction fun hn => ?_
    rw [getT_nil (by omega)] at t1; cases t1
  have putN : ∀ (c : AOp) (x : D) (e' : List D × List D), c.j ≠ k → getT (apU (putU c.j c.dst x) e').2 k = getT e'.2 k := fun c x e' hj => by
    have := raw_apU (x := .t k) (U := putU c.j c.dst x) (e := e') fun p hp => by
      have := putU_places hp
      rcases List.mem_cons.1 this with h | h
      · rw [h]; simpa [Opd.same] using hj
      · cases hd : c.dst <;> rw [hd] at h <;> simp [varP] at h
        rw [h]; rfl
    exact this
  have apN : ∀ (c : AOp) (x y : D) (e' : List D × List D), c.j ≠ k → apU (putU c.j c.dst x) (ap1 (.t k, y) e') = ap1 (.t k, y) (apU (putU c.j c.dst x) e') := fun c x y e' hj => by
    refine apU_ap1 fun p hp => ?_
    have := putU_places hp
    rcases List.mem_cons.1 this with h | h
    · rw [h]; simpa [Opd.same] using Ne.symm hj
    · cases hd : c.dst <;> rw [hd] at h <;> simp [varP] at h
      rw [h]; rfl
  have setk : ∀ (e' : List D × List D) (y : D), k < e'.2.length → getT (ap1 (.t k, y) e').2 k = y := fun e' y hl => by
    simp only [ap1]; rw [getT_set, if_pos ⟨rfl, hl⟩]
  have lenp : ∀ (u : Up) (e' : List D × List D), (apU u e').2.length = e'.2.length := by
    intro u
    induction u with
    | nil => intro e'; rfl
    | cons p u ih => intro e'; simp only [apU]; rw [ih]; obtain ⟨p, d⟩ := p; cases p <;> simp [ap1]
  obtain ⟨ds2, d2, t3, t4, rfl⟩ := (ext_step gb hb).1 h2
  rw [putN a _ _ ja, setk _ _ hlen] at t3
  cases t3
  rw [wkL_other hi] at t4
  refine ⟨_, (ext_step gb hb).2 ⟨ds, d2, t1, t4, rfl⟩, (ext_step ga ha).2 ⟨wkL i' ds d2, d, ?_, ?_, ?_⟩⟩
  · rw [putN b _ _ jb, setk _ _ hlen]
  · rw [wkL_other (Ne.symm hi)]; exact t2
  · rw [wkL_comm hi]
    congr 1
    simp only [apN b _ _ _ jb, apN a _ _ _ ja]
    have dbl : ∀ (x y : D) (e' : List D × List D), ap1 (.t k, y) (ap1 (.t k, x) e') = ap1 (.t k, y) e' := fun x y e' => by simp [ap1]
    rw [dbl, dbl]
    congr 1
    exact apU_comm fun p hp q hq => apart_at hw (putU_places hp) (putU_places hq)
theorem addB_setB {st : St} {r : Ref} {b0 : Blk} (b B : Blk) (h : getB st r = some b0) : addB (setB st r b) B = (setB (addB st B).1 r b, (addB st B).2) := by
  cases st with
  | nil => simp [getB] at h
  | cons fr st =>
    simp only [getB] at h
    by_cases hl : r.lvl = st.length
    · rw [if_pos hl] at h
      obtain ⟨hk, _⟩ := List.getElem?_eq_some_iff.1 h
      have e1 : setB (fr :: st) r b = fr.set r.k b :: st := by simp only [setB, if_pos hl]
      have e2 : setB ((fr ++ [B]) :: st) r b = (fr ++ [B]).set r.k b :: st := by simp only [setB, if_pos hl]
      rw [e1]
      simp only [addB]
      rw [e2]
      simp only [List.length_set, List.set_append_left _ _ hk]
    · have e1 : setB (fr :: st) r b = fr :: setB st r b := by simp only [setB, if_neg hl]
      have e2 : setB ((fr ++ [B]) :: st) r b = (fr ++ [B]) :: setB st r b := by simp only [setB, if_neg hl]
      rw [e1]
      simp only [addB]
      rw [e2, setB_len]
theorem getB_add {st : St} {r : Ref} {b0 : Blk} (B : Blk) (h : getB st r = some b0) : getB (addB st B).1 r = some b0 := by
  rw [getB_addB, if_neg]
  · exact h
  · rintro rfl; rw [addB_none] at h; cases h
theorem add_addBot (st : St) (A B : Blk) (h : ¬ st.length < 2) : (addB (addBot st B).1 A).1 = (addBot (addB st A).1 B).1 ∧ (addB (addBot st B).1 A).2 = (addB st A).2 ∧ (addBot (addB st A).1 B).2 = (addBot st B).2 ∧ ¬ (addB st A).1.length < 2 := by
  rcases st with _ | ⟨fr, _ | ⟨f2, st⟩⟩
  · exact absurd (by simp) h
  · exact absurd (by simp) h
  · have l := (addBot_lvl (f2 :: st) B).2 (by simp)
    simp only [addB, addBot, l]
    exact ⟨trivial, trivial, trivial, by simp⟩
theorem step_commC {a b : AOp} (hc : commC a b = true) {S S1 S2 : S3} (h1 : stepA R a S = some S1) (h2 : stepA R b S1 = some S2) : ∃ S1', stepA R b S = some S1' ∧ stepA R a S1' = some S2 := by
  have want : ∀ (ts : List D), wantO ts none = some true := fun _ => rfl
  obtain ⟨e, st⟩ := S
  have sw : ∀ {c : AOp} {d : AOp} {x y : D}, apart (wrsP c) (wrsP d) = true → apU (putU d.j d.dst y) (apU (putU c.j c.dst x) e) = apU (putU c.j c.dst x) (apU (putU d.j d.dst y) e) := fun {c d x y} hc =>
    apU_comm fun p hp q hq => apart_at hc (putU_places hp) (putU_places hq)
  unfold commC at hc
  split at hc <;> first | (cases hc; done) | skip
  · rename_i z z' ha hb
    simp only [Bool.and_eq_true, Option.isNone_iff_eq_none] at hc
    obtain ⟨⟨ga, gb⟩, c3⟩ := hc
    simp only [stepA, ga, want, Option.bind_some, if_true, ha, evOp, Bool.false_eq_true, if_false, Option.map_some, Option.some.injEq] at h1
    subst h1
    simp only [stepA, gb, want, Option.bind_some, if_true, hb, evOp] at h2
    have hl : ¬ st.length < 2 := fun hl => by
      have : (addB st (.row [z])).1.length < 2 := by
        rcases st with _ | ⟨fr, st⟩ <;> simp [addB] at hl ⊢ <;> omega
      rw [if_pos this] at h2
      cases h2
    obtain ⟨q1, q2, q3, q4⟩ := add_addBot st (.row [z]) (.row [z']) hl
    rw [if_neg q4] at h2
    simp only [Option.map_some, Option.some.injEq] at h2
    refine ⟨(apU (putU b.j b.dst (.ptr (addBot st (.row [z'])).2 0 0)) e, (addBot st (.row [z'])).1), ?_, ?_⟩
    · simp only [stepA, gb, want, Option.bind_some, if_true, hb, evOp]
      rw [if_neg hl]
      rfl
    · simp only [stepA, ga, want, Option.bind_some, if_true, ha, evOp, Bool.false_eq_true, if_false, Option.map_some]
      rw [← h2, q1, q2, q3, sw c3]
  · rename_i z z' ha hb
    simp only [Bool.and_eq_true, Option.isNone_iff_eq_none] at hc
    obtain ⟨⟨ga, gb⟩, c3⟩ := hc
    simp only [stepA, ga, want, Option.bind_some, if_true, ha, evOp] at h1
    have hl : ¬ st.length < 2 := fun hl => by
      rw [if_pos hl] at h1
      cases h1
    rw [if_neg hl] at h1
    simp only [Option.map_some, Option.some.injEq] at h1
    subst h1
    simp only [stepA, gb, want, Option.bind_some, if_true, hb, evOp, Bool.false_eq_true, if_false, Option.map_some, Option.some.injEq] at h2
    obtain ⟨q1, q2, q3, q4⟩ := add_addBot st (.row [z']) (.row [z]) hl
    refine ⟨(apU (putU b.j b.dst (.ptr (addB st (.row [z'])).2 0 0)) e, (addB st (.row [z'])).1), ?_, ?_⟩
    · simp only [stepA, gb, want, Option.bind_some, if_true, hb, evOp, Bool.false_eq_true, if_false, Option.map_some]
    · simp only [stepA, ga, want, Option.bind_some, if_true, ha, evOp]
      rw [if_neg q4]
      simp only [Option.map_some]
      rw [← h2, q1, q2, q3, sw c3]
theorem step_commB {a b : AOp} (hc : commB a b = true) {S S1 S2 : S3} (h1 : stepA R a S = some S1) (h2 : stepA R b S1 = some S2) : ∃ S1', stepA R b S = some S1' ∧ stepA R a S1' = some S2 := by
  unfold commB at hc
  split at hc <;> first | (cases hc; done) | skip
  rename_i f p ys z ha hb
  simp only [Bool.and_eq_true, Option.isNone_iff_eq_none] at hc
  obtain ⟨⟨⟨⟨ga, gb⟩, c1⟩, c2⟩, c3⟩ := hc
  obtain ⟨e, st⟩ := S
  have want : ∀ (ts : List D), wantO ts none = some true := fun _ => rfl
  simp only [stepA, ga, want, Option.bind_some, if_true] at h1
  obtain ⟨q, h3, rfl⟩ := map_some' h1
  rw [ha] at h3
  simp only [evOp] at h3
  obtain ⟨pr, h4, h5⟩ := bind_some' h3
  split at h5 <;> first | (cases h5; done) | skip
  rename_i hsame
  obtain rfl := Option.some.inj h5
  simp only [stepA, gb, want, Option.bind_some, if_true, hb, evOp, Bool.false_eq_true, if_false, Option.map_some, Option.some.injEq] at h2
  subst h2
  unfold callBD at h4
  split at h4 <;> first | (cases h4; done) | skip
  rename_i r i off hp
  split at h4 <;> first | (cases h4; done) | skip
  rename_i hz
  obtain ⟨xs, h6, h7⟩ := bind_some' h4
  have hbr := rowOf_some h6
  unfold callBr at h7
  split at h7 <;> first | (cases h7; done) | skip
  rename_i x
  split at h7 <;> first | (cases h7; done) | skip
  rename_i hx
  obtain ⟨pp, h8, h9⟩ := bind_some' h7
  unfold callBe at h9
  split at h9 <;> first | (cases h9; done) | skip
  rename_i v x'
  split at h9 <;> first | (cases h9; done) | skip
  rename_i hcond
  obtain rfl := Option.some.inj h9
  have ap1 : ∀ (c : AOp) (d : D), c.dst = c.dst → True := fun _ _ _ => trivial
  refine ⟨(apU (putU b.j b.dst (.ptr (addB st (.row [z])).2 0 0)) e, (addB st (.row [z])).1), ?_, ?_⟩
  · simp only [stepA, gb, want, Option.bind_some, if_true, hb, evOp, Bool.false_eq_true, if_false, Option.map_some]
  · obtain ⟨r1, r2⟩ := clear_frame (a := b) (b := a) c2 (e := e) (U := putU b.j b.dst (.ptr (addB st (.row [z])).2 0 0)) (fun p hp => .inl (putU_places hp)) (fun y hy _ => by
      unfold rd
      congr 1
      exact raw_apU fun p hp => hy _ (putU_places hp))
    rw [ha] at r1
    simp only [opds, List.mem_cons, forall_eq_or_imp] at r1
    obtain ⟨r3, r4⟩ := r1
    have hA := addB_setB (.row [x']) (.row [z]) hbr
    simp only [stepA, ga, want, Option.bind_some, if_true, ha, evOp]
    have hcall : callBD R f (addB st (.row [z])).1 (rd (apU (putU b.j b.dst (.ptr (addB st (.row [z])).2 0 0)) e).1 (apU (putU b.j b.dst (.ptr (addB st (.row [z])).2 0 0)) e).2 p) = some (v, setB (addB st (.row [z])).1 r (.row [x'])) := by
      rw [r3, hp]
      unfold callBD
      simp only [hz, and_self, if_true]
      refine of_bind (a := [x]) (by rw [getB_add _ hbr]; rfl) ?_
      unfold callBr
      simp only [if_pos hx]
      refine of_bind h8 ?_
      unfold callBe
      simp only [if_pos hcond]
    have hys : (ys.map fun p => (rd (apU (putU b.j b.dst (.ptr (addB st (.row [z])).2 0 0)) e).1 (apU (putU b.j b.dst (.ptr (addB st (.row [z])).2 0 0)) e).2 p.1, p.2)) = ys.map fun p => (rd e.1 e.2 p.1, p.2) := by
      refine List.map_congr_left fun p hp => ?_
      rw [r4 p.1 (List.mem_map.2 ⟨p, hp, rfl⟩)]
    rw [hcall, hys]
    simp only [Option.bind_some]
    have hgr := getB_setB (.row [x']) hbr
    have hgr2 := getB_setB (.row [x']) (getB_add (.row [z]) hbr)
    rw [if_pos]
    · simp only [Option.map_some, hA]
      congr 2
      refine apU_comm fun p hp q hq => ?_
      rw [same_comm]
      exact apart_at c3 (putU_places hq) (putU_places hp)
    · have := sameLs_at hsame
      have key : ∀ l : List (D × Nat × Option Nat), (∀ p ∈ l, ldF st p.2.2 p.2.1 p.1 = ldF (setB st r (.row [x'])) p.2.2 p.2.1 p.1) → sameLs (addB st (.row [z])).1 (setB (addB st (.row [z])).1 r (.row [x'])) l = true := by
        intro l
        induction l with
        | nil => intro _; rfl
        | cons q l ih =>
          intro hq
          simp only [sameLs, Bool.and_eq_true]
          refine ⟨?_, ih fun p hp => hq p (by simp [hp])⟩
          have h10 := hq q (by simp)
          generalize q.1 = d at h10 ⊢
          cases d <;> first | rfl | skip
          rename_i r' i' o'
          simp only [ldF, opLoad] at h10 ⊢
          by_cases e1 : r' = r
          · subst e1
            rw [hgr, if_pos rfl, hbr] at h10
            rw [hgr2, if_pos rfl, getB_add _ hbr, h10]
            exact sameO_refl _
          · rw [hgr2, if_neg e1]
            exact sameO_refl _
      exact key _ this
theorem step_comm {a b : AOp} (hc : comm a b = true) {S S1 S2 : S3} (h1 : stepA R a S = some S1) (h2 : stepA R b S1 = some S2) : ∃ S1', stepA R b S = some S1' ∧ stepA R a S1' = some S2 := by
  simp only [comm, Bool.or_eq_true] at hc
  rcases hc with ((hc | hc) | hc) | hc
  · exact step_commA hc h1 h2
  · exact step_commX hc h1 h2
  · exact step_commB hc h1 h2
  · exact step_commC hc h1 h2
theorem run_front {a : AOp} : ∀ {l1 l2 : List AOp} {S S' : S3}, runA R (l1 ++ a :: l2) S = some S' → (∀ b ∈ l1, comm b a = true) → ∃ S1, stepA R a S = some S1 ∧ runA R (l1 ++ l2) S1 = some S'
  | [], l2, S, S', h, _ => by
    simp only [List.nil_append, runA] at h ⊢
    exact bind_some' h
  | b :: l1, l2, S, S', h, hc => by
    simp only [List.cons_append, runA] at h ⊢
    obtain ⟨S0, h1, h2⟩ := bind_some' h
    obtain ⟨S1, h3, h4⟩ := run_front h2 (fun b hb => hc b (by simp [hb]))
    obtain ⟨S1', h5, h6⟩ := step_comm (hc b (by simp)) h1 h3
    exact ⟨S1', h5, by rw [h6]; exact h4⟩
end

def absO (m i : Nat) (s : SOper) : AOp := ⟨s.g.map fun p => (p.1 + (m - i), p.2), s.dst, shOp (m - i) s.op, m - 1 - i⟩
def absL (m : Nat) : Nat → List SOper → List AOp
  | _, [] => []
  | i, s :: l => absO m i s :: absL m (i + 1) l
theorem getT_pre (pre ts : List D) (j : Nat) : getT (pre ++ ts) (j + pre.length) = getT ts j := by
  induction pre with
  | nil => rfl
  | cons d pre ih => exact ih
theorem set_pre (pre ts : List D) (j : Nat) (d : D) : (pre ++ ts).set (j + pre.length) d = pre ++ ts.set j d := by
  induction pre with
  | nil => rfl
  | cons c pre ih => simp only [List.cons_append, List.length_cons, ← Nat.add_assoc, List.set_cons_succ, ih]
theorem apU_pre {pre : List D} : ∀ {U : Up} {e : List D × List D}, apU (shU pre.length U) (e.1, pre ++ e.2) = ((apU U e).1, pre ++ (apU U e).2)
  | [], e => rfl
  | p :: U, e => by
    obtain ⟨y, d⟩ := p
    have : ap1 (shOpd pre.length y, d) (e.1, pre ++ e.2) = ((ap1 (y, d) e).1, pre ++ (ap1 (y, d) e).2) := by
      cases y <;> simp only [shOpd, ap1, set_pre]
    simp only [shU, List.map_cons, apU, this]
    exact apU_pre (U := U)
section
variable {R : Run}
theorem sim (hL : RLen R) {m : Nat} : ∀ (l : List SOper) (i : Nat) (env ts : List D) (st : St) (r : List D × List D × St), st ≠ [] → i + l.length = m → ts.length = i → evOps R l env ts st = some r →
    runA R (absL m i l) ((env, List.replicate (m - i) .undef ++ ts), st) = some ((r.1, r.2.1), r.2.2) ∧ r.2.1.length = m
  | [], i, env, ts, st, r, hst, hm, hts, h => by
    simp only [evOps] at h; cases h
    have : m - i = 0 := by simp at hm; omega
    simp only [absL, runA, this, List.replicate_zero, List.nil_append]
    simp at hm
    exact ⟨trivial, by omega⟩
  | s :: l, i, env, ts, st, r, hst, hm, hts, h => by
    simp only [evOps] at h
    obtain ⟨b, h1, h2⟩ := bind_some' h
    have hlen : (List.replicate (m - i) D.undef).length = m - i := by simp
    have hmi : m - i = (m - (i + 1)) + 1 := by simp at hm; omega
    have hw : wantO (List.replicate (m - i) .undef ++ ts) (absO m i s).g = some b := by
      rw [← h1]
      simp only [absO]
      cases s.g with
      | none => rfl
      | some p =>
        simp only [Option.map_some, wantO]
        have := getT_pre (List.replicate (m - i) .undef) ts p.1
        rw [hlen] at this
        rw [this]
    have place : ∀ (env' ts' : List D) (d : D), ts'.length = i → apU (putU (m - 1 - i) s.dst d) (env', List.replicate (m - i) .undef ++ ts') = ((putD d env' ts' s.dst).1, List.replicate (m - (i + 1)) .undef ++ (putD d env' ts' s.dst).2) := fun env' ts' d hl => by
      have hs : ∀ x : D, (List.replicate (m - i) D.undef ++ ts').set (m - 1 - i) x = List.replicate (m - (i + 1)) .undef ++ (x :: ts') := fun x => by
        have e : List.replicate (m - i) D.undef ++ ts' = List.replicate (m - (i + 1)) .undef ++ (.undef :: ts') := by
          rw [hmi, List.replicate_succ']; simp
        rw [e]
        have := set_pre (List.replicate (m - (i + 1)) .undef) (.undef :: ts') 0 x
        simp only [List.length_replicate, Nat.zero_add, List.set_cons_zero] at this
        have e2 : m - 1 - i = m - (i + 1) := by omega
        rw [e2]; exact this
      cases s.dst <;> simp only [putU, apU, ap1, putD, outD, hs]
    simp only [absL, runA, stepA]
    rw [hw]
    simp only [Option.bind_some]
    split at h2
    · rename_i hb
      rw [if_pos hb]
      obtain ⟨q, h3, h4⟩ := bind_some' h2
      have lens := evOp_len hL hst h3
      have hst' : q.2.2.2 ≠ [] := fun e => by have := lens.2.2; rw [e] at this; exact hst (List.length_eq_zero_iff.1 this.symm)
      obtain ⟨f1, _, u, f2, f3⟩ := evOp_frame (env2 := env) (ts2 := List.replicate (m - i) .undef ++ ts) (st2 := st) (k := m - i) h3 (fun x hx => by
        unfold rd
        congr 1
        cases x <;> first | rfl | skip
        have := getT_pre (List.replicate (m - i) .undef) ts
        rw [hlen] at this
        exact this _) (fun x hx => by
        cases x <;> first | rfl | skip
        have := getT_pre (List.replicate (m - i) .undef) ts
        rw [hlen] at this
        exact this _) (.inr (.inl rfl))
      have f4 : (if keeps s.op = true then st else q.2.2.2) = q.2.2.2 := by
        split
        · rename_i hbl; exact ((evOp_frame (env2 := env) (ts2 := List.replicate (m - i) .undef ++ ts) (st2 := st) (k := m - i) h3 (fun x hx => by
            unfold rd
            congr 1
            cases x <;> first | rfl | skip
            have := getT_pre (List.replicate (m - i) .undef) ts
            rw [hlen] at this
            exact this _) (fun x hx => by
            cases x <;> first | rfl | skip
            have := getT_pre (List.replicate (m - i) .undef) ts
            rw [hlen] at this
            exact this _) (.inr (.inl rfl))).2.1 hbl).symm
        · rfl
      rw [f4] at f2
      have f5 := apU_pre (pre := List.replicate (m - i) .undef) (U := upd env ts s.op) (e := (env, ts))
      rw [hlen, ← f3, ← f1] at f5
      simp only at f5
      rw [f5] at f2
      simp only [absO]
      rw [f2]
      simp only [Option.map_some, Option.bind_some]
      rw [place _ _ _ (by rw [lens.2.1]; exact hts)]
      exact sim hL l (i + 1) _ _ _ r hst' (by simp at hm; omega) (by rw [(putD_len _ _ _ _).2, lens.2.1, hts]) h4
    · rename_i hb
      rw [if_neg hb]
      simp only [absO, Option.bind_some]
      rw [place _ _ _ hts]
      exact sim hL l (i + 1) _ _ _ r hst (by simp at hm; omega) (by rw [(putD_len _ _ _ _).2, hts]) h2
theorem absL_len (m : Nat) : ∀ (l : List SOper) (i : Nat), (absL m i l).length = l.length
  | [], _ => rfl
  | s :: l, i => by simp [absL, absL_len m l (i + 1)]
theorem absL_at (m : Nat) : ∀ (l : List SOper) (i k : Nat), (absL m i l)[k]? = (l[k]?).map (absO m (i + k))
  | [], _, _ => by simp [absL]
  | s :: l, i, 0 => rfl
  | s :: l, i, k + 1 => by simp only [absL, List.getElem?_cons_succ]; rw [absL_at m l (i + 1) k]; congr 2; omega
end
end Go.Q
namespace Go.Q
variable [Known]

def hasAfter (o : Oper) (i : Nat) : Bool := o.after.any fun e => Region.binds .any e && e.on == i
def anc (ops : Array Oper) : Nat → Oper → Nat → Bool
  | 0, o, j => hasAfter o j
  | n + 1, o, j => hasAfter o j || o.after.any fun e => Region.binds .any e && orF ops[e.on]? fun o' => anc ops n o' j
def backOk (o : Oper) (i : Nat) : Bool := o.after.all fun e => !Region.binds .any e || decide (e.on < i)
def dstA (μ : List Nat) (nt : Nat) (τ : List (Option Nat)) (j : Nat) : Option Tmp → Dst → Bool
  | none, .none => true
  | some d, .none => !μ.contains d && !τ.contains (some d)
  | some d, .tmp => !μ.contains d && decide (d < nt) && τ.idxOf? (some d) == some j
  | some d, .var i => decide (μ[i]? = some d) && !τ.contains (some d) && decide (d < nt)
  | _, _ => false
def sO (a : AOp) : SOper := ⟨a.g, a.dst, a.op⟩
def chkA (μ : List Nat) (nt : Nat) (P : Program) (ops : Array Oper) (τ : List (Option Nat)) (i : Nat) (o : Oper) (a : AOp) : Bool :=
  chkG ops τ o.guard a.g && chkOp μ τ P o.op a.op && dstA μ nt τ a.j o.dst a.dst && (a.j == τ.length - 1 - i) && backOk o i
def chkAs (μ : List Nat) (nt : Nat) (P : Program) (ops : Array Oper) (τ : List (Option Nat)) (l : List AOp) : Nat → List Oper → List AOp → Bool
  | _, [], [] => true
  | i, o :: os, a :: as => chkA μ nt P ops τ i o a && (l.take i).zipIdx.all (fun q => hasAfter o q.2 || comm q.1 a || anc ops 6 o q.2) && chkAs μ nt P ops τ l (i + 1) os as
  | _, _, _ => false
def tausOf : List Oper → List SOper → List (Option Nat) → List (Option Nat)
  | o :: os, s :: ss, τ => tausOf os ss ((match s.dst with | .tmp => o.dst | _ => none) :: τ)
  | _, _, τ => τ
def chkDraw (μ : List Nat) (nt : Nat) (P : Program) (ops : Array Oper) (l : List SOper) : Option (List (Option Nat)) :=
  if (P.follows .mixedOrders && decide (l.length = ops.size) && decide ((tausOf ops.toList l []).length = ops.size) && chkAs μ nt P ops (tausOf ops.toList l []) (absL l.length 0 l) 0 ops.toList (absL l.length 0 l)) = true then some (tausOf ops.toList l []) else none

section
variable {P : Program} {w : World} {g : Gh} {μ : List Nat} {τ τ' : List (Option Nat)} {env ts : List D} {st : St} {a : Act} {q : Rg} {R : Run} {nt : Nat} {dfs : List Deferred} {ops : Array Oper} {Q : Exit → Act → World → Prop}

theorem ready_mem {listed : Array Bool} {i : Nat} : i ∈ Region.ready .any ops listed ↔ i < ops.size ∧ listed.getD i true = false ∧ ∃ o, ops[i]? = some o ∧ ∀ e ∈ o.after, Region.binds .any e = true → listed.getD e.on false = true := by
  simp only [Region.ready, List.mem_filter, List.mem_range, Bool.and_eq_true, Bool.not_eq_true']
  constructor
  · rintro ⟨h1, h2, h3⟩
    refine ⟨h1, h2, ops[i], Array.getElem?_eq_getElem h1, fun e he hb => ?_⟩
    rw [Array.getElem?_eq_getElem h1] at h3
    simp only [Option.map_some, Option.getD_some, Array.all_eq_true_iff_forall_mem] at h3
    have := h3 e he
    simpa [hb] using this
  · rintro ⟨h1, h2, o, ho, h3⟩
    refine ⟨h1, h2, ?_⟩
    rw [ho]
    simp only [Option.map_some, Option.getD_some, Array.all_eq_true_iff_forall_mem]
    intro e he
    cases hb : Region.binds .any e with
    | false => rfl
    | true => simp [h3 e he hb]
theorem hasAfter_listed {listed : Array Bool} {o : Oper} {i : Nat} (h : hasAfter o i = true) (hl : ∀ e ∈ o.after, Region.binds .any e = true → listed.getD e.on false = true) : listed.getD i false = true := by
  rw [hasAfter, Array.any_eq_true] at h
  obtain ⟨k, hk, h⟩ := h
  simp only [Bool.and_eq_true, beq_iff_eq] at h
  obtain ⟨hb, rfl⟩ := h
  exact hl _ (Array.getElem_mem hk) hb
theorem back_listed {listed : Array Bool} {o : Oper} {i : Nat} (h : backOk o i = true) (hl : ∀ j, j < i → listed.getD j false = true) : ∀ e ∈ o.after, Region.binds .any e = true → listed.getD e.on false = true := fun e he hb => by
  simp only [backOk, Array.all_eq_true_iff_forall_mem] at h
  have := h e he
  simp [hb] at this
  exact hl _ this
theorem getD_set {listed : Array Bool} {i j : Nat} {x : Bool} (h : i < listed.size) : (listed.setIfInBounds i true).getD j x = if j = i then true else listed.getD j x := by
  simp only [Array.getD_eq_getD_getElem?]
  by_cases e : j = i
  · subst e; rw [if_pos rfl, Array.getElem?_setIfInBounds_self_of_lt h]; rfl
  · rw [if_neg e, Array.getElem?_setIfInBounds_ne (Ne.symm e)]
theorem idx_inj {t d j : Nat} (h1 : τ.idxOf? (some t) = some j) (h2 : τ.idxOf? (some d) = some j) : t = d := by
  simp only [List.idxOf?, List.findIdx?_eq_some_iff_getElem] at h1 h2
  obtain ⟨_, h3, _⟩ := h1
  obtain ⟨_, h4, _⟩ := h2
  simp at h3 h4
  have := h3.symm.trans h4
  simpa using this

theorem putA_rel {i j : Nat} {d : D} {v : Value} {dst : Option Tmp} {x : Dst} (hs : a.tmps.size = nt) (hj : j = τ.length - 1 - i) (hi : i < τ.length) (hl : ts.length = τ.length) (hμ : μ.Nodup) (hc : dstA μ nt τ j dst x = true)
    (h : RelA w g μ τ env ts st a.tmps) (hd : RelD w g (.tmp τ.length) d v) : ∃ f, RelA w (g.mv f) μ τ (apU (putU j x d) (env, ts)).1 (apU (putU j x d) (env, ts)).2 st (a.put dst v).tmps := by
  have hid : g.mv id = g := by simp [Gh.mv]
  have drop : ∀ (dst : Option Tmp), (∀ e, dst = some e → μ.contains e = false ∧ τ.contains (some e) = false) → RelA w g μ τ env (ts.set j .undef) st (a.put dst v).tmps := by
    intro dst e2
    have same : ∀ t, (∀ e, dst = some e → t ≠ e) → (a.put dst v).tmps.getD t undef = a.tmps.getD t undef := fun t ht => by
      cases dst with
      | none => rfl
      | some e => rw [put_getD, if_neg (fun hh => ht e rfl hh.1)]
    refine ⟨h.s, fun i t hi => ?_, fun k t hk => ?_⟩
    · rw [same t (fun e he => mu_ne (e2 e he).1 hi)]; exact h.e i t hi
    · rw [same t (fun e he => notmem (e2 e he).2 hk), getT_set]
      split
      · exact .undef _ _
      · exact h.t k t hk
  unfold dstA at hc
  split at hc
  · exact ⟨id, by rw [hid]; exact drop none (fun e he => by cases he)⟩
  · rename_i d'
    simp only [Bool.and_eq_true, Bool.not_eq_true'] at hc
    exact ⟨id, by rw [hid]; exact drop (some d') (fun e he => by cases he; exact hc)⟩
  · rename_i d'
    simp only [Bool.and_eq_true, Bool.not_eq_true', decide_eq_true_eq, beq_iff_eq] at hc
    obtain ⟨⟨h1, h2⟩, h3⟩ := hc
    let f : Pl → Pl := fun p => match p with | .tmp b k => if b = τ.length then .tmp i k else .tmp b k | p => p
    refine ⟨f, h.s.mv rfl (fun p hp => by cases p <;> simp only [f] at hp <;> first | rfl | (cases hp; done) | (split at hp <;> cases hp)) (fun r i j => rfl), fun i' t hi' => ?_, fun k t hk => ?_⟩
    · rw [put_getD, if_neg (fun hh => mu_ne h1 hi' hh.1)]
      exact (h.e i' t hi').mv (fun _ => rfl) rfl
    · show RelD w (g.mv f) _ (getT (ts.set j d) k) _
      rw [getT_set, put_getD]
      by_cases e : j = k
      · subst e
        have ht := idx_inj hk h3
        subst ht
        rw [if_pos (show j = j ∧ j < ts.length from ⟨rfl, by omega⟩), if_pos (show t = t ∧ t < a.tmps.size from ⟨rfl, hs ▸ h2⟩)]
        have e' : τ.length - 1 - j = i := by omega
        rw [e']
        exact hd.mv (fun k => by simp [f]) rfl
      · have hne : t ≠ d' := fun e2 => by subst e2; rw [h3] at hk; cases hk; exact e rfl
        rw [if_neg (fun hh => e hh.1), if_neg (fun hh => hne hh.1)]
        have hlt := idxOf_lt hk
        exact (h.t k t hk).mv (fun kk => by
          have hne : ¬ τ.length - 1 - k = τ.length := by omega
          simp [f, hne]) rfl
  · rename_i d' i0
    simp only [Bool.and_eq_true, Bool.not_eq_true', decide_eq_true_eq, beq_iff_eq] at hc
    obtain ⟨⟨h1, h2⟩, h3⟩ := hc
    let f : Pl → Pl := fun p => match p with | .tmp b k => if b = τ.length then .env i0 else .tmp b k | p => p
    refine ⟨f, h.s.mv rfl (fun p hp => by cases p <;> simp only [f] at hp <;> first | rfl | (cases hp; done) | (split at hp <;> cases hp)) (fun r i j => rfl), fun i' t hi => ?_, fun k t hk => ?_⟩
    · show RelD w (g.mv f) _ (getT (env.set i0 d) i') _
      rw [getT_set, put_getD]
      by_cases e : i0 = i'
      · subst e
        rw [h1] at hi
        cases hi
        rw [if_pos (show d' = d' ∧ d' < a.tmps.size from ⟨rfl, hs ▸ h3⟩)]
        by_cases hl : i0 < env.length
        · rw [if_pos ⟨rfl, hl⟩]
          exact hd.mv (fun k => by simp [f]) rfl
        · rw [if_neg (fun hh => hl hh.2), getT_nil (by omega)]
          exact .undef _ _
      · have hne : t ≠ d' := by
          rintro rfl
          have l1 := (List.getElem?_eq_some_iff.1 h1)
          have l2 := (List.getElem?_eq_some_iff.1 hi)
          obtain ⟨b1, e1⟩ := l1
          obtain ⟨b2, e2⟩ := l2
          exact e (nodup_inj hμ b1 b2 (e1.trans e2.symm))
        rw [if_neg (fun hh => e hh.1), if_neg (fun hh => hne hh.1)]
        exact (h.e i' t hi).mv (fun _ => rfl) rfl
    · rw [put_getD, if_neg (fun hh => notmem h2 hk hh.1)]
      show RelD w (g.mv f) _ (getT (ts.set j .undef) k) _
      rw [getT_set]
      split
      · exact .undef _ _
      · have hlt := idxOf_lt hk
        exact (h.t k t hk).mv (fun kk => by
          have hne : ¬ τ.length - 1 - k = τ.length := by omega
          simp [f, hne]) rfl
  · cases hc


theorem chkAs_at {l : List AOp} : ∀ {os : List Oper} {as : List AOp} {i0 : Nat}, chkAs μ nt P ops τ l i0 os as = true → ∀ i o, os[i]? = some o → ∃ a, as[i]? = some a ∧ chkA μ nt P ops τ (i0 + i) o a = true ∧ ∀ j b, j < i0 + i → l[j]? = some b → anc ops 6 o j = true ∨ comm b a = true
  | [], as, i0, hc, i, o, h => by simp at h
  | o :: os, [], i0, hc, i, o', h => by simp [chkAs] at hc
  | o :: os, a :: as, i0, hc, i, o', h => by
    simp only [chkAs, Bool.and_eq_true] at hc
    obtain ⟨⟨h1, h2⟩, h3⟩ := hc
    cases i with
    | zero =>
      simp at h; subst h
      refine ⟨a, rfl, h1, fun j b hj hb => ?_⟩
      have hm : (b, j) ∈ (l.take i0).zipIdx := by
        rw [List.mem_zipIdx_iff_getElem?]
        rw [List.getElem?_take]
        simp at hj
        rw [if_pos hj]; exact hb
      have := List.all_eq_true.1 h2 _ hm
      simp only [Bool.or_eq_true] at this
      rcases this with (h | h) | h
      · exact .inl (by simp only [anc, h, Bool.true_or])
      · exact .inr h
      · exact .inl h
    | succ i =>
      obtain ⟨a', k1, k2, k3⟩ := chkAs_at h3 i o' (by simpa using h)
      have e : i0 + (i + 1) = i0 + 1 + i := by omega
      exact ⟨a', by simpa using k1, by rw [e]; exact k2, fun j b hj hb => k3 j b (by omega) hb⟩

def Closed (ops : Array Oper) (listed : Array Bool) : Prop := ∀ i o, listed.getD i false = true → ops[i]? = some o → ∀ e ∈ o.after, Region.binds .any e = true → listed.getD e.on false = true
theorem anc_listed {listed : Array Bool} (hc : Closed ops listed) : ∀ {n : Nat} {o : Oper} {j : Nat}, anc ops n o j = true → (∀ e ∈ o.after, Region.binds .any e = true → listed.getD e.on false = true) → listed.getD j false = true
  | 0, o, j, h, hl => hasAfter_listed h hl
  | n + 1, o, j, h, hl => by
    simp only [anc, Bool.or_eq_true] at h
    rcases h with h | h
    · exact hasAfter_listed h hl
    · rw [Array.any_eq_true] at h
      obtain ⟨k, hk, h⟩ := h
      simp only [Bool.and_eq_true] at h
      obtain ⟨hb, h2⟩ := h
      obtain ⟨o', e1, e2⟩ := of_orF h2
      exact anc_listed hc e2 (hc _ _ (hl _ (Array.getElem_mem hk) hb) e1)

def rest (n : Nat) (listed : Array Bool) : List Nat := (List.range n).filter fun i => !listed.getD i false
theorem rest_mem {n i : Nat} {listed : Array Bool} : i ∈ rest n listed ↔ i < n ∧ listed.getD i false = false := by simp [rest]
theorem rest_sorted (n : Nat) (listed : Array Bool) : (rest n listed).Pairwise (· < ·) := List.Pairwise.filter _ List.pairwise_lt_range
theorem rest_set {n i : Nat} {listed : Array Bool} {l1 l2 : List Nat} (hi : i < listed.size) (h : rest n listed = l1 ++ i :: l2) : rest n (listed.setIfInBounds i true) = l1 ++ l2 := by
  have e : rest n (listed.setIfInBounds i true) = (rest n listed).filter (fun j => decide (j ≠ i)) := by
    unfold rest
    rw [List.filter_filter]
    congr 1
    funext j
    rw [getD_set hi]
    by_cases hj : j = i
    · simp [hj]
    · simp [hj]
  have hs := rest_sorted n listed
  rw [h] at hs
  rw [e, h]
  rw [List.pairwise_append] at hs
  obtain ⟨s1, s2, s3⟩ := hs
  rw [List.pairwise_cons] at s2
  rw [List.filter_append, List.filter_cons_of_neg (by simp)]
  congr 1
  · rw [List.filter_eq_self]; intro j hj; have := s3 j hj i (by simp); simp; omega
  · rw [List.filter_eq_self]; intro j hj; have := s2.1 j hj; simp; omega

theorem any_sound {ro : Option Nat} (hμ : μ.Nodup) (hR : ROk P R) (hL : RLen R) {l : List AOp} {r : S3} (hlen : l.length = ops.size) (hτ : τ.length = ops.size)
    (hA : chkAs μ nt P ops τ l 0 ops.toList l = true) : ∀ (fuel : Nat) (listed : Array Bool) (S : S3) (a : Act) (w : World) (g : Gh),
    listed.size = ops.size → Closed ops listed → (rest ops.size listed).length = fuel → runA R ((rest ops.size listed).map fun i => l.getD i default) S = some r →
    At w g μ nt dfs τ S.1.1 S.1.2 S.2 a → (∀ a' w' g', Ext w w' g g' → At w' g' μ nt dfs τ r.1.1 r.1.2 r.2 a' → Q .normal a' w') → wpAnyIn (wideR ro) 0 P .any ops Q fuel listed a w := by
  intro fuel
  have gd : ∀ (listed : Array Bool) i, listed.size = ops.size → i < ops.size → listed.getD i true = listed.getD i false := fun listed i hs hi => by
    simp only [Array.getD_eq_getD_getElem?, Array.getElem?_eq_getElem (show i < listed.size by omega), Option.getD_some]
  induction fuel with
  | zero =>
    intro listed S a w g l1 lc l2 l3 hAt K
    have hnil : rest ops.size listed = [] := List.length_eq_zero_iff.1 l2
    refine ⟨?_, ?_⟩
    · refine List.eq_nil_iff_forall_not_mem.2 fun i hi => ?_
      obtain ⟨h1, h2, _⟩ := ready_mem.1 hi
      have : i ∈ rest ops.size listed := rest_mem.2 ⟨h1, by rw [← gd listed i l1 h1]; exact h2⟩
      rw [hnil] at this; simp at this
    · rw [hnil] at l3
      simp only [List.map_nil, runA] at l3
      cases l3
      exact K a w g (Ext.refl w g) hAt
  | succ fuel ih =>
    intro listed S a w g l1 lc l2 l3 hAt K
    have hsorted := rest_sorted ops.size listed
    refine ⟨fun hn => ?_, fun i hi => ?_⟩
    · -- the first one is ready
      cases hr : rest ops.size listed with
      | nil => rw [hr] at l2; simp at l2
      | cons i0 t =>
        have hm : i0 ∈ rest ops.size listed := by rw [hr]; simp
        obtain ⟨h1, h2⟩ := rest_mem.1 hm
        have ho : ops.toList[i0]? = some ops[i0] := by rw [Array.getElem?_toList]; exact Array.getElem?_eq_getElem h1
        obtain ⟨_, _, k2, _⟩ := chkAs_at hA i0 _ ho
        simp only [chkA, Bool.and_eq_true, Nat.zero_add] at k2
        have mem : i0 ∈ Region.ready .any ops listed := ready_mem.2 ⟨h1, by rw [gd listed i0 l1 h1]; exact h2, _, Array.getElem?_eq_getElem h1, back_listed k2.2 fun j hj => by
          cases hh : listed.getD j false with
          | true => rfl
          | false =>
            have hj2 : j ∈ rest ops.size listed := rest_mem.2 ⟨by omega, hh⟩
            rw [hr] at hj2 hsorted
            rw [List.pairwise_cons] at hsorted
            rcases List.mem_cons.1 hj2 with e | e
            · omega
            · have := hsorted.1 j e; omega⟩
        rw [hn] at mem; simp at mem
    · obtain ⟨h1, h2, o, ho, h3⟩ := ready_mem.1 hi
      have hm : i ∈ rest ops.size listed := rest_mem.2 ⟨h1, by rw [← gd listed i l1 h1]; exact h2⟩
      obtain ⟨p1, p2, hp⟩ := List.append_of_mem hm
      have hset := rest_set (by omega) hp
      rw [hp] at l3 l2 hsorted
      have ho' : ops.toList[i]? = some o := by rw [Array.getElem?_toList]; exact ho
      obtain ⟨b, k1, k2, k3⟩ := chkAs_at hA i o ho'
      have hb : l.getD i default = b := by rw [List.getD_eq_getElem?_getD, k1]; rfl
      rw [List.map_append, List.map_cons, hb] at l3
      rw [List.pairwise_append] at hsorted
      obtain ⟨S1, s1, s2⟩ := run_front l3 fun c hc => by
        obtain ⟨j, hj, rfl⟩ := List.mem_map.1 hc
        have hji := hsorted.2.2 j hj i (by simp)
        have hjl : j < l.length := by omega
        rcases k3 j (l.getD j default) (by omega) (by rw [List.getD_eq_getElem?_getD, List.getElem?_eq_getElem hjl]; rfl) with h | h
        · have hjr : j ∈ rest ops.size listed := by rw [hp]; simp [hj]
          have := anc_listed lc h h3
          rw [(rest_mem.1 hjr).2] at this
          cases this
        · exact h
      rw [← List.map_append, ← hset] at s2
      simp only [chkA, Bool.and_eq_true, Nat.zero_add, beq_iff_eq] at k2
      obtain ⟨⟨⟨⟨c1, c2⟩, c3⟩, c4⟩, c5⟩ := k2
      unfold stepA at s1
      obtain ⟨wn, t1, t2⟩ := bind_some' s1
      have hw := wanted_rel (s := sO b) hAt c1 t1
      have next : ∀ (d : D) (v : Value) (w1 : World) (g1 : Gh) (env' ts' : List D) (st' : St), Ext w w1 g g1 → RelA w1 g1 μ τ env' ts' st' a.tmps → RelD w1 g1 (.tmp τ.length) d v → ts'.length = τ.length → st' ≠ [] →
          S1 = (apU (putU b.j b.dst d) (env', ts'), st') → wpAnyIn (wideR ro) 0 P .any ops Q fuel (listed.setIfInBounds i true) (a.put o.dst v) w1 := fun d v w1 g1 env' ts' st' x1 x2 x3 x4 x5 x6 => by
        obtain ⟨f, y⟩ := putA_rel (i := i) (j := b.j) (dst := o.dst) (x := b.dst) hAt.n c4 (by omega) x4 hμ c3 x2 x3
        obtain ⟨q1, q2⟩ := put_size a o.dst v
        subst x6
        refine ih (listed.setIfInBounds i true) _ _ _ _ (by simpa using l1) (fun i' o' hi' ho2 e he hbd => ?_) (by rw [hset]; simp at l2 ⊢; omega) s2 ⟨y, by rw [q1]; exact hAt.n, by rw [q2]; exact hAt.d, ?_, x5⟩ (fun a' w'' g'' hx ha => K a' w'' g'' (x1.trans ((Ext.mv f).trans hx)) ha)
        · have hin : listed.getD e.on false = true := by
            rw [getD_set (by omega)] at hi'
            by_cases e3 : i' = i
            · subst e3; rw [ho] at ho2; cases ho2; exact h3 e he hbd
            · rw [if_neg e3] at hi'; exact lc i' o' hi' ho2 e he hbd
          rw [getD_set (by omega)]
          split
          · rfl
          · exact hin
        have : ∀ (u : Up) (e : List D × List D), (apU u e).2.length = e.2.length := by
          intro u
          induction u with
          | nil => intro e; rfl
          | cons p u ih => intro e; simp only [apU]; rw [ih]; obtain ⟨p, d⟩ := p; cases p <;> simp [ap1]
        rw [this]; exact x4
      simp only [wpOpIn, ho]
      cases wn with
      | true =>
        simp only [if_true] at t2
        obtain ⟨q, e3, e4⟩ := map_some' t2
        rw [if_pos hw]
        have hS := evOp_sound hR hAt.r hAt.l c2 e3
        refine OpRes.wq hS fun v w' hp => ?_
        obtain ⟨g1, x1, x2, x3⟩ := hp
        have lens := evOp_len hL hAt.st e3
        exact next q.1 v w' g1 _ _ _ x1 x2 x3 (by rw [lens.2.1]; exact hAt.l) (fun e => by have := lens.2.2; rw [e] at this; exact hAt.st (List.length_eq_zero_iff.1 this.symm)) e4.symm
      | false =>
        simp only [Bool.false_eq_true, if_false] at t2
        rw [if_neg (by rw [hw]; simp)]
        refine ⟨fun _ _ => trivial, ?_⟩
        exact next (.tup []) undef w g S.1.1 S.1.2 S.2 (Ext.refl w g) hAt.r (.tup _ _ _ rfl (fun i hi => by simp at hi)) hAt.l hAt.st (by cases t2; rfl)

theorem draw_ok {ro : Option Nat} {id : Nat} {l : List SOper} {q : List D × List D × St} (hμ : μ.Nodup) (hR : ROk P R) (hL : RLen R)
    (hc : chkDraw μ nt P ops l = some τ') (he : evOps R l env [] st = some q) (h : At w g μ nt dfs [] env [] st a)
    (k : ∀ a' w' g', Ext w w' g g' → At w' g' μ nt dfs τ' q.1 q.2.1 q.2.2 a' → Q .normal a' w') : (Code.region id ops true).wpIn (wideR ro) 0 P Q a w := by
  unfold chkDraw at hc
  split at hc <;> cases hc
  rename_i hcc
  simp only [Bool.and_eq_true, decide_eq_true_eq] at hcc
  obtain ⟨⟨⟨hm, hl⟩, hτ⟩, hA⟩ := hcc
  obtain ⟨s1, s2⟩ := sim hL (m := l.length) l 0 env [] st q h.st (by omega) rfl he
  rw [List.append_nil, Nat.sub_zero] at s1
  refine wpIn_region_any hm ?_
  have hG : Grow w { w with drawn := w.drawn + 1 } g g := ⟨rfl, rfl, rfl, Nat.le_refl _, fun _ _ => rfl, fun _ _ => rfl, fun _ _ => Iff.rfl, fun _ _ => rfl, fun r hr => ⟨hr, rfl, rfl, rfl, rfl⟩, fun b p hb hp => by have := (h.r.s.own b p hp).2; omega, fun b hb => h.r.s.fresh b hb⟩
  have h' := hG.relA h.r (fun r => Iff.rfl)
  have hrest : rest ops.size (Array.replicate ops.size false) = List.range ops.size := by
    unfold rest
    rw [List.filter_eq_self]
    intro i hi
    have : i < ops.size := by simpa using hi
    simp [Array.getD_eq_getD_getElem?, this]
  have hmap : (List.range ops.size).map (fun i => (absL l.length 0 l).getD i default) = absL l.length 0 l := by
    refine List.ext_getElem? fun i => ?_
    rw [List.getElem?_map]
    by_cases hi : i < ops.size
    · rw [List.getElem?_range hi]
      have hlt : i < (absL l.length 0 l).length := by rw [absL_len]; omega
      simp only [Option.map_some, List.getD_eq_getElem?_getD, List.getElem?_eq_getElem hlt, Option.getD_some]
    · rw [List.getElem?_eq_none (by simpa using hi), List.getElem?_eq_none (by rw [absL_len]; omega)]; rfl
  have und : ∀ (m j : Nat), getT (List.replicate m D.undef) j = .undef := by
    intro m
    induction m with
    | zero => intro j; rfl
    | succ m ih => intro j; cases j with
      | zero => rfl
      | succ j => exact ih j
  refine any_sound (dfs := dfs) (r := ((q.1, q.2.1), q.2.2)) hμ hR hL (by rw [absL_len]; exact hl) hτ hA ops.size (Array.replicate ops.size false) ((env, List.replicate l.length .undef), st) a _ g (by simp) (fun i o hi _ => by simp [Array.getD_eq_getD_getElem?, Array.getElem?_replicate] at hi; split at hi <;> simp at hi) (by rw [hrest]; simp) (by rw [hrest, hmap]; exact s1) ⟨⟨h'.s, h'.e, fun j t hj => ?_⟩, h.n, h.d, by simp [hl, hτ], h.st⟩ (fun a' w' g' hx ha => k a' w' g' ((hG.ext h.r.s).trans hx) ha)
  show RelD _ _ _ (getT (List.replicate l.length D.undef) j) _
  rw [und]
  exact .undef _ _
end
end Go.Q
