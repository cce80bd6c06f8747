/- Operations at places of their own; when two may change places. No condition. -/
import Derived.Test.YthldpjhmhjhpeaaDoorEv6
set_option linter.unusedVariables false
set_option linter.unusedSimpArgs false
set_option linter.unusedSectionVars false
namespace Go.Q
variable [Known]

structure AOp where
  g : Option (Nat × Bool)
  dst : Dst
  op : SOp
  j : Nat
instance : Inhabited AOp := ⟨⟨none, .none, .die, 0⟩⟩
/-- what is put into the temporary's place -/
def outD (x : Dst) (d : D) : D := match x with
  | .tmp => d
  | _ => .undef
def putU (j : Nat) (x : Dst) (d : D) : Up := (.t j, outD x d) :: (match x with | .var i => [(.x i, d)] | _ => [])
abbrev S3 := (List D × List D) × St
def stepA (R : Run) (a : AOp) (S : S3) : Option S3 :=
  (wantO S.1.2 a.g).bind fun w => if w = true then (evOp R S.1.1 S.1.2 S.2 a.op).map fun q => (apU (putU a.j a.dst q.1) (q.2.1, q.2.2.1), q.2.2.2)
    else some (apU (putU a.j a.dst (.tup [])) S.1, S.2)
def runA (R : Run) : List AOp → S3 → Option S3
  | [], S => some S
  | a :: l, S => (stepA R a S).bind (runA R l)

/-- the same place? -/
def Opd.same : Opd → Opd → Bool
  | .x i, .x j => i == j
  | .t i, .t j => i == j
  | _, _ => false
def guardP : Option (Nat × Bool) → List Opd
  | some (j, _) => [.t j]
  | none => []
/-- looked at as they are: guard, what is taken -/
def rawP (a : AOp) : List Opd := guardP a.g ++ (tko a.op).toList
def varP : Dst → List Opd
  | .var i => [.x i]
  | _ => []
def wrsP (a : AOp) : List Opd := .t a.j :: varP a.dst
/-- taken out of temporaries: what is left of a tuple there is nothing -/
def tkT1 : Option Opd → List Opd
  | some (.t j) => [.t j]
  | _ => []
def tkT (s : SOp) : List Opd := tkT1 (tko s)
def apart (xs ys : List Opd) : Bool := xs.all fun x => ys.all fun y => !x.same y
/-- what the first one changes is nothing that the second one looks at -/
def clear (a b : AOp) : Bool := apart (wrsP a) (opds b.op) && apart (wrsP a) (rawP b) && apart (tkT a.op) (opds b.op) && apart (tko a.op).toList (rawP b)
def Opd.eqO : Opd → Opd → Bool
  | .x i, .x j => i == j
  | .t i, .t j => i == j
  | _, _ => false
/-- the second one's change of the store is nothing to the first one -/
def stOk (a b : SOp) : Bool := keeps b || blind a || match b with
  | .alloc false _ => keeps a
  | .storeS _ _ _ ys => (match a with | .load _ y => ys.any (Opd.eqO y) | .loadR y _ _ => ys.any (Opd.eqO y) | _ => false)
  | _ => false
def stOk2 (a b : SOp) : Bool := keeps a || blind b
/-- may they change places? -/
def commA (a b : AOp) : Bool := clear a b && clear b a && apart (wrsP a) (wrsP b) && apart (wrsP a) (tko b.op).toList && apart (tko a.op).toList (wrsP b) && apart (tko a.op).toList (tko b.op).toList && stOk a.op b.op && stOk2 a.op b.op && (keeps a.op || keeps b.op)
/-- two parts of one tuple -/
def commX (a b : AOp) : Bool := match a.op, b.op with
  | .ext i (.t k), .ext i' (.t k') => k == k' && i != i' && a.g.isNone && b.g.isNone && a.j != k && b.j != k && apart (wrsP a) (wrsP b)
  | _, _ => false
def comm (a b : AOp) : Bool := commA a b || commX a b

theorem apart_at {xs ys : List Opd} (h : apart xs ys = true) {x y : Opd} (hx : x ∈ xs) (hy : y ∈ ys) : x.same y = false := by
  have := List.all_eq_true.1 (List.all_eq_true.1 h x hx) y hy
  simpa using this
theorem getT_set' (l : List D) (i j : Nat) (d : D) (h : i ≠ j) : getT (l.set i d) j = getT l j := by
  rw [getT_set, if_neg (fun hh => h hh.1)]
theorem raw_ap {p : Opd × D} {x : Opd} {e : List D × List D} (h : p.1.same x = false) : raw (ap1 p e).1 (ap1 p e).2 x = raw e.1 e.2 x := by
  obtain ⟨y, d⟩ := p
  cases y <;> cases x <;> first | rfl | skip
  all_goals simp only [Opd.same, beq_eq_false_iff_ne, ne_eq] at h
  all_goals simp only [ap1, raw]
  all_goals exact getT_set' _ _ _ _ h
theorem raw_apU {x : Opd} : ∀ {U : Up} {e : List D × List D}, (∀ p ∈ U, p.1.same x = false) → raw (apU U e).1 (apU U e).2 x = raw e.1 e.2 x
  | [], e, _ => rfl
  | p :: U, e, h => by
    simp only [apU]
    rw [raw_apU (fun p hp => h p (by simp [hp])), raw_ap (h p (by simp))]
theorem ap1_comm {p q : Opd × D} {e : List D × List D} (h : p.1.same q.1 = false) : ap1 p (ap1 q e) = ap1 q (ap1 p e) := by
  obtain ⟨y, d⟩ := p
  obtain ⟨x, c⟩ := q
  cases y <;> cases x <;> first | rfl | skip
  all_goals simp only [Opd.same, beq_eq_false_iff_ne, ne_eq] at h
  all_goals simp only [ap1]
  · rw [List.set_comm _ _ (Ne.symm h)]
  · rw [List.set_comm _ _ (Ne.symm h)]
theorem apU_ap1 {p : Opd × D} : ∀ {U : Up} {e : List D × List D}, (∀ q ∈ U, p.1.same q.1 = false) → apU U (ap1 p e) = ap1 p (apU U e)
  | [], e, _ => rfl
  | q :: U, e, h => by
    simp only [apU]
    rw [← ap1_comm (h q (by simp)), apU_ap1 (fun q hq => h q (by simp [hq]))]
theorem apU_comm : ∀ {U V : Up} {e : List D × List D}, (∀ p ∈ U, ∀ q ∈ V, p.1.same q.1 = false) → apU V (apU U e) = apU U (apU V e)
  | [], V, e, _ => rfl
  | p :: U, V, e, h => by
    simp only [apU]
    rw [apU_comm (fun p hp q hq => h p (by simp [hp]) q hq), apU_ap1 (fun q hq => h p (by simp) q hq)]
theorem upd_places {env ts : List D} {s : SOp} {p : Opd × D} (h : p ∈ upd env ts s) : ∃ x, tko s = some x ∧ p.1 = x := by
  have tk : ∀ {x : Opd} {d : D}, p ∈ takeU x d → p.1 = x := fun {x d} h => by
    cases x <;> cases d <;> simp [takeU] at h <;> rw [h]
  cases s <;> simp only [upd, List.not_mem_nil] at h
  case take x => exact ⟨x, rfl, tk h⟩
  case box _ x => exact ⟨x, rfl, tk h⟩
  case store _ _ x => exact ⟨x, rfl, tk h⟩
  case storeS _ _ x _ => exact ⟨x, rfl, tk h⟩
  case subl _ x _ => exact ⟨x, rfl, tk h⟩
  case app _ _ x _ => exact ⟨x, rfl, tk h⟩
  case ext i x =>
    refine ⟨x, rfl, ?_⟩
    revert h
    generalize raw env ts x = d
    intro h
    cases x <;> cases d <;> simp [extU] at h
    rename_i j ds
    revert h
    cases ds[i]? with
    | none => intro h; simp [extU1] at h
    | some d => cases d <;> intro h <;> simp [extU1] at h <;> rw [h]
theorem putU_places {j : Nat} {x : Dst} {d : D} {p : Opd × D} (h : p ∈ putU j x d) : p.1 ∈ (.t j :: varP x : List Opd) := by
  cases x <;> simp [putU, varP] at h ⊢
  · rw [h]
  · rw [h]
  · rcases h with h | h <;> rw [h] <;> simp

section
variable {R : Run}
theorem cp_raw {env ts env2 ts2 : List D} {x : Opd} (h : raw env2 ts2 x = raw env ts x) : rd env2 ts2 x = rd env ts x := by unfold rd; rw [h]
theorem shOpd_sh0 {env ts env2 ts2 : List D} {x : Opd} (h : raw env2 ts2 x = raw env ts x) : raw env2 ts2 (shOpd 0 x) = raw env ts x := by rw [shOpd_zero]; exact h
/-- what is taken weakens: it is read as before -/
theorem rd_takeU {x y : Opd} {d : D} {e : List D × List D} (hd : raw e.1 e.2 x = d) (h : ∀ j, x = .t j → x.same y = false) : rd (apU (takeU x d) e).1 (apU (takeU x d) e).2 y = rd e.1 e.2 y := by
  cases x with
  | c z => cases d <;> rfl
  | t j =>
    have := h j rfl
    unfold rd
    congr 1
    refine raw_apU fun p hp => ?_
    cases d <;> simp [takeU] at hp <;> rw [hp] <;> exact this
  | x i =>
    cases d <;> first | rfl | skip
    rename_i z xs
    simp only [takeU, apU, ap1]
    cases y with
    | c z => rfl
    | t j => rfl
    | x j =>
      unfold rd
      simp only [raw] at hd ⊢
      rw [getT_set]
      split
      · rename_i hh
        rw [← hh.1, hd]; rfl
      · rfl
theorem rd_extU {x y : Opd} {d : D} {i : Nat} {e : List D × List D} (h : ∀ j, x = .t j → x.same y = false) : rd (apU (extU i x d) e).1 (apU (extU i x d) e).2 y = rd e.1 e.2 y := by
  cases x with
  | c z => cases d <;> rfl
  | x z => cases d <;> rfl
  | t j =>
    have := h j rfl
    unfold rd
    congr 1
    refine raw_apU fun p hp => ?_
    cases d <;> simp [extU] at hp
    rename_i ds
    revert hp
    cases ds[i]? with
    | none => intro hp; simp [extU1] at hp
    | some d => cases d <;> intro hp <;> simp [extU1] at hp <;> rw [hp] <;> exact this
theorem rd_upd {s : SOp} {y : Opd} {e : List D × List D} (h : ∀ x ∈ tkT s, x.same y = false) : rd (apU (upd e.1 e.2 s) e).1 (apU (upd e.1 e.2 s) e).2 y = rd e.1 e.2 y := by
  have tk : ∀ {x : Opd}, tko s = some x → ∀ j, x = .t j → x.same y = false := fun {x} hx j hj => h x (by unfold tkT; rw [hx, hj]; simp [tkT1])
  cases s <;> simp only [upd] <;> first | rfl | skip
  case take x => exact rd_takeU rfl (tk rfl)
  case box _ x => exact rd_takeU rfl (tk rfl)
  case store _ _ x => exact rd_takeU rfl (tk rfl)
  case storeS _ _ x _ => exact rd_takeU rfl (tk rfl)
  case subl _ x _ => exact rd_takeU rfl (tk rfl)
  case app _ _ x _ => exact rd_takeU rfl (tk rfl)
  case ext i x => exact rd_extU (tk rfl)

/-- a step's changes, wherever what it looks at is the same -/
theorem stepA_frame {a : AOp} {e : List D × List D} {st : St} {S1 : S3} (h : stepA R a (e, st) = some S1) :
    ∃ U st1, S1 = (apU U e, st1) ∧ (∀ p ∈ U, p.1 ∈ wrsP a ∨ tko a.op = some p.1) ∧ (keeps a.op = true → st1 = st) ∧
      (∀ y, (∀ x ∈ wrsP a, x.same y = false) → (∀ x ∈ tkT a.op, x.same y = false) → rd (apU U e).1 (apU U e).2 y = rd e.1 e.2 y) ∧
      (st1 = st ∨ evOp R e.1 e.2 st a.op ≠ none) ∧
      (∀ z, a.op = .alloc false z → More st st1) ∧ (∀ sz p x ys, a.op = .storeS sz p x ys → ∀ y ∈ ys, ∀ r i o, rd e.1 e.2 y = .ptr r i o → getB st1 r = getB st r) ∧
      ∀ (e2 : List D × List D) st2, (∀ x ∈ opds a.op, rd e2.1 e2.2 x = rd e.1 e.2 x) → (∀ x ∈ rawP a, raw e2.1 e2.2 x = raw e.1 e.2 x) → FrOk e.1 e.2 st st2 a.op → stepA R a (e2, st2) = some (apU U e2, if keeps a.op = true then st2 else st1) := by
  unfold stepA at h
  obtain ⟨b, h1, h2⟩ := bind_some' h
  have want : ∀ e2 : List D × List D, (∀ x ∈ rawP a, raw e2.1 e2.2 x = raw e.1 e.2 x) → wantO e2.2 a.g = some b := fun e2 hr => by
    rw [← h1]
    cases hg : a.g with
    | none => rfl
    | some p =>
      have := hr (.t p.1) (by simp [rawP, hg, guardP])
      simp only [raw] at this
      simp only [wantO, this]
  have putRd : ∀ (d : D) (e' : List D × List D) (y : Opd), (∀ x ∈ wrsP a, x.same y = false) → rd (apU (putU a.j a.dst d) e').1 (apU (putU a.j a.dst d) e').2 y = rd e'.1 e'.2 y := fun d e' y hy => by
    unfold rd
    congr 1
    exact raw_apU fun p hp => hy _ (putU_places hp)
  split at h2
  · rename_i hb
    obtain ⟨q, h3, rfl⟩ := map_some' h2
    have fr : ∀ (e2 : List D × List D) st2, (∀ x ∈ opds a.op, rd e2.1 e2.2 x = rd e.1 e.2 x) → (∀ x ∈ rawP a, raw e2.1 e2.2 x = raw e.1 e.2 x) → FrOk e.1 e.2 st st2 a.op → _ := fun e2 st2 hr hw hs =>
      evOp_frame (env2 := e2.1) (ts2 := e2.2) (st2 := st2) (k := 0) h3 (fun x hx => by rw [shOpd_zero]; exact hr x hx) (fun x hx => shOpd_sh0 (hw x (by simp [rawP, hx]))) hs
    have base := fr e st (fun x _ => rfl) (fun x _ => rfl) (.inr (.inl rfl))
    refine ⟨upd e.1 e.2 a.op ++ putU a.j a.dst q.1, q.2.2.2, ?_, fun p hp => ?_, base.2.1, fun y hy hy2 => ?_, .inr (by rw [show evOp R e.1 e.2 st a.op = some q from h3]; simp), fun z hz => ?_, fun sz p x ys hz y hy r i o hp => ?_, fun e2 st2 hr hw hs => ?_⟩
    · rw [apU_append]
      rw [base.1]
    · rcases List.mem_append.1 hp with hp | hp
      · obtain ⟨x, h4, h5⟩ := upd_places hp
        right; rw [h4, h5]
      · exact .inl (putU_places hp)
    · rw [apU_append, putRd _ _ y hy]
      exact rd_upd hy2
    · rw [hz] at h3
      simp only [evOp, Bool.false_eq_true, if_false] at h3
      cases h3
      intro r b hg
      simp only
      rw [getB_addB, if_neg]
      · exact hg
      · rintro rfl; rw [addB_none] at hg; cases hg
    · rw [hz] at h3
      simp only [evOp] at h3
      split at h3 <;> first | (cases h3; done) | skip
      rename_i hsep
      obtain ⟨st', h4, rfl⟩ := map_some' h3
      simp only
      unfold opStore at h4
      split at h4 <;> first | (cases h4; done) | skip
      rename_i r0 i0 o0 hp0
      rw [hp0] at hsep
      have hne : r ≠ r0 := by
        have : ∀ (ds : List D), sepD (.ptr r0 i0 o0) ds = true → .ptr r i o ∈ ds → r ≠ r0 := by
          intro ds
          induction ds with
          | nil => intro _ hm; simp at hm
          | cons d ds ih =>
            intro hs hm
            rcases List.mem_cons.1 hm with e' | e'
            · subst e'
              simp only [sepD, Bool.and_eq_true, decide_eq_true_eq] at hs
              exact hs.1
            · unfold sepD at hs
              split at hs
              · simp at *
              · rename_i h5 h6; cases h6; simp only [Bool.and_eq_true] at hs; cases h5; exact ih hs.2 e'
              · rename_i h5 h6; cases h6; cases h5; exact ih hs e'
              · rename_i h5 h6; cases h6; cases h5; exact ih hs e'
              · cases hs
        exact this _ hsep (List.mem_map.2 ⟨y, hy, hp⟩)
      obtain ⟨xs, h5, h6⟩ := bind_some' h4
      obtain ⟨d, h7, h8⟩ := bind_some' h6
      split at h8 <;> cases h8
      cases hb0 : getB st r0 with
      | none => rw [hb0] at h5; cases h5
      | some b0 => rw [getB_setB _ hb0, if_neg hne]
    · obtain ⟨_, _, u, h4, h5⟩ := fr e2 st2 hr hw hs
      have e0 : shOp 0 a.op = a.op := mapOp_id shOpd_zero _
      rw [e0] at h4
      have h6 : shU 0 (upd e.1 e.2 a.op) = upd e.1 e.2 a.op := by
        unfold shU
        have : ∀ l : Up, (l.map fun p => (shOpd 0 p.1, p.2)) = l := fun l => by
          induction l with
          | nil => rfl
          | cons p l ih => rw [List.map_cons, ih, shOpd_zero]
        exact this _
      rw [h6] at h5
      subst h5
      unfold stepA
      simp only [want e2 hw, Option.bind_some]
      rw [if_pos hb, h4]
      simp only [Option.map_some, apU_append]
  · rename_i hb
    cases h2
    refine ⟨putU a.j a.dst (.tup []), st, rfl, fun p hp => .inl (putU_places hp), fun _ => rfl, fun y hy hy2 => putRd _ _ y hy, .inl rfl, fun z _ => fun r b h => h, fun sz p x ys _ y _ r i o _ => rfl, fun e2 st2 hr hw hs => ?_⟩
    unfold stepA
    simp only [want e2 hw, Option.bind_some]
    rw [if_neg hb]
    split
    · rfl
    · rename_i hbl
      rw [hs.same (by simpa using hbl)]

theorem same_comm (x y : Opd) : x.same y = y.same x := by
  cases x <;> cases y <;> simp only [Opd.same]
  · exact Bool.beq_comm
  · exact Bool.beq_comm
theorem eqO_eq {x y : Opd} (h : x.eqO y = true) : x = y := by
  cases x <;> cases y <;> simp [Opd.eqO] at h <;> rw [h]
theorem clear_frame {a b : AOp} (hc : clear a b = true) {e : List D × List D} {U : Up} (u1 : ∀ p ∈ U, p.1 ∈ wrsP a ∨ tko a.op = some p.1)
    (u2 : ∀ y, (∀ x ∈ wrsP a, x.same y = false) → (∀ x ∈ tkT a.op, x.same y = false) → rd (apU U e).1 (apU U e).2 y = rd e.1 e.2 y) :
    (∀ x ∈ opds b.op, rd (apU U e).1 (apU U e).2 x = rd e.1 e.2 x) ∧ (∀ x ∈ rawP b, raw (apU U e).1 (apU U e).2 x = raw e.1 e.2 x) := by
  simp only [clear, Bool.and_eq_true] at hc
  obtain ⟨⟨⟨c1, c2⟩, c3⟩, c4⟩ := hc
  refine ⟨fun x hx => u2 x (fun y hy => apart_at c1 hy hx) (fun y hy => apart_at c3 hy hx), fun x hx => raw_apU fun p hp => ?_⟩
  rcases u1 p hp with h | h
  · exact apart_at c2 h hx
  · exact apart_at c4 (by rw [h]; simp) hx
theorem step_commA {a b : AOp} (hc : commA a b = true) {S S1 S2 : S3} (h1 : stepA R a S = some S1) (h2 : stepA R b S1 = some S2) : ∃ S1', stepA R b S = some S1' ∧ stepA R a S1' = some S2 := by
  simp only [commA, Bool.and_eq_true, Bool.or_eq_true] at hc
  obtain ⟨⟨⟨⟨⟨⟨⟨⟨c1, c2⟩, c3⟩, c4⟩, c5⟩, c6⟩, c7⟩, c8⟩, c9⟩ := hc
  obtain ⟨e, st⟩ := S
  obtain ⟨U, st1, rfl, u1, u2, u3, u4, u5, u6, u7⟩ := stepA_frame h1
  obtain ⟨V, st2, rfl, v1, v2, v3, v4, v5, v6, v7⟩ := stepA_frame h2
  obtain ⟨r1, r2⟩ := clear_frame c1 u1 u3
  simp only [stOk2, Bool.or_eq_true] at c8
  have hb : FrOk (apU U e).1 (apU U e).2 st1 st b.op := by
    rcases c8 with c | c
    · exact .inr (.inl (u2 c).symm)
    · exact .inl c
  have k1 := v7 e st (fun x hx => (r1 x hx).symm) (fun x hx => (r2 x hx).symm) hb
  refine ⟨_, k1, ?_⟩
  obtain ⟨V', st2', e1, w1, w2, w3, w4, w5, w6, w7⟩ := stepA_frame k1
  have hrd : (∀ x ∈ opds a.op, rd (apU V e).1 (apU V e).2 x = rd e.1 e.2 x) ∧ (∀ x ∈ rawP a, raw (apU V e).1 (apU V e).2 x = raw e.1 e.2 x) := by
    have e2 : apU V e = apU V' e := congrArg Prod.fst e1
    rw [e2]
    exact clear_frame c2 w1 w3
  have est : (if keeps b.op = true then st else st2) = st2' := congrArg Prod.snd e1
  have ha : FrOk e.1 e.2 st (if keeps b.op = true then st else st2) a.op := by
    by_cases hk : keeps b.op = true
    · rw [if_pos hk]; exact .inr (.inl rfl)
    · simp only [stOk, Bool.or_eq_true] at c7
      rw [est]
      rcases c7 with (c | c) | c
      · exact absurd c hk
      · exact .inl c
      · split at c
        · rename_i z hz
          exact .inr (.inr (.inl ⟨c, w5 z hz⟩))
        · rename_i sz p x ys hz
          split at c <;> first | (cases c; done) | skip
          · rename_i sz2 y ha2
            obtain ⟨y', hy, hy2⟩ := List.any_eq_true.1 c
            have := eqO_eq hy2
            subst this
            exact .inr (.inr (.inr ⟨sz2, y, .inl ha2, fun r i o hp => w6 sz p x ys hz y hy r i o hp⟩))
          · rename_i y sz2 a2 ha2
            obtain ⟨y', hy, hy2⟩ := List.any_eq_true.1 c
            have := eqO_eq hy2
            subst this
            exact .inr (.inr (.inr ⟨sz2, y, .inr ⟨a2, ha2⟩, fun r i o hp => w6 sz p x ys hz y hy r i o hp⟩))
        · cases c
  have k2 := u7 (apU V e) _ hrd.1 hrd.2 ha
  rw [k2]
  have e1 : apU U (apU V e) = apU V (apU U e) := (apU_comm fun p hp q hq => by
    rcases u1 p hp with h | h <;> rcases v1 q hq with h' | h'
    · exact apart_at c3 h h'
    · exact apart_at c4 h (by rw [h']; simp)
    · exact apart_at c5 (by rw [h]; simp) h'
    · exact apart_at c6 (by rw [h]; simp) (by rw [h']; simp)).symm
  rw [e1]
  have e2 : (if keeps a.op = true then (if keeps b.op = true then st else st2) else st1) = st2 := by
    by_cases hA : keeps a.op = true
    · rw [if_pos hA]
      split
      · rename_i hB; rw [v2 hB, u2 hA]
      · rfl
    · rw [if_neg hA]
      rcases c9 with c | c
      · exact absurd c hA
      · exact (v2 c).symm
  rw [e2]

/-! ### Two parts of one tuple -/
def wkL (i : Nat) (ds : List D) : D → List D
  | .lin z xs => ds.set i (.v (.slc z xs))
  | _ => ds
theorem ext_step {a : AOp} {i k : Nat} (hg : a.g = none) (ho : a.op = .ext i (.t k)) {e : List D × List D} {st : St} {S1 : S3} :
    stepA R a (e, st) = some S1 ↔ ∃ ds d, getT e.2 k = .tup ds ∧ ds[i]? = some d ∧ S1 = (apU (putU a.j a.dst (extV1 true d)) (ap1 (.t k, .tup (wkL i ds d)) e), st) := by
  unfold stepA
  rw [hg, ho]
  simp only [wantO, Option.bind_some, if_true, evOp, extD, raw]
  have self : ∀ (l : List D) (k : Nat), l.set k (getT l k) = l := by
    intro l
    induction l with
    | nil => intro k; rfl
    | cons d l ih => intro k; cases k with
      | zero => rfl
      | succ k => simp only [List.set_cons_succ, getT, ih]
  constructor
  · intro h
    obtain ⟨q, h1, rfl⟩ := map_some' h
    split at h1 <;> first | (cases h1; done) | skip
    · rename_i j ds hx hd
      cases hx
      obtain ⟨d, h2, rfl⟩ := map_some' h1
      refine ⟨ds, d, hd, h2, ?_⟩
      have : ∀ l : List D, getT l k = .tup ds → l.set k (.tup ds) = l := fun l hl => by rw [← hl]; exact self l k
      have e3 := this e.2 hd
      cases d <;> simp [extL, extV1, wkL, ap1, e3]
    · rename_i hn
      exact (hn k rfl).elim
  · rintro ⟨ds, d, hd, h2, rfl⟩
    rw [hd]
    simp only [h2, Option.map_some]
    have : ∀ l : List D, getT l k = .tup ds → l.set k (.tup ds) = l := fun l hl => by rw [← hl]; exact self l k
    have e3 := this e.2 hd
    cases d <;> simp [extL, extV1, wkL, ap1, e3]
theorem wkL_other {i i' : Nat} {ds : List D} {d : D} (h : i ≠ i') : (wkL i ds d)[i']? = ds[i']? := by
  cases d <;> first | rfl | (simp only [wkL]; exact List.getElem?_set_ne h)
theorem wkL_comm {i i' : Nat} {ds : List D} {d d' : D} (h : i ≠ i') : wkL i' (wkL i ds d) d' = wkL i (wkL i' ds d') d := by
  cases d <;> cases d' <;> first | rfl | (simp only [wkL]; exact List.set_comm _ _ h)
theorem step_commX {a b : AOp} (hc : commX a b = true) {S S1 S2 : S3} (h1 : stepA R a S = some S1) (h2 : stepA R b S1 = some S2) : ∃ S1', stepA R b S = some S1' ∧ stepA R a S1' = some S2 := by
  unfold commX at hc
  split at hc <;> first | (cases hc; done) | skip
  rename_i i k i' k' ha hb
  simp only [Bool.and_eq_true, beq_iff_eq, bne_iff_ne, ne_eq, Option.isNone_iff_eq_none] at hc
  obtain ⟨⟨⟨⟨⟨⟨rfl, hi⟩, ga⟩, gb⟩, ja⟩, jb⟩, hw⟩ := hc
  obtain ⟨e, st⟩ := S
  obtain ⟨ds, d, t1, t2, rfl⟩ := (ext_step ga ha).1 h1
  have hlen : k < e.2.length := by
    refine Classical.byContradiction fun hn => ?_
    rw [getT_nil (by omega)] at t1; cases t1
  have putN : ∀ (c : AOp) (x : D) (e' : List D × List D), c.j ≠ k → getT (apU (putU c.j c.dst x) e').2 k = getT e'.2 k := fun c x e' hj => by
    have := raw_apU (x := .t k) (U := putU c.j c.dst x) (e := e') fun p hp => by
      have := putU_places hp
      rcases List.mem_cons.1 this with h | h
      · rw [h]; simpa [Opd.same] using hj
      · cases hd : c.dst <;> rw [hd] at h <;> simp [varP] at h
        rw [h]; rfl
    exact this
  have apN : ∀ (c : AOp) (x y : D) (e' : List D × List D), c.j ≠ k → apU (putU c.j c.dst x) (ap1 (.t k, y) e') = ap1 (.t k, y) (apU (putU c.j c.dst x) e') := fun c x y e' hj => by
    refine apU_ap1 fun p hp => ?_
    have := putU_places hp
    rcases List.mem_cons.1 this with h | h
    · rw [h]; simpa [Opd.same] using Ne.symm hj
    · cases hd : c.dst <;> rw [hd] at h <;> simp [varP] at h
      rw [h]; rfl
  have setk : ∀ (e' : List D × List D) (y : D), k < e'.2.length → getT (ap1 (.t k, y) e').2 k = y := fun e' y hl => by
    simp only [ap1]; rw [getT_set, if_pos ⟨rfl, hl⟩]
  have lenp : ∀ (u : Up) (e' : List D × List D), (apU u e').2.length = e'.2.length := by
    intro u
    induction u with
    | nil => intro e'; rfl
    | cons p u ih => intro e'; simp only [apU]; rw [ih]; obtain ⟨p, d⟩ := p; cases p <;> simp [ap1]
  obtain ⟨ds2, d2, t3, t4, rfl⟩ := (ext_step gb hb).1 h2
  rw [putN a _ _ ja, setk _ _ hlen] at t3
  cases t3
  rw [wkL_other hi] at t4
  refine ⟨_, (ext_step gb hb).2 ⟨ds, d2, t1, t4, rfl⟩, (ext_step ga ha).2 ⟨wkL i' ds d2, d, ?_, ?_, ?_⟩⟩
  · rw [putN b _ _ jb, setk _ _ hlen]
  · rw [wkL_other (Ne.symm hi)]; exact t2
  · rw [wkL_comm hi]
    congr 1
    simp only [apN b _ _ _ jb, apN a _ _ _ ja]
    have dbl : ∀ (x y : D) (e' : List D × List D), ap1 (.t k, y) (ap1 (.t k, x) e') = ap1 (.t k, y) e' := fun x y e' => by simp [ap1]
    rw [dbl, dbl]
    congr 1
    exact apU_comm fun p hp q hq => apart_at hw (putU_places hp) (putU_places hq)
theorem step_comm {a b : AOp} (hc : comm a b = true) {S S1 S2 : S3} (h1 : stepA R a S = some S1) (h2 : stepA R b S1 = some S2) : ∃ S1', stepA R b S = some S1' ∧ stepA R a S1' = some S2 := by
  simp only [comm, Bool.or_eq_true] at hc
  rcases hc with hc | hc
  · exact step_commA hc h1 h2
  · exact step_commX hc h1 h2
/-- one that may change places with all ahead of it may come first -/
theorem run_front {a : AOp} : ∀ {l1 l2 : List AOp} {S S' : S3}, runA R (l1 ++ a :: l2) S = some S' → (∀ b ∈ l1, comm b a = true) → ∃ S1, stepA R a S = some S1 ∧ runA R (l1 ++ l2) S1 = some S'
  | [], l2, S, S', h, _ => by
    simp only [List.nil_append, runA] at h ⊢
    exact bind_some' h
  | b :: l1, l2, S, S', h, hc => by
    simp only [List.cons_append, runA] at h ⊢
    obtain ⟨S0, h1, h2⟩ := bind_some' h
    obtain ⟨S1, h3, h4⟩ := run_front h2 (fun b hb => hc b (by simp [hb]))
    obtain ⟨S1', h5, h6⟩ := step_comm (hc b (by simp)) h1 h3
    exact ⟨S1', h5, by rw [h6]; exact h4⟩
end

/-! ### One after the other, at places of their own -/
def absO (m i : Nat) (s : SOper) : AOp := ⟨s.g.map fun p => (p.1 + (m - i), p.2), s.dst, shOp (m - i) s.op, m - 1 - i⟩
def absL (m : Nat) : Nat → List SOper → List AOp
  | _, [] => []
  | i, s :: l => absO m i s :: absL m (i + 1) l
theorem getT_pre (pre ts : List D) (j : Nat) : getT (pre ++ ts) (j + pre.length) = getT ts j := by
  induction pre with
  | nil => rfl
  | cons d pre ih => exact ih
theorem set_pre (pre ts : List D) (j : Nat) (d : D) : (pre ++ ts).set (j + pre.length) d = pre ++ ts.set j d := by
  induction pre with
  | nil => rfl
  | cons c pre ih => simp only [List.cons_append, List.length_cons, ← Nat.add_assoc, List.set_cons_succ, ih]
theorem apU_pre {pre : List D} : ∀ {U : Up} {e : List D × List D}, apU (shU pre.length U) (e.1, pre ++ e.2) = ((apU U e).1, pre ++ (apU U e).2)
  | [], e => rfl
  | p :: U, e => by
    obtain ⟨y, d⟩ := p
    have : ap1 (shOpd pre.length y, d) (e.1, pre ++ e.2) = ((ap1 (y, d) e).1, pre ++ (ap1 (y, d) e).2) := by
      cases y <;> simp only [shOpd, ap1, set_pre]
    simp only [shU, List.map_cons, apU, this]
    exact apU_pre (U := U)
section
variable {R : Run}
theorem sim (hL : RLen R) {m : Nat} : ∀ (l : List SOper) (i : Nat) (env ts : List D) (st : St) (r : List D × List D × St), st ≠ [] → i + l.length = m → ts.length = i → evOps R l env ts st = some r →
    runA R (absL m i l) ((env, List.replicate (m - i) .undef ++ ts), st) = some ((r.1, r.2.1), r.2.2) ∧ r.2.1.length = m
  | [], i, env, ts, st, r, hst, hm, hts, h => by
    simp only [evOps] at h; cases h
    have : m - i = 0 := by simp at hm; omega
    simp only [absL, runA, this, List.replicate_zero, List.nil_append]
    simp at hm
    exact ⟨trivial, by omega⟩
  | s :: l, i, env, ts, st, r, hst, hm, hts, h => by
    simp only [evOps] at h
    obtain ⟨b, h1, h2⟩ := bind_some' h
    have hlen : (List.replicate (m - i) D.undef).length = m - i := by simp
    have hmi : m - i = (m - (i + 1)) + 1 := by simp at hm; omega
    have hw : wantO (List.replicate (m - i) .undef ++ ts) (absO m i s).g = some b := by
      rw [← h1]
      simp only [absO]
      cases s.g with
      | none => rfl
      | some p =>
        simp only [Option.map_some, wantO]
        have := getT_pre (List.replicate (m - i) .undef) ts p.1
        rw [hlen] at this
        rw [this]
    -- the place
    have place : ∀ (env' ts' : List D) (d : D), ts'.length = i → apU (putU (m - 1 - i) s.dst d) (env', List.replicate (m - i) .undef ++ ts') = ((putD d env' ts' s.dst).1, List.replicate (m - (i + 1)) .undef ++ (putD d env' ts' s.dst).2) := fun env' ts' d hl => by
      have hs : ∀ x : D, (List.replicate (m - i) D.undef ++ ts').set (m - 1 - i) x = List.replicate (m - (i + 1)) .undef ++ (x :: ts') := fun x => by
        have e : List.replicate (m - i) D.undef ++ ts' = List.replicate (m - (i + 1)) .undef ++ (.undef :: ts') := by
          rw [hmi, List.replicate_succ']; simp
        rw [e]
        have := set_pre (List.replicate (m - (i + 1)) .undef) (.undef :: ts') 0 x
        simp only [List.length_replicate, Nat.zero_add, List.set_cons_zero] at this
        have e2 : m - 1 - i = m - (i + 1) := by omega
        rw [e2]; exact this
      cases s.dst <;> simp only [putU, apU, ap1, putD, outD, hs]
    simp only [absL, runA, stepA]
    rw [hw]
    simp only [Option.bind_some]
    split at h2
    · rename_i hb
      rw [if_pos hb]
      obtain ⟨q, h3, h4⟩ := bind_some' h2
      have lens := evOp_len hL hst h3
      have hst' : q.2.2.2 ≠ [] := fun e => by have := lens.2.2; rw [e] at this; exact hst (List.length_eq_zero_iff.1 this.symm)
      obtain ⟨f1, _, u, f2, f3⟩ := evOp_frame (env2 := env) (ts2 := List.replicate (m - i) .undef ++ ts) (st2 := st) (k := m - i) h3 (fun x hx => by
        unfold rd
        congr 1
        cases x <;> first | rfl | skip
        have := getT_pre (List.replicate (m - i) .undef) ts
        rw [hlen] at this
        exact this _) (fun x hx => by
        cases x <;> first | rfl | skip
        have := getT_pre (List.replicate (m - i) .undef) ts
        rw [hlen] at this
        exact this _) (.inr (.inl rfl))
      have f4 : (if keeps s.op = true then st else q.2.2.2) = q.2.2.2 := by
        split
        · rename_i hbl; exact ((evOp_frame (env2 := env) (ts2 := List.replicate (m - i) .undef ++ ts) (st2 := st) (k := m - i) h3 (fun x hx => by
            unfold rd
            congr 1
            cases x <;> first | rfl | skip
            have := getT_pre (List.replicate (m - i) .undef) ts
            rw [hlen] at this
            exact this _) (fun x hx => by
            cases x <;> first | rfl | skip
            have := getT_pre (List.replicate (m - i) .undef) ts
            rw [hlen] at this
            exact this _) (.inr (.inl rfl))).2.1 hbl).symm
        · rfl
      rw [f4] at f2
      have f5 := apU_pre (pre := List.replicate (m - i) .undef) (U := upd env ts s.op) (e := (env, ts))
      rw [hlen, ← f3, ← f1] at f5
      simp only at f5
      rw [f5] at f2
      simp only [absO]
      rw [f2]
      simp only [Option.map_some, Option.bind_some]
      rw [place _ _ _ (by rw [lens.2.1]; exact hts)]
      exact sim hL l (i + 1) _ _ _ r hst' (by simp at hm; omega) (by rw [(putD_len _ _ _ _).2, lens.2.1, hts]) h4
    · rename_i hb
      rw [if_neg hb]
      simp only [absO, Option.bind_some]
      rw [place _ _ _ hts]
      exact sim hL l (i + 1) _ _ _ r hst (by simp at hm; omega) (by rw [(putD_len _ _ _ _).2, hts]) h2
theorem absL_len (m : Nat) : ∀ (l : List SOper) (i : Nat), (absL m i l).length = l.length
  | [], _ => rfl
  | s :: l, i => by simp [absL, absL_len m l (i + 1)]
theorem absL_at (m : Nat) : ∀ (l : List SOper) (i k : Nat), (absL m i l)[k]? = (l[k]?).map (absO m (i + k))
  | [], _, _ => by simp [absL]
  | s :: l, i, 0 => rfl
  | s :: l, i, k + 1 => by simp only [absL, List.getElem?_cons_succ]; rw [absL_at m l (i + 1) k]; congr 2; omega
end
end Go.Q
