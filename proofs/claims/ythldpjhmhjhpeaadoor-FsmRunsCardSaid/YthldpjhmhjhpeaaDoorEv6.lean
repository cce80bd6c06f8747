/- What an operation looks at and what it changes: it does the same wherever that is the same. No condition. -/
import Derived.Test.YthldpjhmhjhpeaaDoorEv1
import Derived.Orders
set_option linter.unusedVariables false
set_option linter.unusedSimpArgs false
set_option linter.unusedSectionVars false
namespace Go.Q
variable [Known]

def shOpd (k : Nat) : Opd → Opd
  | .t j => .t (j + k)
  | o => o
theorem shOpd_zero (x : Opd) : shOpd 0 x = x := by cases x <;> rfl
def mapOp (ρ : Opd → Opd) : SOp → SOp
  | .mov x => .mov (ρ x)
  | .take x => .take (ρ x)
  | .pick c a b => .pick (ρ c) (ρ a) (ρ b)
  | .alloc e z => .alloc e z
  | .box e x => .box e (ρ x)
  | .build zs ps => .build zs (ps.map fun p => (p.1, p.2.1, ρ p.2.2))
  | .lit sz xs => .lit sz (xs.map ρ)
  | .load s a => .load s (ρ a)
  | .loadR y s a => .loadR (ρ y) s (ρ a)
  | .store s a x => .store s (ρ a) (ρ x)
  | .storeS s a x ys => .storeS s (ρ a) (ρ x) (ys.map ρ)
  | .bin o x y => .bin o (ρ x) (ρ y)
  | .eq d n x y => .eq d n (ρ x) (ρ y)
  | .un o x => .un o (ρ x)
  | .cvi d x => .cvi d (ρ x)
  | .s2b x => .s2b (ρ x)
  | .b2s x => .b2s (ρ x)
  | .sub s x l h m => .sub s (ρ x) (l.map ρ) (h.map ρ) (m.map ρ)
  | .subA s x l h m => .subA s (ρ x) (l.map ρ) (h.map ρ) (m.map ρ)
  | .fa o x => .fa o (ρ x)
  | .fld o s x => .fld o s (ρ x)
  | .ia s x i => .ia s (ρ x) (ρ i)
  | .iaA l s x i => .iaA l s (ρ x) (ρ i)
  | .idx x i => .idx (ρ x) (ρ i)
  | .idxA l s a x i => .idxA l s a (ρ x) (ρ i)
  | .len x => .len (ρ x)
  | .capn x => .capn (ρ x)
  | .lens x => .lens (ρ x)
  | .mkmap e => .mkmap e
  | .look kd ok z x y => .look kd ok z (ρ x) (ρ y)
  | .mupd kd x y v => .mupd kd (ρ x) (ρ y) (ρ v)
  | .lenm x => .lenm (ρ x)
  | .subs x l h => .subs (ρ x) (l.map ρ) (h.map ρ)
  | .cst d => .cst d
  | .subl s x l => .subl s (ρ x) (ρ l)
  | .app s b x y => .app s b (ρ x) (ρ y)
  | .cpy s x y => .cpy s (ρ x) (ρ y)
  | .make s b z n c => .make s b z (ρ n) (ρ c)
  | .call g f xs => .call g f (xs.map ρ)
  | .callv f xs => .callv (ρ f) (xs.map ρ)
  | .mkf f a b => .mkf f (a.map ρ) (b.map ρ)
  | .mki t x => .mki t (ρ x)
  | .ext i x => .ext i (ρ x)
  | .s2a n x => .s2a n (ρ x)
  | .mx x y => .mx (ρ x) (ρ y)
  | .mn x y => .mn (ρ x) (ρ y)
  | .clr sz z x => .clr sz z (ρ x)
  | .die => .die
abbrev shOp (k : Nat) : SOp → SOp := mapOp (shOpd k)
theorem mapOp_id {ρ : Opd → Opd} (h : ∀ x, ρ x = x) (s : SOp) : mapOp ρ s = s := by
  have h1 : ∀ l : List Opd, l.map ρ = l := fun l => by induction l with
    | nil => rfl
    | cons a l ih => rw [List.map_cons, h, ih]
  have h2 : ∀ o : Option Opd, o.map ρ = o := fun o => by cases o <;> simp [h]
  have h3 : ∀ l : List (Nat × Nat × Opd), (l.map fun p => (p.1, p.2.1, ρ p.2.2)) = l := fun l => by induction l with
    | nil => rfl
    | cons a l ih => rw [List.map_cons, h, ih]
  cases s <;> simp only [mapOp, h1, h2, h3] <;> simp only [h]

/-- what is read -/
def opds : SOp → List Opd
  | .mov x => [x]
  | .pick c a b => [c, a, b]
  | .build _ ps => ps.map (·.2.2)
  | .lit _ xs => xs
  | .load _ a => [a]
  | .loadR y _ a => [y, a]
  | .store _ a _ => [a]
  | .storeS _ a _ ys => a :: ys
  | .bin _ x y => [x, y]
  | .eq _ _ x y => [x, y]
  | .un _ x => [x]
  | .cvi _ x => [x]
  | .s2b x => [x]
  | .b2s x => [x]
  | .sub _ x l h m => x :: (l.toList ++ h.toList ++ m.toList)
  | .subA _ x l h m => x :: (l.toList ++ h.toList ++ m.toList)
  | .fa _ x => [x]
  | .fld _ _ x => [x]
  | .ia _ x i => [x, i]
  | .iaA _ _ x i => [x, i]
  | .idx x i => [x, i]
  | .idxA _ _ _ x i => [x, i]
  | .len x => [x]
  | .capn x => [x]
  | .lens x => [x]
  | .look _ _ _ x y => [x, y]
  | .mupd _ x y v => [x, y, v]
  | .lenm x => [x]
  | .subs x l h => x :: (l.toList ++ h.toList)
  | .subl _ _ l => [l]
  | .app _ _ _ y => [y]
  | .cpy _ x y => [x, y]
  | .make _ _ _ n c => [n, c]
  | .call _ _ xs => xs
  | .callv f xs => f :: xs
  | .mkf _ a b => a ++ b
  | .mki _ x => [x]
  | .s2a _ x => [x]
  | .mx x y => [x, y]
  | .mn x y => [x, y]
  | .clr _ _ x => [x]
  | _ => []
/-- what is taken -/
def tko : SOp → Option Opd
  | .take x => some x
  | .box _ x => some x
  | .store _ _ x => some x
  | .storeS _ _ x _ => some x
  | .subl _ x _ => some x
  | .app _ _ x _ => some x
  | .ext _ x => some x
  | _ => none
/-- the store is not looked at -/
def blind : SOp → Bool
  | .alloc _ _ => false
  | .box _ _ => false
  | .lit _ _ => false
  | .load _ _ => false
  | .loadR _ _ _ => false
  | .store _ _ _ => false
  | .storeS _ _ _ _ => false
  | .b2s _ => false
  | .mkmap _ => false
  | .look _ _ _ _ _ => false
  | .mupd _ _ _ _ => false
  | .lenm _ => false
  | .subl _ _ _ => false
  | .app _ _ _ _ => false
  | .cpy _ _ _ => false
  | .make _ _ _ _ _ => false
  | .call _ _ _ => false
  | .callv _ _ => false
  | .clr _ _ _ => false
  | _ => true
/-- the store stays -/
def keeps : SOp → Bool
  | .alloc _ _ => false
  | .box _ _ => false
  | .store _ _ _ => false
  | .storeS _ _ _ _ => false
  | .cpy _ _ _ => false
  | .make _ _ _ _ _ => false
  | .call g _ _ => !g
  | .callv _ _ => false
  | .clr _ _ _ => false
  | .mkmap _ => false
  | .mupd _ _ _ _ => false
  | _ => true
theorem blind_keeps {s : SOp} (h : blind s = true) : keeps s = true := by cases s <;> first | rfl | (simp [blind] at h; done)

/-! ### Changes of variables and temporaries -/
abbrev Up := List (Opd × D)
def ap1 (p : Opd × D) (e : List D × List D) : List D × List D := match p.1 with
  | .x i => (e.1.set i p.2, e.2)
  | .t j => (e.1, e.2.set j p.2)
  | .c _ => e
def apU : Up → List D × List D → List D × List D
  | [], e => e
  | p :: r, e => apU r (ap1 p e)
theorem apU_append : ∀ (a b : Up) (e : List D × List D), apU (a ++ b) e = apU b (apU a e)
  | [], b, e => rfl
  | p :: a, b, e => apU_append a b _
def takeU : Opd → D → Up
  | .x i, .lin z xs => [(.x i, .v (.slc z xs))]
  | .t j, .lin z xs => [(.t j, .v (.slc z xs))]
  | .t j, .tup ds => [(.t j, .undef)]
  | _, _ => []
def takeV : Opd → D → D
  | .x _, .lin z xs => .lin z xs
  | .t _, .lin z xs => .lin z xs
  | .t _, .tup ds => .tup ds
  | _, d => cp d
def extU1 (i j : Nat) (ds : List D) : Option D → Up
  | some (.lin z xs) => [(.t j, .tup (ds.set i (.v (.slc z xs))))]
  | _ => []
def extU (i : Nat) : Opd → D → Up
  | .t j, .tup ds => extU1 i j ds ds[i]?
  | _, _ => []
def extV1 (tmp : Bool) : D → D
  | .lin z xs => if tmp = true then .lin z xs else .v (.slc z xs)
  | d => cp d
def isT : Opd → Bool
  | .t _ => true
  | _ => false
def extV (i : Nat) : Opd → D → Option D
  | .c _, _ => none
  | x, .tup ds => (ds[i]?).map (extV1 (isT x))
  | _, _ => none
def upd (env ts : List D) : SOp → Up
  | .take x => takeU x (raw env ts x)
  | .box _ x => takeU x (raw env ts x)
  | .store _ _ x => takeU x (raw env ts x)
  | .storeS _ _ x _ => takeU x (raw env ts x)
  | .subl _ x _ => takeU x (raw env ts x)
  | .app _ _ x _ => takeU x (raw env ts x)
  | .ext i x => extU i x (raw env ts x)
  | _ => []
def shU (k : Nat) (u : Up) : Up := u.map fun p => (shOpd k p.1, p.2)

section
variable {R : Run} {env ts env2 ts2 : List D} {st st2 : St} {q : Rg} {k : Nat}
theorem takeO_eq (env ts : List D) (x : Opd) : takeO env ts x = (takeV x (raw env ts x), apU (takeU x (raw env ts x)) (env, ts)) := by
  unfold takeO
  generalize raw env ts x = d
  cases x <;> cases d <;> rfl
theorem takeU_sh (x : Opd) (d : D) : takeU (shOpd k x) d = shU k (takeU x d) := by cases x <;> cases d <;> rfl
theorem takeV_sh (x : Opd) (d : D) : takeV (shOpd k x) d = takeV x d := by cases x <;> cases d <;> rfl
theorem extU_sh (i : Nat) (x : Opd) (d : D) : extU i (shOpd k x) d = shU k (extU i x d) := by
  cases x <;> cases d <;> first | rfl | skip
  rename_i j ds
  simp only [shOpd, extU]
  cases ds[i]? with
  | none => rfl
  | some d => cases d <;> rfl

theorem rds_eq : ∀ {ys : List Opd}, (∀ y ∈ ys, rd env2 ts2 (shOpd k y) = rd env ts y) → (ys.map (shOpd k)).map (rd env2 ts2) = ys.map (rd env ts)
  | [], _ => rfl
  | y :: r, h => by
    simp only [List.map_cons]
    rw [h y (by simp), rds_eq (fun j hj => h j (by simp [hj]))]
theorem rdo_eq {y : Option Opd} (h : ∀ x ∈ y.toList, rd env2 ts2 (shOpd k x) = rd env ts x) : (y.map (shOpd k)).map (rd env2 ts2) = y.map (rd env ts) := by
  cases y with
  | none => rfl
  | some y => simp only [Option.map_some]; rw [h y (by simp)]
theorem rdp_eq : ∀ {ys : List (Nat × Nat × Opd)}, (∀ y ∈ ys.map (·.2.2), rd env2 ts2 (shOpd k y) = rd env ts y) → ((ys.map fun p => (p.1, p.2.1, shOpd k p.2.2)).map fun p => (p.1, p.2.1, rd env2 ts2 p.2.2)) = ys.map fun p => (p.1, p.2.1, rd env ts p.2.2)
  | [], _ => rfl
  | y :: r, h => by
    simp only [List.map_cons]
    rw [h y.2.2 (by simp), rdp_eq (fun j hj => h j (by simp only [List.map_cons, List.mem_cons]; exact .inr hj))]

/-- all that lies in the one lies in the other -/
def More (st st2 : St) : Prop := ∀ r b, getB st r = some b → getB st2 r = some b
theorem rdV_more (h : More st st2) {d : D} {x : V} (hd : rdV st d = some x) : rdV st2 d = some x := by
  cases d <;> first | exact hd | skip
  · simp only [rdV, rowV] at hd ⊢
    split at hd <;> first | (cases hd; done) | skip
    rename_i hb
    rw [h _ _ hb]; exact hd
  · simp only [rdV] at hd ⊢
    unfold arrV at hd
    split at hd <;> first | (cases hd; done) | skip
    rename_i hb
    unfold rowAt at hb
    split at hb <;> first | (cases hb; done) | skip
    rename_i hb2
    rw [h _ _ hb2]
    simp only [rowAt, hb, arrV]; exact hd
theorem rdVs_more (h : More st st2) : ∀ {ds : List D} {xs : List V}, rdVs st ds = some xs → rdVs st2 ds = some xs
  | [], xs, hd => hd
  | d :: ds, xs, hd => by
    simp only [rdVs] at hd ⊢
    obtain ⟨x, h1, h2⟩ := bind_some' hd
    obtain ⟨y, h3, rfl⟩ := map_some' h2
    rw [rdV_more h h1, rdVs_more h h3]; rfl
theorem mapOf_more (h : More st st2) {d : D} {es : List (V × D)} (hd : mapOf st d = some es) : mapOf st2 d = some es := by
  unfold mapOf at hd ⊢
  split at hd <;> first | exact hd | skip
  rename_i r
  unfold mpOf at hd
  split at hd <;> cases hd
  rename_i hb
  rw [h _ _ hb]; rfl
theorem elems_more (h : More st st2) {sz : Nat} {d : D} {ys : List V} (hd : elems sz st d = some ys) : elems sz st2 d = some ys := by
  unfold elems at hd ⊢
  split at hd <;> first | exact hd | skip
  rename_i h1 h2
  obtain ⟨x, h3, h4⟩ := bind_some' hd
  rw [rdV_more h h3]; exact h4
/-- when an operation does the same in another store -/
def FrOk (env ts : List D) (st st2 : St) (s : SOp) : Prop := blind s = true ∨ st2 = st ∨ (keeps s = true ∧ More st st2) ∨ ∃ sz y, (s = .load sz y ∨ ∃ a, s = .loadR y sz a) ∧ ∀ r i o, rd env ts y = .ptr r i o → getB st2 r = getB st r
theorem FrOk.same {s : SOp} (h : FrOk env ts st st2 s) (hk : keeps s = false) : st2 = st := by
  rcases h with h | h | h | ⟨sz, y, rfl | ⟨a, rfl⟩, _⟩
  · rw [blind_keeps h] at hk; cases hk
  · exact h
  · rw [h.1] at hk; cases hk
  · cases hk
  · cases hk
theorem FrOk.more {s : SOp} (h : FrOk env ts st st2 s) (hb : blind s = false) (hl : ∀ sz y, s ≠ .load sz y) (hl2 : ∀ y sz a, s ≠ .loadR y sz a) : More st st2 := by
  rcases h with h | h | h | ⟨sz, y, rfl | ⟨a, rfl⟩, _⟩
  · rw [h] at hb; cases hb
  · subst h; exact fun r b h => h
  · exact h.2
  · exact absurd rfl (hl _ _)
  · exact absurd rfl (hl2 _ _ _)

/-- The same is done wherever that is the same which is looked at. -/
theorem evOp_frame {s : SOp} (he : evOp R env ts st s = some q) (hr : ∀ x ∈ opds s, rd env2 ts2 (shOpd k x) = rd env ts x)
    (ht : ∀ x, tko s = some x → raw env2 ts2 (shOpd k x) = raw env ts x) (hs : FrOk env ts st st2 s) :
    (q.2.1, q.2.2.1) = apU (upd env ts s) (env, ts) ∧ (keeps s = true → q.2.2.2 = st) ∧
      ∃ u, evOp R env2 ts2 st2 (shOp k s) = some (q.1, (apU u (env2, ts2)).1, (apU u (env2, ts2)).2, if keeps s = true then st2 else q.2.2.2) ∧ u = shU k (upd env ts s) := by
  have nb : keeps s = false → st2 = st := hs.same
  have simple : ∀ {d : D} {st' : St}, q = (d, env, ts, st') → upd env ts s = [] → (keeps s = true → st' = st) → evOp R env2 ts2 st2 (shOp k s) = some (d, env2, ts2, if keeps s = true then st2 else st') →
      (q.2.1, q.2.2.1) = apU (upd env ts s) (env, ts) ∧ (keeps s = true → q.2.2.2 = st) ∧
      ∃ u, evOp R env2 ts2 st2 (shOp k s) = some (q.1, (apU u (env2, ts2)).1, (apU u (env2, ts2)).2, if keeps s = true then st2 else q.2.2.2) ∧ u = shU k (upd env ts s) := by
    intro d st' e1 e2 e3 e4
    subst e1
    rw [e2]
    exact ⟨rfl, e3, [], e4, rfl⟩
  cases s
  all_goals simp only [opds, List.mem_cons, List.mem_append, List.not_mem_nil, or_false, forall_eq_or_imp, forall_eq] at hr
  all_goals simp only [evOp] at he
  case mov x => cases he; exact simple rfl rfl (fun _ => rfl) (by simp only [mapOp, evOp, hr]; rfl)
  case take x =>
    have h1 := ht x rfl
    cases he
    rw [takeO_eq]
    exact ⟨rfl, fun _ => rfl, _, by simp only [mapOp, evOp, takeO_eq, h1, takeV_sh, takeU_sh]; rfl, rfl⟩
  case pick c a b =>
    obtain ⟨t, h1, h2⟩ := bind_some' he
    have e : evOp R env2 ts2 st2 (shOp k (.pick c a b)) = some (q.1, env2, ts2, st2) := by
      simp only [mapOp, evOp, hr.1, hr.2.1, hr.2.2, h1, Option.bind_some]
      split at h2 <;> (rename_i h3; cases h2; simp [h3])
    split at h2 <;> (cases h2; exact simple rfl rfl (fun _ => rfl) e)
  case alloc esc z =>
    have := nb rfl; subst this
    split at he
    all_goals (rename_i h; cases he; exact simple rfl rfl (fun h => by cases h) (by simp only [mapOp, evOp, h]; rfl))
  case box esc x =>
    have := nb rfl; subst this
    have h1 := ht x rfl
    rw [takeO_eq] at he
    have e : evOp R env2 ts2 st2 (shOp k (.box esc x)) = some (q.1, (apU (shU k (takeU x (raw env ts x))) (env2, ts2)).1, (apU (shU k (takeU x (raw env ts x))) (env2, ts2)).2, q.2.2.2) ∧ (q.2.1, q.2.2.1) = apU (takeU x (raw env ts x)) (env, ts) := by
      simp only [mapOp, evOp, takeO_eq, h1, takeV_sh, takeU_sh]
      split at he <;> first | (cases he; done) | skip
      rename_i c1
      rw [if_neg c1]
      split at he
      · rename_i c2
        rw [if_pos c2]
        split at he <;> first | (cases he; done) | skip
        rename_i c3
        rw [if_neg c3]
        cases he
        exact ⟨rfl, rfl⟩
      · rename_i c2
        rw [if_neg c2]
        cases he
        exact ⟨rfl, rfl⟩
    exact ⟨e.2, (fun h => by cases h), _, e.1, rfl⟩
  case build zs ps => obtain ⟨d, h1, rfl⟩ := map_some' he; exact simple rfl rfl (fun _ => rfl) (by simp only [mapOp, evOp]; rw [rdp_eq hr, h1]; rfl)
  case lit sz xs =>
    have hm := hs.more rfl (fun _ _ h => by cases h) (fun _ _ _ h => by cases h)
    split at he <;> first | (cases he; done) | skip
    rename_i hrow
    obtain ⟨ys, h1, h2⟩ := bind_some' he
    split at h2 <;> cases h2
    rename_i hz
    refine simple rfl rfl (fun _ => rfl) ?_
    simp only [mapOp, evOp]
    rw [rds_eq hr, if_neg hrow, rdVs_more hm h1]
    simp only [Option.bind_some]
    rw [if_pos hz]; rfl
  case load s a =>
    obtain ⟨d, h1, rfl⟩ := map_some' he
    have h2 : opLoad st2 s (rd env ts a) = some d := by
      unfold opLoad at h1 ⊢
      split at h1 <;> first | (cases h1; done) | exact h1 | skip
      rename_i r i off hp
      obtain ⟨c, h3, h4⟩ := bind_some' h1
      have hg : getB st2 r = getB st r := by
        rcases hs with h | h | h | ⟨sz, y, e, h⟩
        · cases h
        · rw [h]
        · unfold rowAt at h3
          split at h3 <;> first | (cases h3; done) | skip
          rename_i hb
          rw [h.2 _ _ hb, hb]
        · rcases e with e | ⟨_, e⟩
          · cases e; exact h _ _ _ hp
          · cases e
      rw [hg, h3]; exact h4
    exact simple rfl rfl (fun _ => rfl) (by simp only [mapOp, evOp, hr, h2]; rfl)
  case loadR y s a =>
    split at he <;> first | (cases he; done) | skip
    rename_i hsame
    obtain ⟨d, h1, rfl⟩ := map_some' he
    have h2 : opLoad st2 s (rd env ts a) = some d := by
      unfold opLoad at h1 ⊢
      split at h1 <;> first | (cases h1; done) | exact h1 | skip
      rename_i r i off hp
      obtain ⟨c, h3, h4⟩ := bind_some' h1
      have hg : getB st2 r = getB st r := by
        rcases hs with h | h | h | ⟨sz, y', e, h⟩
        · cases h
        · rw [h]
        · unfold rowAt at h3
          split at h3 <;> first | (cases h3; done) | skip
          rename_i hb
          rw [h.2 _ _ hb, hb]
        · rcases e with e | ⟨_, e⟩
          · cases e
          · cases e
            rw [hp] at hsame
            unfold sameR at hsame
            split at hsame <;> first | (cases hsame; done) | skip
            rename_i h5 h6
            cases h6
            rw [of_decide_eq_true hsame] at h5
            exact h _ _ _ h5
      rw [hg, h3]; exact h4
    refine simple rfl rfl (fun _ => rfl) ?_
    simp only [mapOp, evOp]
    rw [hr.1, hr.2, if_pos hsame, h2]; rfl
  case store sz a x =>
    have := nb rfl; subst this
    have h1 := ht x rfl
    rw [takeO_eq] at he
    obtain ⟨d, h2, rfl⟩ := map_some' he
    exact ⟨rfl, (fun h => by cases h), _, by simp only [mapOp, evOp, takeO_eq, h1, takeV_sh, takeU_sh, hr, h2]; rfl, rfl⟩
  case storeS sz a x ys =>
    have := nb rfl; subst this
    have h1 := ht x rfl
    rw [takeO_eq] at he
    split at he <;> first | (cases he; done) | skip
    rename_i hsep
    obtain ⟨d, h2, rfl⟩ := map_some' he
    refine ⟨rfl, (fun h => by cases h), _, ?_, rfl⟩
    simp only [mapOp, evOp]
    rw [rds_eq hr.2, hr.1, if_pos hsep, takeO_eq, h1, takeV_sh, takeU_sh, h2]
    rfl
  case bin o x y => obtain ⟨d, h1, rfl⟩ := map_some' he; exact simple rfl rfl (fun _ => rfl) (by simp only [mapOp, evOp, hr.1, hr.2, h1]; rfl)
  case eq d n x y => obtain ⟨d, h1, rfl⟩ := map_some' he; exact simple rfl rfl (fun _ => rfl) (by simp only [mapOp, evOp, hr.1, hr.2, h1]; rfl)
  case un o x => obtain ⟨d, h1, rfl⟩ := map_some' he; exact simple rfl rfl (fun _ => rfl) (by simp only [mapOp, evOp, hr, h1]; rfl)
  case cvi o x => obtain ⟨d, h1, rfl⟩ := map_some' he; exact simple rfl rfl (fun _ => rfl) (by simp only [mapOp, evOp, hr, h1]; rfl)
  case s2b x => obtain ⟨d, h1, rfl⟩ := map_some' he; exact simple rfl rfl (fun _ => rfl) (by simp only [mapOp, evOp, hr, h1]; rfl)
  case b2s x =>
    have hm := hs.more rfl (fun _ _ h => by cases h) (fun _ _ _ h => by cases h)
    obtain ⟨d, h1, rfl⟩ := map_some' he
    obtain ⟨y, h2, h3⟩ := bind_some' h1
    obtain ⟨z, h4, h5⟩ := bind_some' h2
    exact simple rfl rfl (fun _ => rfl) (by simp only [mapOp, evOp, hr, rdV_more hm h4, Option.bind_some, h5, h3]; rfl)
  case sub s x l h m =>
    obtain ⟨d, h1, rfl⟩ := map_some' he
    refine simple rfl rfl (fun _ => rfl) ?_
    simp only [mapOp, evOp]
    rw [hr.1, rdo_eq (y := l) (fun j hj => hr.2 j (.inl (.inl hj))), rdo_eq (y := h) (fun j hj => hr.2 j (.inl (.inr hj))), rdo_eq (y := m) (fun j hj => hr.2 j (.inr hj)), h1]; rfl
  case subA s x l h m =>
    obtain ⟨d, h1, rfl⟩ := map_some' he
    refine simple rfl rfl (fun _ => rfl) ?_
    simp only [mapOp, evOp]
    rw [hr.1, rdo_eq (y := l) (fun j hj => hr.2 j (.inl (.inl hj))), rdo_eq (y := h) (fun j hj => hr.2 j (.inl (.inr hj))), rdo_eq (y := m) (fun j hj => hr.2 j (.inr hj)), h1]; rfl
  case fa o x => obtain ⟨d, h1, rfl⟩ := map_some' he; exact simple rfl rfl (fun _ => rfl) (by simp only [mapOp, evOp, hr, h1]; rfl)
  case fld o s x => obtain ⟨d, h1, rfl⟩ := map_some' he; exact simple rfl rfl (fun _ => rfl) (by simp only [mapOp, evOp, hr, h1]; rfl)
  case ia s x y => obtain ⟨d, h1, rfl⟩ := map_some' he; exact simple rfl rfl (fun _ => rfl) (by simp only [mapOp, evOp, hr.1, hr.2, h1]; rfl)
  case iaA l s x y => obtain ⟨d, h1, rfl⟩ := map_some' he; exact simple rfl rfl (fun _ => rfl) (by simp only [mapOp, evOp, hr.1, hr.2, h1]; rfl)
  case idx x y => obtain ⟨d, h1, rfl⟩ := map_some' he; exact simple rfl rfl (fun _ => rfl) (by simp only [mapOp, evOp, hr.1, hr.2, h1]; rfl)
  case idxA l s a x y => obtain ⟨d, h1, rfl⟩ := map_some' he; exact simple rfl rfl (fun _ => rfl) (by simp only [mapOp, evOp, hr.1, hr.2, h1]; rfl)
  case len x => obtain ⟨d, h1, rfl⟩ := map_some' he; exact simple rfl rfl (fun _ => rfl) (by simp only [mapOp, evOp, hr, h1]; rfl)
  case capn x => obtain ⟨d, h1, rfl⟩ := map_some' he; exact simple rfl rfl (fun _ => rfl) (by simp only [mapOp, evOp, hr, h1]; rfl)
  case mkmap esc =>
    have := nb rfl; subst this
    split at he
    all_goals (rename_i h; cases he; exact simple rfl rfl (fun h => by cases h) (by simp only [mapOp, evOp, h]; rfl))
  case look kd ok z x y =>
    have hm := hs.more rfl (fun _ _ h => by cases h) (fun _ _ _ h => by cases h)
    obtain ⟨kv, h1, h2⟩ := bind_some' he
    obtain ⟨es, h3, h4⟩ := bind_some' h2
    obtain ⟨d, h5, rfl⟩ := map_some' h4
    exact simple rfl rfl (fun _ => rfl) (by simp only [mapOp, evOp, hr.1, hr.2, h1, mapOf_more hm h3, Option.bind_some, h5]; rfl)
  case mupd kd x y v =>
    have := nb rfl; subst this
    obtain ⟨kv, h1, h2⟩ := bind_some' he
    obtain ⟨st', h3, rfl⟩ := map_some' h2
    exact simple rfl rfl (fun h => by cases h) (by simp only [mapOp, evOp, hr.1, hr.2.1, hr.2.2, h1, Option.bind_some, h3]; rfl)
  case lenm x =>
    have hm := hs.more rfl (fun _ _ h => by cases h) (fun _ _ _ h => by cases h)
    obtain ⟨es, h1, rfl⟩ := map_some' he
    exact simple rfl rfl (fun _ => rfl) (by simp only [mapOp, evOp, hr, mapOf_more hm h1]; rfl)
  case lens x => obtain ⟨d, h1, rfl⟩ := map_some' he; exact simple rfl rfl (fun _ => rfl) (by simp only [mapOp, evOp, hr, h1]; rfl)
  case subs x l h =>
    obtain ⟨d, h1, rfl⟩ := map_some' he
    refine simple rfl rfl (fun _ => rfl) ?_
    simp only [mapOp, evOp]
    rw [hr.1, rdo_eq (y := l) (fun j hj => hr.2 j (.inl hj)), rdo_eq (y := h) (fun j hj => hr.2 j (.inr hj)), h1]; rfl
  case cst d => cases he; exact simple rfl rfl (fun _ => rfl) rfl
  case subl sz x l =>
    have h1 := ht x rfl
    rw [takeO_eq] at he
    obtain ⟨d, h4, rfl⟩ := map_some' he
    exact ⟨rfl, fun _ => rfl, _, by simp only [mapOp, evOp, takeO_eq, h1, takeV_sh, takeU_sh, hr, h4]; rfl, rfl⟩
  case app sz b x y =>
    have hm := hs.more rfl (fun _ _ h => by cases h) (fun _ _ _ h => by cases h)
    have h1 := ht x rfl
    rw [takeO_eq] at he
    obtain ⟨ys, h2, h3⟩ := bind_some' he
    obtain ⟨d, h4, rfl⟩ := map_some' h3
    exact ⟨rfl, fun _ => rfl, _, by simp only [mapOp, evOp, takeO_eq, h1, takeV_sh, takeU_sh, hr, elems_more hm h2, Option.bind_some, h4]; rfl, rfl⟩
  case cpy sz x y =>
    have := nb rfl; subst this
    obtain ⟨ys, h2, h3⟩ := bind_some' he
    obtain ⟨d, h4, rfl⟩ := map_some' h3
    exact simple rfl rfl (fun h => by cases h) (by simp only [mapOp, evOp, hr.1, hr.2, h2, Option.bind_some, h4]; rfl)
  case make sz b z n c =>
    have := nb rfl; subst this
    obtain ⟨a1, h2, h3⟩ := bind_some' he
    obtain ⟨a2, h4, h5⟩ := bind_some' h3
    unfold makeD at h5
    split at h5
    · rename_i h6
      cases h5
      exact simple rfl rfl (fun h => by cases h) (by simp only [mapOp, evOp, hr.1, hr.2, h2, Option.bind_some, h4]; unfold makeD; rw [if_pos h6]; rfl)
    · rename_i h6
      split at h5 <;> cases h5
      rename_i h7
      exact simple rfl rfl (fun h => by cases h) (by simp only [mapOp, evOp, hr.1, hr.2, h2, Option.bind_some, h4]; unfold makeD; rw [if_neg h6, if_pos h7]; rfl)
  case call g f xs =>
    cases g with
    | true =>
      have := nb rfl; subst this
      obtain ⟨d, h1, rfl⟩ := map_some' he
      exact simple rfl rfl (fun hk => by cases hk) (by simp only [mapOp, evOp]; rw [rds_eq hr, h1]; rfl)
    | false =>
      have hm := hs.more rfl (fun _ _ h => by cases h) (fun _ _ _ h => by cases h)
      obtain ⟨d, h1, rfl⟩ := map_some' he
      simp only [opCall, Bool.false_eq_true, if_false] at h1
      obtain ⟨ys, h2, h3⟩ := bind_some' h1
      obtain ⟨p', h4, h5⟩ := bind_some' h3
      have h6 : d.2 = st ∧ backD (anyRow (xs.map (rd env ts))) st2 p' = some (d.1, st2) := by
        unfold backD at h5 ⊢
        split at h5 <;> first | (cases h5; done) | skip
        split at h5
        · rename_i hc
          rw [if_pos hc]
          split at h5 <;> cases h5
          rename_i hf
          rw [if_pos hf]; exact ⟨rfl, rfl⟩
        · rename_i hc
          rw [if_neg hc]
          cases h5; exact ⟨rfl, rfl⟩
      refine simple rfl rfl (fun hk => h6.1) ?_
      simp only [mapOp, evOp]
      rw [rds_eq hr]
      simp only [opCall, Bool.false_eq_true, if_false, rdVs_more hm h2, Option.bind_some, h4, h6.2]
      rfl
  case callv f xs =>
    have := nb rfl; subst this
    obtain ⟨d, h1, rfl⟩ := map_some' he
    exact simple rfl rfl (fun h => by cases h) (by simp only [mapOp, evOp]; rw [rds_eq hr.2, hr.1, h1]; rfl)
  case mkf f a b =>
    cases he
    exact simple rfl rfl (fun _ => rfl) (by simp only [mapOp, evOp]; rw [rds_eq (ys := a) (fun j hj => hr j (.inl hj)), rds_eq (ys := b) (fun j hj => hr j (.inr hj))]; rfl)
  case mki t x => cases he; exact simple rfl rfl (fun _ => rfl) (by simp only [mapOp, evOp, hr]; rfl)
  case ext i x =>
    have h1 := ht x rfl
    cases x with
    | t j =>
      simp only [shOpd] at h1
      unfold extD at he
      split at he <;> first | (cases he; done) | skip
      · rename_i j' ds hx hd
        cases hx
        obtain ⟨d, h2, rfl⟩ := map_some' he
        have key : (extL env ts st i j ds d) = (extV1 true d, (apU (extU1 i j ds (some d)) (env, ts)).1, (apU (extU1 i j ds (some d)) (env, ts)).2, st) := by cases d <;> rfl
        have key2 : (extL env2 ts2 st2 i (j + k) ds d) = (extV1 true d, (apU (shU k (extU1 i j ds (some d))) (env2, ts2)).1, (apU (shU k (extU1 i j ds (some d))) (env2, ts2)).2, st2) := by cases d <;> rfl
        rw [key]
        refine ⟨?_, fun _ => rfl, _, ?_, rfl⟩
        · simp only [upd, hd, extU, h2]
        · simp only [mapOp, evOp, shOpd, h1, hd, extD, h2, Option.map_some, key2, upd, extU]
          rfl
      · rename_i hn
        exact (hn j rfl).elim
    | x n =>
      simp only [shOpd] at h1
      cases hd : raw env ts (.x n) <;> rw [hd] at he h1 <;> simp only [extD] at he <;> first | (cases he; done) | skip
      obtain ⟨d, h2, rfl⟩ := map_some' he
      exact simple rfl rfl (fun _ => rfl) (by simp only [mapOp, evOp, shOpd, h1, extD, h2]; rfl)
    | c n =>
      simp only [shOpd] at h1
      cases hd : raw env ts (.c n) <;> rw [hd] at he h1 <;> simp only [extD] at he <;> first | (cases he; done) | skip
      obtain ⟨d, h2, rfl⟩ := map_some' he
      exact simple rfl rfl (fun _ => rfl) (by simp only [mapOp, evOp, shOpd, h1, extD, h2]; rfl)
  case s2a n x => obtain ⟨d, h1, rfl⟩ := map_some' he; exact simple rfl rfl (fun _ => rfl) (by simp only [mapOp, evOp, hr, h1]; rfl)
  case mx x y => obtain ⟨d, h1, rfl⟩ := map_some' he; exact simple rfl rfl (fun _ => rfl) (by simp only [mapOp, evOp, hr.1, hr.2, h1]; rfl)
  case mn x y => obtain ⟨d, h1, rfl⟩ := map_some' he; exact simple rfl rfl (fun _ => rfl) (by simp only [mapOp, evOp, hr.1, hr.2, h1]; rfl)
  case clr sz z x => have := nb rfl; subst this; obtain ⟨d, h1, rfl⟩ := map_some' he; exact simple rfl rfl (fun h => by cases h) (by simp only [mapOp, evOp, hr, h1]; rfl)
  case die => cases he
end
end Go.Q
