/- Calm operations: they may come in another order. No condition. -/
import Derived.Test.YtjglogffdihahaaEv1
import Derived.Orders
set_option linter.unusedVariables false
set_option linter.unusedSimpArgs false
namespace Go.Q

def shOpd (k : Nat) : Opd → Opd
  | .t j => .t (j + k)
  | o => o
def tOf : Opd → List Nat
  | .t j => [j]
  | _ => []
def tOfs : List Opd → List Nat
  | [] => []
  | x :: r => tOf x ++ tOfs r
def tOfo : Option Opd → List Nat
  | some x => tOf x
  | none => []
def tOfp : List (Nat × Nat × Opd) → List Nat
  | [] => []
  | x :: r => tOf x.2.2 ++ tOfp r
/-- environment, temporaries and store stay as they are -/
def calm : SOp → Bool
  | .mov _ => true
  | .pick _ _ _ => true
  | .build _ _ => true
  | .lit _ _ => true
  | .load _ _ => true
  | .bin _ _ _ => true
  | .eq _ _ _ _ => true
  | .un _ _ => true
  | .cvi _ _ => true
  | .s2b _ => true
  | .b2s _ => true
  | .sub _ _ _ _ _ => true
  | .subA _ _ _ _ _ => true
  | .fa _ _ => true
  | .fld _ _ _ => true
  | .ia _ _ _ => true
  | .iaA _ _ _ _ => true
  | .idx _ _ => true
  | .idxA _ _ _ _ _ => true
  | .len _ => true
  | .lens _ => true
  | .subs _ _ _ => true
  | .cst _ => true
  | .call g _ _ => !g
  | .mkf _ _ _ => true
  | .mki _ _ => true
  | .s2a _ _ => true
  | .mx _ _ => true
  | .mn _ _ => true
  | _ => false
def shOp (k : Nat) : SOp → SOp
  | .mov x => .mov (shOpd k x)
  | .pick c a b => .pick (shOpd k c) (shOpd k a) (shOpd k b)
  | .build zs ps => .build zs (ps.map fun p => (p.1, p.2.1, shOpd k p.2.2))
  | .lit sz xs => .lit sz (xs.map (shOpd k))
  | .load s a => .load s (shOpd k a)
  | .bin o x y => .bin o (shOpd k x) (shOpd k y)
  | .eq d n x y => .eq d n (shOpd k x) (shOpd k y)
  | .un o x => .un o (shOpd k x)
  | .cvi d x => .cvi d (shOpd k x)
  | .s2b x => .s2b (shOpd k x)
  | .b2s x => .b2s (shOpd k x)
  | .sub s x l h m => .sub s (shOpd k x) (l.map (shOpd k)) (h.map (shOpd k)) (m.map (shOpd k))
  | .subA s x l h m => .subA s (shOpd k x) (l.map (shOpd k)) (h.map (shOpd k)) (m.map (shOpd k))
  | .fa o x => .fa o (shOpd k x)
  | .fld o s x => .fld o s (shOpd k x)
  | .ia s x i => .ia s (shOpd k x) (shOpd k i)
  | .iaA l s x i => .iaA l s (shOpd k x) (shOpd k i)
  | .idx x i => .idx (shOpd k x) (shOpd k i)
  | .idxA l s a x i => .idxA l s a (shOpd k x) (shOpd k i)
  | .len x => .len (shOpd k x)
  | .lens x => .lens (shOpd k x)
  | .subs x l h => .subs (shOpd k x) (l.map (shOpd k)) (h.map (shOpd k))
  | .call g f xs => .call g f (xs.map (shOpd k))
  | .mkf f a b => .mkf f (a.map (shOpd k)) (b.map (shOpd k))
  | .mki t x => .mki t (shOpd k x)
  | .s2a n x => .s2a n (shOpd k x)
  | .mx x y => .mx (shOpd k x) (shOpd k y)
  | .mn x y => .mn (shOpd k x) (shOpd k y)
  | s => s
def readsT : SOp → List Nat
  | .mov x => tOf x
  | .pick c a b => tOf c ++ tOf a ++ tOf b
  | .build _ ps => tOfp ps
  | .lit _ xs => tOfs xs
  | .load _ a => tOf a
  | .bin _ x y => tOf x ++ tOf y
  | .eq _ _ x y => tOf x ++ tOf y
  | .un _ x => tOf x
  | .cvi _ x => tOf x
  | .s2b x => tOf x
  | .b2s x => tOf x
  | .sub _ x l h m => tOf x ++ tOfo l ++ tOfo h ++ tOfo m
  | .subA _ x l h m => tOf x ++ tOfo l ++ tOfo h ++ tOfo m
  | .fa _ x => tOf x
  | .fld _ _ x => tOf x
  | .ia _ x i => tOf x ++ tOf i
  | .iaA _ _ x i => tOf x ++ tOf i
  | .idx x i => tOf x ++ tOf i
  | .idxA _ _ _ x i => tOf x ++ tOf i
  | .len x => tOf x
  | .lens x => tOf x
  | .subs x l h => tOf x ++ tOfo l ++ tOfo h
  | .call _ _ xs => tOfs xs
  | .mkf _ a b => tOfs a ++ tOfs b
  | .mki _ x => tOf x
  | .s2a _ x => tOf x
  | .mx x y => tOf x ++ tOf y
  | .mn x y => tOf x ++ tOf y
  | _ => []

section
variable {R : Run} {env ts ts2 : List D} {st : St} {q : Rg} {k : Nat}
theorem rd_sh {y : Opd} (h : ∀ j ∈ tOf y, getT ts2 (j + k) = getT ts j) : rd env ts2 (shOpd k y) = rd env ts y := by
  cases y with
  | x i => rfl
  | c d => rfl
  | t j => simp only [rd, raw, shOpd]; rw [h j (by simp [tOf])]
theorem rds_sh : ∀ {ys : List Opd}, (∀ j ∈ tOfs ys, getT ts2 (j + k) = getT ts j) → (ys.map (shOpd k)).map (rd env ts2) = ys.map (rd env ts)
  | [], _ => rfl
  | y :: r, h => by
    simp only [List.map_cons]
    rw [rd_sh (fun j hj => h j (by simp [tOfs, hj]))]
    congr 1
    exact rds_sh (fun j hj => h j (by simp [tOfs, hj]))
theorem rdo_sh {y : Option Opd} (h : ∀ j ∈ tOfo y, getT ts2 (j + k) = getT ts j) : (y.map (shOpd k)).map (rd env ts2) = y.map (rd env ts) := by
  cases y with
  | none => rfl
  | some y => simp only [Option.map_some]; rw [rd_sh (fun j hj => h j (by simpa [tOfo] using hj))]
theorem rdp_sh : ∀ {ys : List (Nat × Nat × Opd)}, (∀ j ∈ tOfp ys, getT ts2 (j + k) = getT ts j) → ((ys.map fun p => (p.1, p.2.1, shOpd k p.2.2)).map fun p => (p.1, p.2.1, rd env ts2 p.2.2)) = ys.map fun p => (p.1, p.2.1, rd env ts p.2.2)
  | [], _ => rfl
  | y :: r, h => by
    simp only [List.map_cons]
    rw [rd_sh (fun j hj => h j (by simp [tOfp, hj]))]
    congr 1
    exact rdp_sh (fun j hj => h j (by simp [tOfp, hj]))

theorem evOp_calm {s : SOp} (hc : calm s = true) (he : evOp R env ts st s = some q) (hr : ∀ j ∈ readsT s, getT ts2 (j + k) = getT ts j) :
    q = (q.1, env, ts, st) ∧ evOp R env ts2 st (shOp k s) = some (q.1, env, ts2, st) := by
  cases s <;> first | (simp [calm] at hc; done) | skip
  all_goals simp only [readsT, List.mem_append] at hr
  all_goals simp only [evOp, shOp] at he ⊢
  case mov x => cases he; rw [rd_sh hr]; exact ⟨rfl, rfl⟩
  case pick c a b =>
    rw [rd_sh (y := c) (fun j hj => hr j (.inl (.inl hj))), rd_sh (y := a) (fun j hj => hr j (.inl (.inr hj))), rd_sh (y := b) (fun j hj => hr j (.inr hj))]
    obtain ⟨t, h1, h2⟩ := bind_some' he
    rw [h1]
    simp only [Option.bind_some]
    split at h2
    · rename_i ht; cases h2; rw [if_pos ht]; exact ⟨rfl, rfl⟩
    · rename_i ht; cases h2; rw [if_neg ht]; exact ⟨rfl, rfl⟩
  case build zs ps => rw [rdp_sh hr]; obtain ⟨d, h1, rfl⟩ := map_some' he; rw [h1]; exact ⟨rfl, rfl⟩
  case lit sz xs =>
    rw [rds_sh hr]
    split at he <;> first | (cases he; done) | skip
    rename_i hrow
    rw [if_neg hrow]
    obtain ⟨ys, h1, h2⟩ := bind_some' he
    rw [h1]
    simp only [Option.bind_some]
    split at h2 <;> cases h2
    rename_i hz
    rw [if_pos hz]; exact ⟨rfl, rfl⟩
  case load s a => rw [rd_sh hr]; obtain ⟨d, h1, rfl⟩ := map_some' he; rw [h1]; exact ⟨rfl, rfl⟩
  case bin o x y => rw [rd_sh (y := x) (fun j hj => hr j (.inl hj)), rd_sh (y := y) (fun j hj => hr j (.inr hj))]; obtain ⟨d, h1, rfl⟩ := map_some' he; rw [h1]; exact ⟨rfl, rfl⟩
  case eq d n x y => rw [rd_sh (y := x) (fun j hj => hr j (.inl hj)), rd_sh (y := y) (fun j hj => hr j (.inr hj))]; obtain ⟨d, h1, rfl⟩ := map_some' he; rw [h1]; exact ⟨rfl, rfl⟩
  case un o x => rw [rd_sh hr]; obtain ⟨d, h1, rfl⟩ := map_some' he; rw [h1]; exact ⟨rfl, rfl⟩
  case cvi o x => rw [rd_sh hr]; obtain ⟨d, h1, rfl⟩ := map_some' he; rw [h1]; exact ⟨rfl, rfl⟩
  case s2b x => rw [rd_sh hr]; obtain ⟨d, h1, rfl⟩ := map_some' he; rw [h1]; exact ⟨rfl, rfl⟩
  case b2s x => rw [rd_sh hr]; obtain ⟨d, h1, rfl⟩ := map_some' he; rw [h1]; exact ⟨rfl, rfl⟩
  case sub s x l h m =>
    rw [rd_sh (y := x) (fun j hj => hr j (.inl (.inl (.inl hj)))), rdo_sh (y := l) (fun j hj => hr j (.inl (.inl (.inr hj)))), rdo_sh (y := h) (fun j hj => hr j (.inl (.inr hj))), rdo_sh (y := m) (fun j hj => hr j (.inr hj))]
    obtain ⟨d, h1, rfl⟩ := map_some' he; rw [h1]; exact ⟨rfl, rfl⟩
  case subA s x l h m =>
    rw [rd_sh (y := x) (fun j hj => hr j (.inl (.inl (.inl hj)))), rdo_sh (y := l) (fun j hj => hr j (.inl (.inl (.inr hj)))), rdo_sh (y := h) (fun j hj => hr j (.inl (.inr hj))), rdo_sh (y := m) (fun j hj => hr j (.inr hj))]
    obtain ⟨d, h1, rfl⟩ := map_some' he; rw [h1]; exact ⟨rfl, rfl⟩
  case fa o x => rw [rd_sh hr]; obtain ⟨d, h1, rfl⟩ := map_some' he; rw [h1]; exact ⟨rfl, rfl⟩
  case fld o s x => rw [rd_sh hr]; obtain ⟨d, h1, rfl⟩ := map_some' he; rw [h1]; exact ⟨rfl, rfl⟩
  case ia s x y => rw [rd_sh (y := x) (fun j hj => hr j (.inl hj)), rd_sh (y := y) (fun j hj => hr j (.inr hj))]; obtain ⟨d, h1, rfl⟩ := map_some' he; rw [h1]; exact ⟨rfl, rfl⟩
  case iaA l s x y => rw [rd_sh (y := x) (fun j hj => hr j (.inl hj)), rd_sh (y := y) (fun j hj => hr j (.inr hj))]; obtain ⟨d, h1, rfl⟩ := map_some' he; rw [h1]; exact ⟨rfl, rfl⟩
  case idx x y => rw [rd_sh (y := x) (fun j hj => hr j (.inl hj)), rd_sh (y := y) (fun j hj => hr j (.inr hj))]; obtain ⟨d, h1, rfl⟩ := map_some' he; rw [h1]; exact ⟨rfl, rfl⟩
  case idxA l s a x y => rw [rd_sh (y := x) (fun j hj => hr j (.inl hj)), rd_sh (y := y) (fun j hj => hr j (.inr hj))]; obtain ⟨d, h1, rfl⟩ := map_some' he; rw [h1]; exact ⟨rfl, rfl⟩
  case len x => rw [rd_sh hr]; obtain ⟨d, h1, rfl⟩ := map_some' he; rw [h1]; exact ⟨rfl, rfl⟩
  case lens x => rw [rd_sh hr]; obtain ⟨d, h1, rfl⟩ := map_some' he; rw [h1]; exact ⟨rfl, rfl⟩
  case subs x l h =>
    rw [rd_sh (y := x) (fun j hj => hr j (.inl (.inl hj))), rdo_sh (y := l) (fun j hj => hr j (.inl (.inr hj))), rdo_sh (y := h) (fun j hj => hr j (.inr hj))]
    obtain ⟨d, h1, rfl⟩ := map_some' he; rw [h1]; exact ⟨rfl, rfl⟩
  case cst d => cases he; exact ⟨rfl, rfl⟩
  case call g f xs =>
    have hg : g = false := by simpa [calm] using hc
    subst hg
    rw [rds_sh hr]
    obtain ⟨d, h1, rfl⟩ := map_some' he
    rw [h1]
    have : d.2 = st := by
      simp only [opCall, Bool.false_eq_true, if_false] at h1
      obtain ⟨xs, _, h3⟩ := bind_some' h1
      obtain ⟨p', _, h5⟩ := bind_some' h3
      unfold backD at h5
      split at h5 <;> first | (cases h5; done) | skip
      split at h5
      · split at h5 <;> cases h5; rfl
      · cases h5; rfl
    simp only [Option.map_some, this]
    exact ⟨trivial, trivial⟩
  case mkf f a b =>
    rw [rds_sh (ys := a) (fun j hj => hr j (.inl hj)), rds_sh (ys := b) (fun j hj => hr j (.inr hj))]
    cases he; exact ⟨rfl, rfl⟩
  case mki t x => rw [rd_sh hr]; cases he; exact ⟨rfl, rfl⟩
  case s2a n x => rw [rd_sh hr]; obtain ⟨d, h1, rfl⟩ := map_some' he; rw [h1]; exact ⟨rfl, rfl⟩
  case mx x y => rw [rd_sh (y := x) (fun j hj => hr j (.inl hj)), rd_sh (y := y) (fun j hj => hr j (.inr hj))]; obtain ⟨d, h1, rfl⟩ := map_some' he; rw [h1]; exact ⟨rfl, rfl⟩
  case mn x y => rw [rd_sh (y := x) (fun j hj => hr j (.inl hj)), rd_sh (y := y) (fun j hj => hr j (.inr hj))]; obtain ⟨d, h1, rfl⟩ := map_some' he; rw [h1]; exact ⟨rfl, rfl⟩
end
end Go.Q
