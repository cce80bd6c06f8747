/- The abstract machine: what it computes with more rounds is the same; 'run': its limit, and the equations of the limit. No condition. -/
import Derived.Test.YtmbdamompcdolaaDoorEvA
set_option linter.unusedVariables false
set_option linter.unusedSimpArgs false
namespace Go.Q

def Le (R R' : Run) : Prop := ∀ f as st r, R f as st = some r → R' f as st = some r
theorem Le.refl (R : Run) : Le R R := fun _ _ _ _ h => h
theorem Le.trans {R R' R'' : Run} (h : Le R R') (h' : Le R' R'') : Le R R'' := fun _ _ _ _ e => h' _ _ _ _ (h _ _ _ _ e)
theorem bind_some' {α β : Type} {x : Option α} {f : α → Option β} {r : β} (h : x.bind f = some r) : ∃ a, x = some a ∧ f a = some r := Option.bind_eq_some_iff.1 h
theorem of_bind {α β : Type} {x : Option α} {f : α → Option β} {a : α} {r : β} (h : x = some a) (h' : f a = some r) : x.bind f = some r := by rw [h]; exact h'
theorem map_some' {α β : Type} {x : Option α} {f : α → β} {r : β} (h : x.map f = some r) : ∃ a, x = some a ∧ f a = r := Option.map_eq_some_iff.1 h
theorem of_map {α β : Type} {x : Option α} {f : α → β} {a : α} {r : β} (h : x = some a) (h' : f a = r) : x.map f = some r := by rw [h]; exact congrArg some h'

theorem opCall_le {R R' : Run} (h : Le R R') {g f ds st r} (e : opCall R g f ds st = some r) : opCall R' g f ds st = some r := by
  unfold opCall at *
  split at e
  · rename_i hg; rw [if_pos hg]; exact h _ _ _ _ e
  · rename_i hg; rw [if_neg hg]
    obtain ⟨xs, h1, h2⟩ := bind_some' e
    obtain ⟨q, h3, h4⟩ := bind_some' h2
    exact of_bind h1 (of_bind (h _ _ _ _ h3) h4)
theorem callV_le {R R' : Run} (h : Le R R') {ds st d r} (e : callV R ds st d = some r) : callV R' ds st d = some r := by
  unfold callV at *
  split at e <;> first | exact h _ _ _ _ e | exact e

theorem callBD_le {R R' : Run} (h : Le R R') {f st d r} (e : callBD R f st d = some r) : callBD R' f st d = some r := by
  unfold callBD at *
  split at e <;> first | (cases e; done) | skip
  split at e <;> first | (cases e; done) | skip
  rename_i hc
  rw [if_pos hc]
  obtain ⟨xs, h1, h2⟩ := bind_some' e
  refine of_bind h1 ?_
  unfold callBr at *
  split at h2 <;> first | (cases h2; done) | skip
  split at h2 <;> first | (cases h2; done) | skip
  rename_i hc2
  rw [if_pos hc2]
  obtain ⟨q, h3, h4⟩ := bind_some' h2
  exact of_bind (h _ _ _ _ h3) h4

theorem evOp_le {R R' : Run} (h : Le R R') {op env ts st r} (e : evOp R env ts st op = some r) : evOp R' env ts st op = some r := by
  cases op <;> try exact e
  case call gen f xs =>
    obtain ⟨q, h1, h2⟩ := map_some' e
    exact of_map (opCall_le h h1) h2
  case callv f xs =>
    obtain ⟨q, h1, h2⟩ := map_some' e
    exact of_map (callV_le h h1) h2
  case callB f a ys =>
    obtain ⟨q, h1, h2⟩ := bind_some' e
    exact of_bind (callBD_le h h1) h2

theorem evOps_le {R R' : Run} (h : Le R R') : ∀ {l env ts st r}, evOps R l env ts st = some r → evOps R' l env ts st = some r
  | [], _, _, _, _, e => e
  | o :: l, env, ts, st, r, e => by
    simp only [evOps] at *
    obtain ⟨w, h1, h2⟩ := bind_some' e
    refine of_bind h1 ?_
    split at h2
    · rename_i hw
      rw [if_pos hw]
      obtain ⟨q, h3, h4⟩ := bind_some' h2
      exact of_bind (evOp_le h h3) (evOps_le h h4)
    · rename_i hw
      rw [if_neg hw]
      exact evOps_le h h2

theorem loopN_le {b b' : List D → St → Option Out} (h : ∀ env st r, b env st = some r → b' env st = some r) (kill : List Nat) :
    ∀ {n n' : Nat} {env st r}, n ≤ n' → loopN b kill n env st = some r → loopN b' kill n' env st = some r
  | 0, _, _, _, _, _, e => by simp [loopN] at e
  | n + 1, 0, _, _, _, hn, _ => by omega
  | n + 1, n' + 1, env, st, r, hn, e => by
    simp only [loopN] at *
    obtain ⟨⟨x, env', st'⟩, h1, h2⟩ := bind_some' e
    refine of_bind (h _ _ _ h1) ?_
    cases x <;> simp only at h2 ⊢
    · exact loopN_le h kill (by omega) h2
    · exact h2
    · exact h2

theorem rangeN_le {b b' : List D → St → Option Out} (h : ∀ env st r, b env st = some r → b' env st = some r) {ps env0} : ∀ {xs st r}, rangeN b ps env0 xs st = some r → rangeN b' ps env0 xs st = some r
  | [], st, r, e => e
  | x :: xs, st, r, e => by
    simp only [rangeN] at *
    split at e <;> first | (cases e; done) | skip
    rename_i hc
    rw [if_pos hc]
    obtain ⟨⟨y, env', st'⟩, h1, h2⟩ := bind_some' e
    refine of_bind (h _ _ _ h1) ?_
    cases y <;> simp only [rgC] at h2 ⊢
    · exact rangeN_le h h2
    · exact h2
    · exact h2
theorem rgB_le {A A' B B' : List D → St → Option Out} (hA : ∀ env st r, A env st = some r → A' env st = some r) (hB : ∀ env st r, B env st = some r → B' env st = some r) : ∀ env st r, rgB A B env st = some r → rgB A' B' env st = some r := fun env st r e => by
  unfold rgB at *
  obtain ⟨⟨y, env', st'⟩, h1, h2⟩ := bind_some' e
  refine of_bind (hA _ _ _ h1) ?_
  cases y <;> simp only [rgM] at h2 ⊢ <;> first | (cases h2; done) | skip
  split at h2 <;> first | (cases h2; done) | skip
  rename_i hs
  rw [if_pos hs]; exact hB _ _ _ h2
theorem exec_le {R R' : Run} (h : Le R R') {n n' : Nat} (hn : n ≤ n') : ∀ {c env st r}, exec R n c env st = some r → exec R' n' c env st = some r
  | .skip, _, _, _, e => e
  | .ret, _, _, _, e => e
  | .exit _, _, _, _, e => e
  | .ops l, env, st, r, e => by
    simp only [exec] at *
    obtain ⟨q, h1, h2⟩ := map_some' e
    exact of_map (evOps_le h h1) h2
  | .ifs l c a b, env, st, r, e => by
    simp only [exec] at *
    obtain ⟨q, h1, h2⟩ := bind_some' e
    obtain ⟨t, h3, h4⟩ := bind_some' h2
    refine of_bind (evOps_le h h1) (of_bind h3 ?_)
    cases t
    · exact exec_le h hn h4
    · exact exec_le h hn h4
  | .seq a b, env, st, r, e => by
    simp only [exec] at *
    obtain ⟨⟨x, env', st'⟩, h1, h2⟩ := bind_some' e
    refine of_bind (exec_le h hn h1) ?_
    cases x <;> simp only at h2 ⊢
    · exact exec_le h hn h2
    · exact h2
    · exact h2
  | .block id a, env, st, r, e => by
    simp only [exec] at *
    obtain ⟨q, h1, h2⟩ := bind_some' e
    exact of_bind (exec_le h hn h1) h2
  | .loop kill a, env, st, r, e => by
    simp only [exec] at *
    exact loopN_le (fun _ _ _ he => exec_le h hn he) kill hn e
  | .range k f x ps a b, env, st, r, e => by
    simp only [exec] at *
    obtain ⟨xs, h1, h2⟩ := bind_some' e
    exact of_bind h1 (rangeN_le (rgB_le (fun _ _ _ he => exec_le h hn he) (fun _ _ _ he => exec_le h hn he)) h2)
  | .clone d x sz bytes, env, st, r, e => e
  | .grow d n sz bytes, env, st, r, e => e
  | .nilc d x sz bytes a, env, st, r, e => by
    simp only [exec] at *
    split at e
    · rename_i h0; rw [if_pos h0]; exact e
    · rename_i h0; rw [if_neg h0]; exact exec_le h hn e

theorem runF_le {R R' : Run} (h : Le R R') {n n' : Nat} (hn : n ≤ n') {F as st r} (e : runF R n F as st = some r) : runF R' n' F as st = some r := by
  unfold runF at *
  split at e
  · rename_i ha
    rw [if_pos ha]
    obtain ⟨q, h1, h2⟩ := bind_some' e
    exact of_bind (exec_le h hn h1) h2
  · cases e

theorem runN_succ (G : Prg) : ∀ n, Le (runN G n) (runN G (n + 1))
  | 0 => fun _ _ _ _ e => by simp [runN] at e
  | n + 1 => fun f as st r e => by
    simp only [runN] at e ⊢
    cases hp : G.prim f with
    | some F => simp only [hp] at e ⊢; exact e
    | none =>
      simp only [hp] at e ⊢
      cases hf : G.fn f with
      | none => simp [hf] at e
      | some F => simp only [hf] at e ⊢; exact runF_le (runN_succ G n) (Nat.le_succ n) e
theorem runN_le (G : Prg) {n m : Nat} (h : n ≤ m) : Le (runN G n) (runN G m) := by
  induction h with
  | refl => exact Le.refl _
  | step _ ih => exact ih.trans (runN_succ G _)

/-! ### The limit -/
open Classical in
/-- what is told from some number of rounds on -/
noncomputable def lim {α : Type} (f : Nat → Option α) : Option α := if h : ∃ r n, f n = some r then some h.choose else none
def Mono {α : Type} (f : Nat → Option α) : Prop := ∀ n m r, n ≤ m → f n = some r → f m = some r
theorem lim_eq {α : Type} {f : Nat → Option α} (hf : Mono f) {n : Nat} {r : α} (h : f n = some r) : lim f = some r := by
  unfold lim
  have hx : ∃ r n, f n = some r := ⟨r, n, h⟩
  rw [dif_pos hx]
  obtain ⟨m, hm⟩ := hx.choose_spec
  have h1 := hf n (max n m) _ (Nat.le_max_left ..) h
  have h2 := hf m (max n m) _ (Nat.le_max_right ..) hm
  rw [h1] at h2
  exact h2.symm
theorem of_lim {α : Type} {f : Nat → Option α} {r : α} (h : lim f = some r) : ∃ n, f n = some r := by
  unfold lim at h
  split at h
  · rename_i hx; obtain ⟨m, hm⟩ := hx.choose_spec; cases h; exact ⟨m, hm⟩
  · cases h

noncomputable def run (G : Prg) : Run := fun f as st => lim fun n => runN G n f as st
theorem run_mono (G : Prg) (f as st) : Mono fun n => runN G n f as st := fun n m r h e => runN_le G h _ _ _ _ e
theorem run_of {G : Prg} {n f as st r} (h : runN G n f as st = some r) : run G f as st = some r := lim_eq (run_mono G f as st) h
theorem of_run {G : Prg} {f as st r} (h : run G f as st = some r) : ∃ n, runN G n f as st = some r := of_lim h
theorem le_run (G : Prg) (n : Nat) : Le (runN G n) (run G) := fun _ _ _ _ h => run_of h

/-! what uses the limit uses a number of rounds -/
theorem opCall_cont {G : Prg} {g f ds st r} (e : opCall (run G) g f ds st = some r) : ∃ m, opCall (runN G m) g f ds st = some r := by
  unfold opCall at *
  split at e
  · rename_i hg
    obtain ⟨m, hm⟩ := of_run e
    exact ⟨m, by rw [if_pos hg]; exact hm⟩
  · rename_i hg
    obtain ⟨xs, h1, h2⟩ := bind_some' e
    obtain ⟨q, h3, h4⟩ := bind_some' h2
    obtain ⟨m, hm⟩ := of_run h3
    exact ⟨m, by rw [if_neg hg]; exact of_bind h1 (of_bind hm h4)⟩
theorem callV_cont {G : Prg} {ds st d r} (e : callV (run G) ds st d = some r) : ∃ m, callV (runN G m) ds st d = some r := by
  unfold callV at *
  split at e
  · obtain ⟨m, hm⟩ := of_run e; exact ⟨m, hm⟩
  · obtain ⟨m, hm⟩ := of_run e; exact ⟨m, hm⟩
  · cases e
theorem callBD_cont {G : Prg} {f st d r} (e : callBD (run G) f st d = some r) : ∃ m, callBD (runN G m) f st d = some r := by
  unfold callBD at *
  split at e <;> first | (cases e; done) | skip
  split at e <;> first | (cases e; done) | skip
  rename_i hc
  obtain ⟨xs, h1, h2⟩ := bind_some' e
  unfold callBr at h2
  split at h2 <;> first | (cases h2; done) | skip
  split at h2 <;> first | (cases h2; done) | skip
  rename_i hc2
  obtain ⟨q, h3, h4⟩ := bind_some' h2
  obtain ⟨m, hm⟩ := of_run h3
  exact ⟨m, by rw [if_pos hc]; refine of_bind h1 ?_; unfold callBr; simp only [if_pos hc2]; exact of_bind hm h4⟩
theorem evOp_cont {G : Prg} {op env ts st r} (e : evOp (run G) env ts st op = some r) : ∃ m, evOp (runN G m) env ts st op = some r := by
  cases op <;> try exact ⟨0, e⟩
  case call gen f xs =>
    obtain ⟨q, h1, h2⟩ := map_some' e
    obtain ⟨m, hm⟩ := opCall_cont h1
    exact ⟨m, of_map hm h2⟩
  case callv f xs =>
    obtain ⟨q, h1, h2⟩ := map_some' e
    obtain ⟨m, hm⟩ := callV_cont h1
    exact ⟨m, of_map hm h2⟩
  case callB f a ys =>
    obtain ⟨q, h1, h2⟩ := bind_some' e
    obtain ⟨m, hm⟩ := callBD_cont h1
    exact ⟨m, of_bind hm h2⟩
theorem evOps_cont {G : Prg} : ∀ {l env ts st r}, evOps (run G) l env ts st = some r → ∃ m, evOps (runN G m) l env ts st = some r
  | [], _, _, _, _, e => ⟨0, e⟩
  | o :: l, env, ts, st, r, e => by
    simp only [evOps] at *
    obtain ⟨w, h1, h2⟩ := bind_some' e
    cases w with
    | false =>
      obtain ⟨m, hm⟩ := evOps_cont h2
      exact ⟨m, of_bind h1 hm⟩
    | true =>
      obtain ⟨q, h3, h4⟩ := bind_some' h2
      obtain ⟨m, hm⟩ := evOp_cont h3
      obtain ⟨m', hm'⟩ := evOps_cont h4
      exact ⟨max m m', of_bind h1 (of_bind (evOp_le (runN_le G (Nat.le_max_left m m')) hm) (evOps_le (runN_le G (Nat.le_max_right m m')) hm'))⟩
theorem loopN_cont {B : Nat → List D → St → Option Out} {b : List D → St → Option Out}
    (hB : ∀ n m env st r, n ≤ m → B n env st = some r → B m env st = some r) (h : ∀ env st r, b env st = some r → ∃ m, B m env st = some r) (kill : List Nat) :
    ∀ {n : Nat} {env st r}, loopN b kill n env st = some r → ∃ m, loopN (B m) kill n env st = some r
  | 0, _, _, _, e => by simp [loopN] at e
  | n + 1, env, st, r, e => by
    simp only [loopN] at *
    obtain ⟨⟨x, env', st'⟩, h1, h2⟩ := bind_some' e
    obtain ⟨m, hm⟩ := h _ _ _ h1
    cases x <;> simp only at h2 ⊢
    · obtain ⟨m', hm'⟩ := loopN_cont hB h kill h2
      exact ⟨max m m', of_bind (hB _ _ _ _ _ (Nat.le_max_left m m') hm) (loopN_le (fun _ _ _ he => hB _ _ _ _ _ (Nat.le_max_right m m') he) kill (Nat.le_refl _) hm')⟩
    · exact ⟨m, of_bind hm h2⟩
    · exact ⟨m, of_bind hm h2⟩
theorem rangeN_cont {B : Nat → List D → St → Option Out} {b : List D → St → Option Out}
    (hB : ∀ n m env st r, n ≤ m → B n env st = some r → B m env st = some r) (h : ∀ env st r, b env st = some r → ∃ m, B m env st = some r) {ps env0} :
    ∀ {xs st r}, rangeN b ps env0 xs st = some r → ∃ m, rangeN (B m) ps env0 xs st = some r
  | [], st, r, e => ⟨0, e⟩
  | x :: xs, st, r, e => by
    simp only [rangeN] at *
    split at e <;> first | (cases e; done) | skip
    rename_i hc
    obtain ⟨⟨y, env', st'⟩, h1, h2⟩ := bind_some' e
    obtain ⟨m, hm⟩ := h _ _ _ h1
    simp only [if_pos hc]
    cases y <;> simp only [rgC] at h2
    · obtain ⟨m', hm'⟩ := rangeN_cont hB h h2
      exact ⟨max m m', of_bind (hB _ _ _ _ _ (Nat.le_max_left m m') hm) (rangeN_le (fun _ _ _ he => hB _ _ _ _ _ (Nat.le_max_right m m') he) hm')⟩
    · exact ⟨m, of_bind hm h2⟩
    · exact ⟨m, of_bind hm h2⟩
theorem rgB_cont {A B : Nat → List D → St → Option Out} {a b : List D → St → Option Out}
    (hA : ∀ n m env st r, n ≤ m → A n env st = some r → A m env st = some r) (hB : ∀ n m env st r, n ≤ m → B n env st = some r → B m env st = some r)
    (ha : ∀ env st r, a env st = some r → ∃ m, A m env st = some r) (hb : ∀ env st r, b env st = some r → ∃ m, B m env st = some r) : ∀ env st r, rgB a b env st = some r → ∃ m, rgB (A m) (B m) env st = some r := fun env st r e => by
  unfold rgB at *
  obtain ⟨⟨y, env', st'⟩, h1, h2⟩ := bind_some' e
  obtain ⟨m, hm⟩ := ha _ _ _ h1
  cases y <;> simp only [rgM] at h2 <;> first | (cases h2; done) | skip
  split at h2 <;> first | (cases h2; done) | skip
  rename_i hs
  obtain ⟨m', hm'⟩ := hb _ _ _ h2
  exact ⟨max m m', of_bind (hA _ _ _ _ _ (Nat.le_max_left m m') hm) (by simp only [rgM, if_pos hs]; exact hB _ _ _ _ _ (Nat.le_max_right m m') hm')⟩
theorem exec_cont {G : Prg} {n : Nat} : ∀ {c env st r}, exec (run G) n c env st = some r → ∃ m, exec (runN G m) n c env st = some r
  | .skip, _, _, _, e => ⟨0, e⟩
  | .ret, _, _, _, e => ⟨0, e⟩
  | .exit _, _, _, _, e => ⟨0, e⟩
  | .ops l, env, st, r, e => by
    simp only [exec] at *
    obtain ⟨q, h1, h2⟩ := map_some' e
    obtain ⟨m, hm⟩ := evOps_cont h1
    exact ⟨m, of_map hm h2⟩
  | .ifs l c a b, env, st, r, e => by
    simp only [exec] at *
    obtain ⟨q, h1, h2⟩ := bind_some' e
    obtain ⟨t, h3, h4⟩ := bind_some' h2
    obtain ⟨m, hm⟩ := evOps_cont h1
    cases t <;> simp only [if_true, if_false, Bool.false_eq_true] at h4 <;> obtain ⟨m', hm'⟩ := exec_cont h4 <;>
      exact ⟨max m m', of_bind (evOps_le (runN_le G (Nat.le_max_left m m')) hm) (of_bind h3 (exec_le (runN_le G (Nat.le_max_right m m')) (Nat.le_refl _) hm'))⟩
  | .seq a b, env, st, r, e => by
    simp only [exec] at *
    obtain ⟨⟨x, env', st'⟩, h1, h2⟩ := bind_some' e
    obtain ⟨m, hm⟩ := exec_cont h1
    cases x <;> simp only at h2
    · obtain ⟨m', hm'⟩ := exec_cont h2
      exact ⟨max m m', of_bind (exec_le (runN_le G (Nat.le_max_left m m')) (Nat.le_refl _) hm) (exec_le (runN_le G (Nat.le_max_right m m')) (Nat.le_refl _) hm')⟩
    · exact ⟨m, of_bind hm h2⟩
    · exact ⟨m, of_bind hm h2⟩
  | .block id a, env, st, r, e => by
    simp only [exec] at *
    obtain ⟨q, h1, h2⟩ := bind_some' e
    obtain ⟨m, hm⟩ := exec_cont h1
    exact ⟨m, of_bind hm h2⟩
  | .loop kill a, env, st, r, e => by
    simp only [exec] at *
    exact loopN_cont (B := fun m env st => exec (runN G m) n a env st) (fun _ _ _ _ _ h he => exec_le (runN_le G h) (Nat.le_refl _) he) (fun _ _ _ he => exec_cont he) kill e
  | .range k f x ps a b, env, st, r, e => by
    simp only [exec] at *
    obtain ⟨xs, h1, h2⟩ := bind_some' e
    obtain ⟨m, hm⟩ := rangeN_cont (B := fun m => rgB (fun env st => exec (runN G m) n a env st) (fun env st => exec (runN G m) n b env st))
      (fun _ _ _ _ _ h he => rgB_le (fun _ _ _ he => exec_le (runN_le G h) (Nat.le_refl _) he) (fun _ _ _ he => exec_le (runN_le G h) (Nat.le_refl _) he) _ _ _ he)
      (rgB_cont (fun _ _ _ _ _ h he => exec_le (runN_le G h) (Nat.le_refl _) he) (fun _ _ _ _ _ h he => exec_le (runN_le G h) (Nat.le_refl _) he) (fun _ _ _ he => exec_cont he) (fun _ _ _ he => exec_cont he)) h2
    exact ⟨m, of_bind h1 hm⟩
  | .clone d x sz bytes, env, st, r, e => ⟨0, e⟩
  | .grow d n sz bytes, env, st, r, e => ⟨0, e⟩
  | .nilc d x sz bytes a, env, st, r, e => by
    simp only [exec] at *
    split at e
    · rename_i h0; exact ⟨0, by rw [if_pos h0]; exact e⟩
    · rename_i h0
      obtain ⟨m, hm⟩ := exec_cont e
      exact ⟨m, by rw [if_neg h0]; exact hm⟩

/-! ### The code's equations -/
noncomputable def ex (G : Prg) (c : SCode) (env : List D) (st : St) : Option Out := lim fun n => exec (run G) n c env st
theorem ex_mono (G : Prg) (c env st) : Mono fun n => exec (run G) n c env st := fun n m r h e => exec_le (Le.refl _) h e
theorem ex_of {G : Prg} {n c env st r} (h : exec (run G) n c env st = some r) : ex G c env st = some r := lim_eq (ex_mono G c env st) h
theorem of_ex {G : Prg} {c env st r} (h : ex G c env st = some r) : ∃ n, exec (run G) n c env st = some r := of_lim h
theorem ext_opt {α : Type} {a b : Option α} (h1 : ∀ r, a = some r → b = some r) (h2 : ∀ r, b = some r → a = some r) : a = b := by
  cases a with
  | some x => exact (h1 x rfl).symm
  | none => cases b with
    | none => rfl
    | some y => exact h2 y rfl

theorem xq_range (G : Prg) (k f x ps a b env st) : ex G (.range k f x ps a b) env st = (iterD st k f ps.length (cp (getT env x))).bind fun xs => rangeN (rgB (fun env st => ex G a env st) (fun env st => ex G b env st)) ps (env.map cp) xs st := by
  refine ext_opt (fun r h => ?_) (fun r h => ?_)
  · obtain ⟨n, hn⟩ := of_ex h
    simp only [exec] at hn
    obtain ⟨xs, h1, h2⟩ := bind_some' hn
    exact of_bind h1 (rangeN_le (rgB_le (fun _ _ _ he => ex_of he) (fun _ _ _ he => ex_of he)) h2)
  · obtain ⟨xs, h1, h2⟩ := bind_some' h
    obtain ⟨m, hm⟩ := rangeN_cont (B := fun m => rgB (fun env st => exec (run G) m a env st) (fun env st => exec (run G) m b env st))
      (fun _ _ _ _ _ h he => rgB_le (fun _ _ _ he => exec_le (Le.refl _) h he) (fun _ _ _ he => exec_le (Le.refl _) h he) _ _ _ he)
      (rgB_cont (fun _ _ _ _ _ h he => exec_le (Le.refl _) h he) (fun _ _ _ _ _ h he => exec_le (Le.refl _) h he) (fun _ _ _ he => of_ex he) (fun _ _ _ he => of_ex he)) h2
    exact ex_of (n := m) (by simp only [exec]; exact of_bind h1 hm)
theorem xq_skip (G : Prg) (env st) : ex G .skip env st = some (.normal, env, st) := ex_of (n := 0) rfl
theorem xq_ret (G : Prg) (env st) : ex G .ret env st = some (.ret, env, st) := ex_of (n := 0) rfl
theorem xq_exit (G : Prg) (id env st) : ex G (.exit id) env st = some (.exit id, env, st) := ex_of (n := 0) rfl
theorem xq_ops (G : Prg) (l env st) : ex G (.ops l) env st = (evOps (run G) l env [] st).map fun q => (.normal, q.1, q.2.2) :=
  ext_opt (fun r h => let ⟨n, hn⟩ := of_ex h; hn) (fun r h => ex_of (n := 0) h)
theorem xq_ifs (G : Prg) (l c a b env st) : ex G (.ifs l c a b) env st = (evOps (run G) l env [] st).bind fun q => (boolD (rd q.1 q.2.1 c)).bind fun t =>
    if t = true then ex G a q.1 q.2.2 else ex G b q.1 q.2.2 := by
  refine ext_opt (fun r h => ?_) (fun r h => ?_)
  · obtain ⟨n, hn⟩ := of_ex h
    simp only [exec] at hn
    obtain ⟨q, h1, h2⟩ := bind_some' hn
    obtain ⟨t, h3, h4⟩ := bind_some' h2
    refine of_bind h1 (of_bind h3 ?_)
    cases t
    · exact ex_of h4
    · exact ex_of h4
  · obtain ⟨q, h1, h2⟩ := bind_some' h
    obtain ⟨t, h3, h4⟩ := bind_some' h2
    cases t <;> obtain ⟨n, hn⟩ := of_ex h4 <;> exact ex_of (n := n) (by simp only [exec]; exact of_bind h1 (of_bind h3 hn))
noncomputable def thenD (G : Prg) (b : SCode) : Out → Option Out
  | (.normal, env, st) => ex G b env st
  | (.ret, env, st) => some (.ret, env, st)
  | (.exit id, env, st) => some (.exit id, env, st)
theorem xq_seq (G : Prg) (a b env st) : ex G (.seq a b) env st = (ex G a env st).bind (thenD G b) := by
  refine ext_opt (fun r h => ?_) (fun r h => ?_)
  · obtain ⟨n, hn⟩ := of_ex h
    simp only [exec] at hn
    obtain ⟨⟨x, env', st'⟩, h1, h2⟩ := bind_some' hn
    refine of_bind (ex_of h1) ?_
    cases x <;> simp only at h2
    · exact ex_of h2
    · exact h2
    · exact h2
  · obtain ⟨⟨x, env', st'⟩, h1, h2⟩ := bind_some' h
    obtain ⟨n, hn⟩ := of_ex h1
    cases x
    · obtain ⟨m, hm⟩ := of_ex h2
      exact ex_of (n := max n m) (by simp only [exec]; exact of_bind (exec_le (Le.refl _) (Nat.le_max_left n m) hn) (exec_le (Le.refl _) (Nat.le_max_right n m) hm))
    · exact ex_of (n := n) (by simp only [exec]; exact of_bind hn h2)
    · exact ex_of (n := n) (by simp only [exec]; exact of_bind hn h2)
theorem xq_block (G : Prg) (id a env st) : ex G (.block id a) env st = (ex G a env st).bind (blkD id) := by
  refine ext_opt (fun r h => ?_) (fun r h => ?_)
  · obtain ⟨n, hn⟩ := of_ex h
    simp only [exec] at hn
    obtain ⟨q, h1, h2⟩ := bind_some' hn
    exact of_bind (ex_of h1) h2
  · obtain ⟨q, h1, h2⟩ := bind_some' h
    obtain ⟨n, hn⟩ := of_ex h1
    exact ex_of (n := n) (by simp only [exec]; exact of_bind hn h2)
theorem xq_nilc (G : Prg) (d x sz bytes a env st) : ex G (.nilc d x sz bytes a) env st = if isNilV (rdV st (cp (getT env x))) = true then some (.ret, env.set d (.v (.slc sz [])), st) else ex G a env st := by
  split
  · rename_i h0; exact ex_of (n := 0) (by simp only [exec]; rw [if_pos h0])
  · rename_i h0
    exact ext_opt (fun r h => by obtain ⟨n, hn⟩ := of_ex h; simp only [exec] at hn; rw [if_neg h0] at hn; exact ex_of hn) (fun r h => by obtain ⟨n, hn⟩ := of_ex h; exact ex_of (n := n) (by simp only [exec]; rw [if_neg h0]; exact hn))
theorem xq_grow (G : Prg) (d n sz bytes env st) : ex G (.grow d n sz bytes) env st = growD d sz bytes env st (getT env d) (getT env n) :=
  ext_opt (fun r h => by obtain ⟨n, hn⟩ := of_ex h; exact hn) (fun r h => ex_of (n := 0) h)
theorem xq_clone (G : Prg) (d x sz bytes env st) : ex G (.clone d x sz bytes) env st = ((rdV st (cp (getT env x))).bind (slcOf sz)).bind (cloneD d sz bytes env st) :=
  ext_opt (fun r h => by obtain ⟨n, hn⟩ := of_ex h; exact hn) (fun r h => ex_of (n := 0) h)
/-- one round of a loop -/
noncomputable def lpD (G : Prg) (kill : List Nat) (a : SCode) : Out → Option Out
  | (.normal, env, st) => ex G (.loop kill a) (pop (killE kill env) st).1 (pop (killE kill env) st).2
  | (.ret, env, st) => some (.ret, (pop (killE kill env) st).1, (pop (killE kill env) st).2)
  | (.exit id, env, st) => some (.exit id, (pop (killE kill env) st).1, (pop (killE kill env) st).2)
theorem xq_loop (G : Prg) (kill a env st) : ex G (.loop kill a) env st = (ex G a env ([] :: st)).bind (lpD G kill a) := by
  refine ext_opt (fun r h => ?_) (fun r h => ?_)
  · obtain ⟨n, hn⟩ := of_ex h
    simp only [exec] at hn
    cases n with
    | zero => simp [loopN] at hn
    | succ n =>
      simp only [loopN] at hn
      obtain ⟨⟨x, env', st'⟩, h1, h2⟩ := bind_some' hn
      refine of_bind (ex_of h1) ?_
      cases x <;> simp only at h2
      · exact ex_of (n := n + 1) (by simp only [exec]; exact loopN_le (fun _ _ _ h => h) kill (Nat.le_succ n) h2)
      · exact h2
      · exact h2
  · obtain ⟨⟨x, env', st'⟩, h1, h2⟩ := bind_some' h
    obtain ⟨n, hn⟩ := of_ex h1
    have hn1 : exec (run G) (n + 1) a env ([] :: st) = some (x, env', st') := exec_le (Le.refl _) (Nat.le_succ n) hn
    cases x
    · obtain ⟨m, hm⟩ := of_ex h2
      refine ex_of (n := max n m + 1) ?_
      simp only [exec, loopN]
      refine of_bind (exec_le (Le.refl _) (by omega) hn) ?_
      simp only [exec] at hm
      exact loopN_le (fun _ _ _ h => exec_le (Le.refl _) (by omega) h) kill (Nat.le_max_right n m) hm
    · exact ex_of (n := n + 1) (by simp only [exec, loopN]; exact of_bind hn1 h2)
    · exact ex_of (n := n + 1) (by simp only [exec, loopN]; exact of_bind hn1 h2)

theorem xq_fn (G : Prg) {f : Nat} {F : SFunc} (hp : G.prim f = none) (hf : G.fn f = some F) (as : List D) (st : St) (ha : as.length = F.np) :
    run G f as st = (ex G F.code (as ++ List.replicate (F.nv - F.np) .undef) ([] :: st)).bind (finD F.keep F.res st) := by
  refine ext_opt (fun r h => ?_) (fun r h => ?_)
  · obtain ⟨n, hn⟩ := of_run h
    cases n with
    | zero => simp [runN] at hn
    | succ n =>
      simp only [runN, hp, hf, runF, ha, if_true] at hn
      obtain ⟨q, h1, h2⟩ := bind_some' hn
      exact of_bind (ex_of (n := n) (exec_le (le_run G n) (Nat.le_refl _) h1)) h2
  · obtain ⟨q, h1, h2⟩ := bind_some' h
    obtain ⟨n, hn⟩ := of_ex h1
    obtain ⟨m, hm⟩ := exec_cont hn
    refine run_of (n := max n m + 1) ?_
    simp only [runN, hp, hf, runF, ha, if_true]
    exact of_bind (exec_le (runN_le G (Nat.le_max_right n m)) (Nat.le_max_left n m) hm) h2
theorem xq_prim (G : Prg) {f : Nat} {F : List D → St → Option (D × St)} (hp : G.prim f = some F) (as : List D) (st : St) :
    run G f as st = F as st :=
  ext_opt (fun r h => by
    obtain ⟨n, hn⟩ := of_run h
    cases n with
    | zero => simp [runN] at hn
    | succ n => simpa only [runN, hp] using hn) (fun r h => run_of (n := 1) (by simpa only [runN, hp] using h))

/-! ### The equations by which code is worked out -/
theorem ite_bind {α β : Type} (p : Prop) [Decidable p] (a b : Option α) (f : α → Option β) : (if p then a else b).bind f = if p then a.bind f else b.bind f := by
  split <;> rfl
theorem ite_map {α β : Type} (p : Prop) [Decidable p] (a b : Option α) (f : α → β) : (if p then a else b).map f = if p then a.map f else b.map f := by
  split <;> rfl
theorem set_same : ∀ (l : List D) (j : Nat), l.set j (getT l j) = l
  | [], _ => rfl
  | d :: l, 0 => rfl
  | d :: l, n + 1 => by simp only [getT, List.set_cons_succ]; rw [set_same l n]
section
variable (R : Run)
theorem eo_nil (env ts st) : evOps R [] env ts st = some (env, ts, st) := rfl
theorem eo_T (op l env ts st) : evOps R (⟨none, .tmp, op⟩ :: l) env ts st = (evOp R env ts st op).bind fun q => evOps R l q.2.1 (q.1 :: q.2.2.1) q.2.2.2 := rfl
theorem eo_N (op l env ts st) : evOps R (⟨none, .none, op⟩ :: l) env ts st = (evOp R env ts st op).bind fun q => evOps R l q.2.1 (.undef :: q.2.2.1) q.2.2.2 := rfl
theorem eo_W (i op l env ts st) : evOps R (⟨none, .var i, op⟩ :: l) env ts st = (evOp R env ts st op).bind fun q => evOps R l (q.2.1.set i q.1) (.undef :: q.2.2.1) q.2.2.2 := rfl
/-- a guarded operation: once its guard is known, it is known -/
def guardD (j : Nat) (b : Bool) (dst : Dst) (op : SOp) (l : List SOper) (env ts : List D) (st : St) : D → Option (List D × List D × St)
  | .v (.bool t) => if t = true
    then (if b = true then evOps R (⟨none, dst, op⟩ :: l) env (ts.set j (.v (.bool true))) st else evOps R l (putD (.tup []) env (ts.set j (.v (.bool true))) dst).1 (putD (.tup []) env (ts.set j (.v (.bool true))) dst).2 st)
    else (if b = true then evOps R l (putD (.tup []) env (ts.set j (.v (.bool false))) dst).1 (putD (.tup []) env (ts.set j (.v (.bool false))) dst).2 st else evOps R (⟨none, dst, op⟩ :: l) env (ts.set j (.v (.bool false))) st)
  | .tup [] => evOps R l (putD (.tup []) env ts dst).1 (putD (.tup []) env ts dst).2 st
  | _ => none
theorem eo_G (j b dst op l env ts st) : evOps R (⟨some (j, b), dst, op⟩ :: l) env ts st = guardD R j b dst op l env ts st (getT ts j) := by
  have h0 : evOps R (⟨some (j, b), dst, op⟩ :: l) env ts st = (wantD b (getT ts j)).bind fun w => if w = true then evOps R (⟨none, dst, op⟩ :: l) env ts st else evOps R l (putD (.tup []) env ts dst).1 (putD (.tup []) env ts dst).2 st := rfl
  rw [h0]
  unfold guardD
  split
  · rename_i t ht
    have hs := set_same ts j
    rw [ht] at hs
    rw [ht]
    cases t <;> cases b <;> simp only [if_true, if_false, Bool.false_eq_true, hs] <;> rfl
  · rename_i ht; rw [ht]; rfl
  · rename_i h1 h2
    unfold wantD
    split
    · rename_i t ht; exact absurd ht (h1 t)
    · rename_i ht; exact absurd ht h2
    · rfl
end
/-! ### The same data -/
mutual
theorem sameV_eq : ∀ (x y : V), sameV x y = true → x = y
  | .bool a, y, h => by cases y <;> simp [sameV] at h; subst h; rfl
  | .int k n, y, h => by cases y <;> simp [sameV] at h; obtain ⟨rfl, rfl⟩ := h; rfl
  | .str a, y, h => by cases y <;> simp [sameV] at h; subst h; rfl
  | .slc z xs, y, h => by
    cases y <;> simp [sameV] at h
    obtain ⟨rfl, h⟩ := h
    rw [sameVs_eq _ _ h]
  | .agg xs, y, h => by
    cases y <;> simp [sameV] at h
    rw [sameVs_eq _ _ h]
  | .nilp, y, h => by cases y <;> simp [sameV] at h; rfl
  | .nili, y, h => by cases y <;> simp [sameV] at h; rfl
  | .nilf, y, h => by cases y <;> simp [sameV] at h; rfl
  | .nilm, y, h => by cases y <;> simp [sameV] at h; rfl
  | .iface t x, y, h => by
    cases y <;> simp [sameV] at h
    obtain ⟨rfl, h⟩ := h
    rw [sameV_eq _ _ h]
  | .fn f, y, h => by cases y <;> simp [sameV] at h; subst h; rfl
  | .pt xs, y, h => by
    cases y <;> simp [sameV] at h
    rw [sameVs_eq _ _ h]
theorem sameVs_eq : ∀ (xs ys : List V), sameVs xs ys = true → xs = ys
  | [], ys, h => by cases ys <;> simp [sameVs] at h; rfl
  | x :: xs, ys, h => by
    cases ys <;> simp [sameVs] at h
    rw [sameV_eq _ _ h.1, sameVs_eq _ _ h.2]
end
mutual
theorem sameV_refl : ∀ (x : V), sameV x x = true
  | .bool a => by simp [sameV]
  | .int k n => by simp [sameV]
  | .str a => by simp [sameV]
  | .slc z xs => by simp [sameV, sameVs_refl xs]
  | .agg xs => by simp [sameV, sameVs_refl xs]
  | .nilp => rfl
  | .nili => rfl
  | .nilf => rfl
  | .nilm => rfl
  | .iface t x => by simp [sameV, sameV_refl x]
  | .fn f => by simp [sameV]
  | .pt xs => by simp [sameV, sameVs_refl xs]
theorem sameVs_refl : ∀ (xs : List V), sameVs xs xs = true
  | [] => rfl
  | x :: xs => by simp [sameVs, sameV_refl x, sameVs_refl xs]
end
mutual
theorem sameD_eq : ∀ (x y : D), sameD x y = true → x = y
  | .v x, y, h => by
    cases y <;> simp [sameD] at h
    rw [sameV_eq _ _ h]
  | .nils z, y, h => by cases y <;> simp [sameD] at h; subst h; rfl
  | .lin z xs, y, h => by
    cases y <;> simp [sameD] at h
    obtain ⟨rfl, h⟩ := h
    rw [sameVs_eq _ _ h]
  | .own r z o l x, y, h => by
    cases y <;> simp [sameD] at h
    obtain ⟨⟨⟨⟨rfl, rfl⟩, rfl⟩, rfl⟩, rfl⟩ := h; rfl
  | .arr r i o l, y, h => by
    cases y <;> simp [sameD] at h
    obtain ⟨⟨⟨rfl, rfl⟩, rfl⟩, rfl⟩ := h; rfl
  | .ptr r i o, y, h => by
    cases y <;> simp [sameD] at h
    obtain ⟨⟨rfl, rfl⟩, rfl⟩ := h; rfl
  | .va cs o, y, h => by
    cases y <;> simp [sameD] at h
    obtain ⟨h, rfl⟩ := h
    rw [sameVs_eq _ _ h]
  | .map r, y, h => by cases y <;> simp [sameD] at h; subst h; rfl
  | .clo f a b, y, h => by
    cases y <;> simp [sameD] at h
    obtain ⟨⟨rfl, h1⟩, h2⟩ := h
    rw [sameDs_eq _ _ h1, sameDs_eq _ _ h2]
  | .ifc t d, y, h => by
    cases y <;> simp [sameD] at h
    obtain ⟨rfl, h⟩ := h
    rw [sameD_eq _ _ h]
  | .agg ds, y, h => by
    cases y <;> simp [sameD] at h
    rw [sameDs_eq _ _ h]
  | .tup ds, y, h => by
    cases y <;> simp [sameD] at h
    rw [sameDs_eq _ _ h]
  | .undef, y, h => by cases y <;> simp [sameD] at h; rfl
theorem sameDs_eq : ∀ (xs ys : List D), sameDs xs ys = true → xs = ys
  | [], ys, h => by cases ys <;> simp [sameDs] at h; rfl
  | x :: xs, ys, h => by
    cases ys <;> simp [sameDs] at h
    rw [sameD_eq _ _ h.1, sameDs_eq _ _ h.2]
end
mutual
theorem sameD_refl : ∀ (x : D), sameD x x = true
  | .v x => sameV_refl x
  | .nils z => by simp [sameD]
  | .lin z xs => by simp [sameD, sameVs_refl xs]
  | .own r z o l x => by simp [sameD]
  | .arr r i o l => by simp [sameD]
  | .ptr r i o => by simp [sameD]
  | .va cs o => by simp [sameD, sameVs_refl cs]
  | .map r => by simp [sameD]
  | .clo f a b => by simp [sameD, sameDs_refl a, sameDs_refl b]
  | .ifc t d => by simp [sameD, sameD_refl d]
  | .agg ds => by simp [sameD, sameDs_refl ds]
  | .tup ds => by simp [sameD, sameDs_refl ds]
  | .undef => rfl
theorem sameDs_refl : ∀ (xs : List D), sameDs xs xs = true
  | [] => rfl
  | x :: xs => by simp [sameDs, sameD_refl x, sameDs_refl xs]
end
theorem sameO_refl (x : Option D) : sameO x x = true := by cases x with
  | none => rfl
  | some d => exact sameD_refl d
theorem sameO_eq {x y : Option D} (h : sameO x y = true) : x = y := by
  cases x <;> cases y <;> first | rfl | (cases h; done) | skip
  rw [sameD_eq _ _ h]
theorem sameLs_at {st st' : St} : ∀ {l : List (D × Nat × Option Nat)}, sameLs st st' l = true → ∀ p ∈ l, ldF st p.2.2 p.2.1 p.1 = ldF st' p.2.2 p.2.1 p.1
  | [], _, p, hp => by cases hp
  | x :: l, h, p, hp => by
    simp only [sameLs, Bool.and_eq_true] at h
    rcases List.mem_cons.1 hp with rfl | hp
    · exact sameO_eq h.1
    · exact sameLs_at h.2 p hp

end Go.Q
