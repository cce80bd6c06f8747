/- Common lemmas for the equations. No condition. -/
import Derived.Test.YthfjopmfgaohjaaDoorEq
import Derived.Laws.MakeOwn
import Derived.ProofKit
set_option linter.all false
set_option maxRecDepth 100000
namespace Go.Q
open SOp SCode

abbrev In (x : Int) : Prop := -9223372036854775808 ≤ x ∧ x ≤ 9223372036854775807
theorem wrapS {x : Int} (h : In x) : IntKind.i64.wrap x = x := by rw [IntKind.wrap_i64]; omega
theorem wrap8 {x : Int} (h : 0 ≤ x ∧ x ≤ 255) : IntKind.u8.wrap x = x := by rw [IntKind.wrap_u8]; omega
theorem lp_up {G : Prg} {kill : List Nat} {body : SCode} {st : St} (E : Nat → List D) (j : Nat) (step : ∀ i, i < j → ex G (.loop kill body) (E i) st = ex G (.loop kill body) (E (i + 1)) st) : ∀ (k i : Nat), i + k = j → ex G (.loop kill body) (E i) st = ex G (.loop kill body) (E j) st
  | 0, i, hk => by
    have : i = j := by omega
    subst this; rfl
  | k + 1, i, hk => by rw [step i (by omega), lp_up E j step k (i + 1) (by omega)]
theorem lp0 {G : Prg} {kill : List Nat} {body : SCode} {st : St} (E : Nat → List D) (j : Nat) (step : ∀ i, i < j → ex G (.loop kill body) (E i) st = ex G (.loop kill body) (E (i + 1)) st) : ex G (.loop kill body) (E 0) st = ex G (.loop kill body) (E j) st := lp_up E j step j 0 (by omega)

theorem oWS {x : Int} (h : -9223372036854775808 ≤ x ∧ x ≤ 9223372036854775807) : IntKind.i64.wrap x = x := wrapS h
theorem oW8 {x : Int} (h : 0 ≤ x ∧ x ≤ 255) : IntKind.u8.wrap x = x := wrap8 h
theorem oW16 {x : Int} (h : 0 ≤ x ∧ x ≤ 65535) : IntKind.u16.wrap x = x := by simp only [IntKind.wrap, IntKind.signed, IntKind.bits]; simp; omega
theorem oW32 {x : Int} (h : 0 ≤ x ∧ x ≤ 4294967295) : IntKind.u32.wrap x = x := by simp only [IntKind.wrap, IntKind.signed, IntKind.bits]; simp; omega
theorem oW64 {x : Int} (h : 0 ≤ x ∧ x ≤ 18446744073709551615) : IntKind.u64.wrap x = x := by simp only [IntKind.wrap, IntKind.signed, IntKind.bits]; simp; omega
theorem oLtT {a b : Int} (h : a < b) : (a < b) = True := eq_true h
theorem oLtF {a b : Int} (h : ¬ a < b) : (a < b) = False := eq_false h
theorem oLeT {a b : Int} (h : a ≤ b) : (a ≤ b) = True := eq_true h
theorem oLeF {a b : Int} (h : ¬ a ≤ b) : (a ≤ b) = False := eq_false h
theorem oNLtT {a b : Nat} (h : a < b) : (a < b) = True := eq_true h
theorem oNLtF {a b : Nat} (h : ¬ a < b) : (a < b) = False := eq_false h
theorem oNLeT {a b : Nat} (h : a ≤ b) : (a ≤ b) = True := eq_true h
theorem oNLeF {a b : Nat} (h : ¬ a ≤ b) : (a ≤ b) = False := eq_false h
theorem oEqT {a b : Int} (h : a = b) : (a = b) = True := eq_true h
theorem oEqF {a b : Int} (h : ¬ a = b) : (a = b) = False := eq_false h
theorem oNEqT {a b : Nat} (h : a = b) : (a = b) = True := eq_true h
theorem oNEqF {a b : Nat} (h : ¬ a = b) : (a = b) = False := eq_false h
theorem oBeqT {a b : Int} (h : a = b) : (a == b) = true := by simp [h]
theorem oBeqF {a b : Int} (h : ¬ a = b) : (a == b) = false := by simp [h]
theorem oBneT {a b : Int} (h : ¬ a = b) : (a != b) = true := by simp [h]
theorem oBneF {a b : Int} (h : a = b) : (a != b) = false := by simp [h]
def rnd (kill : List Nat) : Out → Option (Sum (List D × St) Out)
  | (.normal, env, st) => some (.inl (pop (killE kill env) st))
  | (.ret, env, st) => some (.inr (.ret, (pop (killE kill env) st).1, (pop (killE kill env) st).2))
  | (.exit id, env, st) => some (.inr (.exit id, (pop (killE kill env) st).1, (pop (killE kill env) st).2))
@[go_sem] theorem rnd_n (kill env st) : rnd kill (.normal, env, st) = some (.inl (pop (killE kill env) st)) := rfl
@[go_sem] theorem rnd_r (kill env st) : rnd kill (.ret, env, st) = some (.inr (.ret, (pop (killE kill env) st).1, (pop (killE kill env) st).2)) := rfl
@[go_sem] theorem rnd_e (kill id env st) : rnd kill (.exit id, env, st) = some (.inr (.exit id, (pop (killE kill env) st).1, (pop (killE kill env) st).2)) := rfl
noncomputable def rndE (G : Prg) (kill : List Nat) (a : SCode) (env : List D) (st : St) : Option (Sum (List D × St) Out) := (ex G a env ([] :: st)).bind (rnd kill)
@[go_sem] theorem rndE_eq (G : Prg) (kill a env st) : rndE G kill a env st = (ex G a env ([] :: st)).bind (rnd kill) := rfl
theorem rnd_step {G : Prg} {kill a env st env' st'} (h : rndE G kill a env st = some (.inl (env', st'))) : ex G (.loop kill a) env st = ex G (.loop kill a) env' st' := by
  rw [xq_loop]
  obtain ⟨⟨x, e, s⟩, h1, h2⟩ := bind_some' h
  rw [h1, Option.bind_some]
  cases x <;> simp only [rnd, Option.some.injEq, Sum.inl.injEq, Prod.mk.injEq, reduceCtorEq] at h2
  simp only [lpD]
  rw [h2]
theorem rnd_end {G : Prg} {kill a env st o} (h : rndE G kill a env st = some (.inr o)) : ex G (.loop kill a) env st = some o := by
  rw [xq_loop]
  obtain ⟨⟨x, e, s⟩, h1, h2⟩ := bind_some' h
  rw [h1, Option.bind_some]
  cases x <;> simp only [rnd, Option.some.injEq, Sum.inr.injEq, reduceCtorEq] at h2
  · simp only [lpD]; rw [← h2]
  · simp only [lpD]; rw [← h2]
theorem lpFrom {G : Prg} {kill : List Nat} {body : SCode} (E : Nat → List D) (S : Nat → St) (n : Nat) (o : Out) (step : ∀ i, i < n → rndE G kill body (E i) (S i) = some (.inl (E (i + 1), S (i + 1)))) (fin : rndE G kill body (E n) (S n) = some (.inr o)) :
    ∀ k i, i + k = n → ex G (.loop kill body) (E i) (S i) = some o
  | 0, i, h => by
    have : i = n := by omega
    subst this; exact rnd_end fin
  | k + 1, i, h => by rw [rnd_step (step i (by omega))]; exact lpFrom E S n o step fin k (i + 1) (by omega)
theorem lpFor {G : Prg} {kill : List Nat} {body : SCode} (E : Nat → List D) (S : Nat → St) (n : Nat) {o : Out} (step : ∀ i, i < n → rndE G kill body (E i) (S i) = some (.inl (E (i + 1), S (i + 1)))) (fin : rndE G kill body (E n) (S n) = some (.inr o)) :
    ex G (.loop kill body) (E 0) (S 0) = some o := lpFrom E S n o step fin n 0 (by omega)
theorem z0 : ((0 : Nat) : Int) = 0 := rfl

def b8 (l : List Int) : List V := l.map (.int .u8)
theorem b8_len (l : List Int) : (b8 l).length = l.length := by simp [b8]
theorem b8_at {l : List Int} {i : Nat} {x : Int} (h : l[i]? = some x) : (b8 l)[i]? = some (.int .u8 x) := by simp [b8, h]
theorem b8_app (a b : List Int) : b8 a ++ b8 b = b8 (a ++ b) := by simp [b8]
theorem b8_take (a : List Int) (n : Nat) : (b8 a).take n = b8 (a.take n) := by simp [b8]
theorem b8_drop (a : List Int) (n : Nat) : (b8 a).drop n = b8 (a.drop n) := by simp [b8]
abbrev Opt := Int × List Int
abbrev oe (o : Opt) : V := .agg [.int .u8 o.1, .slc 1 (b8 o.2)]
def oes (l : List Opt) : List V := l.map oe
theorem oes_nil : oes [] = [] := rfl
theorem oes_len (l : List Opt) : (oes l).length = l.length := by simp [oes]
theorem oes_at {l : List Opt} {i : Nat} {x : Opt} (h : l[i]? = some x) : (oes l)[i]? = some (oe x) := by simp [oes, h]
theorem oes_app (a b : List Opt) : oes a ++ oes b = oes (a ++ b) := by simp [oes]
theorem oes_take (a : List Opt) (n : Nat) : (oes a).take n = oes (a.take n) := by simp [oes]
theorem oes_drop (a : List Opt) (n : Nat) : (oes a).drop n = oes (a.drop n) := by simp [oes]
abbrev M : Nat := 100000
theorem inc {i : Nat} (h : i ≤ M) : IntKind.i64.wrap ((i : Int) + 1) = ((i + 1 : Nat) : Int) := by rw [wrapS (by have : M = 100000 := rfl; omega)]; omega
theorem bne_eq {a b : Int} (h : a = b) : (a != b) = false := by simp [h]
theorem bne_ne {a b : Int} (h : a ≠ b) : (a != b) = true := by simp [h]
theorem beq_ne {a b : Int} (h : a ≠ b) : (a == b) = false := by simp [h]
theorem hmax : maxB = 140737488355328 := rfl
theorem take_succ {α : Type} {l : List α} {i : Nat} (h : i < l.length) : l.take (i + 1) = l.take i ++ [l[i]] := by
  rw [List.take_add_one, List.getElem?_eq_getElem h]; rfl

theorem first_or (P : Nat → Prop) (n : Nat) : (∀ i, i < n → ¬ P i) ∨ ∃ j, j < n ∧ P j ∧ ∀ i, i < j → ¬ P i := by
  classical
  induction n with
  | zero => exact .inl fun i h => absurd h (by omega)
  | succ n ih =>
    rcases ih with h | ⟨j, h1, h2, h3⟩
    · by_cases hp : P n
      · exact .inr ⟨n, by omega, hp, h⟩
      · exact .inl fun i hi => if e : i = n then e ▸ hp else h i (by omega)
    · exact .inr ⟨j, by omega, h2, h3⟩
abbrev okB (l : List Int) : Prop := ∀ x ∈ l, 0 ≤ x ∧ x ≤ 255
abbrev okO (o : Opt) : Prop := (0 ≤ o.1 ∧ o.1 ≤ 255) ∧ okB o.2
abbrev okL (l : List Opt) : Prop := ∀ o ∈ l, okO o
def by8 (l : List Int) : List UInt8 := l.map fun x => UInt8.ofNat x.toNat
theorem bytesOf_b8 : ∀ (l : List Int), okB l → bytesOf (b8 l) = some (by8 l)
  | [], _ => rfl
  | x :: l, h => by
    have h1 := h x (by simp)
    have ih := bytesOf_b8 l fun y hy => h y (by simp [hy])
    unfold b8 at ih
    simp only [b8, by8, List.map_cons, bytesOf] at ih ⊢
    rw [if_pos ⟨h1.1, by omega⟩, ih]; rfl
theorem by8_inj : ∀ (a b : List Int), okB a → okB b → (by8 a == by8 b) = (a == b)
  | [], [], _, _ => rfl
  | [], y :: b, _, _ => rfl
  | x :: a, [], _, _ => rfl
  | x :: a, y :: b, h, g => by
    have h1 := h x (by simp)
    have g1 := g y (by simp)
    have ih := by8_inj a b (fun z hz => h z (by simp [hz])) (fun z hz => g z (by simp [hz]))

    simp only [by8, List.map_cons] at ih ⊢
    have e : (UInt8.ofNat x.toNat == UInt8.ofNat y.toNat) = (x == y) := by
      by_cases hxy : x = y
      · subst hxy; simp
      · have : UInt8.ofNat x.toNat ≠ UInt8.ofNat y.toNat := fun hh => by
          have := congrArg UInt8.toNat hh
          simp only [UInt8.toNat_ofNat'] at this
          omega
        rw [beq_eq_false_iff_ne.2 this, beq_eq_false_iff_ne.2 hxy]
    rw [show ((UInt8.ofNat x.toNat :: a.map _) == (UInt8.ofNat y.toNat :: b.map _)) = ((UInt8.ofNat x.toNat == UInt8.ofNat y.toNat) && (a.map (fun x => UInt8.ofNat x.toNat) == b.map (fun x => UInt8.ofNat x.toNat))) from rfl, e, ih]; rfl
def clD (z : Nat) : List V → D
  | [] => .v (.slc z [])
  | x :: xs => .lin z (x :: xs)
theorem cl_cp (z : Nat) (l : List V) : cp (clD z l) = .v (.slc z l) := by cases l <;> rfl

def accG (z : Nat) : List V → D
  | [] => .nils z
  | x :: xs => .lin z (x :: xs)
def wkG (z : Nat) : List V → D
  | [] => .nils z
  | x :: xs => .v (.slc z (x :: xs))
section
variable (z : Nat) (l : List V) (env ts : List D) (j : Nat) (st : St) (n : Nat)
theorem lz_same : ∀ (env : List D) (j : Nat) (d : D), getT env j = d → env.set j d = env
  | [], _, _, _ => rfl
  | a :: r, 0, d, h => by simp only [getT] at h; subst h; rfl
  | a :: r, j + 1, d, h => by simp only [getT] at h; rw [List.set_cons_succ, lz_same r j d h]
def setW : List D → Nat → Nat → List V → List D
  | env, j, z, [] => env
  | env, j, z, x :: xs => env.set j (wkG z (x :: xs))
theorem setW_s (a : D) (env : List D) (j : Nat) : setW (a :: env) (j + 1) z l = a :: setW env j z l := by cases l <;> rfl
theorem setW_0 (env : List D) : setW (accG z l :: env) 0 z l = wkG z l :: env := by cases l <;> rfl
theorem ac_x : takeD env ts (.x j) (accG z l) = (accG z l, setW env j z l, ts) := by cases l <;> rfl
theorem ac_t : takeD env ts (.t j) (accG z l) = (accG z l, env, setW ts j z l) := by cases l <;> rfl
theorem ac_cp : cp (accG z l) = wkG z l := by cases l <;> rfl
theorem ac_cpw : cp (wkG z l) = wkG z l := by cases l <;> rfl
theorem ac_lenw : lenOf (wkG z l) = some l.length := by cases l <;> rfl
theorem ac_ret : retD st n (accG z l) = some (.lin z l) := by cases l <;> rfl
theorem ac_retw : retD st n (wkG z l) = some (match l with | [] => .lin z [] | x :: xs => .v (.slc z (x :: xs))) := by cases l <;> rfl
theorem ac_pop : popD st n (accG z l) = accG z l := by cases l <;> rfl
theorem ac_popw : popD st n (wkG z l) = wkG z l := by cases l <;> rfl
theorem ac_app (bytes : Nat) (ys : List V) (h0 : l ++ ys ≠ []) (h : (l.length + ys.length) * bytes ≤ maxB) : opApp z bytes ys (accG z l) = some (accG z (l ++ ys)) := by
  cases l with
  | nil =>
    cases ys with
    | nil => exact absurd rfl h0
    | cons y ys => simp only [List.length_nil, Nat.zero_add] at h; simp only [accG, opApp, h, if_true, List.nil_append]
  | cons x l => simp only [accG, opApp, h, and_self, if_true, List.cons_append]
end
theorem accN (z : Nat) : accG z [] = D.nils z := rfl
theorem b8_cons (x : Int) (l : List Int) : b8 (x :: l) = V.int .u8 x :: b8 l := rfl
theorem b8_nil : b8 [] = [] := rfl
theorem acc0 (z : Nat) : D.nils z = accG z [] := rfl
attribute [go_sem] true_or or_true false_or or_false or_self ac_x ac_t setW_s setW_0 ac_cp ac_cpw ac_lenw ac_ret ac_pop ac_popw cl_cp Int.cast_ofNat_Int Int.toNat_natCast
theorem accC (z : Nat) (x : V) (l : List V) : accG z (x :: l) = .lin z (x :: l) := rfl
end Go.Q
