/- A range over a function, its rounds told by their number. No condition. -/
import Derived.Test.YtmbdamompcdolaaDoorEvw
import Derived.RangeFuncFrom
import Derived.RangeFuncLeaves
set_option linter.unusedVariables false
set_option linter.unusedSimpArgs false
set_option linter.unusedSectionVars false
namespace Go.Q
open Go.RowKit
/-- an iterator gives encs 0, .., encs (n - 1), or is stopped -/
def SeqAt (P : Program) (gf : Nat) (lb : Array Value) (encs : Nat → Array Value) (n : Nat) (Kp : World → World → Prop) (w : World) : Prop :=
  ∀ (l : Nat) (J : Nat → World → Prop) (Jx : Unit → World → Prop) (W : World), Below w.heap.size w W → AbidesFrom W.heap.size J → AbidesFrom W.heap.size Jx →
    (∀ k W1, J k W1 → k < n → YieldAt (wideR none) 0 P l (encs k) W1 fun e W' => (e = .returned (.bool true) ∧ J (k + 1) W' ∧ Kp W1 W') ∨ (e = .returned (.bool false) ∧ Jx () W')) →
    J 0 W → CallsIn (wideR none) 0 P gf (#[.func (.yield l) #[] #[]] ++ lb) W fun e W' => (∃ v, e = .returned v) ∧ (J n W' ∨ Jx () W')
/-- how a round ends -/
def roundEnd (Kp : World → World → Prop) (I : Nat → World → Prop) (Ix : Code → World → Prop) (k : Nat) (W : World) : Exit → Act → World → Prop
  | .normal, _, W' => KeepsOthers W W' ∧ Kp W W' ∧ I (k + 1) W'
  | .ret, _, W' => KeepsOthers W W' ∧ Ix .ret W'
  | .exit id, _, W' => KeepsOthers W W' ∧ Ix (.exit id) W'
  | _, _, _ => False
abbrev markOf (D : Nat) : Deferred := { target := .collected D, args := #[] }
theorem range_law {P : Program} {gx : Operand} {ps : Array Tmp} {assign body : Code} {Q : Exit → Act → World → Prop} {a : Act} {w : World} {gf : Nat} {lb : Array Value} {encs : Nat → Array Value} {n : Nat} {Kp : World → World → Prop}
    (hg : a.eval gx = .func (.func gf) #[] lb) (eg : ∀ args w, (callFunc gf args).run P w = .ok (.enter gf args) w) (hseq : SeqAt P gf lb encs n Kp w)
    (hKt : ∀ {A B C : World}, Kp A B → Kp B C → Kp A C) (hKb : ∀ (W : World) (l : Nat) (o o' : Obj), w.heap.size ≤ l → W.heap[l]? = some o → o.isCells = false → Kp W (W.putObj l o'))
    (hps : ∀ k, k < n → (encs k).size = ps.size) (I : Nat → World → Prop) (Ix : Code → World → Prop) (hI : OwnFrom w.heap.size I) (hIx : ∀ c, OwnFrom w.heap.size fun (_ : Unit) W => Ix c W) (h0 : I 0 w) (Mid : Nat → Act → World → Prop) (hMid : ∀ k a, OwnFrom w.heap.size fun (_ : Unit) W => Mid k a W)
    (hassign : ∀ (l k : Nat) (W : World), I k W → k < n → assign.wpIn (wideR (some l)) 0 P (Exit.then (fun a₁ W₁ => KeepsOthers W W₁ ∧ Kp W W₁ ∧ Mid k a₁ W₁) fun _ _ _ => False) { tmps := (ps.zip (encs k)).foldl (fun t (p, v) => t.setIfInBounds p v) a.tmps, defers := [] } W)
    (hbody : ∀ (l k : Nat) (a₁ : Act) (W : World), Mid k a₁ W → k < n → body.wpIn (wideR (some l)) 0 P (roundEnd Kp I Ix k W) a₁ W)
    (hdone : ∀ (D : Nat) (W : World), w.heap.size ≤ D → I n W → W.heap[D]? = some (.deferred (some [])) → Q .normal { a with defers := markOf D :: a.defers } W)
    (hstop : ∀ (D : Nat) (c : Code) (W : World), w.heap.size ≤ D → Ix c W → W.heap[D]? = some (.deferred (some [])) → c.wpIn (wideR none) 0 P Q { a with defers := markOf D :: a.defers } W) :
    (Code.rangeFunc gx ps assign body).wpIn (wideR none) 0 P Q a w := by
  refine wpIn_rangeFunc fun fn _ => ?_
  -- the record of the loop, and the block of what is deferred
  let rec_ : LoopState → Option Code → Loop := fun s p => { state := s, pending := p, fn := fn, tmps := a.tmps, params := ps, assign := assign, body := body, defers := w.heap.size }
  let D := w.heap.size
  let W1 := (w.alloc (.deferred (some []))).alloc (.loop (rec_ .ready none))
  have e1 : W1.heap[D + 1]? = some (.loop (rec_ .ready none)) := by
    have := World.alloc_heap_new (w.alloc (.deferred (some []))) (.loop (rec_ .ready none))
    rwa [World.size_alloc] at this
  have e2 : W1.heap[D]? = some (.deferred (some [])) := (Below.heap_alloc _ _ _ (by simp [D])).trans (World.alloc_heap_new w _)
  have e3 : Below D w W1 := ((Below.refl _ w).alloc (Nat.le_refl _) _).alloc (by simp) _
  have e4 : I 0 W1 := hI.alloc _ (hI.alloc _ h0)
  have hsz : W1.heap.size = D + 2 := by simp [W1, D]
  refine ⟨D + 1, [markOf D], W1, { target := .fn (.func gf) lb, args := #[.func (.yield (D + 1)) #[] #[]] }, W1, gf, #[.func (.yield (D + 1)) #[] #[]] ++ lb, W1, run_enterLoop_outer _ _ _ _ _, ?_, fun _ _ => trivial, ?_, fun h => absurd h (by simp [wideR, Fence.wide]), ?_⟩
  · simp only [resolve, hg]
    simp [go_sem]
  · simp [invoke, go_sem, eg]
  have far : ∀ {A : World} {row : Option Nat}, (∀ r, row = some r → W1.heap.size ≤ r ∧ ∃ o : Obj, A.heap[r]? = some o ∧ o.isWalk = true) → ∀ r, row = some r → w.heap.size ≤ r ∧ ∃ o : Obj, A.heap[r]? = some o ∧ o.isCells = false := fun hr r e => by
    obtain ⟨hB, o, ho, hw⟩ := hr r e
    exact ⟨by rw [hsz] at hB; show D ≤ r; omega, o, ho, Obj.not_cells_of_walk hw⟩
  refine (hseq (D + 1) (fun k W => I k W ∧ W.heap[D + 1]? = some (.loop (rec_ .ready none)) ∧ W.heap[D]? = some (.deferred (some [])))
    (fun _ W => ∃ c, Ix c W ∧ W.heap[D + 1]? = some (.loop (rec_ .done (some c))) ∧ W.heap[D]? = some (.deferred (some []))) W1 e3
    (fun k A B row hs hb hr => ⟨hI k A B row hs.1 hb (far hr), (grownBy_keeps hb (fun r e => (hr r e).2) hs.2.1 rfl).trans hs.2.1, (grownBy_keeps hb (fun r e => (hr r e).2) hs.2.2 rfl).trans hs.2.2⟩)
    (fun k A B row hs hb hr => by
      obtain ⟨c, h1, h2, h3⟩ := hs
      exact ⟨c, hIx c () A B row h1 hb (far hr), (grownBy_keeps hb (fun r e => (hr r e).2) h2 rfl).trans h2, (grownBy_keeps hb (fun r e => (hr r e).2) h3 rfl).trans h3⟩) ?_ ⟨e4, e1, e2⟩).mono ?_
  · -- one round
    rintro k W ⟨hi, hl, hd⟩ hk
    have hy := run_yield (P := P) (args := encs k) hl (hps k hk)
    refine ⟨fn, _, assign, body, hy, roundIn_of_wpIn trivial (wpIn_mono (hassign (D + 1) k W hi hk) fun ea a₁ W' hp => ?_)⟩
    cases ea <;> first | exact hp.elim | skip
    obtain ⟨o1, o2, o3⟩ := hp
    have hl' : W'.heap[D + 1]? = some (.loop (rec_ .ready none)) := o1.same _ _ hl rfl
    have hd' : W'.heap[D]? = some (.deferred (some [])) := o1.same _ _ hd rfl
    refine ⟨_, run_beginRound hl' rfl, ?_⟩
    have hlt' : D + 1 < W'.heap.size := (Array.getElem?_eq_some_iff.1 hl').1
    have b1 : (W'.putObj (D + 1) (.loop { rec_ .ready none with state := .busy })).heap[D + 1]? = some (.loop { rec_ .ready none with state := .busy }) := World.putObj_heap_same hlt'
    have b2 : (W'.putObj (D + 1) (.loop { rec_ .ready none with state := .busy })).heap[D]? = some (.deferred (some [])) := (World.putObj_heap_other (by omega)).trans hd'
    have b3 : Kp W (W'.putObj (D + 1) (.loop { rec_ .ready none with state := .busy })) := hKt o2 (hKb _ _ _ _ (by show D ≤ D + 1; omega) hl' rfl)
    have ended : ∀ (jump : Option Code) (W3 : World), KeepsOthers (W'.putObj (D + 1) (.loop { rec_ .ready none with state := .busy })) W3 →
        (Instr.endRound (D + 1) jump).run P W3 = .ok (.bool jump.isNone) (W3.putObj (D + 1) (.loop (rec_ (if jump.isNone then .ready else .done) jump))) ∧ W3.heap[D + 1]? = some (.loop { rec_ .ready none with state := .busy }) ∧
        (W3.putObj (D + 1) (.loop (rec_ (if jump.isNone then .ready else .done) jump))).heap[D + 1]? = some (.loop (rec_ (if jump.isNone then .ready else .done) jump)) ∧
        (W3.putObj (D + 1) (.loop (rec_ (if jump.isNone then .ready else .done) jump))).heap[D]? = some (.deferred (some [])) := fun jump W3 hk3 => by
      have c1 := hk3.same _ _ b1 rfl
      exact ⟨run_endRound jump c1, c1, World.putObj_heap_same (Array.getElem?_eq_some_iff.1 c1).1, (World.putObj_heap_other (by omega)).trans (hk3.same _ _ b2 rfl)⟩
    refine wpIn_mono (hbody (D + 1) k a₁ _ ((hMid k a₁).putObj (s := ()) _ o3 (by show D ≤ D + 1; omega) hl' rfl) hk) ?_
    rintro e a3 W3 hp
    cases e with
    | normal =>
      obtain ⟨p1, p2, p3⟩ := hp
      obtain ⟨q1, q2, q3, q4⟩ := ended none W3 p1
      exact ⟨_, _, q1, .inl ⟨rfl, ⟨hI.putObj _ p3 (by show D ≤ D + 1; omega) q2 rfl, q3, q4⟩, hKt (hKt b3 p2) (hKb _ _ _ _ (by show D ≤ D + 1; omega) q2 rfl)⟩⟩
    | ret =>
      obtain ⟨p1, p3⟩ := hp
      obtain ⟨q1, q2, q3, q4⟩ := ended (some .ret) W3 p1
      exact ⟨_, _, q1, .inr ⟨rfl, .ret, (hIx _).putObj (s := ()) _ p3 (by show D ≤ D + 1; omega) q2 rfl, q3, q4⟩⟩
    | exit id =>
      obtain ⟨p1, p3⟩ := hp
      obtain ⟨q1, q2, q3, q4⟩ := ended (some (.exit id)) W3 p1
      exact ⟨_, _, q1, .inr ⟨rfl, .exit id, (hIx _).putObj (s := ()) _ p3 (by show D ≤ D + 1; omega) q2 rfl, q3, q4⟩⟩
    | goto t => exact hp.elim
    | panic ch => exact hp.elim
    | outgrown => exact hp.elim
  · -- the iterator has ended
    rintro e W2 ⟨⟨v, rfl⟩, ⟨hi, hl, hd⟩ | ⟨c, hi, hl, hd⟩⟩
    · exact ⟨none, _, run_endLoop hl (by simp [rec_]), hdone D _ (Nat.le_refl _) (hI.putObj _ hi (by show D ≤ D + 1; omega) hl rfl) ((World.putObj_heap_other (by omega)).trans hd)⟩
    · exact ⟨some c, _, run_endLoop hl (by simp [rec_]), hstop D c _ (Nat.le_refl _) ((hIx c).putObj (s := ()) _ hi (by show D ≤ D + 1; omega) hl rfl) ((World.putObj_heap_other (by omega)).trans hd)⟩
end Go.Q
