/- The operations that leave memory as it is: what the abstract machine tells of them holds. No condition. -/
import Derived.Test.YthfjopmfgaohjaaDoorEvA
import Derived.Laws.Entries
import Derived.Laws.Strings
import Derived.Laws.Slices
import Derived.OrdersIn
import Derived.RangeFuncIn
import Derived.RangeFuncFrom
import Derived.RangeFuncLeaves
import Derived.DeepKeys
import Derived.Laws.StructEq
set_option linter.all false
namespace Go.Q
variable [Known]

structure RelA (w : World) (g : Gh) (μ : List Nat) (τ : List (Option Nat)) (env ts : List D) (st : St) (tmps : Array Value) : Prop where
  s : RelS w g st
  e : ∀ i t, μ[i]? = some t → RelD w g (fun _ => .env i) (getT env i) (tmps.getD t undef)
  t : ∀ j t, τ.idxOf? (some t) = some j → RelD w g (.tmp (τ.length - 1 - j)) (getT ts j) (tmps.getD t undef)

def Post (w : World) (g : Gh) (μ : List Nat) (τ : List (Option Nat)) (tmps : Array Value) (q : Rg) (v : Value) (w' : World) : Prop :=
  ∃ g', Ext w w' g g' ∧ RelA w' g' μ τ q.2.1 q.2.2.1 q.2.2.2 tmps ∧ RelD w' g' (.tmp τ.length) q.1 v
def OpRes (P : Program) (o : Oper) (a : Act) (w : World) (Po : Value → World → Prop) : Prop := match (execOp a.eval o).run P w with
  | .ok (.value v) w' => Po v w'
  | .ok .skip w' => Po undef w'
  | .ok (.enter f args) w' => Calls P f args w' fun e w'' => ∃ v, e = .returned v ∧ Po v w''
  | _ => False
theorem OpRes.wp {P : Program} {o : Oper} {a : Act} {w : World} {Po : Value → World → Prop} {K : Act → World → Prop} {Q : Exit → Act → World → Prop}
    (h : OpRes P o a w Po) (k : ∀ v w', Po v w' → K (a.put o.dst v) w') : o.wp P a w K Q := by
  unfold OpRes at h
  unfold Oper.wp
  split at h <;> rename_i hr
  · rw [hr]; exact k _ _ h
  · rw [hr]; exact k _ _ h
  · rw [hr]
    refine Calls.mono h fun e w'' he => ?_
    obtain ⟨v, rfl, hv⟩ := he
    exact k _ _ hv
  · exact h.elim

section
variable {P : Program} {w : World} {g : Gh} {μ : List Nat} {τ : List (Option Nat)} {env ts : List D} {st : St} {a : Act}

theorem chkC_rel {v : Value} {d : D} (h : chkC v d = true) (pl : Nat → Pl) : RelD w g pl d v := by
  unfold chkC at h
  split at h <;> first | (cases h; done) | skip
  · simp at h; subst h; exact .v _ _ _ (.bool _)
  · simp at h; obtain ⟨rfl, rfl⟩ := h; exact .v _ _ _ (.int _ _)
  · simp at h; subst h; exact .v _ _ _ (.str _)
  · exact .nils _ _
  · exact .v _ _ _ .nilp
  · exact .v _ _ _ .nili
  · exact .v _ _ _ .nilf
  · exact .v _ _ _ .nilm

theorem rd_rel (h : RelA w g μ τ env ts st a.tmps) {x : Operand} {y : Opd} (hc : chkO μ τ x y = true) (pl : Nat → Pl) : RelD w g pl (rd env ts y) (a.eval x) := by
  unfold chkO at hc
  split at hc
  · simp at hc; exact (h.e _ _ hc).cp
  · simp at hc; exact (h.t _ _ hc).cp
  · exact (chkC_rel hc pl).cp
  · rename_i f gg; simp at hc; subst hc; exact .v _ _ _ (.fn f)
  · cases hc

theorem res_val {o : Oper} {d : D} {v : Value} (h : RelA w g μ τ env ts st a.tmps) (hr : (execOp a.eval o).run P w = .ok (.value v) w)
    (hd : RelD w g (.tmp τ.length) d v) : OpRes P o a w (Post w g μ τ a.tmps (d, env, ts, st)) := by
  unfold OpRes
  rw [hr]
  exact ⟨g, Ext.refl w g, h, hd⟩

theorem intOf {pl : Nat → Pl} {k : IntKind} {n : Int} {v : Value} (h : RelD w g pl (.v (.int k n)) v) : v = .int k n := by cases h with | v _ _ _ h => cases h; rfl
theorem boolOf {pl : Nat → Pl} {b : Bool} {v : Value} (h : RelD w g pl (.v (.bool b)) v) : v = .bool b := by cases h with | v _ _ _ h => cases h; rfl
theorem strOf {pl : Nat → Pl} {s : List UInt8} {v : Value} (h : RelD w g pl (.v (.str s)) v) : ∃ b : ByteArray, v = .string b ∧ b.data.toList = s := by
  cases h with | v _ _ _ h => cases h; exact ⟨_, rfl, rfl⟩
theorem asN_rel {pl : Nat → Pl} {d : D} {n : Int} {v : Value} (h : RelD w g pl d v) (hn : asN d = some n) : ∃ k, d = .v (.int k n) ∧ v = .int k n := by
  unfold asN at hn
  split at hn <;> first | (cases hn; exact ⟨_, rfl, intOf h⟩) | cases hn

theorem byteArray_toList (b : ByteArray) : b.toList = b.data.toList := ByteArray.toList_eq b
theorem bin_ok {op : BinOp} {x y d : D} {u v : Value} {pl : Nat → Pl} (t : TypeId) (ox oy : Operand) (hx : RelD w g pl x u) (hy : RelD w g pl y v) (h : opBin op x y = some d) :
    ∃ r, (do eqGuard op t ox oy u v; binOp op t u v : Sem Value).run P w = .ok r w ∧ ∀ pl, RelD w g pl d r := by
  unfold opBin at h
  split at h
  · rename_i k a k' b
    obtain rfl := intOf hx
    obtain rfl := intOf hy
    have hg : (eqGuard op t ox oy (.int k a) (.int k' b)).run P w = .ok () w := by
      cases op <;> rfl
    rw [Sem.run_bind, hg]
    simp only [Result.andThen_ok]
    by_cases hs : isSh op = true
    · rw [if_pos hs] at h
      obtain ⟨x, h1, rfl⟩ := map_some' h
      cases op <;> first | (simp [isSh] at hs; done) | skip
      all_goals
        simp only [shI] at h1
        split at h1
        · cases h1
        · rename_i hb
          cases h1
          simp only [binOp, Op.shift, hb, if_false]
          exact ⟨_, rfl, fun pl => .v _ _ _ (.int _ _)⟩
    · rw [if_neg hs] at h
      split at h
      · rename_i hk
        subst hk
        obtain ⟨x, h1, rfl⟩ := map_some' h
        cases op <;> first | (simp [isSh] at hs; done) | skip
        case quo =>
          simp only [binI] at h1
          split at h1
          · cases h1
          · rename_i hb; cases h1
            exact ⟨.int k _, by simp [binOp, Op.intDiv, hb], fun pl => .v _ _ _ (.int _ _)⟩
        case rem =>
          simp only [binI] at h1
          split at h1
          · cases h1
          · rename_i hb; cases h1
            exact ⟨.int k _, by simp [binOp, Op.intDiv, hb], fun pl => .v _ _ _ (.int _ _)⟩
        all_goals
          simp only [binI] at h1
          cases h1
          first
            | exact ⟨.int k _, by simp [binOp, Op.intArith, Op.intBits], fun pl => .v _ _ _ (.int _ _)⟩
            | exact ⟨.bool _, by simp [binOp, Op.intCmp], fun pl => .v _ _ _ (.bool _)⟩
      · cases h
  · rename_i a b
    obtain ⟨x, rfl, rfl⟩ := strOf hx
    obtain ⟨y, rfl, rfl⟩ := strOf hy
    have hg : (eqGuard op t ox oy (.string x) (.string y)).run P w = .ok () w := by cases op <;> rfl
    rw [Sem.run_bind, hg]
    simp only [Result.andThen_ok]
    obtain ⟨z, h1, rfl⟩ := map_some' h
    have e1 : (x.toList == y.toList) = (x.data.toList == y.data.toList) := by rw [byteArray_toList, byteArray_toList]
    have e2 : Op.bytesLess x.toList y.toList = Op.bytesLess x.data.toList y.data.toList := by rw [byteArray_toList, byteArray_toList]
    cases op <;> simp only [binS] at h1 <;> first | (cases h1; done) | skip
    case add =>
      split at h1
      · rename_i hle
        cases h1
        have hsz : ¬ ((x.size + y.size : Nat) : Int) > IntKind.i64.max := by
          have h1 : x.data.toList.length = x.size := by simp
          have h2 : y.data.toList.length = y.size := by simp
          have h3 : IntKind.i64.max = 9223372036854775807 := by decide
          omega
        refine ⟨.string (x ++ y), by simp only [binOp, Op.stringOp]; rw [if_neg hsz]; rfl, fun pl => .v _ _ _ ?_⟩
        have := RelV.str (w := w) (L := g.L) (x ++ y)
        simpa using this
      · cases h1
    all_goals
      cases h1
      exact ⟨.bool _, by simp [binOp, Op.stringOp, e1, e2]; try rfl, fun pl => .v _ _ _ (.bool _)⟩
  · cases h

theorem un_ok {op : UnOp} {x d : D} {u : Value} {pl : Nat → Pl} (hx : RelD w g pl x u) (h : opUn op x = some d) :
    ∃ r, (Op.unary op u).run P w = .ok r w ∧ ∀ pl, RelD w g pl d r := by
  unfold opUn at h
  split at h <;> first | (cases h; done) | skip
  · obtain rfl := intOf hx; cases h; exact ⟨.int _ _, by simp [Op.unary, Op.intArith], fun pl => .v _ _ _ (.int _ _)⟩
  · obtain rfl := intOf hx; cases h; exact ⟨.int _ _, by simp [Op.unary, Op.intBits], fun pl => .v _ _ _ (.int _ _)⟩
  · obtain rfl := boolOf hx; cases h; exact ⟨.bool _, by simp [Op.unary], fun pl => .v _ _ _ (.bool _)⟩

theorem max_ok {x y d : D} {u v : Value} {pl : Nat → Pl} (T : Array TypeId) (t : TypeId) (hx : RelD w g pl x u) (hy : RelD w g pl y v) (h : maxD x y = some d) :
    ∃ r, (Builtin.max_ T t #[u, v]).run P w = .ok r w ∧ ∀ pl, RelD w g pl d r := by
  unfold maxD at h
  split at h <;> first | (cases h; done) | skip
  obtain rfl := intOf hx
  obtain rfl := intOf hy
  cases h
  exact ⟨.int _ _, by simp [Builtin.max_, Builtin.max2], fun pl => .v _ _ _ (.int _ _)⟩
theorem min_ok {x y d : D} {u v : Value} {pl : Nat → Pl} (T : Array TypeId) (t : TypeId) (hx : RelD w g pl x u) (hy : RelD w g pl y v) (h : minD x y = some d) :
    ∃ r, (Builtin.min_ T t #[u, v]).run P w = .ok r w ∧ ∀ pl, RelD w g pl d r := by
  unfold minD at h
  split at h <;> first | (cases h; done) | skip
  obtain rfl := intOf hx
  obtain rfl := intOf hy
  cases h
  exact ⟨.int _ _, by simp [Builtin.min_, Builtin.min2], fun pl => .v _ _ _ (.int _ _)⟩

theorem len_rel {x : D} {v : Value} {n : Nat} {pl : Nat → Pl} (hx : RelD w g pl x v) (h : lenOf x = some n) : ∃ ad c, v = .slice ad n c := by
  unfold lenOf at h
  split at h <;> first | (cases h; done) | skip
  · cases h; cases hx with | v _ _ _ hx => cases hx with
      | slc0 => exact ⟨_, _, rfl⟩
      | slc => exact ⟨_, _, rfl⟩
  · cases h; cases hx; exact ⟨_, _, rfl⟩
  · cases h; cases hx; exact ⟨_, _, rfl⟩
  · cases h; cases hx; exact ⟨_, _, rfl⟩
theorem len_ok {x : D} {v : Value} {n : Nat} {pl : Nat → Pl} {t e : TypeId} (ty : TypeId) (hx : RelD w g pl x v) (h : lenOf x = some n)
    (ht : uSlc P t = some e) : (Builtin.len_ #[t] ty #[v]).run P w = .ok (.int .i64 n) w := by
  obtain ⟨ad, c, rfl⟩ := len_rel hx h
  simp [Builtin.len_, run_underlying (of_uSlc P ht), goInt]
theorem cap_ok {x : D} {v : Value} {n : Nat} {pl : Nat → Pl} {t e : TypeId} (ty : TypeId) (hx : RelD w g pl x v) (h : capOf x = some n)
    (ht : uSlc P t = some e) : (Builtin.cap_ #[t] ty #[v]).run P w = .ok (.int .i64 n) w := by
  unfold capOf at h
  split at h <;> cases h
  cases hx
  simp [Builtin.cap_, run_underlying (of_uSlc P ht), goInt]
theorem lens_ok {x : D} {v : Value} {s : List UInt8} {pl : Nat → Pl} {t : TypeId} (ty : TypeId) (hx : RelD w g pl x v) (h : strD x = some s)
    (ht : uStr P t = true) : (Builtin.len_ #[t] ty #[v]).run P w = .ok (.int .i64 s.length) w := by
  unfold strD at h
  split at h <;> first | (cases h; done) | skip
  cases h
  obtain ⟨b, rfl, rfl⟩ := strOf hx
  simp [Builtin.len_, run_underlying (of_uStr P ht), goInt]
end
end Go.Q
namespace Go.Q
def wideR (ro : Option Nat) : Fence := { Fence.wide with round := ro }
theorem wideR_none : wideR none = Fence.wide := rfl
theorem wideR_in (ro : Option Nat) (l : Nat) : (wideR ro).inRound l = wideR (some l) := rfl
theorem callsR {ro : Option Nat} {n : Nat} {P : Program} {f : FuncId} {args : Array Value} {w : World} {R : Ending → World → Prop} (h : Calls P f args w R) : CallsIn (wideR ro) n P f args w R :=
  ⟨trivial, fun cs _ => let ⟨e, w', fr, r, s, x⟩ := h cs; ⟨e, w', fr, r, comesIn_wide.2 s, x⟩⟩
theorem calls_of_R {ro : Option Nat} {n : Nat} {P : Program} {f : FuncId} {args : Array Value} {w : World} {R : Ending → World → Prop} (h : CallsIn (wideR ro) n P f args w R) : Calls P f args w R :=
by
  have h' : CallsIn Fence.wide n P f args w R := ⟨trivial, fun cs _ => h.2 cs (fun d hd => by cases hd)⟩
  exact callsIn_wide.1 h'
theorem OpRes.wq {ro : Option Nat} {P : Program} {o : Oper} {a : Act} {w : World} {Po : Value → World → Prop} {K : Act → World → Prop} {Q : Exit → Act → World → Prop}
    (h : OpRes P o a w Po) (k : ∀ v w', Po v w' → K (a.put o.dst v) w') : o.wpIn (wideR ro) 0 P a w K Q := by
  have hd : ∀ c, o.op ≠ .defer c := fun c hc => by
    unfold OpRes at h
    have key : ∀ s : Sem Deferred, (match ((do pure (.defer (← s)) : Sem Next)).run P w with
        | .ok (.value v) w' => Po v w'
        | .ok .skip w' => Po undef w'
        | .ok (.enter f args) w' => Calls P f args w' fun e w'' => ∃ v, e = .returned v ∧ Po v w''
        | _ => False) → False := fun s hs => by
      rw [Sem.run_bind] at hs
      cases hr : s.run P w with
      | ok d w' => rw [hr] at hs; exact hs
      | halt x w' => rw [hr] at hs; exact hs
    simp only [execOp, hc] at h
    exact key _ h
  unfold Oper.wpIn
  refine ⟨fun _ _ => trivial, ?_⟩
  show o.uponIn (wideR ro) 0 P a K Q ((o.semAt ro a.eval).run P w)
  rw [Oper.semAt_eq ro _ o hd]
  unfold OpRes at h
  split at h <;> rename_i hr
  · rw [hr]; exact k _ _ h
  · rw [hr]; exact k _ _ h
  · rw [hr, Oper.uponIn_enter]
    refine ⟨fun hh => absurd hh (by simp [wideR, Fence.wide]), callsR (Calls.mono h fun e w'' he => ?_)⟩
    obtain ⟨v, rfl, hv⟩ := he
    exact k _ _ hv
  · exact h.elim
end Go.Q
namespace Go.Q
open Go.RowKit
def SeqAt (P : Program) (gf : Nat) (lb : Array Value) (encs : Nat → Array Value) (n : Nat) (Kp : World → World → Prop) (w : World) : Prop :=
  ∀ (l : Nat) (J : Nat → World → Prop) (Jx : Unit → World → Prop) (W : World), Below w.heap.size w W → AbidesFrom W.heap.size J → AbidesFrom W.heap.size Jx →
    (∀ k W1, J k W1 → k < n → YieldAt (wideR none) 0 P l (encs k) W1 fun e W' => (e = .returned (.bool true) ∧ J (k + 1) W' ∧ Kp W1 W') ∨ (e = .returned (.bool false) ∧ Jx () W')) →
    J 0 W → CallsIn (wideR none) 0 P gf (#[.func (.yield l) #[] #[]] ++ lb) W fun e W' => (∃ v, e = .returned v) ∧ (J n W' ∨ Jx () W')
def roundEnd (Kp : World → World → Prop) (I : Nat → World → Prop) (Ix : Code → World → Prop) (k : Nat) (W : World) : Exit → Act → World → Prop
  | .normal, _, W' => KeepsOthers W W' ∧ Kp W W' ∧ I (k + 1) W'
  | .ret, _, W' => KeepsOthers W W' ∧ Ix .ret W'
  | .exit id, _, W' => KeepsOthers W W' ∧ Ix (.exit id) W'
  | _, _, _ => False
abbrev markOf (D : Nat) : Deferred := { target := .collected D, args := #[] }
theorem range_law {P : Program} {gx : Operand} {ps : Array Tmp} {assign body : Code} {Q : Exit → Act → World → Prop} {a : Act} {w : World} {gf : Nat} {lb : Array Value} {encs : Nat → Array Value} {n : Nat} {Kp : World → World → Prop}
    (hg : a.eval gx = .func (.func gf) #[] lb) (eg : ∀ args w, (callFunc gf args).run P w = .ok (.enter gf args) w) (hseq : SeqAt P gf lb encs n Kp w)
    (hKt : ∀ {A B C : World}, Kp A B → Kp B C → Kp A C) (hKb : ∀ (W : World) (l : Nat) (o o' : Obj), w.heap.size ≤ l → W.heap[l]? = some o → o.isCells = false → Kp W (W.putObj l o'))
    (hps : ∀ k, k < n → (encs k).size = ps.size) (I : Nat → World → Prop) (Ix : Code → World → Prop) (hI : OwnFrom w.heap.size I) (hIx : ∀ c, OwnFrom w.heap.size fun (_ : Unit) W => Ix c W) (h0 : I 0 w) (Mid : Nat → Act → World → Prop) (hMid : ∀ k a, OwnFrom w.heap.size fun (_ : Unit) W => Mid k a W)
    (hassign : ∀ (l k : Nat) (W : World), I k W → k < n → assign.wpIn (wideR (some l)) 0 P (Exit.then (fun a₁ W₁ => KeepsOthers W W₁ ∧ Kp W W₁ ∧ Mid k a₁ W₁) fun _ _ _ => False) { tmps := (ps.zip (encs k)).foldl (fun t (p, v) => t.setIfInBounds p v) a.tmps, defers := [] } W)
    (hbody : ∀ (l k : Nat) (a₁ : Act) (W : World), Mid k a₁ W → k < n → body.wpIn (wideR (some l)) 0 P (roundEnd Kp I Ix k W) a₁ W)
    (hdone : ∀ (D : Nat) (W : World), w.heap.size ≤ D → I n W → W.heap[D]? = some (.deferred (some [])) → Q .normal { a with defers := markOf D :: a.defers } W)
    (hstop : ∀ (D : Nat) (c : Code) (W : World), w.heap.size ≤ D → Ix c W → W.heap[D]? = some (.deferred (some [])) → c.wpIn (wideR none) 0 P Q { a with defers := markOf D :: a.defers } W) :
    (Code.rangeFunc gx ps assign body).wpIn (wideR none) 0 P Q a w := by
  refine wpIn_rangeFunc fun fn _ => ?_
  let rec_ : LoopState → Option Code → Loop := fun s p => { state := s, pending := p, fn := fn, tmps := a.tmps, params := ps, assign := assign, body := body, defers := w.heap.size }
  let D := w.heap.size
  let W1 := (w.alloc (.deferred (some []))).alloc (.loop (rec_ .ready none))
  have e1 : W1.heap[D + 1]? = some (.loop (rec_ .ready none)) := by
    have := World.alloc_heap_new (w.alloc (.deferred (some []))) (.loop (rec_ .ready none))
    rwa [World.size_alloc] at this
  have e2 : W1.heap[D]? = some (.deferred (some [])) := (Below.heap_alloc _ _ _ (by simp [D])).trans (World.alloc_heap_new w _)
  have e3 : Below D w W1 := ((Below.refl _ w).alloc (Nat.le_refl _) _).alloc (by simp) _
  have e4 : I 0 W1 := hI.alloc _ (hI.alloc _ h0)
  have hsz : W1.heap.size = D + 2 := by simp [W1, D]
  refine ⟨D + 1, [markOf D], W1, { target := .fn (.func gf) lb, args := #[.func (.yield (D + 1)) #[] #[]] }, W1, gf, #[.func (.yield (D + 1)) #[] #[]] ++ lb, W1, run_enterLoop_outer _ _ _ _ _, ?_, fun _ _ => trivial, ?_, fun h => absurd h (by simp [wideR, Fence.wide]), ?_⟩
  · simp only [resolve, hg]
    simp [go_sem]
  · simp [invoke, go_sem, eg]
  have far : ∀ {A : World} {row : Option Nat}, (∀ r, row = some r → W1.heap.size ≤ r ∧ ∃ o : Obj, A.heap[r]? = some o ∧ o.isWalk = true) → ∀ r, row = some r → w.heap.size ≤ r ∧ ∃ o : Obj, A.heap[r]? = some o ∧ o.isCells = false := fun hr r e => by
    obtain ⟨hB, o, ho, hw⟩ := hr r e
    exact ⟨by rw [hsz] at hB; show D ≤ r; omega, o, ho, Obj.not_cells_of_walk hw⟩
  refine (hseq (D + 1) (fun k W => I k W ∧ W.heap[D + 1]? = some (.loop (rec_ .ready none)) ∧ W.heap[D]? = some (.deferred (some [])))
    (fun _ W => ∃ c, Ix c W ∧ W.heap[D + 1]? = some (.loop (rec_ .done (some c))) ∧ W.heap[D]? = some (.deferred (some []))) W1 e3
    (fun k A B row hs hb hr => ⟨hI k A B row hs.1 hb (far hr), (grownBy_keeps hb (fun r e => (hr r e).2) hs.2.1 rfl).trans hs.2.1, (grownBy_keeps hb (fun r e => (hr r e).2) hs.2.2 rfl).trans hs.2.2⟩)
    (fun k A B row hs hb hr => by
      obtain ⟨c, h1, h2, h3⟩ := hs
      exact ⟨c, hIx c () A B row h1 hb (far hr), (grownBy_keeps hb (fun r e => (hr r e).2) h2 rfl).trans h2, (grownBy_keeps hb (fun r e => (hr r e).2) h3 rfl).trans h3⟩) ?_ ⟨e4, e1, e2⟩).mono ?_
  · -- one round
    rintro k W ⟨hi, hl, hd⟩ hk
    have hy := run_yield (P := P) (args := encs k) hl (hps k hk)
    refine ⟨fn, _, assign, body, hy, roundIn_of_wpIn trivial (wpIn_mono (hassign (D + 1) k W hi hk) fun ea a₁ W' hp => ?_)⟩
    cases ea <;> first | exact hp.elim | skip
    obtain ⟨o1, o2, o3⟩ := hp
    have hl' : W'.heap[D + 1]? = some (.loop (rec_ .ready none)) := o1.same _ _ hl rfl
    have hd' : W'.heap[D]? = some (.deferred (some [])) := o1.same _ _ hd rfl
    refine ⟨_, run_beginRound hl' rfl, ?_⟩
    have hlt' : D + 1 < W'.heap.size := (Array.getElem?_eq_some_iff.1 hl').1
    have b1 : (W'.putObj (D + 1) (.loop { rec_ .ready none with state := .busy })).heap[D + 1]? = some (.loop { rec_ .ready none with state := .busy }) := World.putObj_heap_same hlt'
    have b2 : (W'.putObj (D + 1) (.loop { rec_ .ready none with state := .busy })).heap[D]? = some (.deferred (some [])) := (World.putObj_heap_other (by omega)).trans hd'
    have b3 : Kp W (W'.putObj (D + 1) (.loop { rec_ .ready none with state := .busy })) := hKt o2 (hKb _ _ _ _ (by show D ≤ D + 1; omega) hl' rfl)
    have ended : ∀ (jump : Option Code) (W3 : World), KeepsOthers (W'.putObj (D + 1) (.loop { rec_ .ready none with state := .busy })) W3 →
        (Instr.endRound (D + 1) jump).run P W3 = .ok (.bool jump.isNone) (W3.putObj (D + 1) (.loop (rec_ (if jump.isNone then .ready else .done) jump))) ∧ W3.heap[D + 1]? = some (.loop { rec_ .ready none with state := .busy }) ∧
        (W3.putObj (D + 1) (.loop (rec_ (if jump.isNone then .ready else .done) jump))).heap[D + 1]? = some (.loop (rec_ (if jump.isNone then .ready else .done) jump)) ∧
        (W3.putObj (D + 1) (.loop (rec_ (if jump.isNone then .ready else .done) jump))).heap[D]? = some (.deferred (some [])) := fun jump W3 hk3 => by
      have c1 := hk3.same _ _ b1 rfl
      exact ⟨run_endRound jump c1, c1, World.putObj_heap_same (Array.getElem?_eq_some_iff.1 c1).1, (World.putObj_heap_other (by omega)).trans (hk3.same _ _ b2 rfl)⟩
    refine wpIn_mono (hbody (D + 1) k a₁ _ ((hMid k a₁).putObj (s := ()) _ o3 (by show D ≤ D + 1; omega) hl' rfl) hk) ?_
    rintro e a3 W3 hp
    cases e with
    | normal =>
      obtain ⟨p1, p2, p3⟩ := hp
      obtain ⟨q1, q2, q3, q4⟩ := ended none W3 p1
      exact ⟨_, _, q1, .inl ⟨rfl, ⟨hI.putObj _ p3 (by show D ≤ D + 1; omega) q2 rfl, q3, q4⟩, hKt (hKt b3 p2) (hKb _ _ _ _ (by show D ≤ D + 1; omega) q2 rfl)⟩⟩
    | ret =>
      obtain ⟨p1, p3⟩ := hp
      obtain ⟨q1, q2, q3, q4⟩ := ended (some .ret) W3 p1
      exact ⟨_, _, q1, .inr ⟨rfl, .ret, (hIx _).putObj (s := ()) _ p3 (by show D ≤ D + 1; omega) q2 rfl, q3, q4⟩⟩
    | exit id =>
      obtain ⟨p1, p3⟩ := hp
      obtain ⟨q1, q2, q3, q4⟩ := ended (some (.exit id)) W3 p1
      exact ⟨_, _, q1, .inr ⟨rfl, .exit id, (hIx _).putObj (s := ()) _ p3 (by show D ≤ D + 1; omega) q2 rfl, q3, q4⟩⟩
    | goto t => exact hp.elim
    | panic ch => exact hp.elim
    | outgrown => exact hp.elim
  · -- the iterator has ended
    rintro e W2 ⟨⟨v, rfl⟩, ⟨hi, hl, hd⟩ | ⟨c, hi, hl, hd⟩⟩
    · exact ⟨none, _, run_endLoop hl (by simp [rec_]), hdone D _ (Nat.le_refl _) (hI.putObj _ hi (by show D ≤ D + 1; omega) hl rfl) ((World.putObj_heap_other (by omega)).trans hd)⟩
    · exact ⟨some c, _, run_endLoop hl (by simp [rec_]), hstop D c _ (Nat.le_refl _) ((hIx c).putObj (s := ()) _ hi (by show D ≤ D + 1; omega) hl rfl) ((World.putObj_heap_other (by omega)).trans hd)⟩
def SeqAtU (P : Program) (gf : Nat) (lb : Array Value) (bx : Addr) (cur : Nat → Value) (encs : Nat → Array Value) (n : Nat) (Kp : World → World → Prop) (w : World) : Prop :=
  ∀ (l : Nat) (J Jm : Nat → World → Prop) (Jx : Unit → World → Prop) (W : World), Below w.heap.size w W → AbidesFrom W.heap.size J → AbidesFrom W.heap.size Jm → AbidesFrom W.heap.size Jx →
    (∀ k W1, J k W1 → k < n → W1.cell? bx = some (cur k)) →
    (∀ k W1, J k W1 → k < n → YieldAt (wideR none) 0 P l (encs k) W1 fun e W' => (e = .returned (.bool true) ∧ Jm k W' ∧ Kp W1 W') ∨ (e = .returned (.bool false) ∧ Jx () W')) →
    (∀ k W1, Jm k W1 → k + 1 < n → W1.cell? bx = some (cur k) ∧ W1.frozen? bx = false ∧ J (k + 1) (W1.setCell bx (cur (k + 1)))) →
    J 0 W → CallsIn (wideR none) 0 P gf (#[.func (.yield l) #[] #[]] ++ lb) W fun e W' => (∃ v, e = .returned v) ∧ (Jm (n - 1) W' ∨ Jx () W')
def roundEndU (Kp : World → World → Prop) (Im : Nat → World → Prop) (Ix : Code → World → Prop) (k : Nat) (W : World) : Exit → Act → World → Prop
  | .normal, _, W' => KeepsOthers W W' ∧ Kp W W' ∧ Im k W'
  | .ret, _, W' => KeepsOthers W W' ∧ Ix .ret W'
  | .exit id, _, W' => KeepsOthers W W' ∧ Ix (.exit id) W'
  | _, _, _ => False
theorem range_lawU {P : Program} {gx : Operand} {ps : Array Tmp} {assign body : Code} {Q : Exit → Act → World → Prop} {a : Act} {w : World} {gf : Nat} {lb : Array Value} {encs : Nat → Array Value} {n : Nat} {Kp : World → World → Prop} {bx : Addr} {cur : Nat → Value}
    (hg : a.eval gx = .func (.func gf) #[] lb) (eg : ∀ args w, (callFunc gf args).run P w = .ok (.enter gf args) w) (hseq : SeqAtU P gf lb bx cur encs n Kp w) (hbx : bx.block < w.heap.size)
    (hKt : ∀ {A B C : World}, Kp A B → Kp B C → Kp A C) (hKb : ∀ (W : World) (l : Nat) (o o' : Obj), w.heap.size ≤ l → W.heap[l]? = some o → o.isCells = false → Kp W (W.putObj l o'))
    (hps : ∀ k, k < n → (encs k).size = ps.size) (I Im : Nat → World → Prop) (Ix : Code → World → Prop) (hI : OwnFrom w.heap.size I) (hIm : OwnFrom w.heap.size Im) (hIx : ∀ c, OwnFrom w.heap.size fun (_ : Unit) W => Ix c W) (h0 : I 0 w) (Mid : Nat → Act → World → Prop) (hMid : ∀ k a, OwnFrom w.heap.size fun (_ : Unit) W => Mid k a W)
    (hassign : ∀ (l k : Nat) (W : World), I k W → k < n → assign.wpIn (wideR (some l)) 0 P (Exit.then (fun a₁ W₁ => KeepsOthers W W₁ ∧ Kp W W₁ ∧ Mid k a₁ W₁) fun _ _ _ => False) { tmps := (ps.zip (encs k)).foldl (fun t (p, v) => t.setIfInBounds p v) a.tmps, defers := [] } W)
    (hbody : ∀ (l k : Nat) (a₁ : Act) (W : World), Mid k a₁ W → k < n → body.wpIn (wideR (some l)) 0 P (roundEndU Kp Im Ix k W) a₁ W)
    (hcell : ∀ k W, I k W → k < n → W.cell? bx = some (cur k)) (hset : ∀ k W, Im k W → k + 1 < n → W.cell? bx = some (cur k) ∧ W.frozen? bx = false ∧ I (k + 1) (W.setCell bx (cur (k + 1))))
    (hdone : ∀ (D : Nat) (W : World), w.heap.size ≤ D → Im (n - 1) W → W.heap[D]? = some (.deferred (some [])) → Q .normal { a with defers := markOf D :: a.defers } W)
    (hstop : ∀ (D : Nat) (c : Code) (W : World), w.heap.size ≤ D → Ix c W → W.heap[D]? = some (.deferred (some [])) → c.wpIn (wideR none) 0 P Q { a with defers := markOf D :: a.defers } W) :
    (Code.rangeFunc gx ps assign body).wpIn (wideR none) 0 P Q a w := by
  refine wpIn_rangeFunc fun fn _ => ?_
  let rec_ : LoopState → Option Code → Loop := fun s p => { state := s, pending := p, fn := fn, tmps := a.tmps, params := ps, assign := assign, body := body, defers := w.heap.size }
  let D := w.heap.size
  let W1 := (w.alloc (.deferred (some []))).alloc (.loop (rec_ .ready none))
  have e1 : W1.heap[D + 1]? = some (.loop (rec_ .ready none)) := by
    have := World.alloc_heap_new (w.alloc (.deferred (some []))) (.loop (rec_ .ready none))
    rwa [World.size_alloc] at this
  have e2 : W1.heap[D]? = some (.deferred (some [])) := (Below.heap_alloc _ _ _ (by simp [D])).trans (World.alloc_heap_new w _)
  have e3 : Below D w W1 := ((Below.refl _ w).alloc (Nat.le_refl _) _).alloc (by simp) _
  have e4 : I 0 W1 := hI.alloc _ (hI.alloc _ h0)
  have hsz : W1.heap.size = D + 2 := by simp [W1, D]
  refine ⟨D + 1, [markOf D], W1, { target := .fn (.func gf) lb, args := #[.func (.yield (D + 1)) #[] #[]] }, W1, gf, #[.func (.yield (D + 1)) #[] #[]] ++ lb, W1, run_enterLoop_outer _ _ _ _ _, ?_, fun _ _ => trivial, ?_, fun h => absurd h (by simp [wideR, Fence.wide]), ?_⟩
  · simp only [resolve, hg]
    simp [go_sem]
  · simp [invoke, go_sem, eg]
  have far : ∀ {A : World} {row : Option Nat}, (∀ r, row = some r → W1.heap.size ≤ r ∧ ∃ o : Obj, A.heap[r]? = some o ∧ o.isWalk = true) → ∀ r, row = some r → w.heap.size ≤ r ∧ ∃ o : Obj, A.heap[r]? = some o ∧ o.isCells = false := fun hr r e => by
    obtain ⟨hB, o, ho, hw⟩ := hr r e
    exact ⟨by rw [hsz] at hB; show D ≤ r; omega, o, ho, Obj.not_cells_of_walk hw⟩
  refine (hseq (D + 1) (fun k W => I k W ∧ W.heap[D + 1]? = some (.loop (rec_ .ready none)) ∧ W.heap[D]? = some (.deferred (some [])))
    (fun k W => Im k W ∧ W.heap[D + 1]? = some (.loop (rec_ .ready none)) ∧ W.heap[D]? = some (.deferred (some [])))
    (fun _ W => ∃ c, Ix c W ∧ W.heap[D + 1]? = some (.loop (rec_ .done (some c))) ∧ W.heap[D]? = some (.deferred (some []))) W1 e3
    (fun k A B row hs hb hr => ⟨hI k A B row hs.1 hb (far hr), (grownBy_keeps hb (fun r e => (hr r e).2) hs.2.1 rfl).trans hs.2.1, (grownBy_keeps hb (fun r e => (hr r e).2) hs.2.2 rfl).trans hs.2.2⟩)
    (fun k A B row hs hb hr => ⟨hIm k A B row hs.1 hb (far hr), (grownBy_keeps hb (fun r e => (hr r e).2) hs.2.1 rfl).trans hs.2.1, (grownBy_keeps hb (fun r e => (hr r e).2) hs.2.2 rfl).trans hs.2.2⟩)
    (fun k A B row hs hb hr => by
      obtain ⟨c, h1, h2, h3⟩ := hs
      exact ⟨c, hIx c () A B row h1 hb (far hr), (grownBy_keeps hb (fun r e => (hr r e).2) h2 rfl).trans h2, (grownBy_keeps hb (fun r e => (hr r e).2) h3 rfl).trans h3⟩) (fun k W1 h hk => hcell k W1 h.1 hk) ?_ (fun k W1 h hk => by
      obtain ⟨c1, c2, c3⟩ := hset k W1 h.1 hk
      exact ⟨c1, c2, c3, (Below.heap_setCell _ _ _ _ (by show D + 1 ≠ bx.block; have : bx.block < D := hbx; omega)).trans h.2.1, (Below.heap_setCell _ _ _ _ (by show D ≠ bx.block; have : bx.block < D := hbx; omega)).trans h.2.2⟩) ⟨e4, e1, e2⟩).mono ?_
  · -- one round
    rintro k W ⟨hi, hl, hd⟩ hk
    have hy := run_yield (P := P) (args := encs k) hl (hps k hk)
    refine ⟨fn, _, assign, body, hy, roundIn_of_wpIn trivial (wpIn_mono (hassign (D + 1) k W hi hk) fun ea a₁ W' hp => ?_)⟩
    cases ea <;> first | exact hp.elim | skip
    obtain ⟨o1, o2, o3⟩ := hp
    have hl' : W'.heap[D + 1]? = some (.loop (rec_ .ready none)) := o1.same _ _ hl rfl
    have hd' : W'.heap[D]? = some (.deferred (some [])) := o1.same _ _ hd rfl
    refine ⟨_, run_beginRound hl' rfl, ?_⟩
    have hlt' : D + 1 < W'.heap.size := (Array.getElem?_eq_some_iff.1 hl').1
    have b1 : (W'.putObj (D + 1) (.loop { rec_ .ready none with state := .busy })).heap[D + 1]? = some (.loop { rec_ .ready none with state := .busy }) := World.putObj_heap_same hlt'
    have b2 : (W'.putObj (D + 1) (.loop { rec_ .ready none with state := .busy })).heap[D]? = some (.deferred (some [])) := (World.putObj_heap_other (by omega)).trans hd'
    have b3 : Kp W (W'.putObj (D + 1) (.loop { rec_ .ready none with state := .busy })) := hKt o2 (hKb _ _ _ _ (by show D ≤ D + 1; omega) hl' rfl)
    have ended : ∀ (jump : Option Code) (W3 : World), KeepsOthers (W'.putObj (D + 1) (.loop { rec_ .ready none with state := .busy })) W3 →
        (Instr.endRound (D + 1) jump).run P W3 = .ok (.bool jump.isNone) (W3.putObj (D + 1) (.loop (rec_ (if jump.isNone then .ready else .done) jump))) ∧ W3.heap[D + 1]? = some (.loop { rec_ .ready none with state := .busy }) ∧
        (W3.putObj (D + 1) (.loop (rec_ (if jump.isNone then .ready else .done) jump))).heap[D + 1]? = some (.loop (rec_ (if jump.isNone then .ready else .done) jump)) ∧
        (W3.putObj (D + 1) (.loop (rec_ (if jump.isNone then .ready else .done) jump))).heap[D]? = some (.deferred (some [])) := fun jump W3 hk3 => by
      have c1 := hk3.same _ _ b1 rfl
      exact ⟨run_endRound jump c1, c1, World.putObj_heap_same (Array.getElem?_eq_some_iff.1 c1).1, (World.putObj_heap_other (by omega)).trans (hk3.same _ _ b2 rfl)⟩
    refine wpIn_mono (hbody (D + 1) k a₁ _ ((hMid k a₁).putObj (s := ()) _ o3 (by show D ≤ D + 1; omega) hl' rfl) hk) ?_
    rintro e a3 W3 hp
    cases e with
    | normal =>
      obtain ⟨p1, p2, p3⟩ := hp
      obtain ⟨q1, q2, q3, q4⟩ := ended none W3 p1
      exact ⟨_, _, q1, .inl ⟨rfl, ⟨hIm.putObj _ p3 (by show D ≤ D + 1; omega) q2 rfl, q3, q4⟩, hKt (hKt b3 p2) (hKb _ _ _ _ (by show D ≤ D + 1; omega) q2 rfl)⟩⟩
    | ret =>
      obtain ⟨p1, p3⟩ := hp
      obtain ⟨q1, q2, q3, q4⟩ := ended (some .ret) W3 p1
      exact ⟨_, _, q1, .inr ⟨rfl, .ret, (hIx _).putObj (s := ()) _ p3 (by show D ≤ D + 1; omega) q2 rfl, q3, q4⟩⟩
    | exit id =>
      obtain ⟨p1, p3⟩ := hp
      obtain ⟨q1, q2, q3, q4⟩ := ended (some (.exit id)) W3 p1
      exact ⟨_, _, q1, .inr ⟨rfl, .exit id, (hIx _).putObj (s := ()) _ p3 (by show D ≤ D + 1; omega) q2 rfl, q3, q4⟩⟩
    | goto t => exact hp.elim
    | panic ch => exact hp.elim
    | outgrown => exact hp.elim
  · -- the iterator has ended
    rintro e W2 ⟨⟨v, rfl⟩, ⟨hi, hl, hd⟩ | ⟨c, hi, hl, hd⟩⟩
    · exact ⟨none, _, run_endLoop hl (by simp [rec_]), hdone D _ (Nat.le_refl _) (hIm.putObj _ hi (by show D ≤ D + 1; omega) hl rfl) ((World.putObj_heap_other (by omega)).trans hd)⟩
    · exact ⟨some c, _, run_endLoop hl (by simp [rec_]), hstop D c _ (Nat.le_refl _) ((hIx c).putObj (s := ()) _ hi (by show D ≤ D + 1; omega) hl rfl) ((World.putObj_heap_other (by omega)).trans hd)⟩
end Go.Q
namespace Go.Q
variable [Known]
section
variable {P : Program} {w : World} {g : Gh}

theorem qi_bool (d : Nat) {t : TypeId} (hu : P.underlying t = some .bool) (a b : Bool) : (Op.equalIn (d + 1) t (.bool a) (.bool b)).run P w = .ok (a == b) w := by simp [Op.equalIn, run_underlying hu]
theorem qi_s0 (d : Nat) {t e : TypeId} (hu : P.underlying t = some (.slice e)) : (Op.equalIn (d + 1) t (.slice none 0 0) (.slice none 0 0)).run P w = .ok true w := by simp [Op.equalIn, run_underlying hu]
theorem qi_s1 (d : Nat) {t e : TypeId} (hu : P.underlying t = some (.slice e)) (a n c) : (Op.equalIn (d + 1) t (.slice (some a) n c) (.slice none 0 0)).run P w = .ok false w := by simp [Op.equalIn, run_underlying hu]
theorem qi_p0 (d : Nat) {t e : TypeId} (hu : P.underlying t = some (.pointer e)) : (Op.equalIn (d + 1) t (.pointer none) (.pointer none)).run P w = .ok true w := by simp [Op.equalIn, run_underlying hu]
theorem qi_p1 (d : Nat) {t e : TypeId} (hu : P.underlying t = some (.pointer e)) (a) : (Op.equalIn (d + 1) t (.pointer (some a)) (.pointer none)).run P w = .ok false w := by simp [Op.equalIn, run_underlying hu]
theorem qi_f0 (d : Nat) {t : TypeId} {p r v} (hu : P.underlying t = some (.func p r v)) : (Op.equalIn (d + 1) t .nilFunc .nilFunc).run P w = .ok true w := by simp [Op.equalIn, run_underlying hu]
theorem qi_f1 (d : Nat) {t : TypeId} {p r v} (hu : P.underlying t = some (.func p r v)) (f x y) : (Op.equalIn (d + 1) t (.func f x y) .nilFunc).run P w = .ok false w := by simp [Op.equalIn, run_underlying hu]
theorem qi_i0 (d : Nat) {t : TypeId} {m} (hu : P.underlying t = some (.interface m)) : (Op.equalIn (d + 1) t .nilIface .nilIface).run P w = .ok true w := by simp [Op.equalIn, run_underlying hu]
theorem qi_i1 (d : Nat) {t : TypeId} {m} (hu : P.underlying t = some (.interface m)) (x y) : (Op.equalIn (d + 1) t (.iface x y) .nilIface).run P w = .ok false w := by simp [Op.equalIn, run_underlying hu]
theorem qi_m0 (d : Nat) {t k e : TypeId} (hu : P.underlying t = some (.map k e)) : (Op.equalIn (d + 1) t (.map none) (.map none)).run P w = .ok true w := by simp [Op.equalIn, run_underlying hu]
theorem qi_m1 (d : Nat) {t k e : TypeId} (hu : P.underlying t = some (.map k e)) (a) : (Op.equalIn (d + 1) t (.map (some a)) (.map none)).run P w = .ok false w := by simp [Op.equalIn, run_underlying hu]
theorem kd_b {t : TypeId} {y : Opd} (h : chkKd P t .b y = true) : P.underlying t = some .bool := by
  unfold chkKd at h
  cases hu : P.underlying t with
  | none => simp [hu] at h
  | some d => cases d <;> simp [hu] at h ⊢
theorem kd_s {t : TypeId} {y : Opd} (h : chkKd P t .s y = true) : ∃ e, P.underlying t = some (.slice e) := by
  unfold chkKd at h
  cases hu : P.underlying t with
  | none => simp [hu] at h
  | some d => cases d <;> simp [hu] at h ⊢
theorem kd_p {t : TypeId} {y : Opd} (h : chkKd P t .p y = true) : ∃ e, P.underlying t = some (.pointer e) := by
  unfold chkKd at h
  cases hu : P.underlying t with
  | none => simp [hu] at h
  | some d => cases d <;> simp [hu] at h ⊢
theorem kd_m {t : TypeId} {y : Opd} (h : chkKd P t .m y = true) : ∃ k e, P.underlying t = some (.map k e) := by
  unfold chkKd at h
  cases hu : P.underlying t with
  | none => simp [hu] at h
  | some d => cases d <;> simp [hu] at h ⊢
theorem kd_f {t : TypeId} {y : Opd} (h : chkKd P t .f y = true) : ∃ a b c, P.underlying t = some (.func a b c) := by
  unfold chkKd at h
  cases hu : P.underlying t with
  | none => simp [hu] at h
  | some d => cases d <;> simp [hu] at h ⊢
theorem kd_i {t : TypeId} {y : Opd} (h : chkKd P t .i y = true) : (∃ ms, P.underlying t = some (.interface ms)) ∧ ∃ d, y = .c d := by
  unfold chkKd at h
  cases hu : P.underlying t with
  | none => simp [hu] at h
  | some d => cases d <;> simp [hu] at h ⊢; split at h <;> first | (cases h; done) | exact ⟨_, rfl⟩
theorem kd_g {t : TypeId} {y : Opd} {ks : List Nat} (h : chkKd P t (.g ks) y = true) : P.eqGuardType P.depth t = false ∧ ((∃ fs, P.underlying t = some (.struct fs) ∧ P.stoodInHeld t = false ∧ chkEqF P 0 fs.toList ks = true) ∨
    ∃ n e k, P.underlying t = some (.array n e) ∧ szT P e = some 1 ∧ clsT P e = some k ∧ ks = List.replicate n k) := by
  unfold chkKd at h
  cases hu : P.underlying t with
  | none => simp [hu] at h
  | some d =>
    cases d <;> simp only [hu] at h <;> first | (cases h; done) | skip
    · rename_i n e
      simp only [Bool.and_eq_true, Bool.not_eq_true', beq_iff_eq] at h
      obtain ⟨⟨h1, h2⟩, h3⟩ := h
      obtain ⟨k, h4, h5⟩ := of_orF h3
      exact ⟨h1, .inr ⟨n, e, k, rfl, h2, h4, by simpa using h5⟩⟩
    · rename_i fs
      simp only [Bool.and_eq_true, Bool.not_eq_true'] at h
      exact ⟨h.1.2, .inl ⟨fs, rfl, h.1.1, h.2⟩⟩
theorem cls_plain {e : TypeId} {k : Nat} (h : clsT P e = some k) : P.plainKey e = true := by
  unfold clsT at h
  unfold Program.plainKey
  split at h <;> first | (cases h; done) | (rename_i hu; simp [hu])
theorem cls_eq {e : TypeId} {k : Nat} (h : clsT P e = some k) {ks : List Nat} {x y : V} {xs ys : List V} {b : Bool} {u v : Value} (d : Nat) (hv : eqVs (k :: ks) (x :: xs) (y :: ys) = some b)
    (hx : RelV w g.L x u) (hy : RelV w g.L y v) : ∃ c b', (Op.equalIn (d + 1) e u v).run P w = .ok c w ∧ eqVs ks xs ys = some b' ∧ b = (c && b') := by
  unfold clsT at h
  split at h <;> first | (cases h; done) | skip
  all_goals rename_i hu; cases h
  all_goals cases x <;> cases y <;> first | (simp [eqVs] at hv; done) | skip
  all_goals simp only [eqVs] at hv
  · obtain ⟨b', h1, rfl⟩ := map_some' hv
    cases hx; cases hy
    exact ⟨_, b', run_equalIn_bool' w d e _ _ hu, h1, rfl⟩
  · split at hv <;> first | (cases hv; done) | skip
    rename_i hk
    subst hk
    obtain ⟨b', h1, rfl⟩ := map_some' hv
    cases hx; cases hy
    exact ⟨_, b', run_equalIn_int w d e _ _ _ _ hu, h1, rfl⟩
  · obtain ⟨b', h1, rfl⟩ := map_some' hv
    cases hx; cases hy
    refine ⟨_, b', run_equalIn_string w d e _ _ hu, h1, ?_⟩
    simp only [ByteArray.toList_eq]
theorem drop_cons {α : Type} {l : List α} {i : Nat} {x : α} {r : List α} (h : l.drop i = x :: r) : ∃ hi : i < l.length, l[i] = x ∧ l.drop (i + 1) = r := by
  have hi : i < l.length := by
    refine Classical.byContradiction fun hn => ?_
    rw [List.drop_of_length_le (by omega)] at h; cases h
  rw [List.drop_eq_getElem_cons hi] at h
  injection h with h1 h2
  exact ⟨hi, h1, h2⟩
theorem eqFields_ok {xs ys : List V} {cx cy : Array Value} (hlx : xs.length = cx.size) (hly : ys.length = cy.size)
    (hx : ∀ i (h : i < xs.length), RelV w g.L xs[i] (cx[i]'(hlx ▸ h))) (hy : ∀ i (h : i < ys.length), RelV w g.L ys[i] (cy[i]'(hly ▸ h))) (d : Nat) : ∀ (fs : List Field) (i : Nat) (ks : List Nat) (b : Bool),
    chkEqF P i fs ks = true → eqVs ks (xs.drop i) (ys.drop i) = some b → (Op.eqFields (d + 1) cx cy fs).run P w = .ok b w
  | [], i, ks, b, hc, hv => by
    cases ks with
    | cons k ks => simp [chkEqF] at hc
    | nil =>
      cases h1 : xs.drop i <;> cases h2 : ys.drop i <;> rw [h1, h2] at hv <;> simp [eqVs] at hv
      subst hv
      simp [Op.eqFields]
  | f :: fs, i, ks, b, hc, hv => by
    cases ks with
    | nil => simp [chkEqF] at hc
    | cons k ks =>
      simp only [chkEqF, Bool.and_eq_true, beq_iff_eq, bne_iff_ne, ne_eq] at hc
      obtain ⟨⟨⟨h1, h2⟩, h3⟩, h4⟩ := hc
      cases e1 : xs.drop i with
      | nil => rw [e1] at hv; cases k <;> simp [eqVs] at hv
      | cons x xr =>
        cases e2 : ys.drop i with
        | nil => rw [e1, e2] at hv; cases k <;> (try cases x) <;> simp [eqVs] at hv
        | cons y yr =>
          rw [e1, e2] at hv
          obtain ⟨ix, q1, q2⟩ := drop_cons e1
          obtain ⟨iy, q3, q4⟩ := drop_cons e2
          have rx := hx i ix
          have ry := hy i iy
          rw [q1] at rx
          rw [q3] at ry
          obtain ⟨c, b', r1, r2, rfl⟩ := cls_eq h3 d hv rx ry
          have p1 : (part f.type cx f.offset).run P w = .ok (cx[i]'(hlx ▸ ix)) w := by rw [h2]; exact run_part_plain w (cls_plain h3) (Array.getElem?_eq_getElem (hlx ▸ ix))
          have p2 : (part f.type cy f.offset).run P w = .ok (cy[i]'(hly ▸ iy)) w := by rw [h2]; exact run_part_plain w (cls_plain h3) (Array.getElem?_eq_getElem (hly ▸ iy))
          have ih := eqFields_ok hlx hly hx hy d fs (i + 1) ks b' h4 (by rw [q2, q4]; exact r2)
          simp only [Op.eqFields, Sem.run_bind, p1, p2, r1, Result.andThen_ok, h1, ne_eq, not_false_eq_true, if_true]
          cases c
          · simp
          · simpa using ih
theorem eqItems_ok {e : TypeId} {k : Nat} (hk : clsT P e = some k) {xs ys : List V} {cx cy : Array Value} (hlx : xs.length = cx.size) (hly : ys.length = cy.size)
    (hx : ∀ i (h : i < xs.length), RelV w g.L xs[i] (cx[i]'(hlx ▸ h))) (hy : ∀ i (h : i < ys.length), RelV w g.L ys[i] (cy[i]'(hly ▸ h))) (d : Nat) : ∀ (n i : Nat) (b : Bool),
    eqVs (List.replicate n k) (xs.drop i) (ys.drop i) = some b → (Op.eqItems (d + 1) e 1 cx cy (List.range' i n)).run P w = .ok b w
  | 0, i, b, hv => by
    cases h1 : xs.drop i <;> cases h2 : ys.drop i <;> rw [h1, h2] at hv <;> simp [eqVs] at hv
    subst hv
    simp [Op.eqItems]
  | n + 1, i, b, hv => by
    rw [List.replicate_succ] at hv
    cases e1 : xs.drop i with
    | nil => rw [e1] at hv; cases k <;> simp [eqVs] at hv
    | cons x xr =>
      cases e2 : ys.drop i with
      | nil => rw [e1, e2] at hv; cases k <;> (try cases x) <;> simp [eqVs] at hv
      | cons y yr =>
        rw [e1, e2] at hv
        obtain ⟨ix, q1, q2⟩ := drop_cons e1
        obtain ⟨iy, q3, q4⟩ := drop_cons e2
        have rx := hx i ix
        have ry := hy i iy
        rw [q1] at rx
        rw [q3] at ry
        obtain ⟨c, b', r1, r2, rfl⟩ := cls_eq hk d hv rx ry
        have p1 : (part e cx (i * 1)).run P w = .ok (cx[i]'(hlx ▸ ix)) w := by rw [Nat.mul_one]; exact run_part_plain w (cls_plain hk) (Array.getElem?_eq_getElem (hlx ▸ ix))
        have p2 : (part e cy (i * 1)).run P w = .ok (cy[i]'(hly ▸ iy)) w := by rw [Nat.mul_one]; exact run_part_plain w (cls_plain hk) (Array.getElem?_eq_getElem (hly ▸ iy))
        have ih := eqItems_ok hk hlx hly hx hy d n (i + 1) b' (by rw [q2, q4]; exact r2)
        simp only [List.range'_succ, Op.eqItems, Sem.run_bind, p1, p2, r1, Result.andThen_ok]
        cases c
        · simp
        · simpa using ih

theorem eq_ok {k : Kd} {x y : D} {b : Bool} {u v : Value} {pl pl' : Nat → Pl} {t : TypeId} {ox oy : Operand} {y' : Opd} {μ τ} (neg : Bool) (hx : RelD w g pl x u) (hy : RelD w g pl' y v)
    (h : eqD k x y = some b) (hk : chkKd P t k y' = true) (hyc : chkO μ τ oy y' = true) (hyr : ∀ d, y' = .c d → cp d = y) :
    (do eqGuard (if neg then .neq else .eql) t ox oy u v; binOp (if neg then .neq else .eql) t u v : Sem Value).run P w = .ok (.bool (b != neg)) w := by
  have key : (eqGuard (if neg then .neq else .eql) t ox oy u v).run P w = .ok () w → (Op.equal t u v).run P w = .ok b w →
      (∀ n : Bool, binOp (if n then .neq else .eql) t u v = (do pure (.bool ((← Op.equal t u v) != n)) : Sem Value)) →
      (do eqGuard (if neg then .neq else .eql) t ox oy u v; binOp (if neg then .neq else .eql) t u v : Sem Value).run P w = .ok (.bool (b != neg)) w := by
    intro h1 h2 h3
    rw [Sem.run_bind, h1, Result.andThen_ok, h3 neg, Sem.run_bind, h2]
    rfl
  unfold eqD at h
  split at h <;> first | (cases h; done) | skip
  · have hu := kd_b hk
    cases h
    obtain rfl := boolOf hx
    obtain rfl := boolOf hy
    refine key (by cases neg <;> rfl) (qi_bool 9999 hu _ _) (by intro n; cases n <;> simp [binOp])
  · rename_i ks xs ys
    obtain ⟨hg, hkk⟩ := kd_g hk
    replace hx := hx.toV
    replace hy := hy.toV
    cases hx with | agg _ cx lx _ rx =>
    cases hy with | agg _ cy ly _ ry =>
    refine key (run_eqGuard_agg w _ t ox oy cx cy hg) ?_ (by intro n; cases n <;> simp [binOp])
    rcases hkk with ⟨fs, hu, hs, hf⟩ | ⟨n, e, k, hu, hsz, hcl, rfl⟩
    · have hfs : P.fieldsOf t = fs := by simp [Program.fieldsOf, hu]
      show (Op.equalIn (9999 + 1) t (.agg cx) (.agg cy)).run P w = _
      rw [run_equalIn_struct w 9999 t cx cy (by rw [hfs]; exact hu) hs, hfs]
      exact eqFields_ok lx ly rx ry 9998 fs.toList 0 ks b hf (by simpa using h)
    · obtain ⟨i, hi, hi2⟩ := of_szT P hsz
      have hc1 : P.cellsOf e = 1 := by simp [Program.cellsOf, hi, hi2]
      show (Op.equalIn (9999 + 1) t (.agg cx) (.agg cy)).run P w = _
      rw [run_equalIn_array w 9999 cx cy hu hi, hc1, List.range_eq_range']
      exact eqItems_ok hcl lx ly rx ry 9998 n 0 b (by simpa using h)
  · obtain ⟨e, hu⟩ := kd_s hk
    cases h; cases hx; cases hy
    refine key (by cases neg <;> rfl) (qi_s0 9999 hu) (by intro n; cases n <;> simp [binOp])
  · obtain ⟨e, hu⟩ := kd_s hk
    cases h; cases hy
    replace hx := hx.toV; cases hx
    refine key (by cases neg <;> rfl) (qi_s1 9999 hu _ _ _) (by intro n; cases n <;> simp [binOp])
  · obtain ⟨e, hu⟩ := kd_s hk
    cases h; cases hx; cases hy
    refine key (by cases neg <;> rfl) (qi_s1 9999 hu _ _ _) (by intro n; cases n <;> simp [binOp])
  · obtain ⟨e, hu⟩ := kd_s hk
    cases h; cases hx; cases hy
    refine key (by cases neg <;> rfl) (qi_s1 9999 hu _ _ _) (by intro n; cases n <;> simp [binOp])
  · obtain ⟨e, hu⟩ := kd_p hk
    cases h
    replace hx := hx.toV; cases hx
    replace hy := hy.toV; cases hy
    refine key (by cases neg <;> rfl) (qi_p0 9999 hu) (by intro n; cases n <;> simp [binOp])
  · obtain ⟨e, hu⟩ := kd_p hk
    cases h; cases hx
    replace hy := hy.toV; cases hy
    refine key (by cases neg <;> rfl) (qi_p1 9999 hu _) (by intro n; cases n <;> simp [binOp])
  · obtain ⟨e, hu⟩ := kd_p hk
    cases h; cases hx
    replace hy := hy.toV; cases hy
    refine key (by cases neg <;> rfl) (qi_p1 9999 hu _) (by intro n; cases n <;> simp [binOp])
  · obtain ⟨e, hu⟩ := kd_p hk
    cases h
    replace hx := hx.toV; cases hx
    replace hy := hy.toV; cases hy
    refine key (by cases neg <;> rfl) (qi_p1 9999 hu _) (by intro n; cases n <;> simp [binOp])
  · obtain ⟨a1, a2, a3, hu⟩ := kd_f hk
    cases h
    replace hx := hx.toV; cases hx
    replace hy := hy.toV; cases hy
    refine key (by cases neg <;> rfl) (qi_f0 9999 hu) (by intro n; cases n <;> simp [binOp])
  · obtain ⟨a1, a2, a3, hu⟩ := kd_f hk
    cases h
    replace hx := hx.toV; cases hx
    replace hy := hy.toV; cases hy
    refine key (by cases neg <;> rfl) (qi_f1 9999 hu _ _ _) (by intro n; cases n <;> simp [binOp])
  · obtain ⟨a1, a2, a3, hu⟩ := kd_f hk
    cases h; cases hx
    replace hy := hy.toV; cases hy
    refine key (by cases neg <;> rfl) (qi_f1 9999 hu _ _ _) (by intro n; cases n <;> simp [binOp])
  · obtain ⟨⟨ms, hu⟩, d, rfl⟩ := kd_i hk
    cases h
    replace hx := hx.toV; cases hx
    replace hy := hy.toV; cases hy
    have hc : ∃ c, oy = .const c := by
      have := hyr d rfl
      unfold chkO at hyc
      split at hyc <;> first | (rename_i hq; cases hq; done) | (cases hyc; done) | exact ⟨_, rfl⟩ | skip
      rename_i hq; cases hq; cases this
    obtain ⟨c, rfl⟩ := hc
    refine key (by cases neg <;> cases ox <;> rfl) (qi_i0 9999 hu) (by intro n; cases n <;> simp [binOp])
  · obtain ⟨⟨ms, hu⟩, d, rfl⟩ := kd_i hk
    cases h
    replace hx := hx.toV; cases hx
    replace hy := hy.toV; cases hy
    refine key (by cases neg <;> rfl) (qi_i1 9999 hu _ _) (by intro n; cases n <;> simp [binOp])
  · obtain ⟨⟨ms, hu⟩, d, rfl⟩ := kd_i hk
    cases h; cases hx
    replace hy := hy.toV; cases hy
    refine key (by cases neg <;> rfl) (qi_i1 9999 hu _ _) (by intro n; cases n <;> simp [binOp])
  · obtain ⟨k1, k2, hu⟩ := kd_m hk
    cases h
    replace hx := hx.toV; cases hx
    replace hy := hy.toV; cases hy
    refine key (by cases neg <;> rfl) (qi_m0 9999 hu) (by intro n; cases n <;> simp [binOp])
  · obtain ⟨k1, k2, hu⟩ := kd_m hk
    cases h; cases hx
    replace hy := hy.toV; cases hy
    refine key (by cases neg <;> rfl) (qi_m1 9999 hu _) (by intro n; cases n <;> simp [binOp])
end
end Go.Q
namespace Go.Q
variable [Known]
section
variable {P : Program} {w : World} {g : Gh}

inductive RelO (w : World) (g : Gh) : Option D → Option Value → Prop
  | none : RelO w g none none
  | some (pl d v) (h : RelD w g pl d v) : RelO w g (some d) (some v)
theorem opt_rel {μ τ env ts st} {a : Act} (h : RelA w g μ τ env ts st a.tmps) {x : Option Operand} {y : Option Opd} (hc : chkOpt μ τ x y = true) : RelO w g (y.map (rd env ts)) (x.map a.eval) := by
  cases x <;> cases y <;> simp [chkOpt] at hc <;> first | exact .none | exact .some (fun _ => .nil) _ _ (rd_rel h hc _)

theorem bnd_ok {d : D} {v : Value} {n m l : Nat} {pl : Nat → Pl} (c : BoundsCode) (h : RelD w g pl d v) (hb : bndOf d n = some l) (hm : n ≤ m) :
    (Instr.sliceBound v m c).run P w = .ok l w ∧ l ≤ n := by
  obtain ⟨i, h1, h2⟩ := bind_some' hb
  obtain ⟨k, rfl, rfl⟩ := asN_rel h h1
  split at h2 <;> cases h2
  rename_i hi
  have : 0 ≤ i ∧ i ≤ (m : Int) := ⟨hi.1, by omega⟩
  refine ⟨by simp [Instr.sliceBound, asIntOf, this], by omega⟩

theorem bnds_ok {lo hi : Option D} {vl vh : Option Value} {n m l h : Nat} (isS : Bool) (hl : RelO w g lo vl) (hh : RelO w g hi vh) (hb : bnds n lo hi = some (l, h)) (hm : n ≤ m) :
    (Instr.sliceBounds isS n m vl vh none).run P w = .ok (l, h, m) w ∧ l ≤ h ∧ h ≤ n := by
  obtain ⟨h', h1, h2⟩ := bind_some' hb
  obtain ⟨l', h3, h4⟩ := map_some' h2
  cases h4
  cases hh with
  | none =>
    simp only [bndHi] at h1
    cases h1
    cases hl with
    | none =>
      simp only [bndLo] at h3
      cases h3
      exact ⟨by simp [Instr.sliceBounds], Nat.zero_le _, Nat.le_refl _⟩
    | some pl d v hd =>
      simp only [bndLo] at h3
      obtain ⟨h5, h6⟩ := bnd_ok (P := P) (m := n) (.sliceB) hd h3 (Nat.le_refl _)
      exact ⟨by simp [Instr.sliceBounds, h5], h6, Nat.le_refl _⟩
  | some pl d v hd =>
    simp only [bndHi] at h1
    obtain ⟨h5, h6⟩ := bnd_ok (P := P) (m := m) (if isS then .sliceAcap else .sliceAlen) hd h1 hm
    cases hl with
    | none =>
      simp only [bndLo] at h3
      cases h3
      exact ⟨by simp [Instr.sliceBounds, h5], Nat.zero_le _, h6⟩
    | some pl d v hd =>
      simp only [bndLo] at h3
      obtain ⟨h7, h8⟩ := bnd_ok (P := P) (m := h) (.sliceB) hd h3 (Nat.le_refl _)
      exact ⟨by simp [Instr.sliceBounds, h5, h7], h8, h6⟩

theorem add_at (b o n : Nat) : (⟨b, o, none⟩ : Addr).add n = ⟨b, o + n, none⟩ := Addr.add_mid b o n

theorem RelV.sub {L : Nat → Nat} {z : Nat} {xs : List V} {ad : Option Addr} {n c l h m : Nat} (hv : RelV w L (.slc z xs) (.slice ad n c)) (h1 : l ≤ h) (h2 : h ≤ xs.length) (h3 : h ≤ m) :
    RelV w L (.slc z ((xs.take h).drop l)) (.slice (if m = l then ad else ad.map (·.add (l * z))) (h - l) (m - l)) := by
  by_cases hlh : l = h
  · subst hlh
    have : (xs.take l).drop l = [] := List.drop_eq_nil_of_le (by simp; omega)
    rw [this, Nat.sub_self]
    exact .slc0 _ _ _
  · cases hv with
    | slc0 => simp at h2; omega
    | slc _ _ b o _ f hc hs hL hv hk hr =>
      have hm : ¬ m = l := by omega
      rw [if_neg hm]
      have hlen : ((xs.take h).drop l).length = h - l := by simp; omega
      have hget : ∀ i (hi : i < ((xs.take h).drop l).length), ((xs.take h).drop l)[i] = xs[l + i]'(by rw [hlen] at hi; omega) := fun i hi => by simp
      have e : ∀ i j, o + l * z + i * z + j = o + (l + i) * z + j := fun i j => by rw [Nat.add_mul]; omega
      rw [show h - l = ((xs.take h).drop l).length from hlen.symm]
      simp only [Option.map_some, add_at]
      refine .slc z _ b (o + l * z) _ (fun i j => f (l + i) j) (by omega) (fun i hi => ?_) (fun i j hi hj => ?_) (fun i j hi hj => ?_) (fun i hi j hj => ?_) (fun i hi j hj => ?_)
      · rw [hget i hi]; exact hs _ _
      · rw [e]; exact hL _ _ (by omega) hj
      · rw [e]; exact hv _ _ (by omega) hj
      · simp only [hget i hi] at hj ⊢; exact hk _ _ _ hj
      · simp only [hget i hi] at hj ⊢; exact hr _ _ _ hj

theorem slice_run {t e : TypeId} {ad : Option Addr} {n c l h m z : Nat} {vl vh vm : Option Value} (hu : uSlc P t = some e) (hz : szT P e = some z)
    (hb : (Instr.sliceBounds true n c vl vh vm).run P w = .ok (l, h, m) w) :
    (Instr.sliceAt t (.slice ad n c) vl vh vm).run P w = .ok (.slice (if m = l then ad else ad.map (·.add (l * z))) (h - l) (m - l)) w := by
  obtain ⟨i, hi, rfl⟩ := of_szT P hz
  have hu := of_uSlc P hu
  simp only [Instr.sliceAt, Sem.run_bind, run_underlying hu, Result.andThen_ok, Instr.slice, hb, sizeOf, typeInfo, run_program, hi, Sem.run_pure]

theorem slc_shape {L : Nat → Nat} {z : Nat} {xs : List V} {v : Value} (h : RelV w L (.slc z xs) v) : ∃ ad c, v = .slice ad xs.length c ∧ xs.length ≤ c := by
  cases h with
  | slc0 sz a c => exact ⟨_, _, rfl, Nat.zero_le _⟩
  | slc sz xs b o c f hc => exact ⟨_, _, rfl, hc⟩

theorem bnd3_ok {lo : Option D} {hd md : D} {vl : Option Value} {vh vm : Value} {n c l h m : Nat} {pl pl' : Nat → Pl} (hl : RelO w g lo vl) (hh : RelD w g pl hd vh) (hm : RelD w g pl' md vm)
    (hb1 : bndOf md n = some m) (hb : bnds m lo (some hd) = some (l, h)) (hc : n ≤ c) :
    (Instr.sliceBounds true n c vl (some vh) (some vm)).run P w = .ok (l, h, m) w ∧ l ≤ h ∧ h ≤ m ∧ m ≤ n := by
  obtain ⟨h1, h2⟩ := bnd_ok (P := P) (m := c) .slice3Acap hm hb1 hc
  obtain ⟨h', h3, h4⟩ := bind_some' hb
  obtain ⟨l', h5, h6⟩ := map_some' h4
  cases h6
  simp only [bndHi] at h3
  obtain ⟨h7, h8⟩ := bnd_ok (P := P) (m := m) .slice3B hh h3 (Nat.le_refl _)
  cases hl with
  | none =>
    simp only [bndLo] at h5
    cases h5
    exact ⟨by simp [Instr.sliceBounds, h1, h7], Nat.zero_le _, h8, h2⟩
  | some pl d v hd =>
    simp only [bndLo] at h5
    obtain ⟨h9, h10⟩ := bnd_ok (P := P) (m := h) .slice3C hd h5 (Nat.le_refl _)
    exact ⟨by simp [Instr.sliceBounds, h1, h7, h9], h10, h8, h2⟩

theorem sub_ok {x d : D} {v : Value} {lo hi mx : Option D} {vl vh vm : Option Value} {t e : TypeId} {sz : Nat} {pl : Nat → Pl} (hx : RelD w g pl x v) (hl : RelO w g lo vl) (hh : RelO w g hi vh) (hm : RelO w g mx vm)
    (h : opSub sz lo hi mx x = some d) (hu : uSlc P t = some e) (hz : szT P e = some sz) :
    ∃ r, (Instr.sliceAt t v vl vh vm).run P w = .ok r w ∧ ∀ pl, RelD w g pl d r := by
  unfold opSub at h
  split at h <;> first | (cases h; done) | skip
  · rename_i z xs
    split at h <;> first | (cases h; done) | skip
    rename_i hzz
    subst hzz
    obtain ⟨⟨l, h'⟩, h1, rfl⟩ := map_some' h
    cases hm
    replace hx := hx.toV
    obtain ⟨ad, c, rfl, hc⟩ := slc_shape hx
    obtain ⟨h2, h3, h4⟩ := bnds_ok (P := P) true hl hh h1 hc
    exact ⟨_, slice_run hu hz h2, fun pl => .v _ _ _ (hx.sub h3 h4 (by omega))⟩
  · rename_i md z xs
    split at h <;> first | (cases h; done) | skip
    rename_i hzz
    subst hzz
    obtain ⟨m, h1, h2⟩ := bind_some' h
    obtain ⟨hd, h3, h4⟩ := bind_some' h2
    obtain ⟨⟨l, h'⟩, h5, h6⟩ := map_some' h4
    cases hm with | some pl2 _ vm' hmd =>
    subst h3
    cases hh with | some pl1 _ vh' hhd =>
    replace hx := hx.toV
    obtain ⟨ad, c, rfl, hc⟩ := slc_shape hx
    obtain ⟨h7, h8, h9, h10⟩ := bnd3_ok (P := P) hl hhd hmd h1 h5 hc
    refine ⟨_, slice_run hu hz h7, fun pl => ?_⟩
    have hr := hx.sub (m := m) h8 (by omega) h9
    simp only at h6
    split at h6
    · rename_i he
      subst h6
      refine .lin _ _ _ _ hr ?_
      exact .inl (by have he' : h' = m := he; omega)
    · subst h6; exact .v _ _ _ hr
  · rename_i z
    obtain ⟨⟨l, h'⟩, h1, rfl⟩ := map_some' h
    cases hm
    cases hx
    obtain ⟨h2, h3, h4⟩ := bnds_ok (P := P) true hl hh h1 (Nat.le_refl 0)
    obtain rfl : h' = 0 := by omega
    obtain rfl : l = 0 := by omega
    exact ⟨_, slice_run hu hz h2, fun pl => .nils _ _⟩
  · rename_i r z off len fl
    split at h <;> first | (cases h; done) | skip
    rename_i hzz
    subst hzz
    obtain ⟨⟨l, h'⟩, h1, rfl⟩ := map_some' h
    cases hm
    cases hx with | own _ _ _ _ _ _ c ad hlv hc hzr ha =>
    obtain ⟨h2, h3, h4⟩ := bnds_ok (P := P) true hl hh h1 hc.1
    refine ⟨_, slice_run hu hz h2, fun pl => ?_⟩
    by_cases hcl : c = l
    · rw [if_pos hcl]
      exact .own _ _ _ _ _ _ _ ad hlv ⟨by simp only at h3 h4 ⊢; omega, fun hx => by have := hc.2.1 hx; simp only at h3 h4 ⊢; omega, fun hx => Nat.le_trans (Nat.mul_le_mul_right _ (by simp only at h3 h4 ⊢; omega)) (hc.2.2 hx)⟩ hzr (fun hn => by exfalso; simp at hn; omega)
    · rw [if_neg hcl]
      refine .own _ _ _ _ _ _ _ _ hlv ⟨by simp only at h3 h4 ⊢; omega, fun hx => by have := hc.2.1 hx; simp only at h3 h4 ⊢; omega, fun hx => Nat.le_trans (Nat.mul_le_mul_right _ (by simp only at h3 h4 ⊢; omega)) (hc.2.2 hx)⟩ hzr (fun hn => ?_)
      rw [ha (by simp at hn; omega)]; show (⟨_, _, none⟩ : Addr).add _ = _; rw [add_at, Nat.add_mul]
  · rename_i r i off len
    split at h <;> first | (cases h; done) | skip
    rename_i hzz
    subst hzz
    obtain ⟨⟨l, h'⟩, h1, rfl⟩ := map_some' h
    cases hm
    cases hx with | arr _ _ _ _ _ c ad hlv hc ha =>
    obtain ⟨h2, h3, h4⟩ := bnds_ok (P := P) true hl hh h1 hc
    refine ⟨_, slice_run hu hz h2, fun pl => ?_⟩
    by_cases hcl : c = l
    · rw [if_pos hcl]
      exact .arr _ _ _ _ _ _ ad hlv (by simp; omega) (fun hn => by exfalso; simp at hn; omega)
    · rw [if_neg hcl]
      refine .arr _ _ _ _ _ _ _ hlv (by simp; omega) (fun hn => ?_)
      rw [ha (by simp at hn; omega)]; show (⟨_, _, none⟩ : Addr).add _ = _; rw [add_at, Nat.mul_one, Nat.add_assoc]

theorem subs_ok {x d : D} {v : Value} {lo hi : Option D} {vl vh : Option Value} {t : TypeId} {pl : Nat → Pl} (hx : RelD w g pl x v) (hl : RelO w g lo vl) (hh : RelO w g hi vh)
    (h : opSubs lo hi x = some d) (hu : uStr P t = true) :
    ∃ r, (Instr.sliceAt t v vl vh none).run P w = .ok r w ∧ ∀ pl, RelD w g pl d r := by
  unfold opSubs at h
  split at h <;> first | (cases h; done) | skip
  obtain ⟨⟨l, h'⟩, h1, rfl⟩ := map_some' h
  obtain ⟨b, rfl, rfl⟩ := strOf hx
  have hlen : b.data.toList.length = b.size := by simp
  rw [hlen] at h1
  obtain ⟨h2, h3, h4⟩ := bnds_ok (P := P) false hl hh h1 (Nat.le_refl _)
  have hu := of_uStr P hu
  refine ⟨.string (b.extract l h'), by simp [Instr.sliceAt, run_underlying hu, Instr.slice, h2], fun pl => .v _ _ _ ?_⟩
  have := RelV.str (w := w) (L := g.L) (b.extract l h')
  have e : (b.extract l h').data.toList = (b.data.toList.take h').drop l := by
    simp [ByteArray.data_extract, List.extract, List.drop_take]
  rw [e] at this
  exact this

theorem subA_ok {x d : D} {v : Value} {lo hi mx : Option D} {vl vh vm : Option Value} {t e : TypeId} {n : Nat} {pl : Nat → Pl} (hx : RelD w g pl x v) (hl : RelO w g lo vl) (hh : RelO w g hi vh) (hm : RelO w g mx vm)
    (h : opSubA n lo hi mx x = some d) (hu : uArr P t = some (n, e)) (hz : szT P e = some 1) :
    ∃ r, (Instr.sliceAt t v vl vh vm).run P w = .ok r w ∧ ∀ pl, RelD w g pl d r := by
  obtain ⟨i, hi', hsz⟩ := of_szT P hz
  have hu := of_uArr P hu
  have run : ∀ (ad : Addr) (l h' : Nat), (Instr.sliceBounds false n n vl vh none).run P w = .ok (l, h', n) w →
      (Instr.sliceAt t (.pointer (some ad)) vl vh none).run P w = .ok (.slice (some (if n = l then ad else ad.add l)) (h' - l) (n - l)) w := by
    intro ad l h' hb
    simp [Instr.sliceAt, run_underlying hu, Instr.sureAddr, hb, sizeOf, typeInfo, hi', hsz]
  have piece : ∀ (cs : List V) (b o : Nat) (f : Nat → Value) (l h' : Nat), n ≤ cs.length → l ≤ h' → h' ≤ n → (∀ j, j < cs.length → o + j < g.L b) → (∀ j, j < cs.length → w.cell? ⟨b, o + j, none⟩ = some (f j)) →
      (∀ j (h : j < cs.length), cs[j].isCell = true) → (∀ j (h : j < cs.length), RelV w g.L cs[j] (f j)) →
      RelV w g.L (.slc 1 (((cs.take n).take h').drop l)) (.slice (some (if n = l then ⟨b, o, none⟩ else (⟨b, o, none⟩ : Addr).add l)) (h' - l) (n - l)) := by
    intro cs b o f l h' hn h1 h2 h3 h4 h5 h6
    by_cases hlh : l = h'
    · subst hlh
      have : ((cs.take n).take l).drop l = [] := List.drop_eq_nil_of_le (by simp; omega)
      rw [this, Nat.sub_self]
      exact .slc0 _ _ _
    · rw [if_neg (by omega), add_at]
      have hlen : (((cs.take n).take h').drop l).length = h' - l := by simp; omega
      have hget : ∀ i (hi : i < (((cs.take n).take h').drop l).length), (((cs.take n).take h').drop l)[i] = cs[l + i]'(by rw [hlen] at hi; omega) := fun i hi => by simp
      have hone : ∀ y : V, y.isCell = true → cellsV y = [y] := fun y hy => by cases y <;> first | rfl | (simp [V.isCell] at hy; done)
      rw [show h' - l = (((cs.take n).take h').drop l).length from hlen.symm]
      refine .slc 1 _ b (o + l) _ (fun i j => f (l + i)) (by omega) (fun i hi => ?_) (fun i j hi hj => ?_) (fun i j hi hj => ?_) (fun i hi j hj => ?_) (fun i hi j hj => ?_)
      · rw [hget i hi, hone _ (h5 _ _)]; rfl
      · have := h3 (l + i) (by omega); omega
      · have := h4 (l + i) (by omega); rw [← this]; congr 2; omega
      · simp only [hget i hi, hone _ (h5 _ _)] at hj ⊢
        have : j = 0 := by simpa using hj
        subst this; exact h5 _ _
      · simp only [hget i hi, hone _ (h5 _ _)] at hj ⊢
        have : j = 0 := by simpa using hj
        subst this; exact h6 _ _
  unfold opSubA at h
  split at h <;> first | (cases h; done) | skip
  · rename_i r i off
    obtain ⟨⟨l, h'⟩, h1, rfl⟩ := map_some' h
    cases hm
    cases hx with | ptr _ _ _ _ hlv =>
    obtain ⟨h2, h3, h4⟩ := bnds_ok (P := P) false hl hh h1 (Nat.le_refl _)
    refine ⟨_, run _ _ _ h2, fun pl => ?_⟩
    refine .arr _ _ _ _ _ _ _ hlv (by simp; omega) (fun hn => ?_)
    rw [if_neg (by simp at hn; omega), add_at, Nat.add_assoc]
  · rename_i cs off
    split at h <;> first | (cases h; done) | skip
    rename_i hle
    obtain ⟨⟨l, h'⟩, h1, rfl⟩ := map_some' h
    cases hm
    cases hx with | va _ _ _ b o f a1 a2 a3 a4 =>
    obtain ⟨h2, h3, h4⟩ := bnds_ok (P := P) false hl hh h1 (Nat.le_refl _)
    refine ⟨_, run _ _ _ h2, fun pl => .v _ _ _ ?_⟩
    have := piece (cs.drop off) b (o + off) (fun j => f (off + j)) l h' (by simp; omega) h3 h4 (fun j hj => by have := a1 (off + j) (by simp at hj; omega); omega)
      (fun j hj => by have := a2 (off + j) (by simp at hj; omega); rw [← this]; congr 2; omega) (fun j hj => by simp only [List.getElem_drop]; exact a3 _ _) (fun j hj => by simp only [List.getElem_drop]; exact a4 _ _)
    exact this
  · rename_i cs
    split at h <;> first | (cases h; done) | skip
    rename_i hle
    obtain ⟨⟨l, h'⟩, h1, rfl⟩ := map_some' h
    cases hm
    replace hx := hx.toV
    cases hx with | pt _ b o f a1 a2 a3 a4 =>
    obtain ⟨h2, h3, h4⟩ := bnds_ok (P := P) false hl hh h1 (Nat.le_refl _)
    exact ⟨_, run _ _ _ h2, fun pl => .v _ _ _ (piece cs b o f l h' hle h3 h4 a1 a2 a3 a4)⟩

theorem fa_ok {x d : D} {v : Value} {t : TypeId} {fs : Array Field} {k off s : Nat} {q : Field} {pl : Nat → Pl} (hx : RelD w g pl x v) (h : opFa off x = some d)
    (hu : uStruct P t = some fs) (hq : fs[k]? = some q) (ho : q.offset = off) (hs : szT P q.type = some s) (hs0 : s ≠ 0) :
    ∃ r, (Instr.fieldAt t v k).run P w = .ok r w ∧ ∀ pl, RelD w g pl d r := by
  obtain ⟨i, hi, hsz⟩ := of_szT P hs
  have hu := of_uStruct P hu
  have run : ∀ (ad : Addr), (Instr.fieldAt t (.pointer (some ad)) k).run P w = .ok (.pointer (some (ad.add off))) w := by
    intro ad
    simp [Instr.fieldAt, run_underlying hu, hq, Instr.sureAddr, fieldPlace, sizeOf, typeInfo, hi, hsz, hs0, ho]
  unfold opFa at h
  split at h <;> first | (cases h; done) | skip
  · cases h
    cases hx with | ptr _ r i o hlv =>
    refine ⟨_, run _, fun pl => ?_⟩
    rw [add_at, Nat.add_assoc]
    exact .ptr _ _ _ _ hlv
  · cases h
    cases hx with | va _ cs o b o' f a1 a2 a3 a4 =>
    refine ⟨_, run _, fun pl => ?_⟩
    rw [add_at, Nat.add_assoc]
    exact .va _ _ _ _ _ _ a1 a2 a3 a4
  · cases h
    replace hx := hx.toV
    cases hx with | pt _ b o f a1 a2 a3 a4 =>
    refine ⟨_, run _, fun pl => ?_⟩
    rw [add_at]
    exact .va _ _ _ _ _ _ a1 a2 a3 a4

theorem ix_ok {d : D} {v : Value} {n k : Nat} {pl : Nat → Pl} (h : RelD w g pl d v) (hb : ixOf d n = some k) : ∃ kk i, v = .int kk i ∧ 0 ≤ i ∧ i < (n : Int) ∧ i.toNat = k ∧ k < n := by
  obtain ⟨i, h1, h2⟩ := bind_some' hb
  obtain ⟨kk, rfl, rfl⟩ := asN_rel h h1
  split at h2 <;> cases h2
  rename_i hi
  exact ⟨kk, i, rfl, hi.1, hi.2, rfl, by omega⟩

theorem ia_ok {x i d : D} {v u : Value} {t e : TypeId} {sz : Nat} {pl pl' : Nat → Pl} (hx : RelD w g pl x v) (hi : RelD w g pl' i u) (h : opIa sz i x = some d)
    (hu : uSlc P t = some e) (hz : szT P e = some sz) : ∃ r, (Instr.indexAt t v u).run P w = .ok r w ∧ ∀ pl, RelD w g pl d r := by
  obtain ⟨inf, hinf, hsz⟩ := of_szT P hz
  have hu := of_uSlc P hu
  have run : ∀ (ad : Addr) (n c : Nat) (kk : IntKind) (j : Int), 0 ≤ j → j < (n : Int) → (Instr.indexAt t (.slice (some ad) n c) (.int kk j)).run P w = .ok (.pointer (some (ad.add (j.toNat * sz)))) w := by
    intro ad n c kk j h0 h1
    simp [Instr.indexAt, asIntOf, run_underlying hu, h0, h1, sizeOf, typeInfo, hinf, hsz]
  unfold opIa at h
  split at h <;> first | (cases h; done) | skip
  · rename_i z xs
    obtain ⟨n, h1, h2⟩ := bind_some' h
    obtain ⟨y, h3, h4⟩ := bind_some' h2
    obtain ⟨kk, j, rfl, h5, h6, rfl, h7⟩ := ix_ok hi h1
    unfold vaOf at h4
    split at h4 <;> cases h4
    rename_i hy
    replace hx := hx.toV
    cases hx with
    | slc0 => simp at h7
    | slc _ _ b o c f a1 a2 a3 a4 a5 a6 =>
      have hget : xs[j.toNat] = y := by rw [List.getElem?_eq_getElem h7] at h3; exact Option.some.inj h3
      have hzz : z = sz := by rw [← a2 _ h7, hget, hy]
      refine ⟨_, run _ _ _ kk j h5 h6, fun pl => ?_⟩
      rw [add_at]
      have e : o + j.toNat * sz = o + j.toNat * sz + 0 := rfl
      rw [e]
      subst hzz
      subst hget
      exact .va _ _ _ b (o + j.toNat * z) (fun k => f j.toNat k) (fun k hk => a3 _ _ h7 (by rw [hy] at hk; exact hk)) (fun k hk => a4 _ _ h7 (by rw [hy] at hk; exact hk)) (fun k hk => a5 _ h7 _ hk) (fun k hk => a6 _ h7 _ hk)
  · rename_i r z off len fl
    split at h <;> first | (cases h; done) | skip
    rename_i hzz
    subst hzz
    obtain ⟨n, h1, rfl⟩ := map_some' h
    obtain ⟨kk, j, rfl, h5, h6, rfl, h7⟩ := ix_ok hi h1
    cases hx with | own _ _ _ _ _ _ c ad hlv hc hzr ha =>
    refine ⟨_, run _ _ _ kk j h5 h6, fun pl => ?_⟩
    rw [ha (by omega), add_at]
    have e : off * z + j.toNat * z = (off + j.toNat) * g.sz r + 0 := by rw [hzr, Nat.add_mul]; rfl
    rw [e]
    exact .ptr _ _ _ _ hlv
  · rename_i r k off len
    split at h <;> first | (cases h; done) | skip
    rename_i hzz
    subst hzz
    obtain ⟨n, h1, rfl⟩ := map_some' h
    obtain ⟨kk, j, rfl, h5, h6, rfl, h7⟩ := ix_ok hi h1
    cases hx with | arr _ _ _ _ _ c ad hlv hc ha =>
    refine ⟨_, run _ _ _ kk j h5 h6, fun pl => ?_⟩
    rw [ha (by omega), add_at, Nat.mul_one, Nat.add_assoc]
    exact .ptr _ _ _ _ hlv

theorem iaA_ok {x i d : D} {v u : Value} {t e : TypeId} {len sz : Nat} {pl pl' : Nat → Pl} (hx : RelD w g pl x v) (hi : RelD w g pl' i u) (h : opIaA len sz i x = some d)
    (hu : uArr P t = some (len, e)) (hz : szT P e = some sz) : ∃ r, (Instr.indexAt t v u).run P w = .ok r w ∧ ∀ pl, RelD w g pl d r := by
  obtain ⟨inf, hinf, hsz⟩ := of_szT P hz
  have hu := of_uArr P hu
  have run : ∀ (ad : Addr) (kk : IntKind) (j : Int), 0 ≤ j → j < (len : Int) → (Instr.indexAt t (.pointer (some ad)) (.int kk j)).run P w = .ok (.pointer (some (ad.add (j.toNat * sz)))) w := by
    intro ad kk j h0 h1
    simp [Instr.indexAt, asIntOf, run_underlying hu, Instr.sureAddr, h0, h1, sizeOf, typeInfo, hinf, hsz]
  obtain ⟨n, h1, h2⟩ := bind_some' h
  obtain ⟨kk, j, rfl, h5, h6, rfl, h7⟩ := ix_ok hi h1
  unfold opFa at h2
  split at h2 <;> first | (cases h2; done) | skip
  · cases h2
    cases hx with | ptr _ r i o hlv =>
    refine ⟨_, run _ kk j h5 h6, fun pl => ?_⟩
    rw [add_at, Nat.add_assoc]
    exact .ptr _ _ _ _ hlv
  · cases h2
    cases hx with | va _ cs o b o' f a1 a2 a3 a4 =>
    refine ⟨_, run _ kk j h5 h6, fun pl => ?_⟩
    rw [add_at, Nat.add_assoc]
    exact .va _ _ _ _ _ _ a1 a2 a3 a4
  · cases h2
    replace hx := hx.toV
    cases hx with | pt _ b o f a1 a2 a3 a4 =>
    refine ⟨_, run _ kk j h5 h6, fun pl => ?_⟩
    rw [add_at]
    exact .va _ _ _ _ _ _ a1 a2 a3 a4

theorem idx_ok {x i d : D} {v u : Value} {t : TypeId} {pl pl' : Nat → Pl} (hx : RelD w g pl x v) (hi : RelD w g pl' i u) (h : opIdx i x = some d) (hu : uStr P t = true) :
    ∃ r, (Instr.index t v u).run P w = .ok r w ∧ ∀ pl, RelD w g pl d r := by
  unfold opIdx at h
  split at h <;> first | (cases h; done) | skip
  rename_i s
  obtain ⟨n, h1, h2⟩ := bind_some' h
  obtain ⟨c, h3, rfl⟩ := map_some' h2
  obtain ⟨kk, j, rfl, h5, h6, rfl, h7⟩ := ix_ok hi h1
  obtain ⟨b, rfl, rfl⟩ := strOf hx
  have hu := of_uStr P hu
  have hb : b[j.toNat]? = some c := by
    rw [← h3]
    have : j.toNat < b.size := by simpa using h7
    rw [getElem?_pos b j.toNat this, List.getElem?_eq_getElem h7]
    rfl
  exact ⟨.int .u8 c.toNat, by simp [Instr.index, asIntOf, run_underlying hu, h5, hb], fun pl => .v _ _ _ (.int _ _)⟩

theorem cells1_at : ∀ {xs : List V}, cells1 xs = true → ∀ i (h : i < xs.length), xs[i].isCell = true
  | [], _, i, h => by simp at h
  | x :: r, hc, 0, h => by simp [cells1] at hc; exact hc.1
  | x :: r, hc, i + 1, h => by simp [cells1] at hc; exact cells1_at hc.2 i (by simpa using h)
theorem s2a_ok {x d : D} {v : Value} {t e : TypeId} {n : Nat} {pl : Nat → Pl} (hx : RelD w g pl x v) (h : s2aD n x = some d) (hn : n ≠ 0) (hu : uArr P t = some (n, e)) (hz : szT P e = some 1) :
    ∃ r, (Instr.arrayAt t v).run P w = .ok r w ∧ ∀ pl, RelD w g pl d r := by
  have hu := of_uArr P hu
  have run : ∀ (ad : Option Addr) (l c : Nat), n ≤ l → (Instr.arrayAt t (.slice ad l c)).run P w = .ok (.pointer ad) w := by
    intro ad l c hl
    have : ¬ l < n := by omega
    simp [Instr.arrayAt, run_underlying hu, this]
  unfold s2aD at h
  split at h <;> first | (cases h; done) | skip
  · rename_i z xs
    split at h <;> cases h
    rename_i hzz
    obtain ⟨rfl, hle, hcl⟩ := hzz
    have hcell := cells1_at hcl
    replace hx := hx.toV
    cases hx with
    | slc0 => simp at hle; omega
    | slc _ _ b o c f a1 a2 a3 a4 a5 a6 =>
      have hone : ∀ y : V, y.isCell = true → cellsV y = [y] := fun y hy => by cases y <;> first | rfl | (simp [V.isCell] at hy; done)
      refine ⟨_, run _ _ _ hle, fun pl => ?_⟩
      have hlt : ∀ j, j < (xs.take n).length → j < xs.length := fun j hj => by simp at hj; omega
      refine .va _ (xs.take n) 0 b o (fun j => f j 0) (fun j hj => ?_) (fun j hj => ?_) (fun j hj => ?_) (fun j hj => ?_)
      · have := a3 j 0 (hlt j hj) (by omega); omega
      · have := a4 j 0 (hlt j hj) (by omega); rw [← this]; congr 2; omega
      · simp only [List.getElem_take]; exact hcell _ _
      · have h1 := a6 j (hlt j hj) 0 (by rw [a2 _ (hlt j hj)]; omega)
        simp only [List.getElem_take]
        simp only [hone _ (hcell j (hlt j hj)), List.getElem_cons_zero] at h1
        exact h1
  · rename_i r i off len
    split at h <;> cases h
    rename_i hle
    cases hx with | arr _ _ _ _ _ c ad hlv hc ha =>
    refine ⟨_, run _ _ _ hle, fun pl => ?_⟩
    rw [ha (by omega)]
    exact .ptr _ _ _ _ hlv
end
end Go.Q
namespace Go.Q
variable [Known]
section
variable {P : Program} {w : World} {g : Gh}

theorem loadC_one {cs : List D} {off : Nat} {d : D} {f : Nat → Value} {q : Nat → Nat → Pl} (hc : ∀ i (h : i < cs.length), cs[i].isCell = true ∧ RelD w g (q i) cs[i] (f i)) (h : loadC cs off none = some d) :
    off < cs.length ∧ ∀ pl, RelD w g pl d (f off) := by
  obtain ⟨x, h1, rfl⟩ := map_some' h
  obtain ⟨hlt, rfl⟩ := List.getElem?_eq_some_iff.1 h1
  exact ⟨hlt, fun pl => (hc off hlt).2.cp⟩
theorem loadC_agg {cs : List D} {off n : Nat} {d : D} {f : Nat → Value} {q : Nat → Nat → Pl} (hc : ∀ i (h : i < cs.length), cs[i].isCell = true ∧ RelD w g (q i) cs[i] (f i)) (h : loadC cs off (some n) = some d) :
    off + n ≤ cs.length ∧ ∀ (vs : Array Value), vs.size = n → (∀ i (hi : i < vs.size), vs[i] = f (off + i)) → ∀ pl, RelD w g pl d (.agg vs) := by
  simp only [loadC] at h
  split at h <;> cases h
  rename_i hle
  refine ⟨hle, fun vs hs hv pl => ?_⟩
  have hlen : (((cs.drop off).take n).map cp1).length = n := by simp; omega
  refine mkAgg_rel (by rw [hlen, hs]) (fun i hi => ?_) (fun i hi => ?_)
  · rw [hlen] at hi
    simp only [List.getElem_map, List.getElem_take, List.getElem_drop]
    exact ((hc (off + i) (by omega)).2.cp1 (pl' := fun _ => .nil) (hc (off + i) (by omega)).1).2
  · rw [hlen] at hi
    simp only [List.getElem_map, List.getElem_take, List.getElem_drop, hv i (by omega)]
    exact ((hc (off + i) (by omega)).2.cp1 (hc (off + i) (by omega)).1).1

theorem osz_true {t : TypeId} {s : Option Nat} (h : osz P t s = true) : (∃ d n, P.underlying t = some d ∧ d.isRow = true ∧ szT P t = some n ∧ s = some n) ∨ (∃ d, P.underlying t = some d ∧ d.isRow = false ∧ s = none ∧ szT P t = some 1) := by
  unfold osz at h
  split at h
  · rename_i hu
    obtain ⟨d, h1, h2⟩ := of_uAgg_true P hu
    simp at h
    obtain ⟨h3, rfl⟩ := h
    obtain ⟨n, hn⟩ := Option.isSome_iff_exists.1 h3
    exact .inl ⟨d, n, h1, h2, hn, hn⟩
  · rename_i hu
    obtain ⟨d, h1, h2⟩ := of_uAgg_false P hu
    simp at h
    exact .inr ⟨d, h1, h2, h.1, h.2⟩
  · cases h

theorem isAgg_run {t : TypeId} {d : TypeDesc} (hu : P.underlying t = some d) : (isAgg t).run P w = .ok d.isRow w := by
  unfold isAgg
  rw [Sem.run_bind, run_underlying hu w]
  cases d <;> rfl
theorem sizeOf_run {t : TypeId} {n : Nat} (h : szT P t = some n) : (sizeOf t).run P w = .ok n w := by
  obtain ⟨i, hi, rfl⟩ := of_szT P h
  simp [sizeOf, typeInfo, hi]

theorem part_ok {x d : D} {v : Value} {t : TypeId} {off : Nat} {s : Option Nat} {pl : Nat → Pl} (hx : RelD w g pl x v) (hg : isAggD x = true) (h : loadC (cellsOf x) off s = some d) (ho : osz P t s = true) :
    ∃ cs r, v = .agg cs ∧ (part t cs off).run P w = .ok r w ∧ ∀ pl, RelD w g pl d r := by
  have hgood : goodD x = true := by cases x <;> first | rfl | (simp [isAggD] at hg; done)
  have hv : ∃ cs, v = .agg cs := by
    cases hx <;> first | (simp [isAggD] at hg; done) | skip
    case v x hx => cases hx <;> first | (simp [isAggD] at hg; done) | exact ⟨_, rfl⟩
    case agg => exact ⟨_, rfl⟩
  obtain ⟨cs, rfl⟩ := hv
  obtain ⟨hl, hcell⟩ := hx.cells hgood
  have hl' : (cellsOf x).length = cs.size := hl
  have hc : ∀ i (h : i < (cellsOf x).length), (cellsOf x)[i].isCell = true ∧ RelD w g (fun _ => pl i) (cellsOf x)[i] (cs.getD i undef) := fun i hi => by
    have := hcell i hi
    have e : cs.getD i undef = cs[i]'(hl' ▸ hi) := by simp [Array.getD, hl' ▸ hi]
    rw [e]; exact this
  refine ⟨cs, ?_⟩
  rcases osz_true ho with ⟨d', n, h1, h2, h3, rfl⟩ | ⟨d', h1, h2, rfl, h3⟩
  · obtain ⟨hle, hr⟩ := loadC_agg hc h
    refine ⟨.agg (cs.extract off (off + n)), rfl, by simp [part, Sem.run_bind, isAgg_run h1, h2, sizeOf_run h3], fun pl => hr _ (by simp; omega) (fun i hi => ?_) pl⟩
    have hi' : i < n := by simp at hi; omega
    have hlt : off + i < cs.size := by omega
    simp [Array.getD, hlt]
  · obtain ⟨hlt, hr⟩ := loadC_one hc h
    have hlt' : off < cs.size := hl' ▸ hlt
    refine ⟨cs[off], rfl, by simp [part, Sem.run_bind, isAgg_run h1, h2, hlt'], fun pl => ?_⟩
    have := hr pl
    simpa [Array.getD, hlt'] using this

theorem fld_ok {x d : D} {v : Value} {t : TypeId} {fs : Array Field} {k off : Nat} {s : Option Nat} {q : Field} {pl : Nat → Pl} (hx : RelD w g pl x v) (h : opFld off s x = some d)
    (hu : uStruct P t = some fs) (hq : fs[k]? = some q) (ho : q.offset = off) (hs : osz P q.type s = true) : ∃ r, (Instr.field t v k).run P w = .ok r w ∧ ∀ pl, RelD w g pl d r := by
  unfold opFld at h
  split at h <;> first | (cases h; done) | skip
  rename_i hg
  obtain ⟨cs, r, rfl, h1, h2⟩ := part_ok hx hg h hs
  have hu := of_uStruct P hu
  exact ⟨r, by simp [Instr.field, run_underlying hu, hq, asAgg, ho, h1], h2⟩

theorem idxA_ok {x i d : D} {v u : Value} {t e : TypeId} {len sz : Nat} {s : Option Nat} {pl pl' : Nat → Pl} (hx : RelD w g pl x v) (hi : RelD w g pl' i u) (h : opIdxA len sz s i x = some d)
    (hu : uArr P t = some (len, e)) (hz : szT P e = some sz) (hs : osz P e s = true) : ∃ r, (Instr.index t v u).run P w = .ok r w ∧ ∀ pl, RelD w g pl d r := by
  obtain ⟨n, h1, h2⟩ := bind_some' h
  obtain ⟨kk, j, rfl, h5, h6, rfl, h7⟩ := ix_ok hi h1
  unfold opFld at h2
  split at h2 <;> first | (cases h2; done) | skip
  rename_i hg
  obtain ⟨cs, r, rfl, h3, h4⟩ := part_ok hx hg h2 hs
  have hu := of_uArr P hu
  exact ⟨r, by simp [Instr.index, asIntOf, run_underlying hu, h5, h6, Sem.run_bind, sizeOf_run hz, h3], h4⟩

theorem load_run_agg {t : TypeId} {b o n : Nat} {d : TypeDesc} {f : Nat → Value} (hu : P.underlying t = some d) (hd : d.isRow = true) (hz : szT P t = some n) (hc : ∀ j, j < n → w.cell? ⟨b, o + j, none⟩ = some (f j)) :
    (Instr.loadAt t (.pointer (some ⟨b, o, none⟩))).run P w = .ok (.agg ((List.range n).map f).toArray) w := by
  refine run_loadAt_mid w b o t ((List.range n).map f) d (fun j v hv => ?_) hu hd (by simpa [szT] using hz)
  obtain ⟨hj, hv⟩ := List.getElem?_eq_some_iff.1 hv
  simp at hj hv
  rw [hc j hj, hv]
theorem load_run_one {t : TypeId} {b o : Nat} {d : TypeDesc} {v : Value} (hu : P.underlying t = some d) (hd : d.isRow = false) (hc : w.cell? ⟨b, o, none⟩ = some v) :
    (Instr.loadAt t (.pointer (some ⟨b, o, none⟩))).run P w = .ok v w := by
  simp [Instr.loadAt, Instr.sureAddr, loadVar, Sem.run_bind, isAgg_run hu, hd, hc]

theorem loadAt_ok {cs : List D} {b o off : Nat} {s : Option Nat} {d : D} {f : Nat → Value} {q : Nat → Nat → Pl} {t : TypeId} (hc : ∀ i (h : i < cs.length), cs[i].isCell = true ∧ RelD w g (q i) cs[i] (f i))
    (hm : ∀ i, i < cs.length → w.cell? ⟨b, o + i, none⟩ = some (f i)) (h : loadC cs off s = some d) (ho : osz P t s = true) :
    ∃ r, (Instr.loadAt t (.pointer (some ⟨b, o + off, none⟩))).run P w = .ok r w ∧ ∀ pl, RelD w g pl d r := by
  rcases osz_true ho with ⟨d', n, h1, h2, h3, rfl⟩ | ⟨d', h1, h2, rfl, h3⟩
  · obtain ⟨hle, hr⟩ := loadC_agg hc h
    refine ⟨_, load_run_agg (f := fun j => f (off + j)) h1 h2 h3 (fun j hj => by rw [Nat.add_assoc]; exact hm _ (by omega)), fun pl => hr _ (by simp) (fun i hi => by simp) pl⟩
  · obtain ⟨hlt, hr⟩ := loadC_one hc h
    exact ⟨_, load_run_one h1 h2 (hm _ hlt), hr⟩

theorem loadVs_eq (cs : List V) (off : Nat) (s : Option Nat) : loadVs cs off s = loadC (cs.map .v) off s := by
  cases s with
  | none => simp only [loadVs, loadC, List.getElem?_map, Option.map_map]; congr
  | some n =>
    simp only [loadVs, loadC, List.length_map]
    split
    · have : (((cs.map D.v).drop off).take n).map cp1 = (((cs.drop off).take n)).map .v := by
        rw [← List.map_drop, ← List.map_take, List.map_map]; rfl
      rw [this, mkAgg_map]
    · rfl

theorem load_ok {st : St} {p d : D} {v : Value} {s : Option Nat} {t : TypeId} {pl : Nat → Pl} (hS : RelS w g st) (hp : RelD w g pl p v) (h : opLoad st s p = some d) (ho : osz P t s = true) :
    ∃ r, (Instr.loadAt t v).run P w = .ok r w ∧ ∀ pl, RelD w g pl d r := by
  unfold opLoad at h
  split at h <;> first | (cases h; done) | skip
  · rename_i r i off
    obtain ⟨e, h1, h2⟩ := bind_some' h
    unfold rowAt at h1
    split at h1 <;> first | (cases h1; done) | skip
    rename_i xs hb
    obtain ⟨hi, rfl⟩ := List.getElem?_eq_some_iff.1 h1
    cases hp with | ptr _ _ _ _ hlv =>
    have hB := hS.blk r _ hb
    simp only [RelB] at hB
    have hBn := hB.1
    replace hB := hB.2
    obtain ⟨hl, hB⟩ := hB i hi
    refine loadAt_ok (f := fun j => (w.cell? ⟨g.be r, i * g.sz r + j, none⟩).getD undef) (q := fun j _ => .cell r i j) (fun j hj => ?_) (fun j hj => ?_) h2 ho
    · obtain ⟨h3, _, v, h4, h5, h6⟩ := hB j hj
      rw [h4]; exact ⟨h3, h6⟩
    · obtain ⟨h3, _, v, h4, h5, h6⟩ := hB j hj
      rw [h4]; rfl
  · rename_i cs off
    cases hp with | va _ _ _ b o f a1 a2 a3 a4 =>
    rw [loadVs_eq] at h
    refine loadAt_ok (f := f) (q := fun j _ => .nil) (fun j hj => ?_) (fun j hj => a2 j (by simpa using hj)) h ho
    simp only [List.getElem_map]
    exact ⟨a3 j (by simpa using hj), .v _ _ _ (a4 j (by simpa using hj))⟩
  · rename_i cs
    replace hp := hp.toV
    cases hp with | pt _ b o f a1 a2 a3 a4 =>
    rw [loadVs_eq] at h
    have := loadAt_ok (P := P) (g := g) (t := t) (b := b) (o := o) (off := 0) (f := f) (q := fun j _ => .nil) (fun j hj => ?_) (fun j hj => a2 j (by simpa using hj)) h ho
    · exact this
    · simp only [List.getElem_map]
      exact ⟨a3 j (by simpa using hj), .v _ _ _ (a4 j (by simpa using hj))⟩
end
end Go.Q
namespace Go.Q
variable [Known]
section
variable {P : Program} {w : World} {g : Gh}

theorem toV_of1 {d : D} {x : V} (h : toV1 d = some x) : toV d = some x := by cases d <;> first | (cases h; done) | exact h
theorem toVs_at : ∀ {ds : List D} {xs : List V}, toVs ds = some xs → xs.length = ds.length ∧ ∀ i (h : i < ds.length) (h' : i < xs.length), toV1 ds[i] = some xs[i]
  | [], xs, h => by simp only [toVs] at h; cases h; exact ⟨rfl, fun i h => by simp at h⟩
  | d :: r, xs, h => by
    simp only [toVs] at h
    obtain ⟨x, h1, h2⟩ := bind_some' h
    obtain ⟨ys, h3, rfl⟩ := map_some' h2
    obtain ⟨h4, h5⟩ := toVs_at h3
    refine ⟨by simp [h4], fun i hi hi' => ?_⟩
    cases i with
    | zero => exact h1
    | succ i => exact h5 i (by simpa using hi) (by simpa using hi')
theorem toVL_at : ∀ {ds : List D} {xs : List V}, toVL ds = some xs → xs.length = ds.length ∧ ∀ i (h : i < ds.length) (h' : i < xs.length), toV ds[i] = some xs[i]
  | [], xs, h => by simp only [toVL] at h; cases h; exact ⟨rfl, fun i h => by simp at h⟩
  | d :: r, xs, h => by
    simp only [toVL] at h
    obtain ⟨x, h1, h2⟩ := bind_some' h
    obtain ⟨ys, h3, rfl⟩ := map_some' h2
    obtain ⟨h4, h5⟩ := toVL_at h3
    refine ⟨by simp [h4], fun i hi hi' => ?_⟩
    cases i with
    | zero => exact h1
    | succ i => exact h5 i (by simpa using hi) (by simpa using hi')

theorem toV1_rel {pl : Nat → Pl} {d : D} {x : V} {v : Value} (h : RelD w g pl d v) (hx : toV1 d = some x) : RelV w g.L x v ∧ (d.isCell = true → x.isCell = true) := by
  cases d <;> simp only [toV1] at hx <;> first | (cases hx; done) | skip
  · cases hx; exact ⟨h.toV, fun h => h⟩
  · cases hx; cases h; exact ⟨.slc0 _ _ _, fun _ => rfl⟩
  · cases hx; cases h; exact ⟨by assumption, fun _ => rfl⟩
theorem toV_rel {pl : Nat → Pl} {d : D} {x : V} {v : Value} (h : RelD w g pl d v) (hx : toV d = some x) : RelV w g.L x v := by
  cases d <;> simp only [toV] at hx <;> first | (cases hx; done) | skip
  · cases hx; exact h.toV
  · cases hx; cases h; exact .slc0 _ _ _
  · cases hx; cases h; assumption
  · obtain ⟨ys, h1, rfl⟩ := map_some' hx
    obtain ⟨h2, h3⟩ := toVs_at h1
    cases h with | agg _ ds cs hl hk hr =>
    refine .agg _ _ (by rw [h2, hl]) (fun i hi => ?_) (fun i hi => ?_)
    · exact (toV1_rel (hr i (by omega)) (h3 i (by omega) hi)).2 (hk _ _)
    · exact (toV1_rel (hr i (by omega)) (h3 i (by omega) hi)).1
theorem toV1_cell {d : D} {x : V} (hx : toV1 d = some x) (hk : d.isCell = true) : x.isCell = true := by
  cases d <;> simp only [toV1] at hx <;> first | (cases hx; done) | skip
  · cases hx; exact hk
  · cases hx; rfl
  · cases hx; rfl
theorem toV_cell {d : D} {x : V} (hx : toV d = some x) (hk : d.isCell = true) : x.isCell = true := by
  cases d <;> simp only [toV] at hx <;> first | (cases hx; done) | (simp [D.isCell] at hk; done) | skip
  · cases hx; exact hk
  · cases hx; rfl
  · cases hx; rfl
theorem toV_good {d : D} {x : V} (hx : toV d = some x) : goodD d = true := by cases d <;> first | rfl | cases hx
theorem toV_cells {e : D} {x : V} (hx : toV e = some x) (hk : ∀ j (h : j < (cellsOf e).length), (cellsOf e)[j].isCell = true) :
    (cellsV x).length = (cellsOf e).length ∧ ∀ j (h : j < (cellsOf e).length) (h' : j < (cellsV x).length), toV (cellsOf e)[j] = some (cellsV x)[j] ∧ ((cellsV x)[j]).isCell = true := by
  cases e <;> simp only [toV] at hx <;> first | (cases hx; done) | skip
  · cases hx
    simp only [cellsOf_v] at hk ⊢
    exact ⟨by simp, fun j h h' => ⟨by simp [toV], by have := hk j h; simpa [D.isCell] using this⟩⟩
  · cases hx; exact ⟨rfl, fun j h h' => by obtain rfl : j = 0 := by simpa [cellsOf] using h
                                           exact ⟨rfl, rfl⟩⟩
  · cases hx; exact ⟨rfl, fun j h h' => by obtain rfl : j = 0 := by simpa [cellsOf] using h
                                           exact ⟨rfl, rfl⟩⟩
  · rename_i ds
    obtain ⟨ys, h1, rfl⟩ := map_some' hx
    obtain ⟨h2, h3⟩ := toVs_at h1
    refine ⟨h2, fun j h h' => ?_⟩
    have h4 := h3 j h h'
    exact ⟨toV_of1 h4, toV1_cell h4 (hk j h)⟩

structure Els (w : World) (L : Nat → Nat) (sz : Nat) (ys : List V) (f : Nat → Nat → Value) : Prop where
  len : ∀ i (h : i < ys.length), (cellsV ys[i]).length = sz
  cell : ∀ i (h : i < ys.length) j (hj : j < (cellsV ys[i]).length), ((cellsV ys[i])[j]).isCell = true
  rel : ∀ i (h : i < ys.length) j (hj : j < (cellsV ys[i]).length), RelV w L (cellsV ys[i])[j] (f i j)
inductive SrcIs (w : World) (sz n : Nat) (f : Nat → Nat → Value) : Value → Prop
  | str (b : ByteArray) (hs : sz = 1) (hn : b.size = n) (hf : ∀ i (h : i < b.size), f i 0 = .int .u8 b[i].toNat) : SrcIs w sz n f (.string b)
  | sl (ad c) (hc : n ≤ c) (h : n ≠ 0 → ∃ b o, ad = some ⟨b, o, none⟩ ∧ ∀ i j, i < n → j < sz → w.cell? ⟨b, o + i * sz + j, none⟩ = some (f i j)) : SrcIs w sz n f (.slice ad n c)

theorem els_slc {sz : Nat} {ys : List V} {v : Value} (h : RelV w g.L (.slc sz ys) v) : ∃ f, Els w g.L sz ys f ∧ SrcIs w sz ys.length f v := by
  cases h with
  | slc0 _ a c => exact ⟨fun _ _ => undef, ⟨fun i h => by simp at h, fun i h => by simp at h, fun i h => by simp at h⟩, .sl _ _ (Nat.zero_le _) (fun h => by simp at h)⟩
  | slc _ _ b o c f h1 h2 h3 h4 h5 h6 => exact ⟨f, ⟨h2, h5, h6⟩, .sl _ _ h1 (fun _ => ⟨b, o, rfl, h4⟩)⟩

theorem rowOf_some {b : Option Blk} {xs : List D} (h : rowOf b = some xs) : b = some (.row xs) := by
  unfold rowOf at h; split at h <;> cases h; rfl

theorem elems_rel {st : St} {d : D} {v : Value} {sz : Nat} {ys : List V} {pl : Nat → Pl} (hS : RelS w g st) (hx : RelD w g pl d v) (h : elems sz st d = some ys) :
    ∃ f, Els w g.L sz ys f ∧ SrcIs w sz ys.length f v := by
  unfold elems at h
  split at h
  · rename_i s
    split at h <;> cases h
    rename_i hs
    obtain ⟨b, rfl, rfl⟩ := strOf hx
    refine ⟨fun i _ => .int .u8 ((b.data.toList[i]?).getD 0).toNat, ⟨fun i hi => by simp [cellsV, hs], fun i hi j hj => ?_, fun i hi j hj => ?_⟩, .str b hs (by simp) (fun i hi => ?_)⟩
    · simp only [List.getElem_map, cellsV] at hj ⊢
      obtain rfl : j = 0 := by simpa using hj
      rfl
    · simp only [List.getElem_map, cellsV] at hj ⊢
      obtain rfl : j = 0 := by simpa using hj
      have hi' : i < b.data.toList.length := by simpa using hi
      simp only [List.getElem_cons_zero, List.getElem?_eq_getElem hi', Option.getD_some]
      exact .int _ _
    · have hi' : i < b.data.toList.length := by simpa using hi
      simp only [List.getElem?_eq_getElem hi', Option.getD_some]
      rfl
  · rename_i z xs
    split at h <;> cases h
    rename_i hz
    subst hz
    exact els_slc hx.toV
  · obtain ⟨x, h1, h2⟩ := bind_some' h
    unfold slcOf at h2
    split at h2 <;> first | (cases h2; done) | skip
    split at h2 <;> cases h2
    rename_i z xs hz
    subst hz
    cases d <;> simp only [rdV] at h1 <;> first | (cases h1; done) | skip
    · cases h1; exact els_slc hx.toV
    · cases h1; cases hx; exact els_slc (.slc0 _ _ _)
    · cases h1; cases hx; exact els_slc (by assumption)
    · rename_i r z' off len fl n1 n2
      unfold rowV at h1
      split at h1 <;> first | (cases h1; done) | skip
      rename_i xs' hb
      split at h1 <;> first | (cases h1; done) | skip
      rename_i hle
      obtain ⟨ys', h3, h4⟩ := map_some' h1
      cases h4
      obtain ⟨h5, h6⟩ := toVL_at h3
      have hlen : ys.length = len := by rw [h5]; simp; omega
      cases hx with | own _ _ _ _ _ _ c ad hlv hc hzr ha =>
      have hB := hS.blk r _ hb
      simp only [RelB] at hB
      have hBn := hB.1
      replace hB := hB.2
      have cellAt : ∀ i, i < ys.length → off + i < xs'.length := fun i hi => by omega
      have key : ∀ i (hi : i < ys.length), toV (xs'[off + i]'(cellAt i hi)) = some ys[i] := fun i hi => by
        have := h6 i (by simp; omega) hi
        simpa using this
      have tc : ∀ i (hi : i < ys.length), _ := fun i hi => toV_cells (key i hi) (fun j hj => ((hB _ (cellAt i hi)).2 j hj).1)
      refine ⟨fun i j => (w.cell? ⟨g.be r, (off + i) * g.sz r + j, none⟩).getD undef, ⟨fun i hi => ?_, fun i hi j hj => ?_, fun i hi j hj => ?_⟩, ?_⟩
      · rw [(tc i hi).1, (hB _ (cellAt i hi)).1, hzr]
      · exact ((tc i hi).2 j (by rw [← (tc i hi).1]; exact hj) hj).2
      · have hj' : j < (cellsOf (xs'[off + i]'(cellAt i hi))).length := by rw [← (tc i hi).1]; exact hj
        obtain ⟨_, _, v, h7, h8, h9⟩ := (hB _ (cellAt i hi)).2 j hj'
        simp only [h7, Option.getD_some]
        exact toV_rel h9 ((tc i hi).2 j hj' hj).1
      · rw [hlen]
        refine .sl _ _ hc.1 (fun hn => ⟨_, _, congrArg some (ha hn), fun i j hi hj => ?_⟩)
        have hi' : i < ys.length := by omega
        have hj' : j < (cellsOf (xs'[off + i]'(cellAt i hi'))).length := by rw [(hB _ (cellAt i hi')).1, hzr]; exact hj
        obtain ⟨_, _, v, h7, h8, h9⟩ := (hB _ (cellAt i hi')).2 j hj'
        simp only [h7, Option.getD_some]
        rw [← h7]; congr 2
        rw [hzr, Nat.add_mul]
    · rename_i r k off len n1 n2
      unfold arrV at h1
      split at h1 <;> first | (cases h1; done) | skip
      rename_i e hb
      split at h1 <;> first | (cases h1; done) | skip
      rename_i hle
      obtain ⟨ys', h3, h4⟩ := map_some' h1
      cases h4
      obtain ⟨h5, h6⟩ := toVL_at h3
      have hlen : ys.length = len := by rw [h5]; simp; omega
      cases hx with | arr _ _ _ _ _ c ad hlv hc ha =>
      unfold rowAt at hb
      split at hb <;> first | (cases hb; done) | skip
      rename_i xs' hb'
      obtain ⟨hk, rfl⟩ := List.getElem?_eq_some_iff.1 hb
      have hB := hS.blk r _ hb'
      simp only [RelB] at hB
      have hBn := hB.1
      replace hB := hB.2
      obtain ⟨hl, hB⟩ := hB k hk
      have cellAt : ∀ i, i < ys.length → off + i < (cellsOf xs'[k]).length := fun i hi => by omega
      have key : ∀ i (hi : i < ys.length), toV ((cellsOf xs'[k])[off + i]'(cellAt i hi)) = some ys[i] := fun i hi => by
        have := h6 i (by simp; omega) hi
        simpa using this
      have hone : ∀ i (hi : i < ys.length), cellsV ys[i] = [ys[i]] ∧ ys[i].isCell = true := fun i hi => by
        obtain ⟨h7, _, v, h8, h9, h10⟩ := hB _ (cellAt i hi)
        have h11 := key i hi
        have : ys[i].isCell = true := toV_cell h11 h7
        exact ⟨by cases hy : ys[i] <;> first | rfl | (rw [hy] at this; simp [V.isCell] at this; done), this⟩
      refine ⟨fun i j => (w.cell? ⟨g.be r, k * g.sz r + (off + i), none⟩).getD undef, ⟨fun i hi => ?_, fun i hi j hj => ?_, fun i hi j hj => ?_⟩, ?_⟩
      · rw [(hone i hi).1]; rfl
      · simp only [(hone i hi).1] at hj ⊢
        obtain rfl : j = 0 := by simpa using hj
        exact (hone i hi).2
      · simp only [(hone i hi).1] at hj ⊢
        obtain rfl : j = 0 := by simpa using hj
        obtain ⟨h7, _, v, h8, h9, h10⟩ := hB _ (cellAt i hi)
        simp only [h8, Option.getD_some, List.getElem_cons_zero]
        exact toV_rel h10 (key i hi)
      · rw [hlen]
        refine .sl _ _ hc (fun hn => ⟨_, _, congrArg some (ha hn), fun i j hi hj => ?_⟩)
        obtain rfl : j = 0 := by omega
        obtain ⟨h7, _, v, h8, h9, h10⟩ := hB _ (cellAt i (by omega))
        simp only [h8, Option.getD_some]
        rw [← h8]; congr 2
        omega
    · rename_i ds
      simp only [toV] at h1
      obtain ⟨ys', _, h4⟩ := map_some' h1
      cases h4
end
end Go.Q
