/- The operations that leave memory as it is: what the abstract machine tells of them holds. No condition. -/
import Derived.Test.YtmbdamompcdolaaDoorEvK
import Derived.Laws.Entries
import Derived.Laws.Strings
import Derived.Laws.Slices
set_option linter.unusedVariables false
set_option linter.unusedSimpArgs false
set_option linter.unusedSectionVars false
namespace Go.Q
variable [Known]

structure RelA (w : World) (g : Gh) (μ : List Nat) (τ : List (Option Nat)) (env ts : List D) (st : St) (tmps : Array Value) : Prop where
  s : RelS w g st
  e : ∀ i t, μ[i]? = some t → RelD w g (fun _ => .env i) (getT env i) (tmps.getD t undef)
  t : ∀ j t, τ.idxOf? (some t) = some j → RelD w g (.tmp (τ.length - 1 - j)) (getT ts j) (tmps.getD t undef)

/-- What comes of an operation. -/
def Post (w : World) (g : Gh) (μ : List Nat) (τ : List (Option Nat)) (tmps : Array Value) (q : Rg) (v : Value) (w' : World) : Prop :=
  ∃ g', Ext w w' g g' ∧ RelA w' g' μ τ q.2.1 q.2.2.1 q.2.2.2 tmps ∧ RelD w' g' (.tmp τ.length) q.1 v
def OpRes (P : Program) (o : Oper) (a : Act) (w : World) (Po : Value → World → Prop) : Prop := match (execOp a.eval o).run P w with
  | .ok (.value v) w' => Po v w'
  | .ok .skip w' => Po undef w'
  | .ok (.enter f args) w' => Calls P f args w' fun e w'' => ∃ v, e = .returned v ∧ Po v w''
  | _ => False
theorem OpRes.wp {P : Program} {o : Oper} {a : Act} {w : World} {Po : Value → World → Prop} {K : Act → World → Prop} {Q : Exit → Act → World → Prop}
    (h : OpRes P o a w Po) (k : ∀ v w', Po v w' → K (a.put o.dst v) w') : o.wp P a w K Q := by
  unfold OpRes at h
  unfold Oper.wp
  split at h <;> rename_i hr
  · rw [hr]; exact k _ _ h
  · rw [hr]; exact k _ _ h
  · rw [hr]
    refine Calls.mono h fun e w'' he => ?_
    obtain ⟨v, rfl, hv⟩ := he
    exact k _ _ hv
  · exact h.elim

section
variable {P : Program} {w : World} {g : Gh} {μ : List Nat} {τ : List (Option Nat)} {env ts : List D} {st : St} {a : Act}

theorem chkC_rel {v : Value} {d : D} (h : chkC v d = true) (pl : Nat → Pl) : RelD w g pl d v := by
  unfold chkC at h
  split at h <;> first | (cases h; done) | skip
  · simp at h; subst h; exact .v _ _ _ (.bool _)
  · simp at h; obtain ⟨rfl, rfl⟩ := h; exact .v _ _ _ (.int _ _)
  · simp at h; subst h; exact .v _ _ _ (.str _)
  · exact .nils _ _
  · exact .v _ _ _ .nilp
  · exact .v _ _ _ .nili
  · exact .v _ _ _ .nilf
  · exact .v _ _ _ .nilm

theorem rd_rel (h : RelA w g μ τ env ts st a.tmps) {x : Operand} {y : Opd} (hc : chkO μ τ x y = true) (pl : Nat → Pl) : RelD w g pl (rd env ts y) (a.eval x) := by
  unfold chkO at hc
  split at hc
  · simp at hc; exact (h.e _ _ hc).cp
  · simp at hc; exact (h.t _ _ hc).cp
  · exact (chkC_rel hc pl).cp
  · rename_i f gg; simp at hc; subst hc; exact .v _ _ _ (.fn f)
  · cases hc

/-- an operation that makes a value, and nothing else -/
theorem res_val {o : Oper} {d : D} {v : Value} (h : RelA w g μ τ env ts st a.tmps) (hr : (execOp a.eval o).run P w = .ok (.value v) w)
    (hd : RelD w g (.tmp τ.length) d v) : OpRes P o a w (Post w g μ τ a.tmps (d, env, ts, st)) := by
  unfold OpRes
  rw [hr]
  exact ⟨g, Ext.refl w g, h, hd⟩

theorem intOf {pl : Nat → Pl} {k : IntKind} {n : Int} {v : Value} (h : RelD w g pl (.v (.int k n)) v) : v = .int k n := by cases h with | v _ _ _ h => cases h; rfl
theorem boolOf {pl : Nat → Pl} {b : Bool} {v : Value} (h : RelD w g pl (.v (.bool b)) v) : v = .bool b := by cases h with | v _ _ _ h => cases h; rfl
theorem strOf {pl : Nat → Pl} {s : List UInt8} {v : Value} (h : RelD w g pl (.v (.str s)) v) : ∃ b : ByteArray, v = .string b ∧ b.data.toList = s := by
  cases h with | v _ _ _ h => cases h; exact ⟨_, rfl, rfl⟩
theorem asN_rel {pl : Nat → Pl} {d : D} {n : Int} {v : Value} (h : RelD w g pl d v) (hn : asN d = some n) : ∃ k, d = .v (.int k n) ∧ v = .int k n := by
  unfold asN at hn
  split at hn <;> first | (cases hn; exact ⟨_, rfl, intOf h⟩) | cases hn

theorem byteArray_toList (b : ByteArray) : b.toList = b.data.toList := ByteArray.toList_eq b
theorem bin_ok {op : BinOp} {x y d : D} {u v : Value} {pl : Nat → Pl} (t : TypeId) (ox oy : Operand) (hx : RelD w g pl x u) (hy : RelD w g pl y v) (h : opBin op x y = some d) :
    ∃ r, (do eqGuard op t ox oy u v; binOp op t u v : Sem Value).run P w = .ok r w ∧ ∀ pl, RelD w g pl d r := by
  unfold opBin at h
  split at h
  · rename_i k a k' b
    obtain rfl := intOf hx
    obtain rfl := intOf hy
    have hg : (eqGuard op t ox oy (.int k a) (.int k' b)).run P w = .ok () w := by
      cases op <;> rfl
    rw [Sem.run_bind, hg]
    simp only [Result.andThen_ok]
    by_cases hs : isSh op = true
    · rw [if_pos hs] at h
      obtain ⟨x, h1, rfl⟩ := map_some' h
      cases op <;> first | (simp [isSh] at hs; done) | skip
      all_goals
        simp only [shI] at h1
        split at h1
        · cases h1
        · rename_i hb
          cases h1
          simp only [binOp, Op.shift, hb, if_false]
          exact ⟨_, rfl, fun pl => .v _ _ _ (.int _ _)⟩
    · rw [if_neg hs] at h
      split at h
      · rename_i hk
        subst hk
        obtain ⟨x, h1, rfl⟩ := map_some' h
        cases op <;> first | (simp [isSh] at hs; done) | skip
        case quo =>
          simp only [binI] at h1
          split at h1
          · cases h1
          · rename_i hb; cases h1
            exact ⟨.int k _, by simp [binOp, Op.intDiv, hb], fun pl => .v _ _ _ (.int _ _)⟩
        case rem =>
          simp only [binI] at h1
          split at h1
          · cases h1
          · rename_i hb; cases h1
            exact ⟨.int k _, by simp [binOp, Op.intDiv, hb], fun pl => .v _ _ _ (.int _ _)⟩
        all_goals
          simp only [binI] at h1
          cases h1
          first
            | exact ⟨.int k _, by simp [binOp, Op.intArith, Op.intBits], fun pl => .v _ _ _ (.int _ _)⟩
            | exact ⟨.bool _, by simp [binOp, Op.intCmp], fun pl => .v _ _ _ (.bool _)⟩
      · cases h
  · rename_i a b
    obtain ⟨x, rfl, rfl⟩ := strOf hx
    obtain ⟨y, rfl, rfl⟩ := strOf hy
    have hg : (eqGuard op t ox oy (.string x) (.string y)).run P w = .ok () w := by cases op <;> rfl
    rw [Sem.run_bind, hg]
    simp only [Result.andThen_ok]
    obtain ⟨z, h1, rfl⟩ := map_some' h
    have e1 : (x.toList == y.toList) = (x.data.toList == y.data.toList) := by rw [byteArray_toList, byteArray_toList]
    have e2 : Op.bytesLess x.toList y.toList = Op.bytesLess x.data.toList y.data.toList := by rw [byteArray_toList, byteArray_toList]
    cases op <;> simp only [binS] at h1 <;> first | (cases h1; done) | skip
    case add =>
      split at h1
      · rename_i hle
        cases h1
        have hsz : ¬ ((x.size + y.size : Nat) : Int) > IntKind.i64.max := by
          have h1 : x.data.toList.length = x.size := by simp
          have h2 : y.data.toList.length = y.size := by simp
          have h3 : IntKind.i64.max = 9223372036854775807 := by decide
          omega
        refine ⟨.string (x ++ y), by simp only [binOp, Op.stringOp]; rw [if_neg hsz]; rfl, fun pl => .v _ _ _ ?_⟩
        have := RelV.str (w := w) (L := g.L) (x ++ y)
        simpa using this
      · cases h1
    all_goals
      cases h1
      exact ⟨.bool _, by simp [binOp, Op.stringOp, e1, e2]; try rfl, fun pl => .v _ _ _ (.bool _)⟩
  · cases h

theorem un_ok {op : UnOp} {x d : D} {u : Value} {pl : Nat → Pl} (hx : RelD w g pl x u) (h : opUn op x = some d) :
    ∃ r, (Op.unary op u).run P w = .ok r w ∧ ∀ pl, RelD w g pl d r := by
  unfold opUn at h
  split at h <;> first | (cases h; done) | skip
  · obtain rfl := intOf hx; cases h; exact ⟨.int _ _, by simp [Op.unary, Op.intArith], fun pl => .v _ _ _ (.int _ _)⟩
  · obtain rfl := intOf hx; cases h; exact ⟨.int _ _, by simp [Op.unary, Op.intBits], fun pl => .v _ _ _ (.int _ _)⟩
  · obtain rfl := boolOf hx; cases h; exact ⟨.bool _, by simp [Op.unary], fun pl => .v _ _ _ (.bool _)⟩

theorem max_ok {x y d : D} {u v : Value} {pl : Nat → Pl} (T : Array TypeId) (t : TypeId) (hx : RelD w g pl x u) (hy : RelD w g pl y v) (h : maxD x y = some d) :
    ∃ r, (Builtin.max_ T t #[u, v]).run P w = .ok r w ∧ ∀ pl, RelD w g pl d r := by
  unfold maxD at h
  split at h <;> first | (cases h; done) | skip
  obtain rfl := intOf hx
  obtain rfl := intOf hy
  cases h
  exact ⟨.int _ _, by simp [Builtin.max_, Builtin.max2], fun pl => .v _ _ _ (.int _ _)⟩
theorem min_ok {x y d : D} {u v : Value} {pl : Nat → Pl} (T : Array TypeId) (t : TypeId) (hx : RelD w g pl x u) (hy : RelD w g pl y v) (h : minD x y = some d) :
    ∃ r, (Builtin.min_ T t #[u, v]).run P w = .ok r w ∧ ∀ pl, RelD w g pl d r := by
  unfold minD at h
  split at h <;> first | (cases h; done) | skip
  obtain rfl := intOf hx
  obtain rfl := intOf hy
  cases h
  exact ⟨.int _ _, by simp [Builtin.min_, Builtin.min2], fun pl => .v _ _ _ (.int _ _)⟩

theorem len_rel {x : D} {v : Value} {n : Nat} {pl : Nat → Pl} (hx : RelD w g pl x v) (h : lenOf x = some n) : ∃ ad c, v = .slice ad n c := by
  unfold lenOf at h
  split at h <;> first | (cases h; done) | skip
  · cases h; cases hx with | v _ _ _ hx => cases hx with
      | slc0 => exact ⟨_, _, rfl⟩
      | slc => exact ⟨_, _, rfl⟩
  · cases h; cases hx; exact ⟨_, _, rfl⟩
  · cases h; cases hx; exact ⟨_, _, rfl⟩
  · cases h; cases hx; exact ⟨_, _, rfl⟩
theorem len_ok {x : D} {v : Value} {n : Nat} {pl : Nat → Pl} {t e : TypeId} (ty : TypeId) (hx : RelD w g pl x v) (h : lenOf x = some n)
    (ht : uSlc P t = some e) : (Builtin.len_ #[t] ty #[v]).run P w = .ok (.int .i64 n) w := by
  obtain ⟨ad, c, rfl⟩ := len_rel hx h
  simp [Builtin.len_, run_underlying (of_uSlc P ht), goInt]
theorem cap_ok {x : D} {v : Value} {n : Nat} {pl : Nat → Pl} {t e : TypeId} (ty : TypeId) (hx : RelD w g pl x v) (h : capOf x = some n)
    (ht : uSlc P t = some e) : (Builtin.cap_ #[t] ty #[v]).run P w = .ok (.int .i64 n) w := by
  unfold capOf at h
  split at h <;> cases h
  cases hx
  simp [Builtin.cap_, run_underlying (of_uSlc P ht), goInt]
theorem lens_ok {x : D} {v : Value} {s : List UInt8} {pl : Nat → Pl} {t : TypeId} (ty : TypeId) (hx : RelD w g pl x v) (h : strD x = some s)
    (ht : uStr P t = true) : (Builtin.len_ #[t] ty #[v]).run P w = .ok (.int .i64 s.length) w := by
  unfold strD at h
  split at h <;> first | (cases h; done) | skip
  cases h
  obtain ⟨b, rfl, rfl⟩ := strOf hx
  simp [Builtin.len_, run_underlying (of_uStr P ht), goInt]
end
end Go.Q
