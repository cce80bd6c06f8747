/- The door's seat of the addresses: what the laws share: the functions' checks, the words, the variables' values, the wrap that keeps the world's shape. No condition. -/
import Derived.Test.YtmbdamompcdolaaDoorSj
import Derived.Test.YtmbdamompcdolaaDoorShd
import Derived.Test.YtmbdamompcdolaaDoorWi
import Derived.Test.YtmbdamompcdolaaDoorEp
import Derived.Test.YtmbdamompcdolaaDoorBr
import Derived.Test.YtmbdamompcdolaaDoorBx
import Derived.SizedLaws
import Derived.LaidLaws
import Derived.Lib.LaidTab
import Derived.Stop.LaidErr
import Derived.Test.YtmbdamompcdolaaDoorRows
namespace Go.Q
theorem five_of {t u v a b : CT} {cs : List V} (h : hasCs [t, u, v, a, b] cs) : ∃ x y z k l, cs = [x, y, z, k, l] ∧ hasC t x ∧ hasC u y ∧ hasC v z ∧ hasC a k ∧ hasC b l := by
  rw [hasCs] at h
  obtain ⟨x, r, rfl, h1, h2⟩ := h
  rw [hasCs] at h2
  obtain ⟨y, r, rfl, h3, h4⟩ := h2
  obtain ⟨z, k, l, rfl, h5, h6, h7⟩ := three_of h4
  exact ⟨x, y, z, k, l, rfl, h1, h3, h5, h6, h7⟩
end Go.Q
namespace Go.Proofs.YtmbdamompcdolaaDoor
set_option maxRecDepth 100000
theorem checked : Go.Q.fns.all (fun p => Go.Q.chkFn Tryd.prog p.1 p.2.1 p.2.2) = true := by decide +kernel
@[reducible] def kn (m : Int) (t0 t1 : TypeId) (p0 p1 : Value) (o : Obj) : Go.Q.Known := ⟨[(2, 0, .int .i64 m), (0, 0, .iface t0 p0), (1, 0, .iface t1 p1)], [(3, o)]⟩
theorem bytesWorld_below {w w' : World} {t : TypeId} (h : w' = w ∨ ∃ k, w' = Lib.bytesWorld w t k) : RowKit.Below w.heap.size w w' := by
  rcases h with rfl | ⟨k, rfl⟩
  · exact RowKit.Below.refl _ _
  · exact Lib.bytesWorld_below _ _ _
theorem prims (m : Int) (t0 t1 : TypeId) (p0 p1 : Value) (o : Obj) (ho : ∀ w : World, w.heap[3]? = some o → Lib.TabIs Tryd.prog w "internal/strconv.uint64pow10" .u64 Lib.pow10Tab) (f : Nat) (F : List Go.Q.D → Go.Q.St → Option (Go.Q.D × Go.Q.St)) (h : Go.Q.G.prim f = some F) : @Go.Q.PrimOk (kn m t0 t1 p0 p1 o) Tryd.prog f F := by
  letI := kn m t0 t1 p0 p1 o
  change Go.Q.primOf f = some F at h
  unfold Go.Q.primOf at h
  split at h
  · rename_i e
    cases h
    subst e
    refine Go.Q.primSplit_ok ⟨Tryd.f46, Tryd.func46, of_decide_eq_true (by kernel_rfl), by kernel_rfl⟩ ?_
    intro s t l w hs hl hg
    have hm := hg (2, 0, .int .i64 m) (List.Mem.head _)
    unfold Go.Q.splitF at hl
    split at hl <;> first | (cases hl; done) | skip
    rename_i _ _ c hc
    cases hl
    have h1 : 1 ≤ t.size := by rw [Lib.size_eq, hc]; simp
    refine ⟨Lib.splitB t 0 (Lib.countB s t) s, 9, ?_, ?_⟩
    · rw [Lib.splitB_data, ← Go.Q.splitC_eq, Lib.split, hc]
      show Lib.splitK _ _ _ _ = Lib.splitK _ _ (Lib.count s.data.toList t.data.toList) _
      rw [hc]
    · refine (Tryd.strings_Split s t m w hs hm h1).mono fun e w' ⟨he, hw⟩ => ⟨?_, hw⟩
      rw [Lib.splitB_all t h1 0 _ s rfl]
      exact he
  · split at h
    · rename_i e
      cases h
      subst e
      refine Go.Q.atoi_ok ⟨Tryd.f47, Tryd.func47, of_decide_eq_true (by kernel_rfl), by kernel_rfl⟩ ?_
      intro s w g hs hk
      have h0 := (hk.1 (0, 0, .iface t0 p0) (List.Mem.tail _ (List.Mem.head _))).2
      have h1 := (hk.1 (1, 0, .iface t1 p1) (List.Mem.tail _ (List.Mem.tail _ (List.Mem.head _)))).2
      cases ha : Lib.atoiAll s.data.toList
      · rename_i v
        exact (Tryd.strconv_Atoi_ok s (by omega) v ha w).mono fun e w' ⟨he, hw⟩ => ⟨bytesWorld_below hw, he⟩
      · exact (Tryd.strconv_Atoi_syntax s hs (ha.trans (by rfl)) _ w h0 (.inr ⟨_, _, rfl⟩)).mono fun e w' ⟨N, he, _, _, hw⟩ => ⟨hw, _, he⟩
      · exact (Tryd.strconv_Atoi_range s hs ha _ w h1 (.inr ⟨_, _, rfl⟩)).mono fun e w' ⟨N, he, _, _, hw⟩ => ⟨hw, _, he⟩
    · split at h
      · rename_i e
        cases h
        subst e
        refine Go.Q.itoa_ok ⟨Tryd.f49, Tryd.func49, of_decide_eq_true (by kernel_rfl), by kernel_rfl⟩ ?_
        intro n w h1 h2 hb
        have hb := hb (3, o) (List.Mem.head _)
        refine (Tryd.strconv_Itoa n h1 h2 w (ho w hb)).mono fun e w' ⟨he, k, os, hw⟩ => ⟨he, ?_⟩
        subst hw
        exact Lib.below_grow _ _ (Nat.le_refl _) _ _
      · split at h
        · rename_i e
          cases h
          subst e
          refine Go.Q.join_ok ⟨Tryd.f50, Tryd.func50, of_decide_eq_true (by kernel_rfl), by kernel_rfl⟩ ?_ ?_ ?_
          · intro a c sep w
            exact Tryd.strings_Join_none a c sep w
          · intro bk o c x sep w hx
            exact Any.strings_Join_one Tryd.lays156 Tryd.Builder_Extra_156 bk o c x sep w hx
          · intro bk o c xs sep w hc hb h2 hN hcap hlen
            exact Tryd.strings_Join bk o c xs sep w hc hb hN hcap hlen
        · cases h
theorem gN : Tryd.prog.globalNamed "internal/strconv.uint64pow10" = some 3 := by kernel_rfl
theorem gNType : (Tryd.prog.globals[3]?).map (·.type) = some 215 := by kernel_rfl
theorem gS : Tryd.prog.globalNamed "strconv.ErrSyntax" = some 0 := by kernel_rfl
theorem gSType : (Tryd.prog.globals[0]?).map (·.type) = some 114 := by kernel_rfl
theorem gR : Tryd.prog.globalNamed "strconv.ErrRange" = some 1 := by kernel_rfl
theorem gRType : (Tryd.prog.globals[1]?).map (·.type) = some 114 := by kernel_rfl
theorem cells213 : Tryd.prog.cellsOf 213 = 1 := by kernel_rfl
theorem cells9 : Tryd.prog.cellsOf 9 = 1 := by kernel_rfl
theorem cells103 : Tryd.prog.cellsOf 103 = 1 := by kernel_rfl
theorem cells215 : Tryd.prog.cellsOf 215 = 20 := by kernel_rfl
theorem star : "*" ++ "errors.errorString" = "*errors.errorString" := by decide
theorem row211 (u : TypeId) (h : Tryd.prog.typeName? 3 u = some "*errors.errorString") : u = 211 :=
  typeName_ptr_named (nm := "errors.errorString") (by rw [star]; kernel_rfl) (by kernel_rfl) (by decide) u (by rw [star]; exact h)
/-- what the laid variables give -/
theorem vars_of {r : List (String × DataW Unit)} {W : World} (hsh : W.ShapedOpen Tryd.prog)
    (hL : laidMet Tryd.prog (("math/bits.deBruijn32tab", Rows.laid_math_bits_deBruijn32tab) :: ("math/bits.deBruijn64tab", Rows.laid_math_bits_deBruijn64tab) :: ("internal/strconv.uint64pow10", Rows.laid_internal_strconv_uint64pow10) :: ("unicode/utf8.acceptRanges", Rows.laid_unicode_utf8_acceptRanges) :: ("strconv.ErrRange", Rows.laid_strconv_ErrRange) :: ("strconv.ErrSyntax", Rows.laid_strconv_ErrSyntax) :: r) W) :
    ∃ (m : Int) (t0 t1 : TypeId) (p0 p1 : Value) (o : Obj), (∀ w : World, w.heap[3]? = some o → Lib.TabIs Tryd.prog w "internal/strconv.uint64pow10" .u64 Lib.pow10Tab) ∧
      W.cell? ⟨2, 0, none⟩ = some (.int .i64 m) ∧ W.cell? ⟨0, 0, none⟩ = some (.iface t0 p0) ∧ W.cell? ⟨1, 0, none⟩ = some (.iface t1 p1) ∧ W.heap[3]? = some o := by
  obtain ⟨m, hm⟩ := Tryd.laysM143.s1_3 W hsh
  have hT : Lib.TabIs Tryd.prog W "internal/strconv.uint64pow10" .u64 Lib.pow10Tab := Lib.tabIs_of_head (g := 3) (t := 215) (e := 103) (n := 20) gN gNType Tryd.underlying215 Tryd.underlying103 cells103 cells215 hL.tail.tail
  obtain ⟨a1, s1, hv1, -, -, -⟩ := laid_sentinel hL.tail.tail.tail.tail gR gRType Tryd.underlying114 row211 Tryd.underlying211 Tryd.underlying213 rfl rfl Tryd.underlying9 cells213 cells9
  obtain ⟨a0, s0, hv0, -, -, -⟩ := laid_sentinel hL.tail.tail.tail.tail.tail gS gSType Tryd.underlying114 row211 Tryd.underlying211 Tryd.underlying213 rfl rfl Tryd.underlying9 cells213 cells9
  have c0 := World.var?_cell gS hv0 0
  have c1 := World.var?_cell gR hv1 0
  unfold Lib.TabIs World.var? at hT
  rw [gN, Option.bind_some] at hT
  split at hT <;> first | (cases hT; done) | skip
  rename_i cs t fr ho
  obtain rfl := Option.some.inj hT
  refine ⟨m, _, _, _, _, _, fun w hw => ?_, hm, by simpa using c0, by simpa using c1, ho⟩
  unfold Lib.TabIs World.var?
  rw [gN, Option.bind_some, hw]
theorem own : ownKnob Tryd.prog.godebug = none := by kernel_rfl
theorem laid : laidOutB Tryd.prog = true := by kernel_rfl
theorem returns_shaped {H : Type} {enc : TypeId × Value → H} {a : Assume} {C : Checked} {os : Os} {f : FuncId} {fn : Func} {s : ChangeSpec} {conds : List PathCond} {apart fresh handsOn again : Bool} {X : World → Array Value → Prop}
    (hX : ∀ (w w' : World) (args : Array Value), w.heap = w'.heap → X w args → X w' args)
    (own : ownKnob C.prog.godebug = none) (started : os.Started) (noInit : C.prog.inits.idxOf? f = none) (hfn : C.prog.funcs[f]? = some fn)
    (witness : ∃ (w : World) (tape : Tape) (i : Input), w.os = os ∧ (w.forCall tape i).Shaped C.prog ∧ i.vars = [] ∧ Input.okWide C.prog (w.forCall tape i) .any w.heap.size f i ∧
      ((s.pre enc C.prog fn conds apart (w.forCall tape i).memory i.args ∧ X (w.forCall tape i).memory i.args) ∧ sizedMet enc C.prog fn (OpenSpec.ofChange s) apart (w.forCall tape i).memory i.args) ∧ a.holds C.prog (lone (Frame.enter C.prog f i.args .normal) [] (w.forCall tape i)))
    (contract : ∀ (W : World) (base : Nat) (args : Array Value) (ds gs : List (DataW H)) (before : List MemPlace),
      (∀ (j : Nat) t v, fn.params[j]? = some t → args[j]? = some v → Value.okWide C.prog W .any base t v) →
      DataW.Whole enc C.prog fn.params.toList s.vars apart W args.toList ds gs before →
      (DataW.weightsEach C.prog (fn.params.toList ++ s.plain.varTypes C.prog) (ds ++ gs)).all (· ≤ reachBytes) = true → X W args → W.ShapedOpen C.prog →
      Calls C.prog f args W fun e W' => ∃ v, e = .returned v ∧ s.post enc C.prog fn apart fresh handsOn again W args v W') :
    ReturnsInHanded a C os f .any (fun w args => (s.pre enc C.prog fn conds apart w args ∧ X w args) ∧ sizedMet enc C.prog fn (OpenSpec.ofChange s) apart w args) (s.post enc C.prog fn apart fresh handsOn again) := by
  refine returnsInHanded_of_calls own started noInit witness ?_
  intro w tape i _ hsh _ hok hpre _
  obtain ⟨_, _, _, fn', hfn', _, _, _, _, hval⟩ := hok
  have e : fn' = fn := Option.some.inj (hfn'.symm.trans hfn)
  subst e
  obtain ⟨⟨⟨ds, gs, before, hw, hc⟩, hx⟩, hz⟩ := hpre
  have hw' := DataW.Whole.of_heap (w' := w.forCall tape i) (by rfl) hw
  refine (contract (w.forCall tape i) w.heap.size i.args ds gs before hval hw' (hz.weights hw) (hX _ _ _ (by rfl) hx) hsh).mono fun e W' ⟨v, he, hp⟩ => ?_
  subst he
  exact ChangeSpec.post_blind hp
end Go.Proofs.YtmbdamompcdolaaDoor
