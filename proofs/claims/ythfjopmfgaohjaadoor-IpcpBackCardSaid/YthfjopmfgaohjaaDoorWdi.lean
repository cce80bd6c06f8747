/- The datagrams' seat: what the laws share: the functions' checks, the words, the variables' values, the wrap that keeps the world's shape. No condition. -/
import Derived.Test.YthfjopmfgaohjaaDoorSi
import Derived.Test.YthfjopmfgaohjaaDoorShi
import Derived.Test.YthfjopmfgaohjaaDoorWcd
import Derived.Test.YthfjopmfgaohjaaDoorEpe
import Derived.Test.YthfjopmfgaohjaaDoorEq
import Derived.Test.YthfjopmfgaohjaaDoorBx
import Derived.SizedLaws
import Derived.LaidLaws
import Derived.Lib.LaidTab
import Derived.Stop.LaidErr
import Derived.Test.YthfjopmfgaohjaaDoorRows
set_option linter.all false
namespace Go.Proofs.YthfjopmfgaohjaaDoor
set_option maxRecDepth 100000
theorem checked : Go.Q.fns.all (fun p => Go.Q.chkFn Tryd.prog p.1 p.2.1 p.2.2) = true := by decide +kernel
@[reducible] def kn (m : Int) : Go.Q.Known := ⟨[(0, 0, .int .i64 m)], []⟩
theorem prims (m : Int) (f : Nat) (F : List Go.Q.D → Go.Q.St → Option (Go.Q.D × Go.Q.St)) (h : Go.Q.G.prim f = some F) : @Go.Q.PrimOk (kn m) Tryd.prog f F := by
  letI := kn m
  change Go.Q.primOf f = some F at h
  unfold Go.Q.primOf at h
  by_cases e : f = 19
  · rw [if_pos e] at h
    cases h
    subst e
    exact joinO_ok ⟨Tryd.f19, Tryd.func19, of_decide_eq_true (by kernel_rfl), by kernel_rfl⟩ (fun us bss bk o c w h1 h2 h3 h4 h5 h6 => join19 us bss bk o c w h1 h2 h3 h4 h5 h6)
  rw [if_neg e] at h
  by_cases e : f = 41
  · rw [if_pos e] at h
    cases h
    subst e
    refine Go.Q.primSplit_ok ⟨Tryd.f41, Tryd.func41, of_decide_eq_true (by kernel_rfl), by kernel_rfl⟩ ?_
    intro s t l w hs hl hg
    have hm := hg (0, 0, .int .i64 m) (List.Mem.head _)
    unfold Go.Q.splitF at hl
    split at hl <;> first | (cases hl; done) | skip
    rename_i _ _ c hc
    cases hl
    have h1 : 1 ≤ t.size := by rw [Lib.size_eq, hc]; simp
    refine ⟨Lib.splitB t 0 (Lib.countB s t) s, 9, ?_, ?_⟩
    · rw [Lib.splitB_data, ← Go.Q.splitC_eq, Lib.split, hc]
      show Lib.splitK _ _ _ _ = Lib.splitK _ _ (Lib.count s.data.toList t.data.toList) _
      rw [hc]
    · refine (Tryd.strings_Split s t m w hs hm h1).mono fun e w' ⟨he, hw⟩ => ⟨?_, hw⟩
      rw [Lib.splitB_all t h1 0 _ s rfl]
      exact he
  rw [if_neg e] at h
  by_cases e : f = 53
  · rw [if_pos e] at h
    cases h
    subst e
    refine Go.Q.primSS_ok ⟨Tryd.f53, Tryd.func53, of_decide_eq_true (by kernel_rfl), by kernel_rfl⟩ ?_
    intro s t x w hs hx hg
    have hm := hg (0, 0, .int .i64 m) (List.Mem.head _)
    unfold Go.Q.indexF at hx
    cases hx
    refine (Tryd.strings_Index s t m w hs hm).mono fun e w' ⟨he, hw⟩ => ⟨_, he, hw, fun L => ?_⟩
    rw [Go.Q.idxL_index]
    exact .int _ _
  rw [if_neg e] at h
  cases h
theorem iters (m : Int) : ∀ p ∈ Go.Q.Iters.it, @Go.Q.IterOk (kn m) Tryd.prog p.1 p.2 := fun p hp => by cases hp
theorem own : ownKnob Tryd.prog.godebug = none := by kernel_rfl
theorem laid : laidOutB Tryd.prog = true := by kernel_rfl
theorem returns_shaped {H : Type} {enc : TypeId × Value → H} {a : Assume} {C : Checked} {os : Os} {f : FuncId} {fn : Func} {s : ChangeSpec} {conds : List PathCond} {apart fresh handsOn again : Bool} {X : World → Array Value → Prop}
    (hX : ∀ (w w' : World) (args : Array Value), w.heap = w'.heap → X w args → X w' args)
    (own : ownKnob C.prog.godebug = none) (started : os.Started) (noInit : C.prog.inits.idxOf? f = none) (hfn : C.prog.funcs[f]? = some fn)
    (witness : ∃ (w : World) (tape : Tape) (i : Input), w.os = os ∧ (w.forCall tape i).Shaped C.prog ∧ i.vars = [] ∧ Input.okWide C.prog (w.forCall tape i) .any w.heap.size f i ∧
      ((s.pre enc C.prog fn conds apart (w.forCall tape i).memory i.args ∧ X (w.forCall tape i).memory i.args) ∧ sizedMet enc C.prog fn (OpenSpec.ofChange s) apart (w.forCall tape i).memory i.args) ∧ a.holds C.prog (lone (Frame.enter C.prog f i.args .normal) [] (w.forCall tape i)))
    (contract : ∀ (W : World) (base : Nat) (args : Array Value) (ds gs : List (DataW H)) (before : List MemPlace),
      (∀ (j : Nat) t v, fn.params[j]? = some t → args[j]? = some v → Value.okWide C.prog W .any base t v) →
      DataW.Whole enc C.prog fn.params.toList s.vars apart W args.toList ds gs before →
      (DataW.weightsEach C.prog (fn.params.toList ++ s.plain.varTypes C.prog) (ds ++ gs)).all (· ≤ reachBytes) = true → X W args → W.ShapedOpen C.prog →
      Calls C.prog f args W fun e W' => ∃ v, e = .returned v ∧ s.post enc C.prog fn apart fresh handsOn again W args v W') :
    ReturnsInHanded a C os f .any (fun w args => (s.pre enc C.prog fn conds apart w args ∧ X w args) ∧ sizedMet enc C.prog fn (OpenSpec.ofChange s) apart w args) (s.post enc C.prog fn apart fresh handsOn again) := by
  refine returnsInHanded_of_calls own started noInit witness ?_
  intro w tape i _ hsh _ hok hpre _
  obtain ⟨_, _, _, fn', hfn', _, _, _, _, hval⟩ := hok
  have e : fn' = fn := Option.some.inj (hfn'.symm.trans hfn)
  subst e
  obtain ⟨⟨⟨ds, gs, before, hw, hc⟩, hx⟩, hz⟩ := hpre
  have hw' := DataW.Whole.of_heap (w' := w.forCall tape i) (by rfl) hw
  refine (contract (w.forCall tape i) w.heap.size i.args ds gs before hval hw' (hz.weights hw) (hX _ _ _ (by rfl) hx) hsh).mono fun e W' ⟨v, he, hp⟩ => ?_
  subst he
  exact ChangeSpec.post_blind hp
end Go.Proofs.YthfjopmfgaohjaaDoor
