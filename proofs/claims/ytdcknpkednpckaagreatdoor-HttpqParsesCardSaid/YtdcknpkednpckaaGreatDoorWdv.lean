/- The seat of the texts of lines, for the laws of requests: what they share: the functions' checks, the words, the iterator, the variables' values, the wrap that keeps the world's shape. No condition. -/
import Derived.Test.YtdcknpkednpckaaGreatDoorSv
import Derived.Test.YtdcknpkednpckaaGreatDoorShv
import Derived.Test.YtdcknpkednpckaaGreatDoorWq
import Derived.Test.YtdcknpkednpckaaGreatDoorWt
import Derived.Test.YtdcknpkednpckaaGreatDoorWpt
import Derived.Test.YtdcknpkednpckaaGreatDoorEpe
import Derived.Test.YtdcknpkednpckaaGreatDoorEq
import Derived.Test.YtdcknpkednpckaaGreatDoorBx
import Derived.Shelf.Strings.SlTrimAscii
import Derived.SizedLaws
import Derived.LaidLaws
import Derived.Lib.LaidTab
import Derived.Stop.LaidErr
import Derived.Test.YtdcknpkednpckaaGreatDoorRows
set_option linter.all false
namespace Go.Proofs.YtdcknpkednpckaaGreatDoor
set_option maxRecDepth 100000
theorem checked : Go.Q.fns.all (fun p => Go.Q.chkFn Tryz.prog p.1 p.2.1 p.2.2) = true := by decide +kernel
@[reducible] def kn (m : Int) : Go.Q.Known := ⟨[(0, 0, .int .i64 m)], []⟩
theorem prims (m : Int) (f : Nat) (F : List Go.Q.D → Go.Q.St → Option (Go.Q.D × Go.Q.St)) (h : Go.Q.G.prim f = some F) : @Go.Q.PrimOk (kn m) Tryz.prog f F := by
  letI := kn m
  change Go.Q.primOf f = some F at h
  unfold Go.Q.primOf at h
  by_cases e : f = 17
  · rw [if_pos e] at h
    cases h
    subst e
    exact parts_ok ⟨Tryz.f17, Tryz.func17, of_decide_eq_true (by kernel_rfl), by kernel_rfl⟩ parts17
  rw [if_neg e] at h
  by_cases e : f = 24
  · rw [if_pos e] at h
    cases h
    subst e
    refine Go.Q.join_ok ⟨Tryz.f24, Tryz.func24, of_decide_eq_true (by kernel_rfl), by kernel_rfl⟩ ?_ ?_ ?_
    · intro a c sep w
      exact Tryz.strings_Join_none a c sep w
    · intro bk o c x sep w hx
      exact Any.strings_Join_one Tryz.lays156 Tryz.Builder_Extra_156 bk o c x sep w hx
    · intro bk o c xs sep w hc hb h2 hN hcap hlen
      exact Tryz.strings_Join bk o c xs sep w hc hb hN hcap hlen
  rw [if_neg e] at h
  by_cases e : f = 27
  · rw [if_pos e] at h
    cases h
    subst e
    refine Go.Q.primSplit_ok ⟨Tryz.f27, Tryz.func27, of_decide_eq_true (by kernel_rfl), by kernel_rfl⟩ ?_
    intro s t l w hs hl hg
    have hm := hg (0, 0, .int .i64 m) (List.Mem.head _)
    unfold Go.Q.splitF at hl
    split at hl <;> first | (cases hl; done) | skip
    rename_i _ _ c hc
    cases hl
    have h1 : 1 ≤ t.size := by rw [Lib.size_eq, hc]; simp
    refine ⟨Lib.splitB t 0 (Lib.countB s t) s, 9, ?_, ?_⟩
    · rw [Lib.splitB_data, ← Go.Q.splitC_eq, Lib.split, hc]
      show Lib.splitK _ _ _ _ = Lib.splitK _ _ (Lib.count s.data.toList t.data.toList) _
      rw [hc]
    · refine (Tryz.strings_Split s t m w hs hm h1).mono fun e w' ⟨he, hw⟩ => ⟨?_, hw⟩
      rw [Lib.splitB_all t h1 0 _ s rfl]
      exact he
  rw [if_neg e] at h
  by_cases e : f = 31
  · rw [if_pos e] at h
    cases h
    subst e
    refine Go.Q.bidx_ok (m := m) ⟨Tryz.f31, Tryz.func31, of_decide_eq_true (by kernel_rfl), by kernel_rfl⟩ (List.Mem.head _) ?_ ?_
    · intro a1 a2 n c1 k c2 xs ys w h1 h2 h3 h4 h5 h6 h7 h8 h9 h10
      exact Tryz.bytes_Index_at a1 a2 n c1 k c2 xs ys m w h1 h2 h3 h4 h5 h6 h7 h8 h9 h10
    · intro p q n c m' d w h1 h2 h3
      exact Tryz.bytes_Index_longer p q n c m' d w h1 h2 h3
  rw [if_neg e] at h
  by_cases e : f = 32
  · rw [if_pos e] at h
    cases h
    subst e
    refine Go.Q.bpre_ok ⟨Tryz.f32, Tryz.func32, of_decide_eq_true (by kernel_rfl), by kernel_rfl⟩ ?_
    intro p1 p2 n c m' d xs ys w h1 h2 h3 h4 h5
    exact Tryz.bytes_HasPrefix_all p1 p2 n c m' d xs ys w h1 h2 h3 h4 h5
  rw [if_neg e] at h
  by_cases e : f = 34
  · rw [if_pos e] at h
    cases h
    subst e
    exact Go.Q.seq_ok ⟨Tryz.f34, Tryz.func34, of_decide_eq_true (by kernel_rfl), by kernel_rfl⟩ splitSeq1
  rw [if_neg e] at h
  by_cases e : f = 35
  · rw [if_pos e] at h
    cases h
    subst e
    refine Go.Q.cut_ok (m := m) ⟨Tryz.f35, Tryz.func35, of_decide_eq_true (by kernel_rfl), by kernel_rfl⟩ (List.Mem.head _) ?_
    intro s sep w h1 h2
    exact Tryz.strings_Cut s sep m w h1 h2
  rw [if_neg e] at h
  by_cases e : f = 36
  · rw [if_pos e] at h
    cases h
    subst e
    exact Go.Q.token_ok ⟨Tryz.f36, Tryz.func36, of_decide_eq_true (by kernel_rfl), by kernel_rfl⟩ token26
  rw [if_neg e] at h
  by_cases e : f = 61
  · rw [if_pos e] at h
    cases h
    subst e
    refine Go.Q.trim_ok ⟨Tryz.f61, Tryz.func61, of_decide_eq_true (by kernel_rfl), by kernel_rfl⟩ ?_
    intro s cs w hs hcs hb
    exact Any.strings_Trim_laid Tryz.lays160 (by kernel_rfl) s cs w (by omega) hcs hb
  rw [if_neg e] at h
  by_cases e : f = 74
  · rw [if_pos e] at h
    cases h
    subst e
    refine Go.Q.sidx_ok ⟨Tryz.f74, Tryz.func74, of_decide_eq_true (by kernel_rfl), by kernel_rfl⟩ ?_
    intro s c w
    exact Tryz.strings_IndexByte s c w
  rw [if_neg e] at h
  cases h
theorem iters (m : Int) : ∀ p ∈ Go.Q.Iters.it, @Go.Q.IterOk (kn m) Tryz.prog p.1 p.2 := by
  letI := kn m
  intro p hp
  obtain rfl := List.mem_singleton.1 hp
  exact iter0 (m := m) (List.Mem.head _)
theorem own : ownKnob Tryz.prog.godebug = none := by kernel_rfl
theorem laid : laidOutB Tryz.prog = true := by kernel_rfl
theorem returns_shaped {H : Type} {enc : TypeId × Value → H} {a : Assume} {C : Checked} {os : Os} {f : FuncId} {fn : Func} {s : ChangeSpec} {conds : List PathCond} {apart fresh handsOn again : Bool} {X : World → Array Value → Prop}
    (hX : ∀ (w w' : World) (args : Array Value), w.heap = w'.heap → X w args → X w' args)
    (own : ownKnob C.prog.godebug = none) (started : os.Started) (noInit : C.prog.inits.idxOf? f = none) (hfn : C.prog.funcs[f]? = some fn)
    (witness : ∃ (w : World) (tape : Tape) (i : Input), w.os = os ∧ (w.forCall tape i).Shaped C.prog ∧ i.vars = [] ∧ Input.okWide C.prog (w.forCall tape i) .any w.heap.size f i ∧
      ((s.pre enc C.prog fn conds apart (w.forCall tape i).memory i.args ∧ X (w.forCall tape i).memory i.args) ∧ sizedMet enc C.prog fn (OpenSpec.ofChange s) apart (w.forCall tape i).memory i.args) ∧ a.holds C.prog (lone (Frame.enter C.prog f i.args .normal) [] (w.forCall tape i)))
    (contract : ∀ (W : World) (base : Nat) (args : Array Value) (ds gs : List (DataW H)) (before : List MemPlace),
      (∀ (j : Nat) t v, fn.params[j]? = some t → args[j]? = some v → Value.okWide C.prog W .any base t v) →
      DataW.Whole enc C.prog fn.params.toList s.vars apart W args.toList ds gs before →
      (DataW.weightsEach C.prog (fn.params.toList ++ s.plain.varTypes C.prog) (ds ++ gs)).all (· ≤ reachBytes) = true → X W args → W.ShapedOpen C.prog →
      Calls C.prog f args W fun e W' => ∃ v, e = .returned v ∧ s.post enc C.prog fn apart fresh handsOn again W args v W') :
    ReturnsInHanded a C os f .any (fun w args => (s.pre enc C.prog fn conds apart w args ∧ X w args) ∧ sizedMet enc C.prog fn (OpenSpec.ofChange s) apart w args) (s.post enc C.prog fn apart fresh handsOn again) := by
  refine returnsInHanded_of_calls own started noInit witness ?_
  intro w tape i _ hsh _ hok hpre _
  obtain ⟨_, _, _, fn', hfn', _, _, _, _, hval⟩ := hok
  have e : fn' = fn := Option.some.inj (hfn'.symm.trans hfn)
  subst e
  obtain ⟨⟨⟨ds, gs, before, hw, hc⟩, hx⟩, hz⟩ := hpre
  have hw' := DataW.Whole.of_heap (w' := w.forCall tape i) (by rfl) hw
  refine (contract (w.forCall tape i) w.heap.size i.args ds gs before hval hw' (hz.weights hw) (hX _ _ _ (by rfl) hx) hsh).mono fun e W' ⟨v, he, hp⟩ => ?_
  subst he
  exact ChangeSpec.post_blind hp
end Go.Proofs.YtdcknpkednpckaaGreatDoor
