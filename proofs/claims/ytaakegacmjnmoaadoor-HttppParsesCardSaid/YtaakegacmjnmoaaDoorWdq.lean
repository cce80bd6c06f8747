/- The seat of the texts of lines: what the laws share: the functions' checks, the words, the iterator, the variables' values, the wrap that keeps the world's shape. No condition. -/
import Derived.Test.YtaakegacmjnmoaaDoorSq
import Derived.Test.YtaakegacmjnmoaaDoorShq
import Derived.Test.YtaakegacmjnmoaaDoorWq
import Derived.Test.YtaakegacmjnmoaaDoorWt
import Derived.Test.YtaakegacmjnmoaaDoorWv
import Derived.Test.YtaakegacmjnmoaaDoorEpe
import Derived.Test.YtaakegacmjnmoaaDoorEq
import Derived.Test.YtaakegacmjnmoaaDoorBx
import Derived.Shelf.Strings.SlTrimAscii
import Derived.SizedLaws
import Derived.LaidLaws
import Derived.Lib.LaidTab
import Derived.Stop.LaidErr
import Derived.Test.YtaakegacmjnmoaaDoorRows
set_option linter.all false
namespace Go.Proofs.YtaakegacmjnmoaaDoor
set_option maxRecDepth 100000
theorem checked : Go.Q.fns.all (fun p => Go.Q.chkFn Tryd.prog p.1 p.2.1 p.2.2) = true := by decide +kernel
@[reducible] def kn (m : Int) (t1 : TypeId) (p1 : Value) (o : Obj) : Go.Q.Known := ⟨[(0, 0, .int .i64 m), (2, 0, .iface t1 p1)], [(3, o)]⟩
theorem bytesWorld_below {w w' : World} {t : TypeId} {k : ByteArray} (h : w' = w ∨ w' = Lib.bytesWorld w t k) : RowKit.Below w.heap.size w w' := by
  rcases h with rfl | rfl
  · exact RowKit.Below.refl _ _
  · exact Lib.bytesWorld_below _ _ _
theorem prims (m : Int) (t1 : TypeId) (p1 : Value) (o : Obj) (ho : ∀ w : World, w.heap[3]? = some o → Lib.TabIs Tryd.prog w "internal/strconv.uint64pow10" .u64 Lib.pow10Tab) (f : Nat) (F : List Go.Q.D → Go.Q.St → Option (Go.Q.D × Go.Q.St)) (h : Go.Q.G.prim f = some F) : @Go.Q.PrimOk (kn m t1 p1 o) Tryd.prog f F := by
  letI := kn m t1 p1 o
  change Go.Q.primOf f = some F at h
  unfold Go.Q.primOf at h
  by_cases e : f = 26
  · rw [if_pos e] at h
    cases h
    subst e
    exact Go.Q.token_ok ⟨Tryd.f26, Tryd.func26, of_decide_eq_true (by kernel_rfl), by kernel_rfl⟩ token26
  rw [if_neg e] at h
  by_cases e : f = 39
  · rw [if_pos e] at h
    cases h
    subst e
    refine Go.Q.join_ok ⟨Tryd.f39, Tryd.func39, of_decide_eq_true (by kernel_rfl), by kernel_rfl⟩ ?_ ?_ ?_
    · intro a c sep w
      exact Tryd.strings_Join_none a c sep w
    · intro bk o c x sep w hx
      exact Any.strings_Join_one Tryd.lays156 Tryd.Builder_Extra_156 bk o c x sep w hx
    · intro bk o c xs sep w hc hb h2 hN hcap hlen
      exact Tryd.strings_Join bk o c xs sep w hc hb hN hcap hlen
  rw [if_neg e] at h
  by_cases e : f = 43
  · rw [if_pos e] at h
    cases h
    subst e
    refine Go.Q.primSplit_ok ⟨Tryd.f43, Tryd.func43, of_decide_eq_true (by kernel_rfl), by kernel_rfl⟩ ?_
    intro s t l w hs hl hg
    have hm := hg (0, 0, .int .i64 m) (List.Mem.head _)
    unfold Go.Q.splitF at hl
    split at hl <;> first | (cases hl; done) | skip
    rename_i _ _ c hc
    cases hl
    have h1 : 1 ≤ t.size := by rw [Lib.size_eq, hc]; simp
    refine ⟨Lib.splitB t 0 (Lib.countB s t) s, 9, ?_, ?_⟩
    · rw [Lib.splitB_data, ← Go.Q.splitC_eq, Lib.split, hc]
      show Lib.splitK _ _ _ _ = Lib.splitK _ _ (Lib.count s.data.toList t.data.toList) _
      rw [hc]
    · refine (Tryd.strings_Split s t m w hs hm h1).mono fun e w' ⟨he, hw⟩ => ⟨?_, hw⟩
      rw [Lib.splitB_all t h1 0 _ s rfl]
      exact he
  rw [if_neg e] at h
  by_cases e : f = 53
  · rw [if_pos e] at h
    cases h
    subst e
    refine Go.Q.puint_ok ⟨Tryd.f53, Tryd.func53, of_decide_eq_true (by kernel_rfl), by kernel_rfl⟩ ?_ ?_
    · intro s u w hs hp
      exact (Tryd.strconv_ParseUint_10_at64_ok s (by omega) u hp w).mono fun e w' ⟨he, hw⟩ => ⟨he, bytesWorld_below hw⟩
    · intro s w g hs hk hp
      have h1 := (hk.1 (2, 0, .iface t1 p1) (List.Mem.tail _ (List.Mem.head _))).2
      exact (Tryd.strconv_ParseUint_10_at64_range s hs hp _ w h1 (.inr ⟨_, _, rfl⟩)).mono fun e w' ⟨N, he, _, _, hw⟩ => ⟨⟨_, he⟩, hw⟩
  rw [if_neg e] at h
  by_cases e : f = 57
  · rw [if_pos e] at h
    cases h
    subst e
    refine Go.Q.trim_ok ⟨Tryd.f57, Tryd.func57, of_decide_eq_true (by kernel_rfl), by kernel_rfl⟩ ?_
    intro s cs w hs hcs hb
    exact Any.strings_Trim_laid Tryd.lays160 (by kernel_rfl) s cs w (by omega) hcs hb
  rw [if_neg e] at h
  by_cases e : f = 59
  · rw [if_pos e] at h
    cases h
    subst e
    refine Go.Q.bidx_ok (m := m) ⟨Tryd.f59, Tryd.func59, of_decide_eq_true (by kernel_rfl), by kernel_rfl⟩ (List.Mem.head _) ?_ ?_
    · intro a1 a2 n c1 k c2 xs ys w h1 h2 h3 h4 h5 h6 h7 h8 h9 h10
      exact Tryd.bytes_Index_at a1 a2 n c1 k c2 xs ys m w h1 h2 h3 h4 h5 h6 h7 h8 h9 h10
    · intro p q n c m' d w h1 h2 h3
      exact Tryd.bytes_Index_longer p q n c m' d w h1 h2 h3
  rw [if_neg e] at h
  by_cases e : f = 60
  · rw [if_pos e] at h
    cases h
    subst e
    refine Go.Q.bpre_ok ⟨Tryd.f60, Tryd.func60, of_decide_eq_true (by kernel_rfl), by kernel_rfl⟩ ?_
    intro p1 p2 n c m' d xs ys w h1 h2 h3 h4 h5
    exact Tryd.bytes_HasPrefix_all p1 p2 n c m' d xs ys w h1 h2 h3 h4 h5
  rw [if_neg e] at h
  by_cases e : f = 62
  · rw [if_pos e] at h
    cases h
    subst e
    exact Go.Q.seq_ok ⟨Tryd.f62, Tryd.func62, of_decide_eq_true (by kernel_rfl), by kernel_rfl⟩ splitSeq1
  rw [if_neg e] at h
  by_cases e : f = 63
  · rw [if_pos e] at h
    cases h
    subst e
    refine Go.Q.futoa_ok ⟨Tryd.f63, Tryd.func63, of_decide_eq_true (by kernel_rfl), by kernel_rfl⟩ ?_
    intro n w h1 hb
    have hb := hb (3, o) (List.Mem.head _)
    refine (fmtUint63 n h1 w (ho w hb)).mono fun e w' ⟨he, k, os, hw⟩ => ⟨he, ?_⟩
    subst hw
    exact Lib.below_grow _ _ (Nat.le_refl _) _ _
  rw [if_neg e] at h
  by_cases e : f = 81
  · rw [if_pos e] at h
    cases h
    subst e
    refine Go.Q.cut_ok (m := m) ⟨Tryd.f81, Tryd.func81, of_decide_eq_true (by kernel_rfl), by kernel_rfl⟩ (List.Mem.head _) ?_
    intro s sep w h1 h2
    exact Tryd.strings_Cut s sep m w h1 h2
  rw [if_neg e] at h
  by_cases e : f = 103
  · rw [if_pos e] at h
    cases h
    subst e
    refine Go.Q.trimR_ok ⟨Tryd.f103, Tryd.func103, of_decide_eq_true (by kernel_rfl), by kernel_rfl⟩ ?_
    intro s cs w hs hcs hb
    exact Any.strings_TrimRight_laid Tryd.lays162 (by kernel_rfl) s cs w (by omega) hcs hb
  rw [if_neg e] at h
  by_cases e : f = 104
  · rw [if_pos e] at h
    cases h
    subst e
    refine Go.Q.itoa_ok ⟨Tryd.f104, Tryd.func104, of_decide_eq_true (by kernel_rfl), by kernel_rfl⟩ ?_
    intro n w h1 h2 hb
    have hb := hb (3, o) (List.Mem.head _)
    refine (Tryd.strconv_Itoa n h1 h2 w (ho w hb)).mono fun e w' ⟨he, k, os, hw⟩ => ⟨he, ?_⟩
    subst hw
    exact Lib.below_grow _ _ (Nat.le_refl _) _ _
  rw [if_neg e] at h
  by_cases e : f = 112
  · rw [if_pos e] at h
    cases h
    subst e
    refine Go.Q.sidx_ok ⟨Tryd.f112, Tryd.func112, of_decide_eq_true (by kernel_rfl), by kernel_rfl⟩ ?_
    intro s c w
    exact Tryd.strings_IndexByte s c w
  rw [if_neg e] at h
  cases h
theorem iters (m : Int) (t1 : TypeId) (p1 : Value) (o : Obj) : ∀ p ∈ Go.Q.Iters.it, @Go.Q.IterOk (kn m t1 p1 o) Tryd.prog p.1 p.2 := by
  letI := kn m t1 p1 o
  intro p hp
  obtain rfl := List.mem_singleton.1 hp
  exact iter0 (m := m) (List.Mem.head _)
theorem gN : Tryd.prog.globalNamed "internal/strconv.uint64pow10" = some 3 := by kernel_rfl
theorem gNType : (Tryd.prog.globals[3]?).map (·.type) = some 162 := by kernel_rfl
theorem gR : Tryd.prog.globalNamed "strconv.ErrRange" = some 2 := by kernel_rfl
theorem gRType : (Tryd.prog.globals[2]?).map (·.type) = some 83 := by kernel_rfl
theorem cells168 : Tryd.prog.cellsOf 168 = 1 := by kernel_rfl
theorem cells9 : Tryd.prog.cellsOf 9 = 1 := by kernel_rfl
theorem cells44 : Tryd.prog.cellsOf 44 = 1 := by kernel_rfl
theorem cells162 : Tryd.prog.cellsOf 162 = 20 := by kernel_rfl
theorem star : "*" ++ "errors.errorString" = "*errors.errorString" := by decide
theorem row166 (u : TypeId) (h : Tryd.prog.typeName? 3 u = some "*errors.errorString") : u = 166 :=
  typeName_ptr_named (nm := "errors.errorString") (by rw [star]; kernel_rfl) (by kernel_rfl) (by decide) u (by rw [star]; exact h)
theorem vars_of {r : List (String × DataW Unit)} {W : World} (hsh : W.ShapedOpen Tryd.prog)
    (hL : laidMet Tryd.prog (("math/bits.deBruijn32tab", Rows.laid_math_bits_deBruijn32tab) :: ("math/bits.deBruijn64tab", Rows.laid_math_bits_deBruijn64tab) :: ("internal/strconv.uint64pow10", Rows.laid_internal_strconv_uint64pow10) :: ("unicode/utf8.acceptRanges", Rows.laid_unicode_utf8_acceptRanges) :: ("strconv.ErrRange", Rows.laid_strconv_ErrRange) :: r) W) :
    ∃ (m : Int) (t1 : TypeId) (p1 : Value) (o : Obj), (∀ w : World, w.heap[3]? = some o → Lib.TabIs Tryd.prog w "internal/strconv.uint64pow10" .u64 Lib.pow10Tab) ∧
      W.cell? ⟨0, 0, none⟩ = some (.int .i64 m) ∧ W.cell? ⟨2, 0, none⟩ = some (.iface t1 p1) ∧ W.heap[3]? = some o := by
  obtain ⟨m, hm⟩ := Tryd.laysM143.s1_3 W hsh
  have hT : Lib.TabIs Tryd.prog W "internal/strconv.uint64pow10" .u64 Lib.pow10Tab := Lib.tabIs_of_head (g := 3) (t := 162) (e := 44) (n := 20) gN gNType Tryd.underlying162 Tryd.underlying44 cells44 cells162 hL.tail.tail
  obtain ⟨a1, s1, hv1, -, -, -⟩ := laid_sentinel hL.tail.tail.tail.tail gR gRType Tryd.underlying83 row166 Tryd.underlying166 Tryd.underlying168 rfl rfl Tryd.underlying9 cells168 cells9
  have c1 := World.var?_cell gR hv1 0
  unfold Lib.TabIs World.var? at hT
  rw [gN, Option.bind_some] at hT
  split at hT <;> first | (cases hT; done) | skip
  rename_i cs t fr ho
  obtain rfl := Option.some.inj hT
  refine ⟨m, _, _, _, fun w hw => ?_, hm, by simpa using c1, ho⟩
  unfold Lib.TabIs World.var?
  rw [gN, Option.bind_some, hw]
theorem own : ownKnob Tryd.prog.godebug = none := by kernel_rfl
theorem laid : laidOutB Tryd.prog = true := by kernel_rfl
theorem returns_shaped {H : Type} {enc : TypeId × Value → H} {a : Assume} {C : Checked} {os : Os} {f : FuncId} {fn : Func} {s : ChangeSpec} {conds : List PathCond} {apart fresh handsOn again : Bool} {X : World → Array Value → Prop}
    (hX : ∀ (w w' : World) (args : Array Value), w.heap = w'.heap → X w args → X w' args)
    (own : ownKnob C.prog.godebug = none) (started : os.Started) (noInit : C.prog.inits.idxOf? f = none) (hfn : C.prog.funcs[f]? = some fn)
    (witness : ∃ (w : World) (tape : Tape) (i : Input), w.os = os ∧ (w.forCall tape i).Shaped C.prog ∧ i.vars = [] ∧ Input.okWide C.prog (w.forCall tape i) .any w.heap.size f i ∧
      ((s.pre enc C.prog fn conds apart (w.forCall tape i).memory i.args ∧ X (w.forCall tape i).memory i.args) ∧ sizedMet enc C.prog fn (OpenSpec.ofChange s) apart (w.forCall tape i).memory i.args) ∧ a.holds C.prog (lone (Frame.enter C.prog f i.args .normal) [] (w.forCall tape i)))
    (contract : ∀ (W : World) (base : Nat) (args : Array Value) (ds gs : List (DataW H)) (before : List MemPlace),
      (∀ (j : Nat) t v, fn.params[j]? = some t → args[j]? = some v → Value.okWide C.prog W .any base t v) →
      DataW.Whole enc C.prog fn.params.toList s.vars apart W args.toList ds gs before →
      (DataW.weightsEach C.prog (fn.params.toList ++ s.plain.varTypes C.prog) (ds ++ gs)).all (· ≤ reachBytes) = true → X W args → W.ShapedOpen C.prog →
      Calls C.prog f args W fun e W' => ∃ v, e = .returned v ∧ s.post enc C.prog fn apart fresh handsOn again W args v W') :
    ReturnsInHanded a C os f .any (fun w args => (s.pre enc C.prog fn conds apart w args ∧ X w args) ∧ sizedMet enc C.prog fn (OpenSpec.ofChange s) apart w args) (s.post enc C.prog fn apart fresh handsOn again) := by
  refine returnsInHanded_of_calls own started noInit witness ?_
  intro w tape i _ hsh _ hok hpre _
  obtain ⟨_, _, _, fn', hfn', _, _, _, _, hval⟩ := hok
  have e : fn' = fn := Option.some.inj (hfn'.symm.trans hfn)
  subst e
  obtain ⟨⟨⟨ds, gs, before, hw, hc⟩, hx⟩, hz⟩ := hpre
  have hw' := DataW.Whole.of_heap (w' := w.forCall tape i) (by rfl) hw
  refine (contract (w.forCall tape i) w.heap.size i.args ds gs before hval hw' (hz.weights hw) (hX _ _ _ (by rfl) hx) hsh).mono fun e W' ⟨v, he, hp⟩ => ?_
  subst he
  exact ChangeSpec.post_blind hp
end Go.Proofs.YtaakegacmjnmoaaDoor
