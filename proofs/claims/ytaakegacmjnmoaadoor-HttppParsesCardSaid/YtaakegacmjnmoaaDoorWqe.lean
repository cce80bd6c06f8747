/- HttppParses: the status of any bytes is the document's, or refused. No condition. -/
import Derived.Test.YtaakegacmjnmoaaDoorCards
import Derived.Test.YtaakegacmjnmoaaDoorTie
import Derived.Test.YtaakegacmjnmoaaDoorHj
import Derived.Test.YtaakegacmjnmoaaDoorWdq
import Derived.Test.YtaakegacmjnmoaaDoorEv3
import Derived.WalkKit
import Derived.ProofKit
import Derived.OpenShut
import Derived.ShutString
import Derived.ChangeOld
import Derived.Below
import Derived.Lay
import Derived.LaidMore
import Derived.SevenTiedAt
import Derived.Stop.Joined
set_option linter.all false
namespace Go.Proofs.YtaakegacmjnmoaaDoor.httppParses
open Go.ChangeShapes Go.WideShapes Go.ChangeAt Go.RowKit
set_option maxRecDepth 100000
abbrev tys : List (Bool × List Go.Q.CT) := [(false,[.slc false 1 [.int .u8]])]
theorem tys_ok : Go.Q.argTs Tryd.prog 10 Tryd.f9.params.toList = some tys := by kernel_rfl
theorem law (xs : List Go.Q.V) (h : Go.Q.hasArgs tys xs) : Go.Q.run Go.Q.G 9 (xs.map .v) [] = some (.v (.bool true), []) := by
      simp only [Go.Q.hasArgs] at h
      obtain ⟨_, _, rfl, ax, rfl⟩ := h
      obtain ⟨_, rfl, x1⟩ := Go.Q.one_of ax
      obtain ⟨l, rfl, hl, _⟩ := Go.Q.bytes_of x1
      rw [Go.Q.b8_u8 l hl]
      exact Go.Q.httppParses (Go.Q.by8 l)
abbrev laids : List (String × DataW Unit) := Rows.httppParsesRow.laid
theorem lifted (os : Os) (started : os.Started) (H : Type) (enc : TypeId × Value → H) :
    ReturnsInHanded {} Tryd.checked os 9 .any (fun w args => (Rows.httppParsesSpec.pre enc Tryd.prog Tryd.f9 [] false w args ∧ laidMetH Tryd.prog laids w) ∧ sizedMet enc Tryd.prog Tryd.f9 (OpenSpec.ofChange Rows.httppParsesSpec) false w args)
      (Rows.httppParsesSpec.post enc Tryd.prog Tryd.f9 false true false false) := by
  refine returns_shaped (C := Tryd.checked) (X := fun w _ => laidMetH Tryd.prog laids w) (fun _ _ _ hh h => h.of_heap hh) own started (by kernel_rfl) Tryd.func9
    (ChangeSpec.witness_shaped (enc := enc) (C := Tryd.checked) (os := os) (X := fun w _ => laidMetH Tryd.prog laids w) false (World.laidAll Tryd.prog os laids) #[.slice none 0 0] 8 (World.laidAll_os _ _ _)
      (World.shaped_of_ZipB (by kernel_rfl) (by kernel_rfl)) (by kernel_rfl) (by kernel_rfl) (by kernel_rfl)
      (by rw [MakeChecks.laidMetH_plain _ _ _ (by kernel_rfl)]; exact laidMet_laidAll _ (by kernel_rfl) (by kernel_rfl))) ?_
  intro W base args ds gs before hval hW hsz0 hX hsh
  have hW' := hW
  obtain ⟨p, q, hA, hV, rfl, hfz, hnd⟩ := hW
  obtain ⟨rfl, rfl⟩ := trodVars_none hV
  have hL := hX
  rw [MakeChecks.laidMetH_plain _ _ _ (by kernel_rfl)] at hL
  obtain ⟨m, t1, p1, o, ho, hm, hm1, ho3⟩ := vars_of hsh hL
  have hsz : (DataW.weightsEach Tryd.prog (Tryd.f9.params.toList ++ []) (ds ++ [])).all (· ≤ reachBytes) = true := hsz0
  rw [List.append_nil, List.append_nil] at hsz
  obtain ⟨xs, k1, k2⟩ := Go.Q.args_ok (n := 10) (base := base) tys_ok hA (fun j t v hj hv => hval j t v (by simpa using hj) (by simpa using hv)) (fun k hk => by simpa using List.all_eq_true.1 hsz k hk)
  have hl : xs.length = args.size := by simpa using k2.len
  letI : Go.Q.Known := kn m t1 p1 o
  have hwalk := Go.Q.calls_true (P := Tryd.prog) (G := Go.Q.G) (L := Go.Q.Lw W) (w := W) (xs := xs) (fun f F _ hf => by
    obtain ⟨p, h1, h2⟩ := Go.Q.map_some' hf
    have h3 := List.find?_some h1
    have h4 := List.all_eq_true.1 checked p (List.mem_of_find?_eq_some h1)
    simp only [beq_iff_eq] at h3
    subst h3 h2
    exact ⟨p.2.2, h4⟩) (prims m t1 p1 o ho) (iters m t1 p1 o) (law xs k1) (vals := args) hl (fun i hi => by
    have := k2.get i hi (by simpa [hl] using hi)
    simpa using this) (fun c hc => Go.Q.Lw_fresh hc) (fun p hp => by
      rcases List.mem_cons.1 hp with rfl | hp
      · exact ⟨Nat.lt_of_le_of_lt (Nat.zero_le _) (Go.Q.lt_Lw hm), hm⟩
      obtain rfl := List.mem_singleton.1 hp
      exact ⟨Nat.lt_of_le_of_lt (Nat.zero_le _) (Go.Q.lt_Lw hm1), hm1⟩) (fun p hp => by
      obtain rfl := List.mem_singleton.1 hp
      exact ho3)
  refine hwalk.mono fun e W' ⟨he, b1, b2, b3, b4, b5⟩ => ?_
  have bel : Below W.heap.size W W' := ⟨b1, b2, b3, b4, b5⟩
  subst he
  have hT := Go.Q.trodAll_below laid bel (by kernel_rfl) hA
  have hA2 : DataW.TrodAll enc Tryd.prog W 0 (fun _ => true) true Tryd.f9.params.toList args.toList ds p := hA
  rw [Tryd.params9] at hA2
  obtain ⟨v0, vs0, d0, ds0, p0, q0, hargs, rfl, rfl, h0, r0⟩ := trodAll_cons hA2
  obtain ⟨rfl, rfl, rfl⟩ := trodAll_nil r0
  exact ⟨_, rfl, _, _, _, [], _, [], hW', trodAll_mk1 (shut_bool Tryd.underlying4 _), hT, rfl, bel.frame _, fun h => by cases h⟩
theorem over : Rows.httppParsesRow.holds Tryd.pinned (OpenSpec.ofChange Rows.httppParsesSpec) :=
  OpenClaim.holds_of_wide 9 Tryd.f9 rfl rfl rfl rfl rfl rfl rfl ⟨rfl, rfl, rfl, rfl, rfl⟩ rfl rfl rfl rfl rfl (by kernel_rfl) Tryd.func9 (by kernel_rfl)
    (of_decide_eq_true (by kernel_rfl)) (by unfold Func.isWrapper; first | (rw [if_pos (by decide +kernel)]; kernel_rfl) | (rw [if_neg (by decide +kernel)]; exact ⟨rfl, rfl⟩))
    (fun os started H enc _ => lifted os started H enc)
theorem card : Rows.HttppParsesCardSaid :=
  Claim7.holds_tied_plain_at .later [] [.data, .data, .data, .data, .sentinel, .sentinel, .pinned] true (true, "6e81f64f307b3b0b553d6c26aa691820a4c7433ab7de98fa6e9b13eff40ca967") true over (fun _ h => by cases h) (by kernel_rfl) (fun _ h => by cases h) httppParses_row_tie rfl ⟨rfl, rfl⟩ (by kernel_rfl) rfl
    (fun f fn hf hfn => by
      obtain rfl : f = 9 := Option.some.inj ((show Tryd.prog.funcNamed Rows.httppParsesRow.func = some 9 by kernel_rfl).symm.trans hf) |>.symm
      obtain rfl : fn = Tryd.f9 := (Option.some.inj (Tryd.func9.symm.trans hfn)).symm
      exact ⟨by kernel_rfl, fun j t ht => by
        have hm := Array.mem_of_getElem? ht
        have hall : (Tryd.f9.params.toList.all fun u => !Tryd.prog.wantsStandIn u) = true := by kernel_rfl
        exact (show Tryd.prog.wantsStandIn t = false by simpa using List.all_eq_true.1 hall t (by simpa using hm))⟩)
    (by kernel_rfl)
#print axioms card
end Go.Proofs.YtaakegacmjnmoaaDoor.httppParses
namespace Go.Proofs.YtaakegacmjnmoaaDoor
theorem httppParses_holds : Rows.HttppParsesCardSaid := httppParses.card
end Go.Proofs.YtaakegacmjnmoaaDoor
