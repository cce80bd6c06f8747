/- IpcpoAgrees: a client that was naked, or rejected, by a server asks then for what that gives. No condition. -/
import Derived.Test.YtmbdamompcdolaaDoorCards
import Derived.Test.YtmbdamompcdolaaDoorTie
import Derived.Test.YtmbdamompcdolaaDoorIq
import Derived.Test.YtmbdamompcdolaaDoorWdd
import Derived.Test.YtmbdamompcdolaaDoorEv5
import Derived.WalkKit
import Derived.ProofKit
import Derived.OpenShut
import Derived.ShutString
import Derived.ChangeOld
import Derived.Below
import Derived.Lay
import Derived.LaidMore
import Derived.SevenTiedAt
import Derived.Stop.Joined
namespace Go.Proofs.YtmbdamompcdolaaDoor.ipcpoAgrees
open Go.ChangeShapes Go.WideShapes Go.ChangeAt Go.RowKit
set_option linter.unusedVariables false
set_option maxRecDepth 100000
abbrev tys : List (Bool × List Go.Q.CT) := [(true,[.bool, .int .u32, .int .u32, .int .u32, .bool]), (true,[.bool, .int .u32, .int .u32, .int .u32, .bool])]
theorem tys_ok : Go.Q.argTs Tryd.prog 10 Tryd.f6.params.toList = some tys := by kernel_rfl
theorem law (xs : List Go.Q.V) (h : Go.Q.hasArgs tys xs) : ∃ st', Go.Q.run Go.Q.G 6 (xs.map .v) [[]] = some (.v (.bool true), st') := by
    simp only [Go.Q.hasArgs] at h
    obtain ⟨_, _, rfl, ax, _, _, rfl, ay, rfl⟩ := h
    obtain ⟨_, _, _, _, _, rfl, x1, x2, x3, x4, x5⟩ := Go.Q.five_of ax
    obtain ⟨_, _, _, _, _, rfl, y1, y2, y3, y4, y5⟩ := Go.Q.five_of ay
    obtain ⟨v, rfl⟩ := Go.Q.bool_of x1
    obtain ⟨a, rfl, ha⟩ := Go.Q.u32_of x2
    obtain ⟨b, rfl, hb⟩ := Go.Q.u32_of x3
    obtain ⟨c, rfl, hc⟩ := Go.Q.u32_of x4
    obtain ⟨k, rfl⟩ := Go.Q.bool_of x5
    obtain ⟨v', rfl⟩ := Go.Q.bool_of y1
    obtain ⟨a', rfl, ha'⟩ := Go.Q.u32_of y2
    obtain ⟨b', rfl, hb'⟩ := Go.Q.u32_of y3
    obtain ⟨c', rfl, hc'⟩ := Go.Q.u32_of y4
    obtain ⟨k', rfl⟩ := Go.Q.bool_of y5
    exact Go.Q.ipcpoAgrees ⟨v, a, b, c, k⟩ ⟨v', a', b', c', k'⟩ ⟨ha, hb, hc⟩ ⟨ha', hb', hc'⟩
abbrev laids : List (String × DataW Unit) := Rows.ipcpoAgreesRow.laid
theorem lifted (os : Os) (started : os.Started) (H : Type) (enc : TypeId × Value → H) :
    ReturnsInHanded {} Tryd.checked os 6 .any (fun w args => (Rows.ipcpoAgreesSpec.pre enc Tryd.prog Tryd.f6 [] false w args ∧ laidMetH Tryd.prog laids w) ∧ sizedMet enc Tryd.prog Tryd.f6 (OpenSpec.ofChange Rows.ipcpoAgreesSpec) false w args)
      (Rows.ipcpoAgreesSpec.post enc Tryd.prog Tryd.f6 false true false false) := by
  refine returns_shaped (C := Tryd.checked) (X := fun w _ => laidMetH Tryd.prog laids w) (fun _ _ _ hh h => h.of_heap hh) own started (by kernel_rfl) Tryd.func6
    (ChangeSpec.witness_shaped (enc := enc) (C := Tryd.checked) (os := os) (X := fun w _ => laidMetH Tryd.prog laids w) false (World.laidAll Tryd.prog os laids) #[.agg #[.bool false, .int .u32 0, .int .u32 0, .int .u32 0, .bool false], .agg #[.bool false, .int .u32 0, .int .u32 0, .int .u32 0, .bool false]] 8 (World.laidAll_os _ _ _)
      (World.shaped_of_ZipB (by kernel_rfl) (by kernel_rfl)) (by kernel_rfl) (by kernel_rfl) (by kernel_rfl)
      (by rw [MakeChecks.laidMetH_plain _ _ _ (by kernel_rfl)]; exact laidMet_laidAll _ (by kernel_rfl) (by kernel_rfl))) ?_
  intro W base args ds gs before hval hW hsz0 hX hsh
  have hW' := hW
  obtain ⟨p, q, hA, hV, rfl, hfz, hnd⟩ := hW
  obtain ⟨rfl, rfl⟩ := trodVars_none hV
  have hL := hX
  rw [MakeChecks.laidMetH_plain _ _ _ (by kernel_rfl)] at hL
  obtain ⟨m, t0, t1, p0, p1, o, ho, hm, hm0, hm1, ho3⟩ := vars_of hsh hL
  have hsz : (DataW.weightsEach Tryd.prog (Tryd.f6.params.toList ++ []) (ds ++ [])).all (· ≤ reachBytes) = true := hsz0
  rw [List.append_nil, List.append_nil] at hsz
  obtain ⟨xs, k1, k2⟩ := Go.Q.args_ok (n := 10) (base := base) tys_ok hA (fun j t v hj hv => hval j t v (by simpa using hj) (by simpa using hv)) (fun k hk => by simpa using List.all_eq_true.1 hsz k hk)
  have hl : xs.length = args.size := by simpa using k2.len
  letI : Go.Q.Known := kn m t0 t1 p0 p1 o
  obtain ⟨st', hlaw⟩ := law xs k1
  have hwalk := Go.Q.calls_true1 (P := Tryd.prog) (G := Go.Q.G) (L := Go.Q.Lw W) (w := W) (xs := xs) (fun f F _ hf => by
    obtain ⟨p, h1, h2⟩ := Go.Q.map_some' hf
    have h3 := List.find?_some h1
    have h4 := List.all_eq_true.1 checked p (List.mem_of_find?_eq_some h1)
    simp only [beq_iff_eq] at h3
    subst h3 h2
    exact ⟨p.2.2, h4⟩) (prims m t0 t1 p0 p1 o ho) (fun p hp => by
      obtain rfl := List.mem_singleton.1 hp
      exact iter77) hlaw (vals := args) hl (fun i hi => by
    have := k2.get i hi (by simpa [hl] using hi)
    simpa using this) (fun c hc => Go.Q.Lw_fresh hc) (fun p hp => by
      rcases List.mem_cons.1 hp with rfl | hp
      · exact ⟨Nat.lt_of_le_of_lt (Nat.zero_le _) (Go.Q.lt_Lw hm), hm⟩
      rcases List.mem_cons.1 hp with rfl | hp
      · exact ⟨Nat.lt_of_le_of_lt (Nat.zero_le _) (Go.Q.lt_Lw hm0), hm0⟩
      obtain rfl := List.mem_singleton.1 hp
      exact ⟨Nat.lt_of_le_of_lt (Nat.zero_le _) (Go.Q.lt_Lw hm1), hm1⟩) (fun p hp => by
      obtain rfl := List.mem_singleton.1 hp
      exact ho3)
  refine hwalk.mono fun e W' ⟨he, b1, b2, b3, b4, b5⟩ => ?_
  have bel : Below W.heap.size W W' := ⟨b1, b2, b3, b4, b5⟩
  subst he
  have hT := Go.Q.trodAll_below laid bel (by kernel_rfl) hA
  have hA2 : DataW.TrodAll enc Tryd.prog W 0 (fun _ => true) true Tryd.f6.params.toList args.toList ds p := hA
  rw [Tryd.params6] at hA2
  obtain ⟨v0, vs0, d0, ds0, p0, q0, hargs, rfl, rfl, h0, r0⟩ := trodAll_cons hA2
  obtain ⟨v1, vs1, d1, ds1, p1, q1, rfl, rfl, rfl, h1, r1⟩ := trodAll_cons r0
  obtain ⟨rfl, rfl, rfl⟩ := trodAll_nil r1
  exact ⟨_, rfl, _, _, _, [], _, [], hW', trodAll_mk1 (shut_bool Tryd.underlying4 _), hT, rfl, bel.frame _, fun h => by cases h⟩
theorem over : Rows.ipcpoAgreesRow.holds Tryd.pinned (OpenSpec.ofChange Rows.ipcpoAgreesSpec) :=
  OpenClaim.holds_of_wide 6 Tryd.f6 rfl rfl rfl rfl rfl rfl rfl ⟨rfl, rfl, rfl, rfl, rfl⟩ rfl rfl rfl rfl rfl (by kernel_rfl) Tryd.func6 (by kernel_rfl)
    (of_decide_eq_true (by kernel_rfl)) (by unfold Func.isWrapper; first | (rw [if_pos (by decide +kernel)]; kernel_rfl) | (rw [if_neg (by decide +kernel)]; exact ⟨rfl, rfl⟩))
    (fun os started H enc _ => lifted os started H enc)
theorem card : Rows.IpcpoAgreesCardSaid :=
  Claim7.holds_tied_plain_at .later [] [.data, .data, .data, .data, .sentinel, .sentinel, .pinned] true (true, "d882c07257cefa8f3d55801c2153607184e5f2e669516c7b031213d8c41f4939") true over (fun _ h => by cases h) (by kernel_rfl) (fun _ h => by cases h) ipcpoAgrees_row_tie rfl ⟨rfl, rfl⟩ (by kernel_rfl) rfl
    (fun f fn hf hfn => by
      obtain rfl : f = 6 := Option.some.inj ((show Tryd.prog.funcNamed Rows.ipcpoAgreesRow.func = some 6 by kernel_rfl).symm.trans hf) |>.symm
      obtain rfl : fn = Tryd.f6 := (Option.some.inj (Tryd.func6.symm.trans hfn)).symm
      exact ⟨by kernel_rfl, fun j t ht => by
        have hm := Array.mem_of_getElem? ht
        have hall : (Tryd.f6.params.toList.all fun u => !Tryd.prog.wantsStandIn u) = true := by kernel_rfl
        exact (show Tryd.prog.wantsStandIn t = false by simpa using List.all_eq_true.1 hall t (by simpa using hm))⟩)
    (by kernel_rfl)
#print axioms card
end Go.Proofs.YtmbdamompcdolaaDoor.ipcpoAgrees
namespace Go.Proofs.YtmbdamompcdolaaDoor
/-- The card, under a short name, for the claim. -/
theorem ipcpoAgrees_holds : Rows.IpcpoAgreesCardSaid := ipcpoAgrees.card
end Go.Proofs.YtmbdamompcdolaaDoor
