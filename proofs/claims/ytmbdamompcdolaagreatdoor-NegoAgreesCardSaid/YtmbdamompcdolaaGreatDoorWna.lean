/- NegoAgrees: two ends, of which nothing is lost, come to Opened both, and then each was acked what it wants now. No condition. -/
import Derived.Test.YtmbdamompcdolaaGreatDoorCards
import Derived.Test.YtmbdamompcdolaaGreatDoorTie
import Derived.Test.YtmbdamompcdolaaGreatDoorNi
import Derived.Test.YtmbdamompcdolaaGreatDoorWdz
import Derived.Test.YtmbdamompcdolaaGreatDoorEv3
import Derived.WalkKit
import Derived.ProofKit
import Derived.OpenShut
import Derived.ShutString
import Derived.ChangeOld
import Derived.Below
import Derived.Lay
import Derived.LaidMore
import Derived.SevenTiedAt
import Derived.Stop.Joined
set_option linter.all false
namespace Go.Proofs.YtmbdamompcdolaaGreatDoor.negoAgrees
open Go.ChangeShapes Go.WideShapes Go.ChangeAt Go.RowKit
set_option maxRecDepth 100000
abbrev tys : List (Bool × List Go.Q.CT) := [(true,[.bool, .int .u16, .int .u32, .bool, .bool, .bool, .int .u32, .int .u32, .int .u32, .bool, .bool, .int .u16, .int .u32, .bool, .bool, .bool, .int .u32, .int .u32, .int .u32, .bool]), (false,[.bool])]
theorem tys_ok : Go.Q.argTs Tryz.prog 10 Tryz.f3.params.toList = some tys := by kernel_rfl
theorem law (xs : List Go.Q.V) (h : Go.Q.hasArgs tys xs) : ∃ st', Go.Q.run Go.Q.G 3 (xs.map .v) [[]] = some (.v (.bool true), st') := by
    simp only [Go.Q.hasArgs] at h
    obtain ⟨_, _, rfl, ax, _, _, rfl, ay, rfl⟩ := h
    simp only [Go.Q.hasCs] at ax
    obtain ⟨_, _, rfl, x1, _, _, rfl, x2, _, _, rfl, x3, _, _, rfl, x4, _, _, rfl, x5, _, _, rfl, x6, _, _, rfl, x7, _, _, rfl, x8, _, _, rfl, x9, _, _, rfl, x10, _, _, rfl, y1, _, _, rfl, y2, _, _, rfl, y3, _, _, rfl, y4, _, _, rfl, y5, _, _, rfl, y6, _, _, rfl, y7, _, _, rfl, y8, _, _, rfl, y9, _, _, rfl, y10, rfl⟩ := ax
    obtain ⟨_, rfl, z1⟩ := Go.Q.one_of ay
    obtain ⟨v1, rfl⟩ := Go.Q.bool_of x1
    obtain ⟨v2, rfl, h2⟩ := Go.Q.u16_of x2
    obtain ⟨v3, rfl, h3⟩ := Go.Q.u32_of x3
    obtain ⟨v4, rfl⟩ := Go.Q.bool_of x4
    obtain ⟨v5, rfl⟩ := Go.Q.bool_of x5
    obtain ⟨v6, rfl⟩ := Go.Q.bool_of x6
    obtain ⟨v7, rfl, h7⟩ := Go.Q.u32_of x7
    obtain ⟨v8, rfl, h8⟩ := Go.Q.u32_of x8
    obtain ⟨v9, rfl, h9⟩ := Go.Q.u32_of x9
    obtain ⟨v10, rfl⟩ := Go.Q.bool_of x10
    obtain ⟨w1, rfl⟩ := Go.Q.bool_of y1
    obtain ⟨w2, rfl, g2⟩ := Go.Q.u16_of y2
    obtain ⟨w3, rfl, g3⟩ := Go.Q.u32_of y3
    obtain ⟨w4, rfl⟩ := Go.Q.bool_of y4
    obtain ⟨w5, rfl⟩ := Go.Q.bool_of y5
    obtain ⟨w6, rfl⟩ := Go.Q.bool_of y6
    obtain ⟨w7, rfl, g7⟩ := Go.Q.u32_of y7
    obtain ⟨w8, rfl, g8⟩ := Go.Q.u32_of y8
    obtain ⟨w9, rfl, g9⟩ := Go.Q.u32_of y9
    obtain ⟨w10, rfl⟩ := Go.Q.bool_of y10
    obtain ⟨ip, rfl⟩ := Go.Q.bool_of z1
    exact Go.Q.negoAgrees ⟨v1, (v2, v3, v4), v5, ⟨v6, v7, v8, v9, v10⟩⟩ ⟨w1, (w2, w3, w4), w5, ⟨w6, w7, w8, w9, w10⟩⟩ ip ⟨⟨h2, h3⟩, h7, h8, h9⟩ ⟨⟨g2, g3⟩, g7, g8, g9⟩
abbrev laids : List (String × DataW Unit) := Rows.negoAgreesRow.laid
theorem lifted (os : Os) (started : os.Started) (H : Type) (enc : TypeId × Value → H) :
    ReturnsInHanded {} Tryz.checked os 3 .any (fun w args => (Rows.negoAgreesSpec.pre enc Tryz.prog Tryz.f3 [] false w args ∧ laidMetH Tryz.prog laids w) ∧ sizedMet enc Tryz.prog Tryz.f3 (OpenSpec.ofChange Rows.negoAgreesSpec) false w args)
      (Rows.negoAgreesSpec.post enc Tryz.prog Tryz.f3 false true false false) := by
  refine returns_shaped (C := Tryz.checked) (X := fun w _ => laidMetH Tryz.prog laids w) (fun _ _ _ hh h => h.of_heap hh) own started (by kernel_rfl) Tryz.func3
    (ChangeSpec.witness_shaped (enc := enc) (C := Tryz.checked) (os := os) (X := fun w _ => laidMetH Tryz.prog laids w) false (World.laidAll Tryz.prog os laids) #[.agg #[.bool false, .int .u16 0, .int .u32 0, .bool false, .bool false, .bool false, .int .u32 0, .int .u32 0, .int .u32 0, .bool false, .bool false, .int .u16 0, .int .u32 0, .bool false, .bool false, .bool false, .int .u32 0, .int .u32 0, .int .u32 0, .bool false], .bool false] 8 (World.laidAll_os _ _ _)
      (World.shaped_of_ZipB (by kernel_rfl) (by kernel_rfl)) (by kernel_rfl) (by kernel_rfl) (by kernel_rfl)
      (by rw [MakeChecks.laidMetH_plain _ _ _ (by kernel_rfl)]; exact laidMet_laidAll _ (by kernel_rfl) (by kernel_rfl))) ?_
  intro W base args ds gs before hval hW hsz0 _ hsh
  have hW' := hW
  obtain ⟨p, q, hA, hV, rfl, hfz, hnd⟩ := hW
  obtain ⟨rfl, rfl⟩ := trodVars_none hV
  obtain ⟨m, hm⟩ := Tryz.laysM143.s1_3 W hsh
  have hsz : (DataW.weightsEach Tryz.prog (Tryz.f3.params.toList ++ []) (ds ++ [])).all (· ≤ reachBytes) = true := hsz0
  rw [List.append_nil, List.append_nil] at hsz
  obtain ⟨xs, k1, k2⟩ := Go.Q.args_ok (n := 10) (base := base) tys_ok hA (fun j t v hj hv => hval j t v (by simpa using hj) (by simpa using hv)) (fun k hk => by simpa using List.all_eq_true.1 hsz k hk)
  have hl : xs.length = args.size := by simpa using k2.len
  letI : Go.Q.Known := kn m
  obtain ⟨st', hlaw⟩ := law xs k1
  have hwalk := Go.Q.calls_true1 (P := Tryz.prog) (G := Go.Q.G) (L := Go.Q.Lw W) (w := W) (xs := xs) (fun f F _ hf => by
    obtain ⟨p, h1, h2⟩ := Go.Q.map_some' hf
    have h3 := List.find?_some h1
    have h4 := List.all_eq_true.1 checked p (List.mem_of_find?_eq_some h1)
    simp only [beq_iff_eq] at h3
    subst h3 h2
    exact ⟨p.2.2, h4⟩) (prims m) (fun p hp => by
      obtain rfl := List.mem_singleton.1 hp
      exact iterAll) hlaw (vals := args) hl (fun i hi => by
    have := k2.get i hi (by simpa [hl] using hi)
    simpa using this) (fun c hc => Go.Q.Lw_fresh hc) (fun p hp => by
      obtain rfl := List.mem_singleton.1 hp
      exact ⟨Nat.lt_of_le_of_lt (Nat.zero_le _) (Go.Q.lt_Lw hm), hm⟩) (fun p hp => by cases hp)
  refine hwalk.mono fun e W' ⟨he, b1, b2, b3, b4, b5⟩ => ?_
  have bel : Below W.heap.size W W' := ⟨b1, b2, b3, b4, b5⟩
  subst he
  have hT := Go.Q.trodAll_below laid bel (by kernel_rfl) hA
  have hA2 : DataW.TrodAll enc Tryz.prog W 0 (fun _ => true) true Tryz.f3.params.toList args.toList ds p := hA
  rw [Tryz.params3] at hA2
  obtain ⟨v0, vs0, d0, ds0, p0, q0, hargs, rfl, rfl, h0, r0⟩ := trodAll_cons hA2
  obtain ⟨v1, vs1, d1, ds1, p1, q1, rfl, rfl, rfl, h1, r1⟩ := trodAll_cons r0
  obtain ⟨rfl, rfl, rfl⟩ := trodAll_nil r1
  exact ⟨_, rfl, _, _, _, [], _, [], hW', trodAll_mk1 (shut_bool Tryz.underlying4 _), hT, rfl, bel.frame _, fun h => by cases h⟩
theorem over : Rows.negoAgreesRow.holds Tryz.pinned (OpenSpec.ofChange Rows.negoAgreesSpec) :=
  OpenClaim.holds_of_wide 3 Tryz.f3 rfl rfl rfl rfl rfl rfl rfl ⟨rfl, rfl, rfl, rfl, rfl⟩ rfl rfl rfl rfl rfl (by kernel_rfl) Tryz.func3 (by kernel_rfl)
    (of_decide_eq_true (by kernel_rfl)) (by unfold Func.isWrapper; first | (rw [if_pos (by decide +kernel)]; kernel_rfl) | (rw [if_neg (by decide +kernel)]; exact ⟨rfl, rfl⟩))
    (fun os started H enc _ => lifted os started H enc)
theorem card : Rows.NegoAgreesCardSaid :=
  Claim7.holds_tied_plain_at .later [] [.data, .pinned] true (true, "6b52515240120399a4b331de397e662cdb5fdf2c67aa7b6baf58e0ecc70cc33d") false over (fun _ h => by cases h) (by kernel_rfl) (fun _ h => by cases h) negoAgrees_row_tie rfl ⟨rfl, rfl⟩ (by kernel_rfl) rfl
    (fun f fn hf hfn => by
      obtain rfl : f = 3 := Option.some.inj ((show Tryz.prog.funcNamed Rows.negoAgreesRow.func = some 3 by kernel_rfl).symm.trans hf) |>.symm
      obtain rfl : fn = Tryz.f3 := (Option.some.inj (Tryz.func3.symm.trans hfn)).symm
      exact ⟨by kernel_rfl, fun j t ht => by
        have hm := Array.mem_of_getElem? ht
        have hall : (Tryz.f3.params.toList.all fun u => !Tryz.prog.wantsStandIn u) = true := by kernel_rfl
        exact (show Tryz.prog.wantsStandIn t = false by simpa using List.all_eq_true.1 hall t (by simpa using hm))⟩)
    (by kernel_rfl)
#print axioms card
end Go.Proofs.YtmbdamompcdolaaGreatDoor.negoAgrees
namespace Go.Proofs.YtmbdamompcdolaaGreatDoor
theorem negoAgrees_holds : Rows.NegoAgreesCardSaid := negoAgrees.card
end Go.Proofs.YtmbdamompcdolaaGreatDoor
