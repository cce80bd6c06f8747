/- NegoSends: what a negotiation sends may be laid; a layer is told to be up just as it comes to Opened. No condition. -/
import Derived.Test.YtmbdamompcdolaaGreatDoorCards
import Derived.Test.YtmbdamompcdolaaGreatDoorTie
import Derived.Test.YtmbdamompcdolaaGreatDoorNf
import Derived.Test.YtmbdamompcdolaaGreatDoorWdz
import Derived.Test.YtmbdamompcdolaaGreatDoorEv3
import Derived.WalkKit
import Derived.ProofKit
import Derived.OpenShut
import Derived.ShutString
import Derived.ChangeOld
import Derived.Below
import Derived.Lay
import Derived.LaidMore
import Derived.SevenTiedAt
import Derived.Stop.Joined
namespace Go.Proofs.YtmbdamompcdolaaGreatDoor.negoSends
open Go.ChangeShapes Go.WideShapes Go.ChangeAt Go.RowKit
set_option linter.unusedVariables false
set_option maxRecDepth 100000
abbrev tys : List (Bool × List Go.Q.CT) := [(true,[.bool, .int .u16, .int .u32, .bool, .bool, .bool, .int .u32, .int .u32, .int .u32, .bool]), (false,[.slc true 56 [.int .u8, .int .i64, .bool, .bool, .int .u8, .int .u8, .slc false 1 [.int .u8]]])]
theorem steps_of {x : Go.Q.V} (h : Go.Q.hasC (.slc true 56 [.int .u8, .int .i64, .bool, .bool, .int .u8, .int .u8, .slc false 1 [.int .u8]]) x) : ∃ l, x = .slc 7 (Go.Q.sps l) ∧ (∀ s ∈ l, Go.Q.okSp s) ∧ l.length * 56 ≤ reachBytes := by
  rw [Go.Q.hasC] at h
  obtain ⟨ys, rfl, h1, h2⟩ := h
  obtain ⟨l, rfl, hl⟩ := Go.Q.list_of (f := Go.Q.spv) (p := Go.Q.okSp) ys (fun y hy => by
    obtain ⟨cs, rfl, h3⟩ := h2 y hy
    obtain ⟨_, _, _, _, _, _, _, rfl, x1, x2, x3, x4, x5, x6, x7⟩ := Go.Q.seven_of h3
    obtain ⟨a, rfl, ha⟩ := Go.Q.u8_of x1
    obtain ⟨b, rfl, hb⟩ := Go.Q.i64_of x2
    obtain ⟨c, rfl⟩ := Go.Q.bool_of x3
    obtain ⟨d, rfl⟩ := Go.Q.bool_of x4
    obtain ⟨e, rfl, he⟩ := Go.Q.u8_of x5
    obtain ⟨g, rfl, hg⟩ := Go.Q.u8_of x6
    obtain ⟨l, rfl, hl, _⟩ := Go.Q.bytes_of x7
    exact ⟨(a, b, c, d, e, g, l), rfl, ha, hb, he, hg, hl⟩)
  exact ⟨l, by simp [Go.Q.sps, Go.Q.lenC], hl, by simpa using h1⟩
theorem tys_ok : Go.Q.argTs Tryz.prog 10 Tryz.f4.params.toList = some tys := by kernel_rfl
theorem law (xs : List Go.Q.V) (h : Go.Q.hasArgs tys xs) : Go.Q.run Go.Q.G 4 (xs.map .v) [] = some (.v (.bool true), []) := by
    simp only [Go.Q.hasArgs] at h
    obtain ⟨_, _, rfl, ax, _, _, rfl, ay, rfl⟩ := h
    obtain ⟨_, _, _, _, _, _, _, _, _, _, rfl, x1, x2, x3, x4, x5, x6, x7, x8, x9, x10⟩ := Go.Q.ten_of ax
    obtain ⟨_, rfl, y1⟩ := Go.Q.one_of ay
    obtain ⟨v1, rfl⟩ := Go.Q.bool_of x1
    obtain ⟨v2, rfl, h2⟩ := Go.Q.u16_of x2
    obtain ⟨v3, rfl, h3⟩ := Go.Q.u32_of x3
    obtain ⟨v4, rfl⟩ := Go.Q.bool_of x4
    obtain ⟨v5, rfl⟩ := Go.Q.bool_of x5
    obtain ⟨v6, rfl⟩ := Go.Q.bool_of x6
    obtain ⟨v7, rfl, h7⟩ := Go.Q.u32_of x7
    obtain ⟨v8, rfl, h8⟩ := Go.Q.u32_of x8
    obtain ⟨v9, rfl, h9⟩ := Go.Q.u32_of x9
    obtain ⟨v10, rfl⟩ := Go.Q.bool_of x10
    obtain ⟨l, rfl, hl, hl2⟩ := steps_of y1
    have := Go.Q.reach
    exact Go.Q.negoSends ⟨v1, (v2, v3, v4), v5, ⟨v6, v7, v8, v9, v10⟩⟩ l ⟨⟨h2, h3⟩, h7, h8, h9⟩ hl (by omega)
abbrev laids : List (String × DataW Unit) := Rows.negoSendsRow.laid
theorem lifted (os : Os) (started : os.Started) (H : Type) (enc : TypeId × Value → H) :
    ReturnsInHanded {} Tryz.checked os 4 .any (fun w args => (Rows.negoSendsSpec.pre enc Tryz.prog Tryz.f4 [] false w args ∧ laidMetH Tryz.prog laids w) ∧ sizedMet enc Tryz.prog Tryz.f4 (OpenSpec.ofChange Rows.negoSendsSpec) false w args)
      (Rows.negoSendsSpec.post enc Tryz.prog Tryz.f4 false true false false) := by
  refine returns_shaped (C := Tryz.checked) (X := fun w _ => laidMetH Tryz.prog laids w) (fun _ _ _ hh h => h.of_heap hh) own started (by kernel_rfl) Tryz.func4
    (ChangeSpec.witness_shaped (enc := enc) (C := Tryz.checked) (os := os) (X := fun w _ => laidMetH Tryz.prog laids w) false (World.laidAll Tryz.prog os laids) #[.agg #[.bool false, .int .u16 0, .int .u32 0, .bool false, .bool false, .bool false, .int .u32 0, .int .u32 0, .int .u32 0, .bool false], .slice none 0 0] 8 (World.laidAll_os _ _ _)
      (World.shaped_of_ZipB (by kernel_rfl) (by kernel_rfl)) (by kernel_rfl) (by kernel_rfl) (by kernel_rfl)
      (by rw [MakeChecks.laidMetH_plain _ _ _ (by kernel_rfl)]; exact laidMet_laidAll _ (by kernel_rfl) (by kernel_rfl))) ?_
  intro W base args ds gs before hval hW hsz0 _ hsh
  have hW' := hW
  obtain ⟨p, q, hA, hV, rfl, hfz, hnd⟩ := hW
  obtain ⟨rfl, rfl⟩ := trodVars_none hV
  obtain ⟨m, hm⟩ := Tryz.laysM143.s1_3 W hsh
  have hsz : (DataW.weightsEach Tryz.prog (Tryz.f4.params.toList ++ []) (ds ++ [])).all (· ≤ reachBytes) = true := hsz0
  rw [List.append_nil, List.append_nil] at hsz
  obtain ⟨xs, k1, k2⟩ := Go.Q.args_ok (n := 10) (base := base) tys_ok hA (fun j t v hj hv => hval j t v (by simpa using hj) (by simpa using hv)) (fun k hk => by simpa using List.all_eq_true.1 hsz k hk)
  have hl : xs.length = args.size := by simpa using k2.len
  letI : Go.Q.Known := kn m
  have hwalk := Go.Q.calls_true (P := Tryz.prog) (G := Go.Q.G) (L := Go.Q.Lw W) (w := W) (xs := xs) (fun f F _ hf => by
    obtain ⟨p, h1, h2⟩ := Go.Q.map_some' hf
    have h3 := List.find?_some h1
    have h4 := List.all_eq_true.1 checked p (List.mem_of_find?_eq_some h1)
    simp only [beq_iff_eq] at h3
    subst h3 h2
    exact ⟨p.2.2, h4⟩) (prims m) (fun p hp => by
      obtain rfl := List.mem_singleton.1 hp
      exact iterAll) (law xs k1) (vals := args) hl (fun i hi => by
    have := k2.get i hi (by simpa [hl] using hi)
    simpa using this) (fun c hc => Go.Q.Lw_fresh hc) (fun p hp => by
      obtain rfl := List.mem_singleton.1 hp
      exact ⟨Nat.lt_of_le_of_lt (Nat.zero_le _) (Go.Q.lt_Lw hm), hm⟩) (fun p hp => by cases hp)
  refine hwalk.mono fun e W' ⟨he, b1, b2, b3, b4, b5⟩ => ?_
  have bel : Below W.heap.size W W' := ⟨b1, b2, b3, b4, b5⟩
  subst he
  have hT := Go.Q.trodAll_below laid bel (by kernel_rfl) hA
  have hA2 : DataW.TrodAll enc Tryz.prog W 0 (fun _ => true) true Tryz.f4.params.toList args.toList ds p := hA
  rw [Tryz.params4] at hA2
  obtain ⟨v0, vs0, d0, ds0, p0, q0, hargs, rfl, rfl, h0, r0⟩ := trodAll_cons hA2
  obtain ⟨v1, vs1, d1, ds1, p1, q1, rfl, rfl, rfl, h1, r1⟩ := trodAll_cons r0
  obtain ⟨rfl, rfl, rfl⟩ := trodAll_nil r1
  exact ⟨_, rfl, _, _, _, [], _, [], hW', trodAll_mk1 (shut_bool Tryz.underlying4 _), hT, rfl, bel.frame _, fun h => by cases h⟩
theorem over : Rows.negoSendsRow.holds Tryz.pinned (OpenSpec.ofChange Rows.negoSendsSpec) :=
  OpenClaim.holds_of_wide 4 Tryz.f4 rfl rfl rfl rfl rfl rfl rfl ⟨rfl, rfl, rfl, rfl, rfl⟩ rfl rfl rfl rfl rfl (by kernel_rfl) Tryz.func4 (by kernel_rfl)
    (of_decide_eq_true (by kernel_rfl)) (by unfold Func.isWrapper; first | (rw [if_pos (by decide +kernel)]; kernel_rfl) | (rw [if_neg (by decide +kernel)]; exact ⟨rfl, rfl⟩))
    (fun os started H enc _ => lifted os started H enc)
theorem card : Rows.NegoSendsCardSaid :=
  Claim7.holds_tied_plain_at .later [] [.data, .pinned] true (true, "6b52515240120399a4b331de397e662cdb5fdf2c67aa7b6baf58e0ecc70cc33d") false over (fun _ h => by cases h) (by kernel_rfl) (fun _ h => by cases h) negoSends_row_tie rfl ⟨rfl, rfl⟩ (by kernel_rfl) rfl
    (fun f fn hf hfn => by
      obtain rfl : f = 4 := Option.some.inj ((show Tryz.prog.funcNamed Rows.negoSendsRow.func = some 4 by kernel_rfl).symm.trans hf) |>.symm
      obtain rfl : fn = Tryz.f4 := (Option.some.inj (Tryz.func4.symm.trans hfn)).symm
      exact ⟨by kernel_rfl, fun j t ht => by
        have hm := Array.mem_of_getElem? ht
        have hall : (Tryz.f4.params.toList.all fun u => !Tryz.prog.wantsStandIn u) = true := by kernel_rfl
        exact (show Tryz.prog.wantsStandIn t = false by simpa using List.all_eq_true.1 hall t (by simpa using hm))⟩)
    (by kernel_rfl)
#print axioms card
end Go.Proofs.YtmbdamompcdolaaGreatDoor.negoSends
namespace Go.Proofs.YtmbdamompcdolaaGreatDoor
theorem negoSends_holds : Rows.NegoSendsCardSaid := negoSends.card
end Go.Proofs.YtmbdamompcdolaaGreatDoor
