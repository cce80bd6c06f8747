/- LcpoWants: what one asks for, what any options ask for, and what one wants behind any that were naked, or rejected, is the document's. No condition. -/
import Derived.Test.YthldpjhmhjhpeaaRows
import Derived.Test.YthldpjhmhjhpeaaLw
import Derived.Test.YthldpjhmhjhpeaaEv5
import Derived.Test.YthldpjhmhjhpeaaBr
import Derived.Test.YthldpjhmhjhpeaaBx
import Derived.WalkKit
import Derived.ProofKit
import Derived.OpenShut
import Derived.ShutString
import Derived.ChangeOld
import Derived.Below
import Derived.SizedLaws
namespace Go.Proofs.Ythldpjhmhjhpeaa.lcpoWants
open Go.ChangeShapes Go.WideShapes Go.ChangeAt Go.RowKit
set_option linter.unusedVariables false
set_option maxRecDepth 100000
theorem checked : Go.Q.fns.all (fun p => Go.Q.chkFn Try.prog p.1 p.2.1 p.2.2) = true := by decide +kernel
abbrev tys : List (Bool × List Go.Q.CT) := [(true,[.int .u16, .int .u32, .bool]), (false,[.slc true 32 [.int .u8, .slc false 1 [.int .u8]]]), (false,[.int .u32])]
theorem tys_ok : Go.Q.argTs Try.prog 10 Try.f3.params.toList = some tys := by kernel_rfl
theorem law (xs : List Go.Q.V) (h : Go.Q.hasArgs tys xs) : Go.Q.run Go.Q.G 3 (xs.map .v) [] = some (.v (.bool true), []) := by
    simp only [Go.Q.hasArgs] at h
    obtain ⟨_, _, rfl, ax, _, _, rfl, ay, _, _, rfl, az, rfl⟩ := h
    obtain ⟨_, _, _, rfl, x1, x2, x3⟩ := Go.Q.three_of ax
    obtain ⟨_, rfl, y1⟩ := Go.Q.one_of ay
    obtain ⟨_, rfl, z1⟩ := Go.Q.one_of az
    obtain ⟨m, rfl, hm⟩ := Go.Q.u16_of x1
    obtain ⟨g, rfl, hg⟩ := Go.Q.u32_of x2
    obtain ⟨p, rfl⟩ := Go.Q.bool_of x3
    obtain ⟨l, rfl, hl, hl2⟩ := Go.Q.opts_of y1
    obtain ⟨b, rfl, hb⟩ := Go.Q.u32_of z1
    have := Go.Q.reach
    exact Go.Q.lcpoWants (m, g, p) l b ⟨hm, hg⟩ hl (by omega)
theorem own : ownKnob Try.prog.godebug = none := by kernel_rfl
theorem laid : laidOutB Try.prog = true := by kernel_rfl
theorem lifted (os : Os) (started : os.Started) (H : Type) (enc : TypeId × Value → H) :
    ReturnsInHanded {} Try.checked os 3 .any (Rows.lcpoWantsSpec.pre6 enc Try.prog Try.f3 Rows.lcpoWantsRow.domain false) (Rows.lcpoWantsSpec.post enc Try.prog Try.f3 false true false false) := by
  refine returnsInHanded_of_change_sized (C := Try.checked) own started (by kernel_rfl) Try.func3
    (ChangeSpec.witness6 (enc := enc) (C := Try.checked) false ⟨#[], #[.agg #[.int .u16 0, .int .u32 0, .bool false], .slice none 0 0, .int .u32 0], []⟩ 8 (by kernel_rfl) (by kernel_rfl) (by kernel_rfl) (by kernel_rfl)) ?_
  intro W base args ds gs before hval hW hcnd hsz0 _
  have hW' := hW
  obtain ⟨p, q, hA, hV, rfl, hfz, hnd⟩ := hW
  obtain ⟨rfl, rfl⟩ := trodVars_none hV
  have hsz : (DataW.weightsEach Try.prog (Try.f3.params.toList ++ []) (ds ++ [])).all (· ≤ reachBytes) = true := hsz0
  rw [List.append_nil, List.append_nil] at hsz
  obtain ⟨xs, k1, k2⟩ := Go.Q.args_ok (n := 10) (base := base) tys_ok hA (fun j t v hj hv => hval j t v (by simpa using hj) (by simpa using hv)) (fun k hk => by simpa using List.all_eq_true.1 hsz k hk)
  have hl : xs.length = args.size := by simpa using k2.len
  letI : Go.Q.Known := ⟨[]⟩
  have hwalk := Go.Q.calls_true (P := Try.prog) (G := Go.Q.G) (L := Go.Q.Lw W) (w := W) (xs := xs) (fun f F _ hf => by
    obtain ⟨p, h1, h2⟩ := Go.Q.map_some' hf
    have h3 := List.find?_some h1
    have h4 := List.all_eq_true.1 checked p (List.mem_of_find?_eq_some h1)
    simp only [beq_iff_eq] at h3
    subst h3 h2
    exact ⟨p.2.2, h4⟩) (fun f F hp => by cases hp) (law xs k1) (vals := args) hl (fun i hi => by
    have := k2.get i hi (by simpa [hl] using hi)
    simpa using this) (fun c hc => Go.Q.Lw_fresh hc) (fun p hp => by cases hp)
  refine hwalk.mono fun e W' ⟨he, b1, b2, b3, b4, b5⟩ => ?_
  have bel : Below W.heap.size W W' := ⟨b1, b2, b3, b4, b5⟩
  subst he
  have hT := Go.Q.trodAll_below laid bel (by kernel_rfl) hA
  have hA2 : DataW.TrodAll enc Try.prog W 0 (fun _ => true) true Try.f3.params.toList args.toList ds p := hA
  rw [Try.params3] at hA2
  obtain ⟨v0, vs0, d0, ds0, p0, q0, hargs, rfl, rfl, h0, r0⟩ := trodAll_cons hA2
  obtain ⟨v1, vs1, d1, ds1, p1, q1, rfl, rfl, rfl, h1, r1⟩ := trodAll_cons r0
  obtain ⟨v2, vs2, d2, ds2, p2, q2, rfl, rfl, rfl, h2, r2⟩ := trodAll_cons r1
  obtain ⟨rfl, rfl, rfl⟩ := trodAll_nil r2
  exact ⟨_, rfl, _, _, _, [], _, [], hW', trodAll_mk1 (shut_bool Try.underlying4 _), hT, rfl, bel.frame _, fun h => by cases h⟩
theorem over : Rows.lcpoWantsRow.holds Try.pinned (OpenSpec.ofChange Rows.lcpoWantsSpec) :=
  OpenClaim.holds_of_wide 3 Try.f3 rfl rfl rfl rfl rfl rfl rfl ⟨rfl, rfl, rfl, rfl, rfl⟩ rfl rfl rfl rfl rfl (by kernel_rfl) Try.func3 (by kernel_rfl)
    (of_decide_eq_true (by kernel_rfl)) (by unfold Func.isWrapper; first | (rw [if_pos (by decide +kernel)]; kernel_rfl) | (rw [if_neg (by decide +kernel)]; exact ⟨rfl, rfl⟩))
    (fun os started H enc _ => lifted os started H enc)
theorem proved : Rows.LcpoWantsSaid := over
#print axioms proved
end Go.Proofs.Ythldpjhmhjhpeaa.lcpoWants
namespace Go.Proofs.Ythldpjhmhjhpeaa
/-- The row, under a short name, for the claim. -/
theorem lcpoWants_holds : Rows.LcpoWantsSaid := lcpoWants.proved
end Go.Proofs.Ythldpjhmhjhpeaa
