import Derived.Test.YtjglogffdihahaaRows
import Derived.Test.YtjglogffdihahaaLa
import Derived.Test.YtjglogffdihahaaEv5
import Derived.WalkKit
import Derived.ProofKit
import Derived.OpenShut
import Derived.ShutString
import Derived.ChangeOld
import Derived.Below
import Derived.SizedLaws
namespace Go.Proofs.Ytjglogffdihahaa.retryCounts
open Go.ChangeShapes Go.WideShapes Go.ChangeAt Go.RowKit
open Go.ChangeMaps (open_string shut_string)
set_option linter.unusedVariables false
theorem u8_of {a : Int} (h : (Lit.int .u8 a).wf = true) : 0 ≤ a ∧ a ≤ 255 := by
  have h1 : IntKind.u8.min = 0 := by decide
  have h2 : IntKind.u8.max = 255 := by decide
  simp [Lit.wf, h1, h2] at h
  omega
theorem checked : Go.Q.fns.all (fun p => Go.Q.chkFn Try.prog p.1 p.2.1 p.2.2) = true := by decide +kernel
theorem walk (a0 : Bool) (a1 : Int) (W : World) (h : 0 ≤ a1 ∧ a1 ≤ 255) : Calls Try.prog 3 #[.bool a0, .int .u8 a1] W fun e W' => e = .returned (.bool true) ∧ Below W.heap.size W W' := by
  refine (Go.Q.calls_true (G := Go.Q.G) (L := fun _ => 0) (xs := [.bool a0, .int .u8 a1]) (fun f F _ hf => ?_) (fun f F hp => by cases hp) (Go.Q.law a0 a1 h.1 h.2) (vals := #[.bool a0, .int .u8 a1]) rfl (fun i hi => ?_) (fun _ _ => rfl)).mono fun e W' ⟨he, b1, b2, b3, b4, b5⟩ => ⟨he, ⟨b1, b2, b3, b4, b5⟩⟩
  · obtain ⟨p, h1, h2⟩ := Go.Q.map_some' hf
    have h3 := List.find?_some h1
    have h4 := List.all_eq_true.1 checked p (List.mem_of_find?_eq_some h1)
    simp only [beq_iff_eq] at h3
    subst h3 h2
    exact ⟨p.2.2, h4⟩
  · match i, hi with
    | 0, _ => exact .bool a0
    | 1, _ => exact .int .u8 a1
theorem own : ownKnob Try.prog.godebug = none := by kernel_rfl
set_option maxRecDepth 100000 in
theorem lifted (os : Os) (started : os.Started) (H : Type) (enc : TypeId × Value → H) :
    ReturnsInHanded {} Try.checked os 3 .any (Rows.retryCountsSpec.pre6 enc Try.prog Try.f3 Rows.retryCountsRow.domain false) (Rows.retryCountsSpec.post enc Try.prog Try.f3 false true false false) := by
  refine returnsInHanded_of_change_sized (C := Try.checked) own started (by kernel_rfl) Try.func3
    (ChangeSpec.witness6 (enc := enc) (C := Try.checked) false ⟨#[], #[.bool false, .int .u8 0], []⟩ 8 (by kernel_rfl) (by kernel_rfl) (by kernel_rfl) (by kernel_rfl)) ?_
  intro W base args ds gs before hval0 hW hcnd hsz0 _
  have hsz : (DataW.weightsEach Try.prog (Try.f3.params.toList ++ Rows.retryCountsSpec.plain.varTypes Try.prog) (ds ++ gs)).all (· ≤ reachBytes) = true := hsz0
  have hval : ∀ (j : Nat) t v, Try.f3.params[j]? = some t → args[j]? = some v → Value.okWide Try.prog W .any base t v := hval0
  have hW' := hW
  obtain ⟨p, q, hA0, hV, rfl, hfz, hnd⟩ := hW
  have hA : DataW.TrodAll enc Try.prog W 0 (fun _ => true) true Try.f3.params.toList args.toList ds p := hA0
  rw [Try.params3] at hA hval hsz
  obtain ⟨v0, vs0, d0, ds0, p0, q0, hargs, rfl, rfl, h0, r0⟩ := trodAll_cons hA
  obtain ⟨v1, vs1, d1, ds1, p1, q1, rfl, rfl, rfl, h1, r1⟩ := trodAll_cons r0
  obtain ⟨rfl, rfl, rfl⟩ := trodAll_nil r1
  obtain rfl : args = #[v0, v1] := by cases args; simp_all
  obtain ⟨rfl, rfl⟩ := trodVars_none hV
  obtain ⟨a0, rfl, rfl, rfl⟩ := open_bool Try.underlying4 (hval 0 4 v0 rfl rfl) h0
  obtain ⟨a1, rfl, rfl, rfl, w1⟩ := open_int Try.underlying5 (hval 1 5 v1 rfl rfl) h1
  clear hA0 hval0 hsz0 hsz
  refine (walk a0 a1 W (u8_of w1)).mono fun e W' ⟨he, bel⟩ => ?_
  subst he
  exact ⟨_, rfl, _, _, _, [], _, [], hW', trodAll_mk1 (shut_bool Try.underlying4 _), (trodAll_cons_mk (shut_bool Try.underlying4 _) (trodAll_cons_mk (shut_int Try.underlying5 w1) trodAll_mk0)), rfl, bel.frame _, fun h => by cases h⟩
theorem over : Rows.retryCountsRow.holds Try.pinned (OpenSpec.ofChange Rows.retryCountsSpec) :=
  OpenClaim.holds_of_wide 3 Try.f3 rfl rfl rfl rfl rfl rfl rfl ⟨rfl, rfl, rfl, rfl, rfl⟩ rfl rfl rfl rfl rfl (by kernel_rfl) Try.func3 (by kernel_rfl)
    (of_decide_eq_true (by kernel_rfl)) (by unfold Func.isWrapper; first | (rw [if_pos (by decide +kernel)]; kernel_rfl) | (rw [if_neg (by decide +kernel)]; exact ⟨rfl, rfl⟩))
    (fun os started H enc _ => lifted os started H enc)
theorem proved : Rows.RetryCountsSaid := over
#print axioms proved
end Go.Proofs.Ytjglogffdihahaa.retryCounts
namespace Go.Proofs.Ytjglogffdihahaa
/-- The row, under a short name, for the claim. -/
theorem retryCounts_holds : Rows.RetryCountsSaid := retryCounts.proved
end Go.Proofs.Ytjglogffdihahaa
