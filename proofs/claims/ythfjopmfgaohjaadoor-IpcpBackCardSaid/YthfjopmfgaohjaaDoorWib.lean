/- IpcpBack: what is laid is parsed, whatever padding stands behind; the sum of its head is 0; one bit turned in its head is found. No condition. -/
import Derived.Test.YthfjopmfgaohjaaDoorCards
import Derived.Test.YthfjopmfgaohjaaDoorTie
import Derived.Test.YthfjopmfgaohjaaDoorMe
import Derived.Test.YthfjopmfgaohjaaDoorWdi
import Derived.Test.YthfjopmfgaohjaaDoorEv3
import Derived.WalkKit
import Derived.ProofKit
import Derived.OpenShut
import Derived.ShutString
import Derived.ChangeOld
import Derived.Below
import Derived.Lay
import Derived.LaidMore
import Derived.SevenTiedAt
import Derived.Stop.Joined
set_option linter.all false
namespace Go.Proofs.YthfjopmfgaohjaaDoor.ipcpBack
open Go.ChangeShapes Go.WideShapes Go.ChangeAt Go.RowKit
set_option maxRecDepth 100000
abbrev tys : List (Bool × List Go.Q.CT) := [(true,[.int .u8, .int .u8, .int .u32, .int .u32, .slc false 1 [.int .u8]]), (false,[.slc false 1 [.int .u8]]), (false,[.int .u16])]
theorem tys_ok : Go.Q.argTs Tryd.prog 10 Tryd.f4.params.toList = some tys := by kernel_rfl
theorem law (xs : List Go.Q.V) (h : Go.Q.hasArgs tys xs) : Go.Q.run Go.Q.G 4 (xs.map .v) [] = some (.v (.bool true), []) := by
      simp only [Go.Q.hasArgs] at h
      obtain ⟨_, _, rfl, ax, _, _, rfl, ay, _, _, rfl, az, rfl⟩ := h
      simp only [Go.Q.hasCs] at ax
      obtain ⟨_, _, rfl, x1, _, _, rfl, x2, _, _, rfl, x3, _, _, rfl, x4, _, _, rfl, x5, rfl⟩ := ax
      obtain ⟨_, rfl, y1⟩ := Go.Q.one_of ay
      obtain ⟨_, rfl, z1⟩ := Go.Q.one_of az
      obtain ⟨a, rfl, ha⟩ := Go.Q.u8_of x1
      obtain ⟨b, rfl, hb⟩ := Go.Q.u8_of x2
      obtain ⟨c, rfl, hc⟩ := Go.Q.u32_of x3
      obtain ⟨d, rfl, hd⟩ := Go.Q.u32_of x4
      obtain ⟨l, rfl, hl, hl2⟩ := Go.Q.bytes_of x5
      obtain ⟨k, rfl, hk, hk2⟩ := Go.Q.bytes_of y1
      obtain ⟨n, rfl, hn⟩ := Go.Q.u16_of z1
      have := Go.Q.reach
      exact Go.Q.ipcpBack ⟨a, b, c, d, l⟩ k n ⟨ha, hb, hc, hd, hl⟩ hk (by show l.length ≤ _; omega) (by omega) hn
abbrev laids : List (String × DataW Unit) := Rows.ipcpBackRow.laid
theorem lifted (os : Os) (started : os.Started) (H : Type) (enc : TypeId × Value → H) :
    ReturnsInHanded {} Tryd.checked os 4 .any (fun w args => (Rows.ipcpBackSpec.pre enc Tryd.prog Tryd.f4 [] false w args ∧ laidMetH Tryd.prog laids w) ∧ sizedMet enc Tryd.prog Tryd.f4 (OpenSpec.ofChange Rows.ipcpBackSpec) false w args)
      (Rows.ipcpBackSpec.post enc Tryd.prog Tryd.f4 false true false false) := by
  refine returns_shaped (C := Tryd.checked) (X := fun w _ => laidMetH Tryd.prog laids w) (fun _ _ _ hh h => h.of_heap hh) own started (by kernel_rfl) Tryd.func4
    (ChangeSpec.witness_shaped (enc := enc) (C := Tryd.checked) (os := os) (X := fun w _ => laidMetH Tryd.prog laids w) false (World.laidAll Tryd.prog os laids) #[.agg #[.int .u8 0, .int .u8 0, .int .u32 0, .int .u32 0, .slice none 0 0], .slice none 0 0, .int .u16 0] 8 (World.laidAll_os _ _ _)
      (World.shaped_of_ZipB (by kernel_rfl) (by kernel_rfl)) (by kernel_rfl) (by kernel_rfl) (by kernel_rfl)
      (by rw [MakeChecks.laidMetH_plain _ _ _ (by kernel_rfl)]; exact laidMet_laidAll _ (by kernel_rfl) (by kernel_rfl))) ?_
  intro W base args ds gs before hval hW hsz0 hX hsh
  have hW' := hW
  obtain ⟨p, q, hA, hV, rfl, hfz, hnd⟩ := hW
  obtain ⟨rfl, rfl⟩ := trodVars_none hV
  have hL := hX
  rw [MakeChecks.laidMetH_plain _ _ _ (by kernel_rfl)] at hL
  obtain ⟨m, hm⟩ := Tryd.laysM143.s1_3 W hsh
  have hsz : (DataW.weightsEach Tryd.prog (Tryd.f4.params.toList ++ []) (ds ++ [])).all (· ≤ reachBytes) = true := hsz0
  rw [List.append_nil, List.append_nil] at hsz
  obtain ⟨xs, k1, k2⟩ := Go.Q.args_ok (n := 10) (base := base) tys_ok hA (fun j t v hj hv => hval j t v (by simpa using hj) (by simpa using hv)) (fun k hk => by simpa using List.all_eq_true.1 hsz k hk)
  have hl : xs.length = args.size := by simpa using k2.len
  letI : Go.Q.Known := kn m
  have hwalk := Go.Q.calls_true (P := Tryd.prog) (G := Go.Q.G) (L := Go.Q.Lw W) (w := W) (xs := xs) (fun f F _ hf => by
    obtain ⟨p, h1, h2⟩ := Go.Q.map_some' hf
    have h3 := List.find?_some h1
    have h4 := List.all_eq_true.1 checked p (List.mem_of_find?_eq_some h1)
    simp only [beq_iff_eq] at h3
    subst h3 h2
    exact ⟨p.2.2, h4⟩) (prims m) (iters m) (law xs k1) (vals := args) hl (fun i hi => by
    have := k2.get i hi (by simpa [hl] using hi)
    simpa using this) (fun c hc => Go.Q.Lw_fresh hc) (fun p hp => by
      obtain rfl := List.mem_singleton.1 hp
      exact ⟨Nat.lt_of_le_of_lt (Nat.zero_le _) (Go.Q.lt_Lw hm), hm⟩) (fun p hp => by cases hp)
  refine hwalk.mono fun e W' ⟨he, b1, b2, b3, b4, b5⟩ => ?_
  have bel : Below W.heap.size W W' := ⟨b1, b2, b3, b4, b5⟩
  subst he
  have hT := Go.Q.trodAll_below laid bel (by kernel_rfl) hA
  have hA2 : DataW.TrodAll enc Tryd.prog W 0 (fun _ => true) true Tryd.f4.params.toList args.toList ds p := hA
  rw [Tryd.params4] at hA2
  obtain ⟨v0, vs0, d0, ds0, p0, q0, hargs, rfl, rfl, h0, r0⟩ := trodAll_cons hA2
  obtain ⟨v1, vs1, d1, ds1, p1, q1, rfl, rfl, rfl, h1, r1⟩ := trodAll_cons r0
  obtain ⟨v2, vs2, d2, ds2, p2, q2, rfl, rfl, rfl, h2, r2⟩ := trodAll_cons r1
  obtain ⟨rfl, rfl, rfl⟩ := trodAll_nil r2
  exact ⟨_, rfl, _, _, _, [], _, [], hW', trodAll_mk1 (shut_bool Tryd.underlying4 _), hT, rfl, bel.frame _, fun h => by cases h⟩
theorem over : Rows.ipcpBackRow.holds Tryd.pinned (OpenSpec.ofChange Rows.ipcpBackSpec) :=
  OpenClaim.holds_of_wide 4 Tryd.f4 rfl rfl rfl rfl rfl rfl rfl ⟨rfl, rfl, rfl, rfl, rfl⟩ rfl rfl rfl rfl rfl (by kernel_rfl) Tryd.func4 (by kernel_rfl)
    (of_decide_eq_true (by kernel_rfl)) (by unfold Func.isWrapper; first | (rw [if_pos (by decide +kernel)]; kernel_rfl) | (rw [if_neg (by decide +kernel)]; exact ⟨rfl, rfl⟩))
    (fun os started H enc _ => lifted os started H enc)
theorem card : Rows.IpcpBackCardSaid :=
  Claim7.holds_tied_plain_at .later [] [.data, .pinned] true (true, "63da9b95ca2b8de4dcca1e49b464a63674fa16383acad7daa6dec43b732e60c6") false over (fun _ h => by cases h) (by kernel_rfl) (fun _ h => by cases h) ipcpBack_row_tie rfl ⟨rfl, rfl⟩ (by kernel_rfl) rfl
    (fun f fn hf hfn => by
      obtain rfl : f = 4 := Option.some.inj ((show Tryd.prog.funcNamed Rows.ipcpBackRow.func = some 4 by kernel_rfl).symm.trans hf) |>.symm
      obtain rfl : fn = Tryd.f4 := (Option.some.inj (Tryd.func4.symm.trans hfn)).symm
      exact ⟨by kernel_rfl, fun j t ht => by
        have hm := Array.mem_of_getElem? ht
        have hall : (Tryd.f4.params.toList.all fun u => !Tryd.prog.wantsStandIn u) = true := by kernel_rfl
        exact (show Tryd.prog.wantsStandIn t = false by simpa using List.all_eq_true.1 hall t (by simpa using hm))⟩)
    (by kernel_rfl)
#print axioms card
end Go.Proofs.YthfjopmfgaohjaaDoor.ipcpBack
namespace Go.Proofs.YthfjopmfgaohjaaDoor
theorem ipcpBack_holds : Rows.IpcpBackCardSaid := ipcpBack.card
end Go.Proofs.YthfjopmfgaohjaaDoor
