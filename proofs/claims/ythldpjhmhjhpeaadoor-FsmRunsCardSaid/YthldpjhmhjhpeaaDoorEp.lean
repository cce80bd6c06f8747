/- Functions that are told by a word of their own: how a contract is such a word. No condition. -/
import Derived.Test.YthldpjhmhjhpeaaDoorEv5
import Derived.Test.YthldpjhmhjhpeaaDoorEpd
import Derived.Lib.SplitLaws
import Derived.Lib.Strings
set_option linter.unusedVariables false
set_option linter.unusedSimpArgs false
set_option linter.unusedSectionVars false
namespace Go.Q
variable [Known]
section
variable {P : Program} {w : World} {g : Gh} {st : St}

theorem back_same {r : D} {v : Value} (hS : RelS w g st) (hr : ∀ pl, RelD w g pl r v) (hown : ∀ b p, g.own b = some p → p.isCell = true) : Back w g w g r st v :=
  ⟨Ext.refl w g, hS, hr _, fun b p hb => .inl (hown b p hb)⟩
theorem back_strs (ss : List ByteArray) (t : TypeId) (hS : RelS w g st) (hown : ∀ b p, g.own b = some p → p.isCell = true) :
    ∃ g', Back w g (w.alloc (.cells (ss.map Value.string).toArray t)) g' (.lin 1 (ss.map fun b => V.str b.data.toList)) st (.slice (some ⟨w.heap.size, 0, none⟩) ss.length ss.length) := by
  have hG := Gh.grow_new (o := .cells (ss.map Value.string).toArray t) (L := ss.length) (p := none) hS (by simp) 0
  rw [drewN_zero] at hG
  refine ⟨g.new w.heap.size ss.length none, hG.ext hS, hG.relS hS (fun r => Iff.rfl), ?_, fun b p hb => ?_⟩
  · refine .lin _ _ _ _ ?_ (.inl rfl)
    have hl : (ss.map fun b => V.str b.data.toList).length = ss.length := by simp
    rw [← hl]
    refine .slc 1 _ _ 0 _ (fun i j => .string (ss.getD i ByteArray.empty)) (by rw [hl]; exact Nat.le_refl _) (fun i hi => by simp [cellsV]) (fun i j hi hj => ?_) (fun i j hi hj => ?_) (fun i hi j hj => ?_) (fun i hi j hj => ?_)
    · simp only [Gh.new, if_true]; simp at hi; omega
    · have hi' : i < ss.length := by simpa using hi
      have e : (0 : Nat) + i * 1 + j = i := by omega
      rw [e, World.cell?_alloc_new, List.getElem?_toArray, List.getElem?_map, List.getElem?_eq_getElem hi']
      simp [List.getD, hi']
    · simp only [List.getElem_map, cellsV] at hj ⊢
      have : j = 0 := by simpa using hj
      subst this; rfl
    · have hi' : i < ss.length := by simpa using hi
      simp only [List.getElem_map, cellsV] at hj ⊢
      have : j = 0 := by simpa using hj
      subst this
      simp only [List.getElem_cons_zero, List.getD_eq_getElem?_getD, List.getElem?_eq_getElem hi', Option.getD_some]
      exact .str _
  · simp only [Gh.new] at hb
    split at hb
    · cases hb
    · exact .inl (hown b p hb)
theorem strOfD {pl : Nat → Pl} {s : List UInt8} {v : Value} (h : RelD w g pl (.v (.str s)) v) : ∃ b : ByteArray, v = .string b ∧ b.data.toList = s := strOf h
theorem primSS_ok {f : Nat} {φ : List UInt8 → List UInt8 → Option V} (hf : FnOk P f) (hc : ∀ (s t : ByteArray) (x : V) (w : World), s.size < 4294967281 → φ s.data.toList t.data.toList = some x → (∀ p ∈ Known.gl, w.cell? ⟨p.1, 0, none⟩ = some p.2) →
    Calls P f #[.string s, .string t] w fun e w' => ∃ v, e = .returned v ∧ w' = w ∧ ∀ L, RelV w L x v) : PrimOk P f (primSS φ) := by
  intro args st r h
  unfold primSS at h
  split at h <;> first | (cases h; done) | skip
  rename_i s t st
  split at h <;> first | (cases h; done) | skip
  rename_i hlen
  obtain ⟨x, hx, rfl⟩ := map_some' h
  refine ⟨rfl, hf, fun vals w g hl hv hS hown => ?_⟩
  obtain ⟨a, h1, rfl⟩ := strOf (hv 0 (by simp))
  obtain ⟨b, h2, rfl⟩ := strOf (hv 1 (by simp))
  have e : vals = #[.string a, .string b] := by
    apply Array.ext
    · simp at hl; simp [← hl]
    · intro i hi hj
      have : i = 0 ∨ i = 1 := by simp at hj; omega
      rcases this with rfl | rfl
      · exact h1
      · exact h2
  subst e
  refine (hc a b x w (by rw [Lib.size_eq]; exact hlen) hx (fun p hp => (hS.gl p hp).2)).mono fun e w' ⟨v, he, hw, hr⟩ => ?_
  subst hw
  exact ⟨v, g, he, back_same hS (fun pl => .v _ _ _ (hr _)) hown⟩
theorem primSplit_ok {f : Nat} {φ : List UInt8 → List UInt8 → Option (List (List UInt8))} (hf : FnOk P f) (hc : ∀ (s t : ByteArray) (l : List (List UInt8)) (w : World), s.size < 4294967281 → φ s.data.toList t.data.toList = some l → (∀ p ∈ Known.gl, w.cell? ⟨p.1, 0, none⟩ = some p.2) →
    ∃ (ss : List ByteArray) (ty : TypeId), l = ss.map (·.data.toList) ∧ Calls P f #[.string s, .string t] w fun e w' => e = .returned (.slice (some ⟨w.heap.size, 0, none⟩) ss.length ss.length) ∧ w' = w.alloc (.cells (ss.map Value.string).toArray ty)) : PrimOk P f (primSplit φ) := by
  intro args st r h
  unfold primSplit at h
  split at h <;> first | (cases h; done) | skip
  rename_i s t st
  split at h <;> first | (cases h; done) | skip
  rename_i hlen
  obtain ⟨l, hx, rfl⟩ := map_some' h
  refine ⟨rfl, hf, fun vals w g hl hv hS hown => ?_⟩
  obtain ⟨a, h1, rfl⟩ := strOf (hv 0 (by simp))
  obtain ⟨b, h2, rfl⟩ := strOf (hv 1 (by simp))
  have e : vals = #[.string a, .string b] := by
    apply Array.ext
    · simp at hl; simp [← hl]
    · intro i hi hj
      have : i = 0 ∨ i = 1 := by simp at hj; omega
      rcases this with rfl | rfl
      · exact h1
      · exact h2
  subst e
  obtain ⟨ss, ty, rfl, hC⟩ := hc a b l w (by rw [Lib.size_eq]; exact hlen) hx (fun p hp => (hS.gl p hp).2)
  obtain ⟨g', B⟩ := back_strs ss ty hS hown
  refine hC.mono fun e w' ⟨he, hw⟩ => ?_
  subst hw
  exact ⟨_, g', he, by rw [List.map_map]; exact B⟩
end
end Go.Q
