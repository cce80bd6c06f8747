/- Functions that are told by a word of their own: how a contract is such a word. No condition. -/
import Derived.Test.YthfjopmfgaohjaaDoorEv3
import Derived.Test.YthfjopmfgaohjaaDoorEpd
import Derived.Lib.SplitLaws
import Derived.Lib.Strings
import Derived.Below
set_option linter.all false
namespace Go.Q
variable [Known]
section
variable {P : Program} {w : World} {g : Gh} {st : St}

theorem back_same {r : D} {v : Value} (hS : RelS w g st) (hr : ∀ pl, RelD w g pl r v) (hown : ∀ b p, g.own b = some p → p.isCell = true) : Back w g w g r st v :=
  ⟨Ext.refl w g, hS, hr _, fun b p hb => .inl (hown b p hb)⟩
theorem back_strs (ss : List ByteArray) (t : TypeId) (hS : RelS w g st) (hown : ∀ b p, g.own b = some p → p.isCell = true) :
    ∃ g', Back w g (w.alloc (.cells (ss.map Value.string).toArray t)) g' (.lin 1 (ss.map fun b => V.str b.data.toList)) st (.slice (some ⟨w.heap.size, 0, none⟩) ss.length ss.length) := by
  have hG := Gh.grow_new (o := .cells (ss.map Value.string).toArray t) (L := ss.length) (p := none) hS (by simp) 0
  rw [drewN_zero] at hG
  refine ⟨g.new w.heap.size ss.length none, hG.ext hS, hG.relS hS (fun r => Iff.rfl), ?_, fun b p hb => ?_⟩
  · refine .lin _ _ _ _ ?_ (.inl rfl)
    have hl : (ss.map fun b => V.str b.data.toList).length = ss.length := by simp
    rw [← hl]
    refine .slc 1 _ _ 0 _ (fun i j => .string (ss.getD i ByteArray.empty)) (by rw [hl]; exact Nat.le_refl _) (fun i hi => by simp [cellsV]) (fun i j hi hj => ?_) (fun i j hi hj => ?_) (fun i hi j hj => ?_) (fun i hi j hj => ?_)
    · simp only [Gh.new, if_true]; simp at hi; omega
    · have hi' : i < ss.length := by simpa using hi
      have e : (0 : Nat) + i * 1 + j = i := by omega
      rw [e, World.cell?_alloc_new, List.getElem?_toArray, List.getElem?_map, List.getElem?_eq_getElem hi']
      simp [List.getD, hi']
    · simp only [List.getElem_map, cellsV] at hj ⊢
      have : j = 0 := by simpa using hj
      subst this; rfl
    · have hi' : i < ss.length := by simpa using hi
      simp only [List.getElem_map, cellsV] at hj ⊢
      have : j = 0 := by simpa using hj
      subst this
      simp only [List.getElem_cons_zero, List.getD_eq_getElem?_getD, List.getElem?_eq_getElem hi', Option.getD_some]
      exact .str _
  · simp only [Gh.new] at hb
    split at hb
    · cases hb
    · exact .inl (hown b p hb)
theorem strOfD {pl : Nat → Pl} {s : List UInt8} {v : Value} (h : RelD w g pl (.v (.str s)) v) : ∃ b : ByteArray, v = .string b ∧ b.data.toList = s := strOf h
theorem primSS_ok {f : Nat} {φ : List UInt8 → List UInt8 → Option V} (hf : FnOk P f) (hc : ∀ (s t : ByteArray) (x : V) (w : World), s.size < 4294967281 → φ s.data.toList t.data.toList = some x → (∀ p ∈ Known.gl, w.cell? ⟨p.1, p.2.1, none⟩ = some p.2.2) →
    Calls P f #[.string s, .string t] w fun e w' => ∃ v, e = .returned v ∧ w' = w ∧ ∀ L, RelV w L x v) : PrimOk P f (primSS φ) := by
  intro args st r h
  unfold primSS at h
  split at h <;> first | (cases h; done) | skip
  rename_i s t st
  split at h <;> first | (cases h; done) | skip
  rename_i hlen
  obtain ⟨x, hx, rfl⟩ := map_some' h
  refine ⟨rfl, hf, fun vals w g hl hv hS hown => ?_⟩
  obtain ⟨a, h1, rfl⟩ := strOf (hv 0 (by simp))
  obtain ⟨b, h2, rfl⟩ := strOf (hv 1 (by simp))
  have e : vals = #[.string a, .string b] := by
    apply Array.ext
    · simp at hl; simp [← hl]
    · intro i hi hj
      have : i = 0 ∨ i = 1 := by simp at hj; omega
      rcases this with rfl | rfl
      · exact h1
      · exact h2
  subst e
  refine (hc a b x w (by rw [Lib.size_eq]; exact hlen) hx (fun p hp => (hS.gl.1 p hp).2)).mono fun e w' ⟨v, he, hw, hr⟩ => ?_
  subst hw
  exact ⟨v, g, he, back_same hS (fun pl => .v _ _ _ (hr _)) hown⟩
theorem primSplit_ok {f : Nat} {φ : List UInt8 → List UInt8 → Option (List (List UInt8))} (hf : FnOk P f) (hc : ∀ (s t : ByteArray) (l : List (List UInt8)) (w : World), s.size < 4294967281 → φ s.data.toList t.data.toList = some l → (∀ p ∈ Known.gl, w.cell? ⟨p.1, p.2.1, none⟩ = some p.2.2) →
    ∃ (ss : List ByteArray) (ty : TypeId), l = ss.map (·.data.toList) ∧ Calls P f #[.string s, .string t] w fun e w' => e = .returned (.slice (some ⟨w.heap.size, 0, none⟩) ss.length ss.length) ∧ w' = w.alloc (.cells (ss.map Value.string).toArray ty)) : PrimOk P f (primSplit φ) := by
  intro args st r h
  unfold primSplit at h
  split at h <;> first | (cases h; done) | skip
  rename_i s t st
  split at h <;> first | (cases h; done) | skip
  rename_i hlen
  obtain ⟨l, hx, rfl⟩ := map_some' h
  refine ⟨rfl, hf, fun vals w g hl hv hS hown => ?_⟩
  obtain ⟨a, h1, rfl⟩ := strOf (hv 0 (by simp))
  obtain ⟨b, h2, rfl⟩ := strOf (hv 1 (by simp))
  have e : vals = #[.string a, .string b] := by
    apply Array.ext
    · simp at hl; simp [← hl]
    · intro i hi hj
      have : i = 0 ∨ i = 1 := by simp at hj; omega
      rcases this with rfl | rfl
      · exact h1
      · exact h2
  subst e
  obtain ⟨ss, ty, rfl, hC⟩ := hc a b l w (by rw [Lib.size_eq]; exact hlen) hx (fun p hp => (hS.gl.1 p hp).2)
  obtain ⟨g', B⟩ := back_strs ss ty hS hown
  refine hC.mono fun e w' ⟨he, hw⟩ => ?_
  subst hw
  exact ⟨_, g', he, by rw [List.map_map]; exact B⟩
theorem grow_below {w' : World} (hb : RowKit.Below w.heap.size w w') (hS : RelS w g st) : Grow w w' g g where
  os := hb.os
  tape := hb.tape
  output := hb.output
  size := hb.size
  heap := hb.block
  L := fun _ _ => rfl
  M := fun _ _ => Iff.rfl
  own := fun _ _ => rfl
  refs := fun r hr => ⟨hr, rfl, rfl, rfl, rfl⟩
  own' := fun b p hb h => absurd (hS.own b p h).2 (by omega)
  fresh := fun b h => hS.fresh b (Nat.le_trans hb.size h)
theorem back_below {w' : World} {r : D} {v : Value} (hb : RowKit.Below w.heap.size w w') (hS : RelS w g st) (hr : ∀ pl, RelD w' g pl r v) (hown : ∀ b p, g.own b = some p → p.isCell = true) : Back w g w' g r st v :=
  ⟨(grow_below hb hS).ext hS, (grow_below hb hS).relS hS (fun _ => Iff.rfl), hr _, fun b p h => .inl (hown b p h)⟩
theorem allV_at : ∀ {ds : List D} {xs : List V}, allV ds = some xs → ds = xs.map .v
  | [], xs, h => by simp only [allV] at h; cases h; rfl
  | d :: ds, xs, h => by
    cases d <;> simp only [allV] at h <;> first | (cases h; done) | skip
    obtain ⟨ys, h1, rfl⟩ := map_some' h
    rw [allV_at h1]; rfl
theorem primPure_ok {f : Nat} {φ : List V → Option D} (hf : FnOk P f) (hc : ∀ (xs : List V) (d : D) (vals : Array Value) (w : World) (g : Gh) (hl : xs.length = vals.size), φ xs = some d → (∀ i (h : i < xs.length), RelV w g.L xs[i] (vals[i]'(hl ▸ h))) →
    (∀ b, w.heap.size ≤ b → g.L b = 0) → KnownOk w g → Calls P f vals w fun e w' => ∃ v, e = .returned v ∧ RowKit.Below w.heap.size w w' ∧ ∀ pl, RelD w' g pl d v) : PrimOk P f (primPure φ) := by
  intro args st r h
  unfold primPure at h
  obtain ⟨xs, h1, h2⟩ := bind_some' h
  obtain ⟨d, h3, rfl⟩ := map_some' h2
  have ha := allV_at h1
  subst ha
  refine ⟨rfl, hf, fun vals w g hl hv hS hown => ?_⟩
  have hl' : xs.length = vals.size := by simpa using hl
  refine (hc xs d vals w g hl' h3 (fun i hi => ?_) (fun b hb => (hS.fresh b hb).1) hS.gl).mono fun e w' ⟨v, he, hb, hr⟩ => ⟨v, g, he, back_below hb hS hr hown⟩
  have := hv i (by simpa using hi)
  simp only [List.getElem_map] at this
  exact this.toV
theorem itoa_ok {f : Nat} (hf : FnOk P f) (hc : ∀ (n : Int) (w : World), -9223372036854775808 ≤ n → n ≤ 9223372036854775807 → (∀ p ∈ Known.bl, w.heap[p.1]? = some p.2) →
    Calls P f #[.int .i64 n] w fun e w' => e = .returned (.string ⟨(Lib.itoa n).toArray⟩) ∧ RowKit.Below w.heap.size w w') : PrimOk P f (primPure itoaF) := by
  refine primPure_ok hf fun xs d vals w g hl hx hv _ hk => ?_
  unfold itoaF at hx
  split at hx <;> first | (cases hx; done) | skip
  rename_i n
  split at hx <;> cases hx
  rename_i hn
  have key : ∀ v, RelV w g.L (.int .i64 n) v → v = .int .i64 n := fun v h => by cases h; rfl
  have h0 := hv 0 (by simp)
  have e : vals = #[.int .i64 n] := by
    apply Array.ext
    · simp at hl; simp [← hl]
    · intro i hi hj
      have : i = 0 := by simp at hj; omega
      subst this
      exact key _ h0
  subst e
  refine (hc n w hn.1 hn.2 (fun p hp => (hk.2 p hp).2.2)).mono fun e w' ⟨he, hb⟩ => ⟨_, he, hb, fun pl => .v _ _ _ ?_⟩
  have := RelV.str (w := w') (L := g.L) ⟨(Lib.itoa n).toArray⟩
  simpa using this
theorem strV {L : Nat → Nat} {s : List UInt8} {v : Value} (h : RelV w L (.str s) v) : ∃ b : ByteArray, v = .string b ∧ b.data.toList = s := by
  cases h
  exact ⟨_, rfl, rfl⟩
theorem atoi_ok {f te : Nat} (hf : FnOk P f) (hc : ∀ (s : ByteArray) (w : World) (g : Gh), s.size ≤ 281474976710656 → KnownOk w g →
    Calls P f #[.string s] w fun e w' => RowKit.Below w.heap.size w w' ∧ match Lib.atoiAll s.data.toList with
      | .ok v => e = .returned (.tuple #[.int .i64 v, .nilIface])
      | .range => ∃ p, e = .returned (.tuple #[.int .i64 (Lib.atoiSat s.data.toList), .iface te p])
      | _ => ∃ p, e = .returned (.tuple #[.int .i64 0, .iface te p])) : PrimOk P f (primPure (atoiF te)) := by
  refine primPure_ok hf fun xs d vals w g hl hx hv _ hk => ?_
  unfold atoiF at hx
  split at hx <;> first | (cases hx; done) | skip
  rename_i s
  split at hx <;> cases hx
  rename_i hn
  obtain ⟨a, h1, rfl⟩ := strV (hv 0 (by simp))
  have e : vals = #[.string a] := by
    apply Array.ext
    · simp at hl; simp [← hl]
    · intro i hi hj
      have : i = 0 := by simp at hj; omega
      subst this
      exact h1
  subst e
  have tw : ∀ (w' : World) (pl : Nat → Pl) (x y : D) (v u : Value), RelD w' g (fun _ => pl 0) x v → RelD w' g (fun _ => pl 1) y u → RelD w' g pl (.tup [x, y]) (.tuple #[v, u]) := fun w' pl x y v u h1 h2 =>
    .tup _ _ _ rfl fun i hi => by
      have : i = 0 ∨ i = 1 := by simp at hi; omega
      rcases this with rfl | rfl
      · exact h1
      · exact h2
  refine (hc a w g (by rw [Lib.size_eq]; exact hn) hk).mono fun e w' ⟨hb, he⟩ => ?_
  cases ha : Lib.atoiAll a.data.toList
  · rename_i v
    rw [ha] at he
    exact ⟨_, he, hb, fun pl => tw _ _ _ _ _ _ (.v _ _ _ (.int _ _)) (.v _ _ _ .nili)⟩
  · rw [ha] at he
    obtain ⟨p, he⟩ := he
    exact ⟨_, he, hb, fun pl => tw _ _ _ _ _ _ (.v _ _ _ (.int _ _)) (.ifc _ _ _ _ (.undef _ _))⟩
  · rw [ha] at he
    obtain ⟨p, he⟩ := he
    exact ⟨_, he, hb, fun pl => tw _ _ _ _ _ _ (.v _ _ _ (.int _ _)) (.ifc _ _ _ _ (.undef _ _))⟩
theorem strs_shape {L : Nat → Nat} {ls : List (List UInt8)} {v : Value} (h : RelV w L (.slc 1 (ls.map V.str)) v) (hL : ∀ b, w.heap.size ≤ b → L b = 0) :
    (ls = [] ∧ ∃ a c, v = .slice a 0 c) ∨ ∃ b o c, ∃ xs : List ByteArray, ls = xs.map (·.data.toList) ∧ v = .slice (some ⟨b, o, none⟩) xs.length c ∧ xs.length ≤ c ∧ (∀ (j : Nat) x, xs[j]? = some x → w.cell? ⟨b, o + j, none⟩ = some (.string x)) ∧ (xs ≠ [] → b < w.heap.size) := by
  generalize hx : ls.map V.str = ys at h
  cases h with
  | slc0 _ a c =>
    have : ls = [] := by simpa using hx
    exact .inl ⟨this, a, c, rfl⟩
  | slc _ _ b o c f hc hs hLb hv hk hr =>
    subst hx
    refine .inr ⟨b, o, c, ls.map (fun l => ⟨l.toArray⟩), by simp [List.map_map, Function.comp_def], by simp, by simpa using hc, fun j x hj => ?_, fun hne => ?_⟩
    · obtain ⟨hj1, hj2⟩ := List.getElem?_eq_some_iff.1 hj
      have hj3 : j < ls.length := by simpa using hj1
      have h1 := hr j (by simpa using hj3) 0 (by simp [cellsV])
      have h2 := hv j 0 (by simpa using hj3) (by omega)
      simp only [List.getElem_map, cellsV, List.getElem_cons_zero] at h1
      obtain ⟨s, e1, e2⟩ := strV h1
      rw [Nat.mul_one, Nat.add_zero] at h2
      rw [h2, e1]
      simp only [List.getElem_map] at hj2
      have : s = x := by
        rw [← hj2]
        have : s = ⟨s.data.toList.toArray⟩ := by simp
        rw [this, e2]
      rw [this]
    · have hpos : 0 < ls.length := by
        cases ls with
        | nil => simp at hne
        | cons x l => simp
      have := hLb 0 0 (by simpa using hpos) (by omega)
      exact Nat.lt_of_not_le fun hh => by rw [hL b hh] at this; omega
theorem join_ok {f : Nat} (hf : FnOk P f)
    (h0 : ∀ (a : Option Addr) (c : Nat) (sep : ByteArray) (w : World), Calls P f #[.slice a 0 c, .string sep] w fun e w' => e = .returned (.string ⟨#[]⟩) ∧ w' = w)
    (h1 : ∀ (bk o c : Nat) (x sep : ByteArray) (w : World), w.cell? ⟨bk, o, none⟩ = some (.string x) → Calls P f #[.slice (some ⟨bk, o, none⟩) 1 c, .string sep] w fun e w' => e = .returned (.string x) ∧ w' = w)
    (h2 : ∀ (bk o c : Nat) (xs : List ByteArray) (sep : ByteArray) (w : World), (∀ (j : Nat) x, xs[j]? = some x → w.cell? ⟨bk, o + j, none⟩ = some (.string x)) → bk < w.heap.size → 2 ≤ xs.length → xs.length ≤ 140737488355328 → xs.length ≤ c →
      (Lib.join (xs.map (·.data.toList)) sep.data.toList).length ≤ 140737488355328 →
      Calls P f #[.slice (some ⟨bk, o, none⟩) xs.length c, .string sep] w fun e w' => e = .returned (.string ⟨(Lib.join (xs.map (·.data.toList)) sep.data.toList).toArray⟩) ∧ RowKit.Below w.heap.size w w') : PrimOk P f (primPure joinF) := by
  refine primPure_ok hf fun xs d vals w g hl hx hv hL hk => ?_
  unfold joinF at hx
  split at hx <;> first | (cases hx; done) | skip
  rename_i ys t
  obtain ⟨l, hy, hx⟩ := bind_some' hx
  split at hx <;> cases hx
  rename_i hb
  have hys := strsOf_eq hy
  subst hys
  have a0 : RelV w g.L (.slc 1 (l.map V.str)) (vals[0]'(by simp at hl; omega)) := hv 0 (by simp)
  have a1 : RelV w g.L (.str t) (vals[1]'(by simp at hl; omega)) := hv 1 (by simp)
  obtain ⟨sep, e1, rfl⟩ := strV a1
  obtain ⟨v0, hv0⟩ : ∃ v, vals[0]'(by simp at hl; omega) = v := ⟨_, rfl⟩
  have e : vals = #[v0, .string sep] := by
    apply Array.ext
    · simp at hl; simp [← hl]
    · intro i hi hj
      have : i = 0 ∨ i = 1 := by simp at hj; omega
      rcases this with rfl | rfl
      · exact hv0
      · exact e1
  subst e
  have str : ∀ (z : List UInt8) (w' : World) (pl : Nat → Pl), RelD w' g pl (.v (.str z)) (.string ⟨z.toArray⟩) := fun z w' pl => .v _ _ _ (by
    have := RelV.str (w := w') (L := g.L) ⟨z.toArray⟩
    simpa using this)
  rcases strs_shape (ls := l) a0 hL with ⟨rfl, a, c, hs⟩ | ⟨b, o, c, xs, rfl, hs, hc, hcell, hbk⟩
  · simp only [List.getElem_toArray, List.getElem_cons_zero] at hs
    subst hs
    refine (h0 a c sep w).mono fun e w' ⟨he, hw⟩ => ⟨_, he, by subst hw; exact RowKit.Below.refl _ _, fun pl => ?_⟩
    exact str [] w' pl
  · simp only [List.getElem_toArray, List.getElem_cons_zero] at hs
    subst hs
    match xs, hc, hcell, hbk, hb, a0 with
    | [], hc, hcell, hbk, hb, a0 =>
      refine (h0 _ c sep w).mono fun e w' ⟨he, hw⟩ => ⟨_, he, by subst hw; exact RowKit.Below.refl _ _, fun pl => ?_⟩
      exact str [] w' pl
    | [x], hc, hcell, hbk, hb, a0 =>
      refine (h1 b o c x sep w (hcell 0 x rfl)).mono fun e w' ⟨he, hw⟩ => ⟨_, he, by subst hw; exact RowKit.Below.refl _ _, fun pl => ?_⟩
      rw [show [x].map (·.data.toList) = [x.data.toList] from rfl, Lib.join_one]
      exact .v _ _ _ (.str _)
    | x :: y :: r, hc, hcell, hbk, hb, a0 =>
      refine (h2 b o c (x :: y :: r) sep w hcell (hbk (by simp)) (by simp) (by simpa using hb.1) hc hb.2).mono fun e w' ⟨he, hw⟩ => ⟨_, he, hw, fun pl => ?_⟩
      exact str _ w' pl
end
end Go.Q
